import Derived.Test.YthghpahghjppjaaGreatB1
import Derived.Lib.AppendStr
import Derived.Lib.AppendZerosOnto
import Derived.Laws.MakeOwn
import Derived.Laws.BytesString
import Derived.Great.BuildSlice
import Derived.Lib.SliceRun
import Derived.Lib.ConvBytes
namespace Go.Vc
open Go Go.RowKit
section
variable {P : Program} {T : List TI} {E : Env} {ts : List DV} {a : Act} {β : Type} {q : β} {o : Oper} {ret : DV -> Option β} {rw : List DR}
def amr(E:Env):Prop:=∀j e t l,E.rw[j]?=some (.own e t l)->(E.A j).1=none->l.length=0
def tB(P:Program)(E:Env)(a:Act)(o:Oper)(ret:DV->Option β)(q:β):Prop:=∃r v,ret r=some q/\r.h E v/\∀w,(execOp a.eval o).run P w=.ok (.value v) w
theorem tC{s:Sem Value}{r:DV}{v:Value}(C:∀w,(execOp a.eval o).run P w=(s.run P w).andThen λv w'=>.ok (.value v) w')(y:ret r=some q)(j:r.h E v)(hs:∀w,s.run P w=.ok v w):tB P E a o ret q:=⟨r,v,y,j,λw=>by rw[C,hs];rfl⟩
theorem aqd{g}{x y r}(h:alL g x y=some r){u v}(j:x.h E u)(hv:y.h E v):r.h E (if g then u else v):=by
 unfold alL at h
 split at h<;>first
  |(cases h;done)
  |(simp only[ak]at h;subst h;simp only[DV.h]at j hv ⊢;subst j;subst hv;cases g<;>simp)
theorem aqe{c x y}(ho:o.op=.pick c x y)(j:hL E ts a.tmps.toList)(h:vT aj T o.op ts rw ret=some q):tB P E a o ret q:=by
 simp only[ho,vT]at h;have⟨g,C,h⟩:=wT h;have C:=gH C j;have G:∀w,(execOp a.eval o).run P w=((asBool (a.eval c)).run P w).andThen λb w'=>.ok (.value (if b then a.eval x else a.eval y)) w':=by intro w;simp only[execOp,ho,aR,bE]
 split at h
 .have⟨z,F,h⟩:=wT h;exact⟨z,_,h,gH F j,λw=>by rw[G,C];simp[asBool]⟩
 .have⟨z,F,h⟩:=wT h;exact⟨z,_,h,gH F j,λw=>by rw[G,C];simp[asBool]⟩
 .have⟨z,F,h⟩:=wT h;have⟨u,J,h⟩:=wT h;have⟨r,H,h⟩:=wT h;exact⟨r,_,h,aqd H (gH F j) (gH J j),λw=>by rw[G,C];simp[asBool]⟩
 .cases h
theorem aau{x}(ho:o.op=.nilCheck x)(y:hL E ts a.tmps.toList)(h:vT aj T o.op ts rw ret=some q):tB P E a o ret q:=by
 simp only[ho,vT]at h;have⟨g,j,h⟩:=wT h;have j:=gH j y;split at h
 .refine⟨_,_,h,j,λw=>?_⟩;have⟨_,j⟩:=j;simp only[execOp,ho,j];rfl
 .refine⟨_,_,h,j,λw=>?_⟩;have⟨_,_,j,_⟩:=j;simp only[execOp,ho,j];rfl
 .refine⟨_,_,h,j,λw=>?_⟩;simp only[DV.h]at j;have⟨_,_,_,_,_,_,_,j⟩:=j;simp only[execOp,ho,j];rfl
 .rename_i f _ _;refine⟨_,_,h,j,λw=>?_⟩;simp only[DV.h]at j;have⟨_,j,_⟩:=j;simp only[execOp,ho,j,fnV];cases Nat.ble 1000000 f<;>rfl
 .cases h
theorem aqf{op:UnOp}{t:TypeId}{x:Operand}(ho:o.op=.unOp op t x)(C:hL E ts a.tmps.toList)(h:vT aj T o.op ts rw ret=some q):tB P E a o ret q:=by
 simp only[ho,vT]at h;have⟨g,y,h⟩:=wT h;have⟨r,j,h⟩:=wT h;have y:=gH y C;have F:∀w,(execOp a.eval o).run P w=((Op.unary op (a.eval x)).run P w).andThen λv w'=>.ok (.value v) w':=by intro w;simp only[execOp,ho,aR,bE]
 unfold unV at j
 split at j<;>first
  |(cases j;done)
  |(simp only[ak]at j;subst j;rw[y]at F;exact tC F h (by simp only[DV.h];rfl) λw=>by first|(simp[Op.unary];done)|(simp[Op.unary,Op.intArith];done)|(simp[Op.unary,intBits_xor];done))
theorem ad1{s d:TypeId}{x:Operand}(G:dL P T)(ho:o.op=.convert s d x)(J:hL E ts a.tmps.toList)(h:vT aj T (.convert s d x) ts rw ret=some q):tB P E a o ret q:=by
 simp only[vT]at h;have⟨g,C,h⟩:=wT h;have C:=gH C J;have F:∀w,(execOp a.eval o).run P w=((convert s d (a.eval x)).run P w).andThen λv w'=>.ok (.value v) w':=by intro w;simp only[execOp,ho,aR,bE]
 split at h
 .rename_i hs R _;have⟨V,is,y,_⟩:=(sk G hs).ex;have⟨W,K,j⟩:=pw G R;have H:=atT K j;rw[C]at F;exact tC F h (by simp only[DV.h];rfl) λw=>by simp[convert,bb y,bb H,Conv.intToInt]
 .rename_i hs R _;have⟨V,is,y,_⟩:=(sk G hs).ex;have⟨W,K,j⟩:=pw G R;have H:=DF K j;rw[C]at F;exact tC F h (by simp only[DV.h];rfl) λw=>by simp only[convert,aR,bb y,bb H,bq];cases V<;>simp
 .cases h
theorem aqg{p r}{off}(h:alM p off=some r){v}(hv:p.h E v):∃ad,v=.pointer (some ad)/\r.h E (.pointer (some (ad.add off))):=by
 unfold alM at h;split at h
 .simp only[ak]at h;subst h;obtain⟨j,rfl⟩:=hv;exact⟨_,rfl,j,by rw[tg]⟩
 .simp only[ak]at h;subst h;obtain⟨ad,us,rfl,j,y⟩:=hv;exact⟨_,rfl,ad,us,by rw[og],j,y⟩
 .simp only[ak]at h;subst h;simp only[DV.h]at hv ⊢;obtain⟨e,t,l,ad,j,y,C,rfl⟩:=hv;exact⟨_,rfl,e,t,l,ad,j,y,C,by rw[og,De]⟩
 .cases h
theorem Zi{s:TypeId}{f:Nat}{x:Operand}(hT:dL P T)(ho:o.op=.fieldAddr s x f)(H:hL E ts a.tmps.toList)(h:vT aj T o.op ts rw ret=some q):tB P E a o ret q:=by
 simp only[ho,vT]at h;have⟨g,R,h⟩:=wT h;have R:=gH R H;have X:∀w,(execOp a.eval o).run P w=((Instr.fieldAt s (a.eval x) f).run P w).andThen λv w'=>.ok (.value v) w':=by intro w;simp only[execOp,ho,aR,bE]
 split at h
 .rename_i fs hs;have⟨fq,V,h1⟩:=wT h;have⟨r,y,h2⟩:=wT h1;have⟨ti,hf,J⟩:=pw hT hs;obtain⟨fl,hu,rfl⟩:=Iu hf J;have⟨F,j⟩:=Ze V;simp only[la,eE]at F;obtain⟨Y,W,rfl⟩:=F;simp only at j y;have⟨i,hi,C⟩:=sT Y.type j;have G:fl[f]?=some Y:=by simpa using W
  have⟨ad,hv,K⟩:=aqg y R;rw[hv]at X;exact tC X h2 K λw=>by simp[Instr.fieldAt,bb hu,G,Instr.sureAddr,fieldPlace,tP hi,C,j]
 .cases h
theorem ams(K:dL P T){ty}{xs}{off}{r}{i}(h:alN T ty i.size xs off=some r)(hi:P.info? ty=some i){vs}(hv:hL E xs vs.toList):
 ∃v,r.h E v/\∀w,(part ty vs off).run P w=.ok v w:=by
 unfold alN at h;split at h
 .rename_i R G;have y:=sk K G;split at h
  .rename_i j;split at h
   .rename_i l hl;simp only[ak]at h;subst h;obtain⟨rfl,J⟩:=wS hl;refine⟨.agg ((vs.toList.drop off).take i.size).toArray,by simp only[DV.h];exact⟨_,rfl,amh hv off i.size⟩,λw=>?_⟩;simp only[part,aR,Y5 y,j,bq,sd,tP hi,bE];congr 2;apply fY;simp
   .cases h
  .rename_i j;split at h
   .rename_i x H;simp only[ak]at h;subst h;have⟨v,F,C⟩:=JV hv _ _ (Oy H);refine⟨v,C,λw=>?_⟩;have:vs[off]?=some v:=by simpa using F
    simp[part,Y5 y,j,this]
   .cases h
 .cases h
theorem amu{s:TypeId}{f:Nat}{x:Operand}(hT:dL P T)(ho:o.op=.field s x f)(R:hL E ts a.tmps.toList)(h:vT aj T o.op ts rw ret=some q):tB P E a o ret q:=by
 simp only[ho,vT]at h;have⟨g,y,h⟩:=wT h;have y:=gH y R;have Y:∀w,(execOp a.eval o).run P w=((Instr.field s (a.eval x) f).run P w).andThen λv w'=>.ok (.value v) w':=by intro w;simp only[execOp,ho,aR,bE]
 split at h
 .rename_i fs xs hs _;have⟨fq,W,h1⟩:=wT h;have⟨r,j,h2⟩:=wT h1;have⟨ti,hf,V⟩:=pw hT hs;obtain⟨fl,hu,rfl⟩:=Iu hf V;have⟨G,C⟩:=Ze W;simp only[la,eE]at G;obtain⟨fd,X,rfl⟩:=G;simp only at C j;have⟨i,hi,F⟩:=sT fd.type C;have H:fl[f]?=some fd:=by simpa using X
  simp only[DV.h]at y;have⟨vs,hv,y⟩:=y;rw[hv]at Y;rw[<-F]at j;have⟨v,K,J⟩:=ams hT j hi y;exact tC Y h2 K λw=>by simp[Instr.field,bb hu,H,asAgg,J]
 .cases h
theorem Zj{t:TypeId}{x ix:Operand}(hT:dL P T)(ho:o.op=.indexAddr t x ix)(Jk:hL E ts a.tmps.toList)(hrw:E.rw=rw)(hA:amr E)(h:vT aj T o.op ts rw ret=some q):tB P E a o ret q:=by
 simp only[ho,vT]at h;have⟨g,X,h⟩:=wT h;have⟨u,W,h⟩:=wT h;have X:=gH X Jk;have W:=gH W Jk;have hr:∀w,(execOp a.eval o).run P w=((Instr.indexAt t (a.eval x) (a.eval ix)).run P w).andThen λv w'=>.ok (.value v) w':=by intro w;simp only[execOp,ho,aR,bE]
 split at h
 .rename_i e t' l k i C _ _ _;have⟨ti,hf,C⟩:=pw hT C;have G:=q8 hf C;split at h
  .rename_i te H;have J:=sk hT H;split at h
   .rename_i F h0;have F:=aF F;have⟨hi0,y,hy,h⟩:=as0 h;have⟨aa,c,hv,hlc,hcm,hel⟩:=X;simp only[fj,pj]at hv;have⟨us,hus,V⟩:=hel _ _ hy;have hlt:=(aC.1 hy).1;have hul:=t'.Av hus
    obtain⟨ad,rfl⟩:∃ad,aa=some ad:=by
     have hp:0<us.length:=by rw[hul];exact bP h0
     have⟨x0,K,_⟩:=V 0 _ (aw hp);exact⟨x0,K⟩
    rw[hv,W]at hr;refine tC hr h (v:=.pointer (some (ad.add (i.toNat*te.size)))) ?_ λw=>?_
    .refine⟨ad.add (i.toNat*te.size),us,by rw[og];rfl,hus,λj z hj=>?_⟩;have⟨x0,K,h1,h2,h3⟩:=V j z hj;simp only[ak]at K;subst K;exact⟨_,rfl,by rw[jK];exact h1,by rw[jK];exact h2,by rw[og,cq,F];exact h3⟩
    .have h1:i<(l.length:Int):=by omega
     simp[Instr.indexAt,bb G,asIntOf,hi0,h1,rJ J]
   .cases h
  .cases h
 .rename_i e j k i C _ _ _;have⟨ti,hf,C⟩:=pw hT C;have G:=q8 hf C;split at h
  .rename_i te e' t' l H R;have J:=sk hT H;rw[gX,<-hrw]at R;split at h
   .rename_i F h0;have F:=aF F;have⟨hi0,y,hy,h⟩:=as0 h;simp only[DV.h]at X W;have⟨e2,t2,l2,Y,hv⟩:=X;rw[R]at Y;simp only[ak,DR.own.injEq]at Y;obtain⟨rfl,rfl,hl2⟩:=Y;cases hl2;have hlt:=(aC.1 hy).1;cases ha:(E.A j).1 with
    |none=>have:=hA j e' t' l R ha;omega
    |some ad=>
     rw[hv,W,ha]at hr;refine tC hr h (v:=.pointer (some (ad.add (i.toNat*te.size)))) ?_ λw=>?_
     .simp only[DV.h];exact⟨e',t',l,ad,R,hlt,ha,by rw[F,jh]⟩
     .have h1:i<(l.length:Int):=by omega
      simp[Instr.indexAt,bb G,asIntOf,hi0,h1,rJ J]
   .cases h
  .cases h
 .rename_i e l _ k C _ _ _;have⟨ti,hf,C⟩:=pw hT C;have G:=q8 hf C;split at h
  .rename_i te H;have J:=sk hT H;split at h
   .rename_i F h0;have F:=aF F;have h0:k<l.length:=bP h0;simp only[DV.h]at X W;have⟨ad,vs,c,hv,hel,V⟩:=X;rw[hv,W]at hr;refine tC hr h (v:=.pointer (some (ad.add k))) (by simp only[DV.h];exact⟨ad,vs,rfl,hel,V⟩) λw=>?_
    have h1:((k:Nat):Int)<(l.length:Int):=by omega
    have h2:(0:Int)<=((k:Nat):Int):=by omega
    simp[Instr.indexAt,bb G,asIntOf,h0,rJ J,F]
   .cases h
  .cases h
 .cases h
theorem ad3{t:Operand}{i:Nat}(ho:o.op=.extract t i)(F:hL E ts a.tmps.toList)(h:vT aj T o.op ts rw ret=some q):tB P E a o ret q:=by
 simp only[ho,vT]at h;have⟨g,j,h⟩:=wT h;have j:=gH j F;have G:∀w,(execOp a.eval o).run P w=((Instr.extract (a.eval t) i).run P w).andThen λv w'=>.ok (.value v) w':=by intro w;simp only[execOp,ho,aR,bE]
 split at h
 .split at h
  .rename_i xs x H;have⟨vs,hv,j⟩:=j;have⟨v,C,y⟩:=JV j _ _ (Oy H);rw[hv]at G;have:vs[i]?=some v:=by simpa using C
   exact tC G h y λw=>by simp[Instr.extract,this]
  .cases h
 .cases h
theorem aav{fn}{first j}(ho:o.op=.makeFunc fn first j)(H:hL E ts a.tmps.toList)(h:vT aj T o.op ts rw ret=some q):tB P E a o ret q:=by
 simp only[ho,vT]at h;split at h
 .rename_i f y;split at h
  .rename_i cs hb F;have J:=OA F H;have C:first = #[]:=by apply fY;simpa using y
   refine⟨_,.func (.func f) #[] (j.map a.eval),h,by simp only[DV.h];exact⟨_,by unfold fnV;rw[hb];rfl,by simpa using J⟩,λw=>?_⟩;simp[execOp,ho,Instr.makeFunc,C]
  .cases h
 .rename_i f G _;split at h
  .rename_i cs F;have J:=OA F H;have C:j = #[]:=by apply fY;simpa using G
   have hb:Nat.ble 1000000 (f+1000000)=true:=gU (by omega);refine⟨_,.func (.func f) (first.map a.eval) #[],h,by simp only[DV.h];exact⟨first.map a.eval,by unfold fnV;rw[hb];simp,by simpa using J⟩,λw=>?_⟩;simp[execOp,ho,Instr.makeFunc,C]
  .cases h
 .cases h
theorem DG{x:Option DV}{d j n:Nat}{C:Option Operand}(H:(C=none/\x=none)\/∃y p,C=some y/\x=some p/\p.h E (a.eval y))(hb:(x=none/\n=d)\/∃k i,x=some (.int k i)/\0<=i/\i<=(j:Int)/\n=i.toNat):
 (C=none/\n=d)\/∃y k i,C=some y/\a.eval y=.int k i/\0<=i/\i<=(j:Int)/\n=i.toNat:=by
 rcases H with⟨rfl,rfl⟩|⟨y,p,rfl,rfl,hp⟩
 .rcases hb with⟨_,rfl⟩|⟨k,i,h,_⟩
  .exact .inl ⟨rfl,rfl⟩
  .cases h
 .rcases hb with⟨h,_⟩|⟨k,i,h,h1,G,F⟩
  .cases h
  .simp only[ak]at h;subst h;exact .inr ⟨y,k,i,rfl,hp,h1,G,F⟩
theorem amv{t:TypeId}{x:Operand}{lo hi mx:Option Operand}(hT:dL P T)(ho:o.op=.slice t x lo hi mx)(Y:hL E ts a.tmps.toList)(h:vT aj T (.slice t x lo hi mx) ts rw ret=some q):tB P E a o ret q:=by
 simp only[vT]at h;have⟨g,hg,h⟩:=wT h;have hg:=gH hg Y;split at h
 .rename_i plo phi G J;have G:=amp G Y;have J:=amp J Y;have hr:∀w,(execOp a.eval o).run P w=((Instr.sliceAt t (a.eval x) (lo.map a.eval) (hi.map a.eval) (mx.map a.eval)).run P w).andThen λv w'=>.ok (.value v) w':=by intro w;simp only[execOp,ho,aR,bE]
  split at h
  .rename_i e t' l F _ _;have⟨ti,hf,F⟩:=pw hT F;have C:=q8 hf F;split at h
   .rename_i te Zk;have K:=sk hT Zk;split at h
    .rename_i H;have H:=aF H;have⟨W,c,hv,hlc,hcm,hel⟩:=hg;simp only[fj,pj]at hv;split at h
     .have⟨n,h9,hb⟩:=TP h;have hnl:n<=l.length:=by rcases hb with⟨_,rfl⟩|⟨_,_,_,_,_,rfl⟩<;>omega
      rcases G with⟨rfl,_⟩|⟨_,_,rfl,V,_⟩;case inr=>cases V
      rw[hv]at hr;refine tC hr h9 (v:=.slice W n c) ?_ λw=>?_
      .simp only[DV.h]
       exact⟨W,c,by simp;omega,by simp;omega,hcm,λi y X=>hel i y (by
        rw[cD]at X;split at X
        .exact X
        .cases X)⟩
      .rcases DG J hb with⟨rfl,rfl⟩|⟨o',k,i,rfl,R,h0,h1,rfl⟩
       .simp only[Instr.sliceAt,Instr.slice,aR,bb C,bq,lv,Instr.sliceBounds,bE,rJ K,pU,Fq];congr 2;cases W<;>simp[Addr.add]
       .have h1':i<=(c:Int):=by omega
        simp only[Instr.sliceAt,Instr.slice,aR,bb C,bq,lv,fS,R,Instr.sliceBounds,bE,sd,iu w k i c .sliceAcap h0 h1',rJ K,pU,Fq];congr 2;cases W<;>simp[Addr.add]
     .rename_i plo;have⟨n,h8,hb⟩:=TP h;have⟨m,h9,R2⟩:=TP h8;have hnl:n<=l.length:=by rcases hb with⟨_,rfl⟩|⟨_,_,_,_,_,rfl⟩<;>omega
      have hmn:m<=n:=by
       rcases R2 with⟨V,_⟩|⟨_,_,_,_,_,rfl⟩
       .cases V
       .omega
      rcases DG G R2 with⟨rfl,_⟩|⟨ol,kl,il,rfl,awu,hl0,hl1,rfl⟩
      .rcases G with⟨_,V⟩|⟨_,_,V,_⟩<;>cases V
      .rw[hv]at hr;refine tC hr h9 (v:=.slice (if c=il.toNat then W else W.map (·.add (il.toNat*te.size))) (n-il.toNat) (c-il.toNat)) ?_ λw=>?_
       .have hlen:((l.take n).drop il.toNat).length=n-il.toNat:=by rw[dS,bf,jU hnl]
        refine⟨_,_,by rw[hlen],by rw[hlen];omega,by omega,λi y X=>?_⟩;rw[cN,cD]at X;split at X
        .have⟨us,h1,h2⟩:=hel _ y X;refine⟨us,h1,λj u hj=>?_⟩;obtain⟨ad,rfl,g1,g2,g3⟩:=h2 j u hj;rw[ag (by omega)];refine⟨_,rfl,by rw[jK];exact g1,by rw[jK];exact g2,?_⟩;rw[og,H,<-g3];congr 2;rw[iY];omega
        .cases X
       .rcases DG J hb with⟨rfl,rfl⟩|⟨o',k,i,rfl,R,h0,h1,rfl⟩
        .simp only[Instr.sliceAt,Instr.slice,aR,bb C,bq,lv,fS,awu,Instr.sliceBounds,bE,pX,fv,pn,iu w kl il _ .sliceB hl0 hl1,rJ K]
        .have h1':i<=(c:Int):=by omega
         simp only[Instr.sliceAt,Instr.slice,aR,bb C,bq,lv,fS,awu,R,Instr.sliceBounds,bE,pX,fv,pn,sd,iu w k i c .sliceAcap h0 h1',iu w kl il _ .sliceB hl0 hl1,rJ K]
    .cases h
   .cases h
  .rename_i s F _ _;have⟨ti,hf,F⟩:=pw hT F;have C:=DF hf F;have⟨n,h8,hb⟩:=TP h;have⟨m,h9,R2⟩:=TP h8;rw[hg]at hr;refine tC hr h9 (v:=.string (s.extract m n)) (by simp only[DV.h]) λw=>?_
   rcases DG J hb with⟨rfl,rfl⟩|⟨o',k,i,rfl,R,h0,h1,rfl⟩<;>rcases DG G R2 with⟨rfl,rfl⟩|⟨ol,k2,i2,rfl,awv,h2,h3,rfl⟩
   .simp[Instr.sliceAt,Instr.slice,bb C,Instr.sliceBounds]
   .simp[Instr.sliceAt,Instr.slice,bb C,Instr.sliceBounds,awv,iu w k2 i2 _ .sliceB h2 h3]
   .simp[Instr.sliceAt,Instr.slice,bb C,Instr.sliceBounds,R,iu w k i _ .sliceAlen h0 h1]
   .simp[Instr.sliceAt,Instr.slice,bb C,Instr.sliceBounds,R,awv,iu w k i _ .sliceAlen h0 h1,iu w k2 i2 _ .sliceB h2 h3]
  .rename_i e t' l m F _ _;have⟨ti,hf,F⟩:=pw hT F;have C:=q8 hf F;split at h
   .rename_i kn n kk k te hm Zk _ _;have K:=sk hT Zk;split at h
    .rename_i H;have H:=aF H;rcases amm h with⟨hc,h9⟩|⟨_,h9⟩;case inr=>cases h9
     simp only[aD,gT]at hc;obtain⟨rfl,rfl⟩:=hc;simp only[DV.h]at hg;have⟨W,c,hv,hlc,hcm,hel⟩:=hg;simp only[fj,pj]at hv;have hm:=gH hm Y;simp only[DV.h]at hm;rcases G with⟨rfl,_⟩|⟨_,_,rfl,V,_⟩;case inr=>cases V
     rcases J with⟨_,V⟩|⟨o',p,rfl,V,hp⟩
     .cases V
     simp only[ak]at V;subst V;simp only[DV.h]at hp;rw[hv]at hr;refine tC hr h9 (v:=.slice W l.length l.length) ?_ λw=>?_
     .simp only[DV.h];exact⟨⟨W,l.length,rfl,au _,by omega,hel⟩,W,rfl⟩
     .simp only[Instr.sliceAt,Instr.slice,aR,bb C,bq,lv,fS,hm,hp,Instr.sliceBounds,bE,sd,iu w kk l.length c .slice3Acap (by omega) (by omega),aX,iu w kn l.length l.length .slice3B (by omega) (by omega),rJ K,pU,Fq];congr 2;cases W<;>simp[Addr.add]
    .cases h
   .cases h
  .cases h
 .cases h
theorem PW(w):∀(fl:List Field),(∀f∈fl,(sizeOf f.type).run P w=.ok (P.cellsOf f.type) w)->
    (fl.mapM (λf=>do pure (f.offset,<-sizeOf f.type):Field->Sem (Nat×Nat))).run P w=.ok (fl.map λf=>(f.offset,P.cellsOf f.type)) w
  |[],_=>by simp
  |f::fl,h=>by
    have C:=h f (by simp)
    have j:=PW w fl (λg y=>h g (by simp[y]))
    simp only[List.mapM_cons,aR,C,j,bq,bE,bI]
theorem Zl{Y}:∀(ps:List (Nat×DV)) (y:List (Nat×Value)) (cells:List DV) (cs:List Value) (K:List DV->Option β),aam Y cells ps K=some q->hL E (ps.map (·.2)) (y.map (·.2))->ps.map (·.1)=y.map (·.1)->hL E cells cs->
 ∃r us,K r=some q/\hL E r us/\Instr.fill (λi=>(Y.map λf=>(f.1,f.2.2))[i]?) cs.toArray y=some us.toArray
 |[],y,cells,cs,K,h,hv,C,G=>by
  cases y with
  |nil=>exact⟨cells,cs,h,G,by simp[Instr.fill]⟩
  |cons n y=>simp at C
 |(i,x)::ps,y,cells,cs,K,h,hv,C,G=>by
  cases y with
  |nil=>simp at C
  |cons n y=>
   have⟨i',v⟩:=n;simp only[bI,fj]at C;obtain⟨rfl,C⟩:=C;simp only[bI,hL]at hv;have⟨v',vs',e,J,H⟩:=hv;obtain⟨rfl,rfl⟩:=e;simp only[aam]at h;split at h
   .rename_i off ty W F;have⟨F,hsz⟩:=Ze F;split at h
    .rename_i ds V;have X:=TN V J;split at h
     .rename_i j BE;have j:=aF j;have hle:=(wS BE).2;rw[Zd]at h;have⟨r,us,h1,h2,h3⟩:=Zl ps y _ _ K h H C (amg off G X);refine⟨r,us,h1,h2,?_⟩;have hs:v.cells.size=W:=by rw[<-fH,pI X,j]
      have hcl:=pI G;simp only[Instr.fill,la,F,fS];have R:¬(off+W>cs.length):=by omega
      simp only[hs,ne_eq,not_true_eq_false,decide_false,fi,Dc,R];rw[<-h3];congr 1;have:=alH v.cells.toList cs.toArray off 0;rw[<-Array.foldl_toList,Array.toList_zipIdx];rw[this];simp
     .cases h
    .cases h
   .cases h
theorem Xg{e}{j}:∀{n k i:Nat} {q:Nat×Nat×Nat},(W8 e j n k)[i]?=some q->q=((k+i)*j,e,j)
 |0,k,i,q,h=>by simp[W8]at h
 |n+1,k,0,q,h=>by simp[W8]at h;rw[<-h];rfl
 |n+1,k,i+1,q,h=>by simp only[W8,fC]at h;rw[Xg h,show k+1+i=k+(i+1)by omega]
theorem Xh{f g}(h:∀i p,f i=some p->g i=some p):∀{cs:Array Value} (ps:List (Nat×Value)) {r:Array Value},Instr.fill f cs ps=some r->Instr.fill g cs ps=some r
 |cs,[],r,j=>j
 |cs,(i,v)::ps,r,j=>by
  unfold Instr.fill at j ⊢;cases y:f i with
  |none=>rw[y]at j;cases j
  |some p=>
   rw[y]at j;rw[h i p y];have⟨off,F⟩:=p;simp only at j ⊢;split at j
   .cases j
   .rename_i C;rw[ag C];exact Xh h ps j
theorem amw{t:TypeId}{F:Array (Nat×Operand)}(hT:dL P T)(ho:o.op=.build t F)(Jk:hL E ts a.tmps.toList)(h:vT aj T o.op ts rw ret=some q):tB P E a o ret q:=by
  simp only[ho,vT]at h
  split at h
  · rename_i ps hps
    have⟨hp1,hp2⟩:=TO hps Jk
    have hr:∀w,(execOp a.eval o).run P w=((Instr.build t (F.toList.map λp=>(p.1,a.eval p.2)).toArray).run P w).andThen λv w'=>.ok (.value v) w':=by
      intro w
      simp only[execOp,ho,aR,bE]
      congr 3
      apply fY
      simp
    split at h
    · rename_i ti hti
      have hf:=sk hT hti
      split at h
      · rename_i fs z R X hz
        obtain⟨fl,hu,rfl⟩:=Iu hf X
        split at h
        · rename_i C
          have C:=amo C
          obtain⟨r,us,h,Y,G⟩:=Zl ps (F.toList.map λp=>(p.1,a.eval p.2)) _ _ _ h (by simpa[hJ,vK]using hp1) (by simpa[hJ,vK]using hp2) (G8 (z::R))
          have⟨i,hi,_,y⟩:=Mg hf
          rw[hz]at y
          obtain⟨H,V,W⟩:∃H,i.zero=some H/\H.cells.toList=z::R:=by
            cases J:i.zero with
            |none=>rw[J]at y;cases y
            |some H=>rw[J]at y;exact⟨H,rfl,y.symm⟩
          refine tC hr h (v:=.agg us.toArray) (by simp only[DV.h];exact⟨_,rfl,by simpa using Y⟩) λw=>?_
          have hm:=PW (P:=P) w fl.toList (λf hf'=>by
            have:=C _ (aK.2 ⟨f,hf',rfl⟩)
            have⟨j,hj,hjs⟩:=sT f.type this
            rw[tP hj,hjs])
          have hm':(fl.mapM (λf=>do pure (f.offset,<-sizeOf f.type):Field->Sem (Nat×Nat))).run P w=.ok (fl.toList.map λf=>(f.offset,P.cellsOf f.type)).toArray w:=by
            rw[Array.mapM_eq_mapM_toList]
            simp only[Sem.run_map,hm,bq]
          have hc:H.cells=(z::R).toArray:=by rw[<-W]
          simp only[Instr.build,aR,uO hi V,bq,bb hu,hm',hc]
          simp only[hJ]at G
          have e:(λx:Nat=>((fl.toList.map λf=>(f.offset,P.cellsOf f.type)).toArray)[x]?)=(λi:Nat=>(fl.toList.map ((λf=>(f.1,f.2.2)) ∘ λf=>(f.offset,f.type,P.cellsOf f.type)))[i]?):=by
            funext i;simp;rfl
          rw[e,G]
          simp
        · cases h
      · rename_i n e z R X hz
        have hu:=aaf hf X
        split at h
        · rename_i te Zk
          have Zm:=sk hT Zk
          split at h
          · rename_i C
            have C:=bP C
            have hsz:=rJ Zm
            obtain⟨r,us,h,Y,G⟩:=Zl ps (F.toList.map λp=>(p.1,a.eval p.2)) _ _ _ h (by simpa[hJ,vK]using hp1) (by simpa[hJ,vK]using hp2) (G8 (z::R))
            obtain⟨i,hi,_,y⟩:=Mg hf
            rw[hz]at y
            obtain⟨H,V,W⟩:∃H,i.zero=some H/\H.cells.toList=z::R:=by
              cases J:i.zero with
              |none=>rw[J]at y;cases y
              |some H=>rw[J]at y;exact⟨H,rfl,y.symm⟩
            refine tC hr h (v:=.agg us.toArray) (by simp only[DV.h];exact⟨_,rfl,by simpa using Y⟩) λw=>?_
            have hc:H.cells=(z::R).toArray:=by rw[<-W]
            have K:=Xh (g:=λi=>some (i*te.size,te.size)) (λi p hp=>by
              simp only[la,eE]at hp
              obtain⟨q,hq,rfl⟩:=hp
              rw[Xg hq];simp) _ G
            simp only[Instr.build,aR,uO hi V,bq,bb hu,hc,hsz,K]
            simp
          · cases h
        · cases h
      · cases h
    · cases h
  · cases h
theorem TQ{c}{b}{xs}(hT:dL P T)(ho:o.op=.call c)(R:c.callee=.builtin b)(hrw:E.rw=rw)(j:hL E xs (c.args.toList.map a.eval))(h:Ml T b c.argTypes xs rw ret=some q):tB P E a o ret q:=by
 have X:∀w,(execOp a.eval o).run P w=(builtin b c.argTypes o.type (c.args.map λ| .const _=>true|_=>false) (c.args.toList.map a.eval).toArray).run P w:=by
  intro w;have:c.args.map a.eval=(c.args.toList.map a.eval).toArray:=by apply fY;simp
  simp only[execOp,ho,resolve,R,aR,bE,bq,invoke,this];rfl
 have one:∀{td:TD},adv T c.argTypes=some td->∃t K,c.argTypes = #[t]/\ou P t K/\K.td=td:=by
  intro td h;unfold adv at h;split at h
  .rename_i t V;have⟨K,h1,h2⟩:=pw hT h;exact⟨t,K,by apply fY;simpa using V,h1,h2⟩
  .cases h
 unfold Ml at h;split at h
 .split at h
  .rename_i e y;have⟨t,K,y,hf,H⟩:=one y;have G:=q8 hf H;split at h
   .rename_i n C
    have:∃W cc,c.args.toList.map a.eval=[.slice W n cc]:=by
     unfold awb at C;split at C
     .simp only[ak]at C;subst C;obtain⟨v,_,F,⟨W,cc,Y,_⟩,rfl⟩:=j;simp only[fj,pj]at Y;subst Y;exact⟨W,cc,F⟩
     .split at C
      .rename_i J;simp only[ak]at C;subst C;simp only[hL,DV.h]at j;obtain⟨v,_,F,⟨e',t',l',hj,rfl⟩,rfl⟩:=j;rw[gX,<-hrw,hj]at J;simp only[ak,DR.own.injEq]at J;obtain⟨rfl,rfl,hl⟩:=J;cases hl;exact⟨_,_,F⟩
      .cases C
     .simp only[ak]at C;subst C;simp only[hL,DV.h]at j;obtain⟨v,_,F,rfl,rfl⟩:=j;exact⟨_,_,F⟩
     .simp only[ak]at C;subst C;simp only[hL,DV.h]at j;obtain⟨v,_,F,⟨W,vs,cc,Y,_⟩,rfl⟩:=j;subst Y;exact⟨_,cc,F⟩
     .cases C
    have⟨W,cc,e⟩:=this;refine⟨_,.int .i64 n,h,by simp only[DV.h],λw=>?_⟩;rw[X,e];simp[builtin,Builtin.len_,y,bb G,goInt]
   .cases h
  .rename_i y;have⟨t,K,y,hf,H⟩:=one y;have G:=DF hf H;split at h
   .simp only[hL,DV.h]at j;obtain⟨v,_,F,rfl,rfl⟩:=j;refine⟨_,_,h,by simp only[DV.h];rfl,λw=>?_⟩;rw[X,F];simp[builtin,Builtin.len_,y,bb G,goInt]
   .cases h
  .cases h
 .split at h
  .simp only[hL,DV.h]at j;obtain⟨v,_,F,rfl,u,_,rfl,rfl,rfl⟩:=j;refine⟨_,_,h,by simp only[DV.h];rfl,λw=>?_⟩;rw[X,F];simp only[builtin,aR,run_max_int2,bq,bE]
  .cases h
 .split at h
  .simp only[hL,DV.h]at j;obtain⟨v,_,F,rfl,u,_,rfl,rfl,rfl⟩:=j;refine⟨_,_,h,by simp only[DV.h];rfl,λw=>?_⟩;rw[X,F];simp only[builtin,aR,run_min_int2,bq,bE]
  .cases h
 .cases h
theorem Zn(C:dL P T){op}(ho:o.op=op)(j:hL E ts a.tmps.toList)(F:E.rw=rw)(X:amr E)(h:vT aj T op ts rw ret=some q):tB P E a o ret q:=by
 cases op with
 |move x=>have⟨p,J,h⟩:=wT h;exact⟨p,_,h,gH J j,λw=>by simp[execOp,ho]⟩
 |assign x=>have⟨p,J,h⟩:=wT h;exact⟨p,_,h,gH J j,λw=>by simp[execOp,ho]⟩
 |pick c x y=>exact aqe ho j (by rw[ho];exact h)
 |nilCheck x=>exact aau ho j (by rw[ho];exact h)
 |binOp op t x y ty=>simp only[vT]at h;have⟨g,W,h⟩:=wT h;have⟨u,R,h⟩:=wT h;have⟨r,z,h,V,G⟩:=amq C h (gH W j) (gH R j) x y;refine⟨r,z,h,V,λw=>?_⟩;have:=G w;simp only[execOp,ho];rw[aR,this];simp
 |unOp op t x=>exact aqf ho j (by rw[ho];exact h)
 |convert s d x=>exact ad1 C ho j h
 |fieldAddr s x f=>exact Zi C ho j (by rw[ho];exact h)
 |field s x f=>exact amu C ho j (by rw[ho];exact h)
 |indexAddr t x ix=>exact Zj C ho j F X (by rw[ho];exact h)
 |extract t i=>exact ad3 ho j (by rw[ho];exact h)
 |slice t x lo hi Y=>exact amv C ho j h
 |build t parts=>exact amw C ho j (by rw[ho];exact h)
 |makeFunc fn first K=>exact aav ho j (by rw[ho];exact h)
 |call c=>
  simp only[vT]at h;split at h
  .rename_i b hb;split at h
   .rename_i xs H;exact TQ C ho hb F (OA H j) h
   .cases h
  .cases h
 |_=>cases h
end
theorem AD{P}{o:Oper}{a:Act}{w:World}{N j:Act->World->Prop}{Q:Exit->Act->World->Prop}(h:o.wp P a w N Q)(k:∀a w,N a w->j a w):o.wp P a w j Q:=Oper.wp_mono k h
theorem eX{P}{o}{a}{w w'}{v:Value}{N:Act->World->Prop}{Q:Exit->Act->World->Prop}
 (h:(execOp a.eval o).run P w=.ok (.value v) w') (j:N (a.put o.dst v) w'):o.wp P a w N Q:=by
 simp only[Oper.wp,h,Oper.upon];exact j
theorem JX{P}{o}{a}{w w':World}{N:Act->World->Prop}{Q:Exit->Act->World->Prop}
 (h:(execOp a.eval o).run P w=.ok .skip w') (j:N (a.put o.dst undef) w'):o.wp P a w N Q:=by
 simp only[Oper.wp,h,Oper.upon];exact j
section
variable {P : Program} {T : List TI} {V : World} {U0 L : Nat -> Prop} {al : Nat -> Bool} {B : Nat -> Nat} {A : yH} {ts : List DV} {pb : im} {rw : List DR} {a : Act} {w : World} {β : Type} {q : β} {o : Oper} {K : DK β} {Q : Exit -> Act -> World -> Prop}
def oJ(V:World)(U0 L:Nat->Prop)(al:Nat->Bool)(B:Nat->Nat)(A:yH)(pb:im)(rw:List DR)(w:World)(a:Act)(K:DK β)(q:β):Act->World->Prop:=λa' w'=>∃B' A' j pb' rw',Mem V U0 L B' A' pb' rw' w'/\hL (env U0 B' A' pb' rw' w') j a'.tmps.toList/\K j pb' rw'=some q/\a'.defers=a.defers/\Ext al B A pb rw w B' A' pb' rw' w'
theorem Ext.refl:Ext al B A pb rw w B A pb rw w:=⟨λ_ h=>⟨h,rfl⟩,λ_ _ _=>rfl,λ_ h=>.inl h,au _⟩
theorem Md{α}(f:Nat->α)(n:Nat):Eo f n (f n)=f:=by funext i;unfold Eo;split<;>simp_all
theorem OB{E}{dst}{x}{v}(h:jx dst x ts pb rw K=some q)(y:hL E ts a.tmps.toList)(C:x.h E v):∃j,K j pb rw=some q/\hL E j (a.put dst v).tmps.toList/\(a.put dst v).defers=a.defers:=by
 cases dst with
 |none=>exact⟨ts,h,y,rfl⟩
 |some d=>simp only[jx,kF]at h;exact⟨_,h,by simpa[Act.put]using Zb y d C,rfl⟩
theorem oJ.ret{B'}{A'}{j}{pb'}{rw'}{w':World}{x:DV}{v:Value}(h:jx o.dst x j pb' rw' K=some q)(F:Mem V U0 L B' A' pb' rw' w')(C:hL (env U0 B' A' pb' rw' w') j a.tmps.toList)(G:x.h (env U0 B' A' pb' rw' w') v)
 (e:Ext al B A pb rw w B' A' pb' rw' w'):oJ V U0 L al B A pb rw w a K q (a.put o.dst v) w':=by
 have⟨y,R,J,H⟩:=OB h C G;exact⟨B',A',y,pb',rw',F,J,R,H,e⟩
theorem oJ.more{J}{R}{y}{j}{w1:World}{H a':Act}{w':World}(e:Ext al B A pb rw w J R y j w1)(X:H.defers=a.defers)(h:oJ V U0 L al J R y j w1 H K q a' w'):oJ V U0 L al B A pb rw w a K q a' w':=
 let ⟨B2,A2,C,G,F,W,h2,h3,Y,e2⟩:=h
 ⟨B2,A2,C,G,F,W,h2,h3,Y.trans X,e.trans e2⟩
theorem nD{E j}(s:Sub Iq E j){ps:List DV}{vs:List Value}(h:hL E ps vs):hL j ps vs:=by have:=kE s ps h;rwa [oR]at this
theorem OC{E j}(s:Sub Iq E j){p:DV}{v:Value}(h:p.h E v):p.h j v:=by have:=DV.amj s p h;rwa [DV.amk]at this
theorem Mem.afY(m:Mem V U0 L B A pb rw w):amr (env U0 B A pb rw w):=by
 intro j e t l F C;have⟨xs,h,_⟩:=m.row j e t l F;have C:(A j).1=none:=C;rcases h.2 with⟨_,h1⟩|⟨g,cap,G,y,_⟩
 .exact h1
 .rw[C]at y;simp at y
theorem Mq{E}{t}{X:TI}(W:ou P t X){cells:List DV}{off:Nat}{cs:List Value}{ad:Addr}{ret:DV->Option β}(h:Xa X cells off ret=some q)(G:hL E cells cs)(hw:∀j u,cs[j]?=some u->w.cell? (ad.add j)=some u):
 ∃r u,ret r=some q/\r.h E u/\(∀w':World,w'.heap[ad.block]?=w.heap[ad.block]?->(Instr.loadAt t (.pointer (some (ad.add off)))).run P w'=.ok u w')/\cs≠[]:=by
 have y:∀w':World,w'.heap[ad.block]?=w.heap[ad.block]?->∀j u,cs[j]?=some u->w'.cell? (ad.add j)=some u:=λw' hs j u hj=>by rw[<-hw j u hj];exact yz (by rw[jK];exact hs)
 unfold Xa at h;split at h
 .rename_i n R J;split at h
  .rename_i l hl;obtain⟨rfl,hle⟩:=wS hl;refine⟨_,.agg ((cs.drop off).take (n+1)).toArray,h,by simp only[DV.h];exact⟨_,rfl,by simpa using amh G off (n+1)⟩,λw' hs=>?_,by rintro rfl;have:=pI G;simp at this;omega⟩;have F:((cs.drop off).take (n+1)).length=n+1:=by have:=pI G;simp;omega
   have:=run_loadCells_list (P:=P) w' (ad.add off) ((cs.drop off).take (n+1)) (λj v hv=>by rw[og];exact y w' hs _ _ (sU.1 hv).2);rw[F]at this;simp[Instr.loadAt,Instr.sureAddr,loadVar,Y5 W,R,rJ W,J,this]
  .cases h
 .rename_i R;split at h
  .rename_i x Y;have⟨v,C,H⟩:=JV G _ _ (Oy Y);refine⟨x,v,h,H,λw' hs=>?_,by rintro rfl;simp at C⟩;have:=y w' hs _ _ C;simp[Instr.loadAt,Instr.sureAddr,loadVar,Y5 W,R,run_load,this]
  .cases h
 .cases h
theorem JY{e}{k}{ad}{n c}{xs}(h:w.ownsRow 0 e k (.slice (some ad) n c) n xs):∃g y,ad=⟨g,0,none⟩/\w.heap[g]?=some (.cells y e (0,0))/\n<=c/\c<=maxLen/\y.size=c*k/\y.toList.take (n*k)=xs/\∀j u,xs[j]?=some u->w.cell? (ad.add j)=some u:=by
 rcases h.2 with⟨h1,_⟩|⟨g,cap,y,C,hb,G,h1,R,J,H⟩
 .simp at h1
 .obtain⟨rfl,_,rfl⟩:=C;refine⟨g,y,rfl,G,h1,R,J,H,λj u F=>?_⟩;rw[<-H,cD]at F;split at F
  .rw[tg,cq,CB w g j y e (0,0) G];simpa using F
  .cases F
theorem Mr(hT:dL P T)(m:Mem V U0 L B A pb rw w){t:TypeId}{p:DV}{ret:DV->Option β}(h:PT aj T t p pb rw ret=some q){v:Value}(J:p.h (env U0 B A pb rw w) v):
 ∃r u ad,v=.pointer (some ad)/\ret r=some q/\r.h (env U0 B A pb rw w) u/\(∀w',w'.heap[ad.block]?=w.heap[ad.block]?->(Instr.loadAt t v).run P w'=.ok u w')/\((∃i off,p=.own i off/\iN B A pb rw false i ad.block)\/(∃t x off,p=.el t x off/\¬Us U0 B A pb rw ad.block/\ad.block<w.heap.size)\/(∃j i off,p=.re j i off)\/∃l k,p=.fp l k):=by
 unfold PT at h;split at h
 .rename_i ti hti;have hf:=sk hT hti;split at h
  .rename_i i off;obtain⟨hl,rfl⟩:=J;split at h
   .rename_i b hb;rw[xX]at hb;have⟨cs,W,R,_⟩:=m.box i b hb;have⟨r,u,g1,Y,G,g4⟩:=Mq (P:=P) (w:=w) (ad:=⟨B i,0,none⟩) hf h R (λj u C=>by rw[tg,cq,cell_of_block W];exact C);rw[tg,cq]at G;exact⟨r,u,_,rfl,g1,Y,G,.inl ⟨i,off,rfl,hl,rfl⟩⟩
   .cases h
  .rename_i t' x off;obtain⟨ad,us,rfl,W,R⟩:=J;have hc:=t'.EV (E:=env U0 B A pb rw w) W (r:=[]) (us':=[]) (by simp[hL]);rw[bZ]at hc
   have⟨r,u,g1,Y,G,g4⟩:=Mq (P:=P) (w:=w) (ad:=ad) hf h hc (λj u C=>by
    have⟨x,H,_,_,h3⟩:=R j u C;simp only[ak]at H;subst H
    rwa [cq]at h3)
   refine⟨r,u,_,rfl,g1,Y,λw' hs=>G w' (by rwa [jK]at hs),.inr (.inl ⟨t',x,off,rfl,?_⟩)⟩;rw[jK];cases us with
   |nil=>exact absurd rfl g4
   |cons u0 us=>have⟨x,H,h3,h4,_⟩:=R 0 u0 rfl;simp only[ak]at H;subst H;exact⟨h3,h4⟩
  .rename_i l k;simp only[DV.h]at J;obtain⟨ad,us,rfl,W,R⟩:=J
   have⟨r,u,g1,Y,G,g4⟩:=Mq (P:=P) (w:=w) (ad:=ad) hf h W (λj u C=>by
    have⟨x,H,_,_,h3⟩:=R j u C;simp only[ak]at H;subst H
    rwa [cq]at h3)
   refine⟨r,u,_,rfl,g1,Y,λw' hs=>G w' (by rwa [jK]at hs),.inr (.inr (.inr ⟨l,k,rfl⟩))⟩
  .rename_i j i off;simp only[DV.h]at J;obtain⟨e,t1,l1,ad,C,hi,ha,rfl⟩:=J;split at h
   .rename_i e2 t' l F;rw[gX]at F;have C:rw[j]?=some (.own e t1 l1):=C;rw[C]at F;simp only[ak,DR.own.injEq]at F;obtain⟨rfl,rfl,hl⟩:=F;cases hl;have⟨y,hy,h⟩:=as1 h;have⟨xs,W,R⟩:=m.row j e t1 l1 C;have ha:(A j).1=some ad:=ha;rw[ha]at W;obtain⟨g,cur,rfl,_,_,_,_,_,X⟩:=JY W;have hc:=t1.EV (E:=env U0 B A pb rw w) (R.2 i y hy) (r:=[]) (us':=[]) (by simp[hL]);rw[bZ]at hc;have⟨r,u,g1,Y,G,g4⟩:=Mq (P:=P) (w:=w) (ad:=(⟨g,0,none⟩:Addr).add (i*t1.size)) hf h hc (λk u hk=>by rw[og];exact X _ _ (sU.1 hk).2);rw[og]at G;exact⟨r,u,_,rfl,g1,Y,λw' hs=>G w' (by rw[jK]at hs ⊢;exact hs),.inr (.inr (.inl ⟨j,i,off,rfl⟩))⟩
   .cases h
  .cases h
 .cases h
theorem aqh{t}{G}{z:Value}{F:List Value}(J:ou P t G)(H:G.zero=z::F):∃C,∀w,(zeroValue t).run P w=.ok C w/\C.cells=(z::F).toArray:=by
 have⟨i,hi,_,j⟩:=Mg J;rw[H]at j;cases y:i.zero with
 |none=>rw[y]at j;cases j
 |some C=>rw[y]at j;exact⟨C,λw=>⟨uO hi y w,by apply fY;simpa using j.symm⟩⟩
theorem Xi:∀{pb:im} {i:Nat},Iw pb i=true->pb[i]?=some none
 |[],i,h=>by simp[Iw]at h
 |o::pb,0,h=>by
  simp only[Iw]at h;split at h
  .cases h
  .rfl
 |o::pb,i+1,h=>by simp only[Iw]at h;simpa using Xi h
theorem aaw{av}{ty:TypeId}{cells:List DV}{cs:List Value}(y:(execOp a.eval o).run P w=.ok (.value (.pointer (some ⟨w.heap.size,0,none⟩))) (w.alloc (.cells cs.toArray ty)))
 (h:afO av o.dst ty cells ts pb rw K=some q) (m:Mem V U0 L B A pb rw w) (G:hL (env U0 B A pb rw w) ts a.tmps.toList) (Y:hL (env U0 B A pb rw w) cells cs):o.wp P a w (oJ V U0 L al B A pb rw w a K q) Q:=by
 unfold afO at h;have key:∀(i:Nat) (pb':im) (d:Tmp),pb'[i]?=some (some ⟨ty,cells,true⟩)->(∀j,j≠i->pb'[j]?=pb[j]?)->¬live pb i->o.dst=some d->jx (some d) (.own i 0) ts pb' rw K=some q->o.wp P a w (oJ V U0 L al B A pb rw w a K q) Q:=by intro i pb' d W h2 h3 F h4;have⟨X,s,e⟩:=m.aud (al:=al) W h2 h3 Y;refine eX y (oJ.ret (by rw[F];exact h4) X (nD s G) ?_ e);exact⟨⟨_,W⟩,by show _=Value.pointer (some ⟨Eo B i w.heap.size i,0,none⟩);rw[nC]⟩
 split at h
 .cases h
 .rename_i d F;split at h
  .rename_i i hi;split at h
   .rename_i C;have C:=Xi C;rw[kF]at h;have H:=(aC.1 C).1;exact key i _ d (by rw[bh,ah rfl,ah H]) (λj R=>by rw[bh,ag (hZ R)]) (by rintro⟨b,hb⟩;rw[C]at hb;cases hb) F h
   .cases h
  .rw[q9]at h;rw[xw]at h
   exact key pb.length _ d (by simp) (λj R=>by
    rcases dO j pb.length with J|J
    .rw[bC J]
    .rw[bD (by simp;omega),bD J]) (by rintro⟨b,hb⟩;rw[bD (au _)]at hb;cases hb) F h
theorem auf{t}{x}{C:F9}{H:List (Nat×Nat)}(ho:o.op=.box t x)(h:qA aj T C al H o ts pb rw K=some q)(m:Mem V U0 L B A pb rw w)(j:hL (env U0 B A pb rw w) ts a.tmps.toList):o.wp P a w (oJ V U0 L al B A pb rw w a K q) Q:=by
 simp only[qA,ho]at h;split at h
 .rename_i p F;split at h
  .rename_i cs y;have G:=TN y (gH F j);refine aaw ?_ h m j G;have:(a.eval x).cells=((a.eval x).cells.toList).toArray:=by simp
   simp only[execOp,ho,aR,Instr.box,newVar,newRow,run_newObj,bE,bq];rfl
  .cases h
 .cases h
theorem aqi{t:TypeId}{x:Operand}{C:F9}{R:List (Nat×Nat)}(F:dL P T)(ho:o.op=.load t x)(h:qA aj T C al R o ts pb rw K=some q)(m:Mem V U0 L B A pb rw w)(j:hL (env U0 B A pb rw w) ts a.tmps.toList):o.wp P a w (oJ V U0 L al B A pb rw w a K q) Q:=by
 simp only[qA,ho]at h;split at h
 .rename_i p y;have⟨r,u,ad,hv,J,H,G,_⟩:=Mr F m h (gH y j);exact eX (by rw[Tp ho,G w rfl];rfl) (oJ.ret J m j H Ext.refl)
 .cases h
theorem wU:∀(H:List Nat) {ts:List DV} {pb:im} {rw:List DR} {ps:List DV} {K:List DV->im->List DR->List DV->Option β} {vs us:List Value},JT H ts pb rw ps K=some q->Mem V U0 L B A pb rw w->hL (env U0 B A pb rw w) ts vs->hL (env U0 B A pb rw w) ps us->
 ∃y pb' rw' C,K y pb' rw' C=some q/\Mem V U0 L B A pb' rw' w/\hL (env U0 B A pb' rw' w) y vs/\hL (env U0 B A pb' rw' w) C us/\Ext al B A pb rw w B A pb' rw' w/\pb'.length=pb.length
 |[],ts,pb,rw,ps,K,vs,us,h,m,F,G=>⟨ts,pb,rw,ps,h,m,F,G,Ext.refl,rfl⟩
 |j::H,ts,pb,rw,ps,K,vs,us,h,m,F,G=>by
  simp only[JT]at h;split at h
  .rename_i e t l J;rw[gX]at J;simp only[my,uT,kF]at h;have⟨W,s,e1⟩:=m.freeze (al:=al) J;have⟨y,pb',rw',C,h1,R,h2,Y,e2,X⟩:=wU H h W (kE s _ F) (kE s _ G);exact⟨y,pb',rw',C,h1,R,h2,Y,e1.trans e2,by rw[X,zN]⟩
  .rename_i ks J;rw[gX]at J;simp only[my,uT,kF]at h;have⟨W,s,e1⟩:=m.aiv (al:=al) J;have⟨y,pb',rw',C,h1,R,h2,Y,e2,X⟩:=wU H h W (kE s _ F) (kE s _ G);exact⟨y,pb',rw',C,h1,R,h2,Y,e1.trans e2,by rw[X,zN]⟩
  .exact wU H h m F G
theorem BZ{b off}{xs cs}{ty}(hb:w.heap[b]?=some (.cells xs.toArray ty (0,0)))(y:∀v∈cs,Tn v=true)(C:off+cs.length<=xs.length):
 (storeCells ⟨b,off,none⟩ cs 0).run P w=.ok () (setCells w ⟨b,off,none⟩ 0 cs)/\(setCells w ⟨b,off,none⟩ 0 cs).heap[b]?=some (.cells (wr xs off cs).toArray ty (0,0)):=by
 refine⟨G4 (P:=P) ⟨b,off,none⟩ cs 0 w y λj F=>?_,by have:=GV b off cs 0 w _ hb;rwa [jh]at this⟩;rw[cq,tg,cell_of_block hb,FE hb];have:off+j<xs.length:=by omega
 simp[this]
theorem aax{t}{x y}{C}(W:ou P t C)(ho:o.op=.store t x y){b off:Nat}{xs cs:List Value}{ty:TypeId}(R:a.eval x=.pointer (some ⟨b,off,none⟩))(H:(a.eval y).cells.toList=cs)(hs:cs.length=C.size)
 (hb:w.heap[b]?=some (.cells xs.toArray ty (0,0))) (j:∀v∈cs,Tn v=true) (G:off+cs.length<=xs.length):(execOp a.eval o).run P w=.ok .skip (setCells w ⟨b,off,none⟩ 0 cs):=by
 have J:=aip (P:=P) (w:=w) (a:=a) ho;rw[R]at J;have F:(a.eval y).cells.size=C.size:=by rw[<-fH,H,hs]
 rw[J];simp only[Instr.storeAt,Instr.sureAddr,storeVar,aR,bE,bq,rJ W,F,ne_eq,not_true_eq_false,pn,H,(BZ (P:=P) hb j G).1]
theorem AE(b off)(cs):(setCells w ⟨b,off,none⟩ 0 cs).os=w.os/\(setCells w ⟨b,off,none⟩ 0 cs).tape=w.tape/\(setCells w ⟨b,off,none⟩ 0 cs).output=w.output/\w.heap.size<=(setCells w ⟨b,off,none⟩ 0 cs).heap.size:=by have:=CR ⟨b,off,none⟩ cs 0 w;exact⟨this.1,this.2.1,this.2.2.1,Fp this.2.2.2.1.symm⟩
theorem amx{t}{x y:Operand}{C:F9}{av:List (Nat×Nat)}(hT:dL P T)(ho:o.op=.store t x y)(h:qA aj T C al av o ts pb rw K=some q)(m:Mem V U0 L B A pb rw w)(Jk:hL (env U0 B A pb rw w) ts a.tmps.toList):o.wp P a w (oJ V U0 L al B A pb rw w a K q) Q:=by
 simp only[qA,ho]at h;split at h
 .rename_i p v ti hp hv hti;have hf:=sk hT hti;split at h
  .rename_i cs hcs;have hc:=TN hcs (gH hv Jk);have X:=gH hp Jk;generalize hcv:(a.eval y).cells.toList=cv at hc;split at h
   .rename_i i off R G;have R:=aF R;split at h
    .rename_i b hal hb;rw[xX]at hb;split at h
     .rename_i l BE;have hle:=(wS BE).2;rw[Zd,kF]at h;have⟨_,X⟩:=X;have⟨xs,h1,h2,_⟩:=m.box i b hb;have hxl:=pI h2;have hcl:=pI hc;have H:off+cv.length<=xs.length:=by omega
      have G:=Zh G hc;have⟨m',s,e⟩:=m.aue (al:=al) hal hb (amg off h2 hc) (AE (w:=w) (B i) off _) (λb' _ hne=>xU _ _ hne _ _ _) (BZ (P:=P) h1 G H).2;exact JX (aax hf ho X hcv (by omega) h1 G H) (oJ.ret h m' (nD s Jk) (by simp only[DV.h]) e)
     .cases h
    .cases h
   .rename_i j0 i0 axV R G;have R:=aF R;have⟨ts1,AF,F',ps,h,m1,aay,hps,e1,_⟩:=wU (al:=al) _ h m Jk (ps:=.re j0 i0 axV::cs) (us:=a.eval x::cv) (by simp only[hL];exact⟨_,_,rfl,X,hc⟩);split at h
    .rename_i j i off cs';have⟨v1,vs1,e2,hp1,hc1⟩:=hps;obtain⟨rfl,rfl⟩:=e2;split at h
     .rename_i e F l J;rw[gX]at J;split at h
      .rename_i hle;have hle:=bP hle;have⟨z,hz,h⟩:=as1 h;rw[Zd]at h;split at h
       .rename_i y' hy';rw[kF]at h;have⟨e3,t3,l3,ad,hj3,hi3,ha,hpv⟩:=hp1;have hj3:F'[j]?=some (.own e3 t3 l3):=hj3;rw[J]at hj3;simp only[ak,DR.own.injEq]at hj3;obtain⟨rfl,rfl,hl3⟩:=hj3;cases hl3;have ha:(A j).1=some ad:=ha;have⟨xs,h1,h2⟩:=m1.row j e F l J;rw[ha]at h1;obtain⟨g,W,rfl,hg,hn,hcm,axW,htk,hcell⟩:=JY h1;rw[tg,cq]at hpv;have hcl:=pI hc1;have hil:=wR (k:=F.size) hi3;have hxl:=h2.1;have ayF:xs.length<=W.size:=by rw[<-htk,bf];simp only[fH];omega
        have Y:=Zh G hc;have H:(i*F.size+off)+cv.length<=W.toList.length:=by have h0:W.toList.length=W.size:=fH;omega
        have hg':w.heap[g]?=some (.cells W.toList.toArray e (0,0)):=by simpa using hg
        have hst:=BZ (P:=P) hg' Y H;have hyh:∃us,F.h (Us U0 B A AF F') w y' us/\us=wr ((xs.drop (i*F.size)).take F.size) off cv:=by have hz':=F.EV (E:=env U0 B A AF F' w) (h2.2 i z hz) (r:=[]) (us':=[]) (by simp[hL]);rw[bZ]at hz';have⟨us,us',e4,h3,h4⟩:=F.ais hy' (amg off hz' hc1);subst h4;rw[bZ]at e4;exact⟨us,h3,e4.symm⟩
        have⟨us,hus,axX⟩:=hyh
        have axY:(wr W.toList (i*F.size+off) cv).take (l.length*F.size)=wr xs (i*F.size) us:=by
         have hul:=F.Av hus;apply eT;intro k;rw[JS _ _ _ _ (by omega),cD];by_cases hk:k<l.length*F.size
         .rw[ah hk,JS _ _ _ _ H];by_cases hk1:i*F.size<=k/\k<i*F.size+us.length
          .rw[ah hk1,axX,JS _ _ _ _ (by rw[bf,dS];omega)];by_cases hk2:off<=k-i*F.size/\k-i*F.size<off+cv.length
           .rw[ah (by omega),ah hk2];congr 1;omega
           .rw[ag (by omega),ag hk2,cD,ah (by omega),cN,<-htk,cD,ah (by omega)];congr 1;omega
          .rw[ag hk1,ag (by omega),<-htk,cD,ah hk]
         .rw[ag hk,ag (by omega),bD (by omega)]
        have hlt:=(aC.1 J).1
        have⟨m2,s2,e2⟩:=m1.putRow (al:=al) (j:=j) (f:=Iq) (rw':=F'.set j (.own e F (l.set i y'))) (e:=e) (t:=F) (l:=l.set i y') (a:=(A j).1) (c:=(A j).2) (w':=setCells w ⟨g,i*F.size+off,none⟩ 0 cv)
         (by rw[bh,ah rfl,ah hlt]) (λk hk=>by rw[bh,ag (hZ hk)]) (λ_ _ h=>by cases h)
         (λ_ e4 t4 l4 h4=>by rw[J]at h4;simp only[ak,DR.own.injEq]at h4;obtain⟨rfl,rfl,h4⟩:=h4;cases h4;exact⟨_,by rw[bh,ah rfl,ah hlt],by simp,rfl⟩)
         (λ_ d h4=>by rw[J]at h4;cases h4) (AE _ _ _)
         (λb hb hnb=>xU ⟨g,i*F.size+off,none⟩ b (λhe=>hnb ⟨_,⟨g,0,none⟩,J,by simp,ha,he.symm⟩) _ _ _)
         (λx hx=>.inl ⟨_,x,J,by simp,hx,rfl⟩)
         (λU' lt=>by
          refine⟨wr xs (i*F.size) us,⟨?_,?_⟩,?_⟩
          .rw[DA,hxl];simp
          .refine .inr ⟨g,(A j).2,(wr W.toList (i*F.size+off) cv).toArray,by rw[ha],br _,hst.2,by simpa using hn,hcm,by rw[fi,DA,fH,axW],by simpa using axY⟩
          .exact DT.atW (DT.lR lt h2) hi3 (F.mono lt hus))
        rw[show Eo A j ((A j).1,(A j).2)=A from Md A j]at m2 s2 e2;rw[Mn]at m2 s2 e2;exact JX (aax hf ho hpv hcv (by have:=pI hc;omega) hg' Y H) (oJ.more e1 rfl (oJ.ret h m2 (nD s2 aay) (by simp only[DV.h]) e2))
       .cases h
      .cases h
     .cases h
    .cases h
   .cases h
  .cases h
 .cases h
end
structure Oe(P:Program)(t e:TypeId)(size bytes:Nat):Prop where
 under:P.underlying t=some (.slice e)
 info:∃i z,P.info? e=some i/\i.zero=some z/\i.size=size/\i.bytes=bytes/\z.cells.size=size
 pos:0<size
theorem AG{P}{t e}{H F:TI}(R:ou P t H)(G:H.td=.slice e)(W:ou P e F)(y:Nat.beq F.zero.length F.size=true)(J:0<F.size):Oe P t e F.size F.bytes:=by
 have⟨d,i,h1,h2,h3,h4,Y,h6,X,h8⟩:=W.ex;have y:=aF y;rw[X]at y;cases j:i.zero with
 |none=>rw[j]at y;simp at y;omega
 |some z=>exact⟨q8 R G,⟨i,z,h2,j,h4.symm,Y.symm,by rw[j]at y;simpa using y⟩,J⟩
theorem foldl_set:∀(cs:List Value) (off s:Nat) (y old j:List Value),y.length=off+s->old.length=cs.length->
 (cs.zipIdx s).foldl (λa (p:Value×Nat)=>a.setIfInBounds (off+p.2) p.1) (y++old++j).toArray=(y++cs++j).toArray
 |[],_,_,y,old,j,_,ho=>by
  cases old with
  |nil=>rfl
  |cons _ _=>simp at ho
 |c::cs,off,s,y,old,j,hp,ho=>by
  cases old with
  |nil=>simp at ho
  |cons o old=>
   simp only[List.zipIdx_cons,lu];have e:((y++o::old++j).toArray.setIfInBounds (off+s) c)=(y++[c]++old++j).toArray:=by rw[fx];congr 1;rw[<-hp];simp
   rw[e,foldl_set cs off (s+1) (y++[c]) old j (by simp;omega) (by simpa using ho)];simp
def AH:Nat->List Value->List (Nat×Value)
 |_,[]=>[]
 |i,v::vs=>(i,v)::AH (i+1) vs
theorem TR(k):∀(vs:List Value) (i:Nat) (y j:List Value),y.length=i*k->j.length=vs.length*k->(∀v∈vs,v.cells.size=k)->
 Instr.fill (λi=>some (i*k,k)) (y++j).toArray (AH i vs)=some (y++vs.flatMap (·.cells.toList)).toArray
 |[],_,y,j,_,F,_=>by
  have:j=[]:=by cases j<;>simp_all
  subst this;simp[AH,Instr.fill]
 |v::vs,i,y,j,hp,F,hk=>by
  have hv:=hk v (by simp);have J:j.length=k+vs.length*k:=by rw[F,aJ,lY];omega
  simp only[AH,Instr.fill];rw[ag (by simp[hv,hp];omega)];have hs:y++j=y++j.take k++j.drop k:=by simp
  have G:v.cells.zipIdx.foldl (λcs (p:Value×Nat)=>cs.setIfInBounds (i*k+p.2) p.1) (y++j).toArray=(y++v.cells.toList++j.drop k).toArray:=by rw[<-Array.foldl_toList,Array.toList_zipIdx,hs];exact foldl_set v.cells.toList (i*k) 0 y (j.take k) (j.drop k) (by simpa using hp) (by simp[hv];omega)
  rw[G,TR k vs (i+1) (y++v.cells.toList) (j.drop k) (by simp[hp,hv,lY]) (by simp;omega) (λu H=>hk u (by simp[H]))];simp
theorem PX{α}{k}:∀{els:List (List α)} {i:Nat} {cs:List α},(∀l∈els,l.length=k)->els[i]?=some cs->∀j r,cs[j]?=some r->els.flatten[i*k+j]?=some r
 |[],i,cs,_,h,_,_,_=>by simp at h
 |l::els,i,cs,hk,h,j,r,F=>by
  have hl:=hk l (by simp);have y:=(aC.1 F).1;cases i with
  |zero=>simp at h;subst h;simp only[vH,pU,cq];rw[bC y];exact F
  |succ i=>simp only[vH];rw[dP (by rw[hl,lY];omega),show(i+1)*k+j-l.length=i*k+j by rw[hl,lY];omega];exact PX (λl hl=>hk l (by simp[hl])) (by simpa using h) j r F
theorem Ms{α}(j:List α):∀n,(List.replicate n j).flatten.length=n*j.length
 |0=>by simp
 |n+1=>by rw[oV,vH,aq,Ms j n,lY];omega
theorem Xj {z} {n c k : Nat} (hk : z.size = k) (hn : n <= c) : (madeCells z (c * k)).toList.take (n * k) = (List.replicate n z.toList).flatten := by
  have hnc := dE k hn
  apply eT
  intro t
  by_cases ht : t < n * k
  · have hk0 : 0 < k := by rcases fw k with h | h; · subst h; simp at ht
                           · exact h
    have hfk : ∀ l ∈ List.replicate n z.toList, l.length = k := λl hl => by rw [(List.mem_replicate.1 hl).2]; simpa using hk
    have hdiv := (mV hk0).2 ht
    have axZ : t % k < k := Bu _ hk0
    have hfl := PX (k := k) (els := List.replicate n z.toList) (i := t / k) (cs := z.toList) hfk (by rw [List.getElem?_replicate, ah hdiv]) (t % k) (z.toList[t % k]'(by simpa [hk] using axZ)) (aw _)
    rw [Nat.div_add_mod' t k] at hfl
    rw [dN ht, hfl, du, madeCells, Array.getElem?_map, Array.getElem?_range, ah (by omega)]
    simp only [fS, hk]
    rw [lZ z (t % k) (by omega)]; rfl
  · rw [List.getElem?_take_eq_none (by omega), bD (by rw [Ms, fH, hk]; omega)]
theorem aiw{z}{n k}(j:z.size=k):(Builtin.zeroCells z n).toList=(List.replicate n z.toList).flatten:=by
 have h:=Xj (z:=z) (n:=n) (c:=n) j (au _);have e:Builtin.zeroCells z n=madeCells z (n*k):=by rw[<-j];rfl
 rw[e,<-h,lX];simp[madeCells]
theorem VC{P}(w)(t e ty)(z)(F:P.underlying t=some (.slice e))(hv:∀w,(zeroValue e).run P w=.ok z w)(b o n c)(R:0<n)
 (H:∀j,j<(Builtin.zeroCells z.cells n).toList.length->(w.cell? ⟨b,o+j,none⟩).isSome=true) (G:∀j,j<(Builtin.zeroCells z.cells n).toList.length->w.frozen? ⟨b,o+j,none⟩=false) (J:∀v∈(Builtin.zeroCells z.cells n).toList,v.oneCell'=true):
 (Builtin.clear_ #[t] ty #[.slice (some ⟨b,o,none⟩) n c]).run P w=.ok (.tuple #[]) (w.setCells b o (Builtin.zeroCells z.cells n).toList):=by
 have y:=yx (P:=P) b o (Builtin.zeroCells z.cells n).toList 0 w (by simpa using H) (by simpa using G) J;obtain⟨m,rfl⟩:∃m,n=m+1:=⟨n-1,by omega⟩;simp[Builtin.clear_,bb F,hv,y]
theorem TS{P}(w)(t e ty)(j:P.underlying t=some (.slice e))(a)(c):
 (Builtin.clear_ #[t] ty #[.slice a 0 c]).run P w=.ok (.tuple #[]) w:=by
 cases a<;>simp[Builtin.clear_,bb j]
theorem DH{P}{t ty e}{size bytes n c c2}{a a2}(j:Oe P t e size bytes)(F:n<=c)(w):
 (Builtin.append_ #[t,t] ty #[.slice a n c,.slice a2 0 c2]).run P w=.ok (.slice a n c) w:=by
 have⟨i,z,hi,H,hs,hb,y⟩:=j.info;have G:(Builtin.firstCells i.size 0 (.slice a2 0 c2)).run P w=.ok #[] w:=by cases a2<;>simp[Builtin.firstCells,loadCells,loadCellsFrom]
 cases a<;>simp[Builtin.append_,bb j.under,sizeOf,typeInfo,hi,Builtin.lenOf,F,G,storeCells]
theorem iE:maxLen=9223372036854775807:=by simp[maxLen]
theorem DT.amy{U}{w}{t:DT}{x:t.den}{v:Value}(h:t.hv U w x v)(_:0<t.size):t.h U w x v.cells.toList:=by
 obtain⟨us,j,rfl⟩:=h;cases y:t.agg with
 |true=>simpa[Value.cells]using j
 |false=>
  have hl:=t.Av j;rw[DT.awr t y]at hl;obtain⟨u,rfl⟩:=List.length_eq_one_iff.1 hl;have F:=t.WZ j u (by simp);have:u.cells = #[u]:=by cases u<;>simp_all [yI,Value.cells]
  simpa[this]using j
section
variable {P : Program} {T : List TI} {V : World} {U0 L : Nat -> Prop} {al : Nat -> Bool} {B : Nat -> Nat} {A : yH} {ts : List DV} {pb : im} {rw : List DR} {a : Act} {w w' : World} {β : Type} {q : β} {o : Oper} {K : DK β} {Q : Exit -> Act -> World -> Prop} {C : F9} {av : List (Nat × Nat)}
theorem Mem.aqj(m:Mem V U0 L B A pb rw w){e:TypeId}{t:DT}{l:List t.den}{a:Option Addr}{c:Nat}{xs:List Value}(H:w'.os=w.os/\w'.tape=w.tape/\w'.output=w.output/\w.heap.size<=w'.heap.size)(J:∀b,b<w.heap.size->w'.heap[b]?=w.heap[b]?)
 (R:∀x,a=some x->w.heap.size<=x.block/\x.block<w'.heap.size) (ho:w'.ownsRow 0 e t.size (.slice a l.length c) l.length xs) (hs:t.hs (Us U0 B A pb rw) w l xs):
 Mem V U0 L B (Eo A rw.length (a,c)) pb (rw++[.own e t l]) w'/\Sub Iq (env U0 B A pb rw w) (env U0 B (Eo A rw.length (a,c)) pb (rw++[.own e t l]) w')/\Ext al B A pb rw w B (Eo A rw.length (a,c)) pb (rw++[.own e t l]) w'/\(DV.row rw.length).h (env U0 B (Eo A rw.length (a,c)) pb (rw++[.own e t l]) w') (.slice a l.length c):=by
 have y:rw[rw.length]?=none:=bD (au _);have F:(rw++[DR.own e t l])[rw.length]?=some (.own e t l):=by simp
 have:=m.putRow (al:=al) (j:=rw.length) (f:=Iq) (rw':=rw++[.own e t l]) (e:=e) (t:=t) (l:=l) (a:=a) (c:=c) (w':=w') F (λi hi=>by
  rcases dO i rw.length with h|h
  .rw[bC h]
  .rw[bD (by simp;omega),bD h])
  (λ_ _ h=>by cases h) (λ_ e t l h=>by rw[y]at h;cases h) (λ_ d h=>by rw[y]at h;cases h) H (λb hb _=>J b hb) (λx G=>.inr (R x G)) (λU' lt=>⟨xs,ho,DT.lR lt hs⟩)
 rw[Mn]at this;refine⟨this.1,this.2.1,this.2.2,?_⟩;exact⟨e,t,l,F,by show _=Value.slice (Eo A rw.length (a,c) rw.length).1 _ (Eo A rw.length (a,c) rw.length).2;rw[nC]⟩
theorem AI{e:TypeId}{t:DT}{l:List t.den}{a':Option Addr}{c:Nat}{xs:List Value}(m:Mem V U0 L B A pb rw w)(F:hL (env U0 B A pb rw w) ts a.tmps.toList)(j:(execOp a.eval o).run P w=.ok (.value (.slice a' l.length c)) w')
 (H:w'.os=w.os/\w'.tape=w.tape/\w'.output=w.output/\w.heap.size<=w'.heap.size) (J:∀b,b<w.heap.size->w'.heap[b]?=w.heap[b]?)
 (R:∀x,a'=some x->w.heap.size<=x.block/\x.block<w'.heap.size) (ho:w'.ownsRow 0 e t.size (.slice a' l.length c) l.length xs) (hs:t.hs (Us U0 B A pb rw) w l xs)
 (h:(uR rw (.own e t l) λrw'=>F0 rw.length λn=>jx o.dst (.row n) ts pb rw' K)=some q):o.wp P a w (oJ V U0 L al B A pb rw w a K q) Q:=by
 rw[q9,xw]at h;have⟨G,s,W,y⟩:=m.aqj (al:=al) H J R ho hs;exact eX j (oJ.ret h G (nD s F) y W)
theorem Zo{U}{t}{l}{Y:Option Addr}{c:Nat}(h:(DT.slc t).h U w l [.slice Y l.length c])(h0:0<t.size)(hl:0<l.length):
 ∃ad us,Y=some ad/\us.length=l.length*t.size/\t.hs U w l us/\∀j u,us[j]?=some u->w.cell? (ad.add j)=some u:=by
 have⟨a',c',e,_,_,y⟩:=h;obtain⟨rfl,_,rfl⟩:=e;obtain⟨ad,rfl⟩:∃ad,Y=some ad:=by have⟨us,G,F⟩:=y 0 _ (aw hl);have:=t.Av G;have⟨x,H,_⟩:=F 0 _ (aw (by omega));exact⟨x,H⟩
 have all:∀(n:Nat),n<=l.length->∃us,us.length=n*t.size/\t.hs U w (l.take n) us/\∀j u,us[j]?=some u->w.cell? (ad.add j)=some u:=by
  intro n;induction n with
  |zero=>intro _;exact⟨[],by simp,by simpa using DT.EQ,by simp⟩
  |succ n ih=>
   intro hn;have⟨us,G,F,X⟩:=ih (by omega);have⟨vs,g1,g2⟩:=y n _ (aw (by omega));have gl:=t.Av g1;refine⟨us++vs,by simp[G,gl,lY],?_,λj u J=>?_⟩
   .rw[List.take_add_one,aw (by omega)];exact DT.EM F (DT.YS g1)
   .rcases dO j us.length with R|W
    .rw[bC R]at J;exact X j u J
    .rw[dP W]at J;have⟨x,H,_,_,g3⟩:=g2 _ u J;simp only[ak]at H;subst H
     rwa [show n*t.size+(j-us.length)=j by omega]at g3
 have⟨us,G,F,X⟩:=all l.length (au _);exact⟨ad,us,rfl,G,by simpa using F,X⟩
theorem PY{row}(j:w.grownBy w' row):w'.os=w.os/\w'.tape=w.tape/\w'.output=w.output/\w.heap.size<=w'.heap.size:=⟨j.os,j.tape,j.output,j.size⟩
theorem B3(ob):(w.alloc ob).os=w.os/\(w.alloc ob).tape=w.tape/\(w.alloc ob).output=w.output/\w.heap.size<=(w.alloc ob).heap.size:=⟨rfl,rfl,rfl,by simp⟩
theorem amz{c}{b}(ho:o.op=.call c)(j:c.callee=.builtin b):(execOp a.eval o).run P w=(builtin b c.argTypes o.type (c.args.map λ| .const _=>true|_=>false) (c.args.toList.map a.eval).toArray).run P w:=by
 have:c.args.map a.eval=(c.args.toList.map a.eval).toArray:=by apply fY;simp
 simp only[execOp,ho,resolve,j,aR,bE,bq,invoke,this];rfl
theorem aix{c}{xs:List DV}(hT:dL P T)(ho:o.op=.call c)(am0:c.callee=.builtin .append)(hxs:hL (env U0 B A pb rw w) xs (c.args.toList.map a.eval))(h:qA aj T C al av o ts pb rw K=some q)(aug:opsV ts c.args.toList=some xs)
 (m:Mem V U0 L B A pb rw w) (Jk:hL (env U0 B A pb rw w) ts a.tmps.toList):o.wp P a w (oJ V U0 L al B A pb rw w a K q) Q:=by
 simp only[qA,ho,am0,aug]at h;split at h
 .rename_i p1 p2;have⟨ts1,AF,F',ps,h,m1,aay,hps,e1,_⟩:=wU (al:=al) _ h m Jk hxs;split at h
  .rename_i p1 p2 t t' hat;split at h
   .rename_i e htd;have⟨ti,hft,htd⟩:=pw hT htd;split at h
    .rename_i te Zk;have Zm:=sk hT Zk;split at h
     .rename_i t2 F htt hz;have htt:=aF htt;subst htt;have aya:c.argTypes = #[t,t]:=fY (by simpa using hat);obtain⟨v1,_,ea,hp1,v2,_,rfl,hp2,rfl⟩:=hps;have⟨a2,c2,ev2,_⟩:=id hp2;simp only[fj,pj]at ev2;subst ev2;have G:(execOp a.eval o).run P w=((Builtin.append_ #[t,t] o.type #[v1,.slice a2 F.length c2]).run P w).andThen λv w'=>.ok (.value v) w':=by rw[amz ho am0,aya,ea];simp only[builtin,aR,bE]
      split at h
      .rename_i j h0;have h0:=bP h0;split at h
       .rename_i e2 t1 l hj;rw[gX]at hj;split at h
        .rename_i hh hee H as2;have hee:=aF hee;have H:=aF H;subst hee;subst hh;have⟨r1,r2,h⟩:=TM h;simp only[my,uT,kF]at h;simp only[DV.h]at hp1;have⟨e3,t3,l3,hj3,ev1⟩:=hp1;have hj3:F'[j]?=some (.own e3 t3 l3):=hj3;rw[hj]at hj3;simp only[ak,DR.own.injEq]at hj3;obtain⟨rfl,rfl,hl3⟩:=hj3;cases hl3;subst ev1;simp only[env]at G;have⟨xs1,ho1,hs1⟩:=m1.row j e t2 l hj;have W:=AG hft htd Zm hz (by omega);have hjl:=(aC.1 hj).1
         have fin:∀(a':Option Addr) (c':Nat) (w2:World) (xs2:List Value),w.grownBy w2 (Value.slice (A j).1 l.length (A j).2).ownBlock->((Value.slice a' (l.length+F.length) c').ownBlock=(Value.slice (A j).1 l.length (A j).2).ownBlock\/(Value.slice a' (l.length+F.length) c').ownBlock=some w.heap.size)->
          w2.ownsRow 0 e t2.size (.slice a' (l.length+F.length) c') (l.length+F.length) xs2->t2.hs (Us U0 B A AF F') w (l++F) xs2->
          oJ V U0 L al B A pb rw w a K q (a.put o.dst (.slice a' (l.length+F.length) c')) w2:=by
          intro a' c' w2 xs2 hg ayb how hsw
          have R2:∀b,(Value.slice (A j).1 l.length (A j).2).ownBlock=some b↔iN B A AF F' true j b:=by
           intro b;constructor
           .intro hb;cases hA:(A j).1 with
            |none=>rw[hA]at hb;simp[Value.ownBlock]at hb
            |some ad=>rw[hA]at hb;simp only[Value.ownBlock,ak]at hb;exact⟨_,ad,hj,by simp,hA,hb⟩
           .rintro⟨r,ad,_,_,hA,rfl⟩;rw[hA];rfl
          have⟨m2,s2,e2⟩:=m1.putRow (al:=al) (j:=j) (f:=kc j .jD) (rw':=F'.set j (.own e t2 (l++F))) (e:=e) (t:=t2) (l:=l++F) (a:=a') (c:=c') (w':=w2)
           (by rw[bh,ah rfl,ah hjl]) (λk hk=>by rw[bh,ag (hZ hk)])
           (λi p hp=>by
            unfold kc at hp;split at hp
            .rename_i hb;simp only[ak]at hp;exact⟨aF hb,hp.symm⟩
            .cases hp)
           (λhn=>by simp[kc]at hn) (λhn=>by simp[kc]at hn) (PY hg) (λb hb hnb=>hg.block b hb λh=>hnb ((R2 b).1 h.symm))
           (λx hx=>by
            subst hx;rcases ayb with h'|h'
            .exact .inl ((R2 _).1 h'.symm)
            .simp only[Value.ownBlock,ak]at h';have:=(how.lt x.block rfl).2;exact .inr ⟨by omega,this⟩)
           (λU' lt=>⟨xs2,by rw[aq];exact how,DT.lR lt hsw⟩)
          refine oJ.more e1 rfl (oJ.ret h m2 (kE s2 _ aay) ?_ e2);simp only[DV.h];have VB:(F'.set j (DR.own e t2 (l++F)))[j]?=some (.own e t2 (l++F)):=by rw[bh,ah rfl,ah hjl]
          exact⟨e,t2,l++F,VB,by show _=Value.slice (Eo A j (a',c') j).1 _ (Eo A j (a',c') j).2;rw[nC,aq]⟩
         rcases fw F.length with R|R
         .have hnil:=dX.1 R;have J:=DH (P:=P) (t:=t) (ty:=o.type) (n:=l.length) (c:=(A j).2) (c2:=c2) (a:=(A j).1) (a2:=a2) W (TL ho1).1 w;refine eX (by rw[G,R];rw[J];rfl) ?_;have:=fin (A j).1 (A j).2 w xs1 ⟨rfl,rfl,rfl,au _,λ_ _ _=>rfl⟩ (.inl (by rw[R];rfl)) (by rw[R];exact ho1) (by rw[hnil];simpa using hs1);rw[R]at this;exact this
         .obtain⟨ad,us,rfl,hul,Y,hcs⟩:=Zo hp2 h0 R;have⟨i,z,hi,hz',X,hb,hzs⟩:=W.info;have⟨v',w2,J,ho2,hg,_,aiy⟩:=run_append_own_at (P:=P) w 0 t o.type e i z te.size te.bytes W.under hi hz' X hb hzs W.pos (.slice (A j).1 l.length (A j).2) l.length xs1 (by rw[<-H];exact ho1) ad F.length c2 us (by rw[hul,H]) hcs (λu hu=>(wP (DT.GW Y u hu)).2) (by rw[iE];omega) r2 (br _)
          obtain⟨a',c',rfl⟩:∃a' c',v'=.slice a' (l.length+F.length) c':=by
           rcases ho2.2 with⟨rfl,h'⟩|⟨g,cap,cur,rfl,_⟩
           .exact⟨none,0,by rw[h']⟩
           .exact⟨_,_,rfl⟩
          exact eX (by rw[G,J];rfl) (fin a' c' w2 _ hg aiy (by rw[H];exact ho2) (DT.EM hs1 Y))
        .cases h
       .cases h
      .rename_i h0;have h0:=bP h0;split at h
       .rename_i H;have H:=aF H;have⟨r1,r2,h⟩:=TM h;simp only[DV.h]at hp1;subst hp1;have W:=AG hft htd Zm hz (by omega);rcases fw F.length with R|R
        .have hnil:=dX.1 R;have J:=DH (P:=P) (t:=t) (ty:=o.type) (n:=0) (c:=0) (c2:=c2) (a:=none) (a2:=a2) W (au _) w;rw[R]at G;rw[J]at G;subst hnil;have:=AI (P:=P) (Q:=Q) (al:=al) (e:=e) (t:=t2) (l:=[]) (a':=none) (c:=0) (xs:=[]) m1 aay (w':=w) G ⟨rfl,rfl,rfl,au _⟩ (λ_ _=>rfl) (λx hx=>by cases hx) (vM w 0 e t2.size) DT.EQ h;exact AD this λa' w' hn=>oJ.more e1 rfl hn
        .obtain⟨ad,us,rfl,hul,Y,hcs⟩:=Zo hp2 h0 R;have⟨i,z,hi,hz',X,hb,hzs⟩:=W.info;have⟨v',w2,J,ho2,hg,_,aiy⟩:=run_append_own_at (P:=P) w 0 t o.type e i z te.size te.bytes W.under hi hz' X hb hzs W.pos (.slice none 0 0) 0 [] (vM w 0 e te.size) ad F.length c2 us (by rw[hul,H]) hcs (λu hu=>(wP (DT.GW Y u hu)).2) (by rw[iE];omega) (by rw[cq];exact r2) (br _)
         obtain⟨a',c',rfl⟩:∃a' c',v'=.slice a' (0+F.length) c':=by
          rcases ho2.2 with⟨rfl,h'⟩|⟨g,cap,cur,rfl,_⟩
          .exact⟨none,0,by rw[h']⟩
          .exact⟨_,_,rfl⟩
         rw[cq]at J ho2 aiy;rw[J]at G
         have:=AI (P:=P) (Q:=Q) (al:=al) (e:=e) (t:=t2) (l:=F) (a':=a') (c:=c') (xs:=us) m1 aay (w':=w2) G (PY hg) (λb hb=>hg.block b hb (by simp[Value.ownBlock])) (λx hx=>by
          subst hx;have:=(ho2.lt x.block rfl).2;rcases aiy with h'|h'
          .simp[Value.ownBlock]at h'
          .simp only[Value.ownBlock,ak]at h';omega) (by rw[H];simpa using ho2) Y h
         exact AD this λa' w' hn=>oJ.more e1 rfl hn
       .cases h
      .rename_i t1 l h0;have h0:=bP h0;split at h
       .rename_i hh y ys H as2 _;have H:=aF H;subst hh;have⟨r1,r2,h⟩:=TM h;simp only[DV.h]at hp1;have⟨hp1,aa,ev1⟩:=hp1;subst ev1;have W:=AG hft htd Zm hz (by omega);have R:0<(y::ys).length:=by simp
        have⟨i,z,hi,hz',X,hb,hzs⟩:=W.info;obtain⟨ad,vs,rfl,hvl,hvs,hcv⟩:=Zo hp2 h0 R
        obtain⟨us,hul,Y,hold⟩:∃us:List Value,us.length=l.length*t2.size/\t2.hs (Us U0 B A AF F') w l us/\(Builtin.firstCells i.size l.length (.slice aa l.length l.length)).run P w.drew=.ok us.toArray w.drew:=by
         rcases fw l.length with hl0|hl0
         .have hnil:=dX.1 hl0;subst hnil;refine⟨[],by simp,DT.EQ,?_⟩;cases aa with
          |none=>exact run_firstCells_none w.drew _ _ _ _
          |some b=>exact sF w.drew _ _ b _ _ [] (by simp) (λj v hj=>by simp at hj)
         .obtain⟨ad2,us,rfl,hul,Y,hcs⟩:=Zo hp1 h0 hl0;exact⟨us,hul,Y,sF w.drew _ _ ad2 _ _ us (by rw[hul,H,X]) λj v hj=>hcs j v hj⟩
        have hsrc:Src P i.size t (.slice (some ad) (y::ys).length c2) (y::ys).length vs w:=by rw[X,<-H];exact Src.ofSlice w W.under ad (y::ys).length c2 vs hvl hcv (λu hu=>(wP (DT.GW hvs u hu)).2)
        have J:=run_append_grow_src (P:=P) w t t o.type e i z W.under hi hz' aa l.length l.length us hold (.slice (some ad) (y::ys).length c2) (y::ys).length vs hsrc (by omega) (by omega) (by rw[hb];exact growslice_fits (by omega) r2);rw[J]at G;have hC:=CC w (l.length+(y::ys).length) l.length e;have hC2:=pV w (l.length+(y::ys).length) l.length e (by rw[iE];omega);generalize grownCap w (l.length+(y::ys).length) l.length e=C at *;rw[<-aq]at G;have hal:(us++vs).length=(l++(y::ys)).length*t2.size:=by rw[aq,aq,hul,hvl,iY]
        have:=AI (P:=P) (Q:=Q) (al:=al) (e:=e) (t:=t2) (l:=l++(y::ys)) (a':=some ⟨w.heap.size,0,none⟩) (c:=C) (xs:=us++vs) m1 aay G ⟨rfl,rfl,rfl,by simp⟩ (λb hb=>mQ w.drew _ hb)
         (λx hx=>by simp only[ak]at hx;subst hx;exact⟨au _,by simp⟩)
         ⟨hal,.inr ⟨w.heap.size,C,_,rfl,br _,kQ w.drew _,by rw[aq];exact hC,hC2,by
          rw[iZ,size_zeroCells,hzs,fi,hal,H,aq,<-iY];congr 1;omega,by
          rw[Array.toList_append,List.toList_toArray,<-hal,List.take_left'];rfl⟩⟩ (DT.EM Y hvs) h
        exact AD this λa' w' hn=>oJ.more e1 rfl hn
       .cases h
      .cases h
     .cases h
    .cases h
   .cases h
  .cases h
 .cases h
end
theorem ad4{β}{q}{i:Int}{n:Nat}{K:Nat->Option β}(h:ads i n K=some q):0<=i/\i<=(n:Int)/\K i.toNat=some q:=aml (by change ads i n K=_;exact h)
theorem Mt(g o):∀(vs:List Value) (i:Nat) (w:World),w.setCells g (o+i) vs=setCells w ⟨g,o,none⟩ i vs
 |[],_,_=>rfl
 |v::vs,i,w=>by simp only[World.setCells,setCells,tg,<-Mt g o vs (i+1),De]
theorem as3{U}{w}{t:DT}{zero:List Value}{z:t.den}(h:t.of (CT zero)=some (z,[])):t.h U w z zero:=by have⟨us,us',e,y,j⟩:=t.ais (E:=⟨U,w,λ_=>0,λ_=>(none,0),[],[]⟩) h (G8 zero);subst j;rw[bZ]at e;subst e;exact y
theorem afZ{E}{t}(G:0<t.size):∀{ps:List (Nat×DV)} {n:Nat} {l:List t.den} {vs:List Value},alO t ps n=some l->hL E (ps.map (·.2)) vs->
 t.hs E.U E.w l (vs.flatMap (·.cells.toList))/\(∀v∈vs,v.cells.size=t.size)/\(List.zip (ps.map (·.1)) vs)=AH n vs/\l.length=vs.length
 |[],n,l,vs,h,hv=>by simp[alO]at h;subst h;subst hv;exact⟨by simpa using DT.EQ,by simp,rfl,rfl⟩
 |(i,p)::ps,n,l,vs,h,hv=>by
  simp only[alO]at h;split at h
  .rename_i x hi J;have hi:=aF hi;subst hi;split at h
   .rename_i l' y;simp only[ak]at h;subst h;obtain⟨v,H,rfl,W,R⟩:=hv;have⟨g1,g2,Y,X⟩:=afZ G y R;have F:=DT.amy (DT.Xe J W) G;refine⟨?_,?_,?_,by simp[X]⟩
    .exact DT.EM (DT.YS F) g1
    .intro u j;rcases aB.1 j with rfl|j
     .have:=t.Av F;simpa using this
     .exact g2 u j
    .simp only[bI,By,AH,Y]
   .cases h
  .cases h
theorem aga:∀{ps:List (Nat×DV)} {qs:List DV},qs.length=ps.length->(Tx ps qs).map (·.2)=qs/\(Tx ps qs).map (·.1)=ps.map (·.1)
 |[],[],_=>⟨rfl,rfl⟩
 |[],_::_,h=>by simp at h
 |_::_,[],h=>by simp at h
 |(i,p)::ps,q::qs,h=>by have⟨y,j⟩:=aga (ps:=ps) (qs:=qs) (by simpa using h);simp[Tx,y,j]
theorem ad5:∀(ps:List (Nat×DV)),Xb ps=ps.map (·.2)
 |[]=>rfl
 |(_,p)::ps=>by simp[Xb,ad5 ps]
section
variable {P : Program} {T : List TI} {V : World} {U0 L : Nat -> Prop} {al : Nat -> Bool} {B : Nat -> Nat} {A : yH} {ts : List DV} {pb : im} {rw : List DR} {a : Act} {w w' : World} {β : Type} {q : β} {o : Oper} {K : DK β} {Q : Exit -> Act -> World -> Prop} {C : F9} {av : List (Nat × Nat)}
theorem TT{G}{F}{j:List DR}(h:tB P (env U0 B A F j w) a o (λy=>jx o.dst y G F j K) q)(J:Mem V U0 L B A F j w)(H:hL (env U0 B A F j w) G a.tmps.toList)(e:Ext al B A pb rw w B A F j w):o.wp P a w (oJ V U0 L al B A pb rw w a K q) Q:=by have⟨r,v,X,W,R⟩:=h;exact eX (R w) (oJ.ret X J H W e)
theorem am1{t}{C}{av:List (Nat×Nat)}(J:dL P T)(ho:o.op=.alloc t)(h:qA aj T C al av o ts pb rw K=some q)(m:Mem V U0 L B A pb rw w)(y:hL (env U0 B A pb rw w) ts a.tmps.toList):o.wp P a w (oJ V U0 L al B A pb rw w a K q) Q:=by
 simp only[qA,ho]at h;split at h
 .rename_i X F;have H:=sk J F;split at h
  .rename_i z W G;have⟨R,j⟩:=aqh H G;refine aaw ?_ h m y (G8 _);simp only[execOp,ho,aR,Instr.alloc,(j w).1,bq,newVar,newRow,run_newObj,bE,(j w).2];rfl
  .cases h
 .cases h
theorem am2{t}{x}{lo hi mx:Option Operand}(hT:dL P T)(ho:o.op=.slice t x lo hi mx)(h:qA aj T C al av o ts pb rw K=some q)(m:Mem V U0 L B A pb rw w)(G:hL (env U0 B A pb rw w) ts a.tmps.toList):o.wp P a w (oJ V U0 L al B A pb rw w a K q) Q:=by
 simp only[qA,ho]at h;split at h
 .rename_i j n H
  obtain⟨oh,k,rfl,rfl,rfl,hx,hh⟩:∃oh k,lo=none/\hi=some oh/\mx=none/\vS ts x=some (.row j)/\vS ts oh=some (.int k n):=by
   unfold awg at H;split at H
   .split at H
    .rename_i j' h' hx';split at H
     .rename_i k n' hn';obtain⟨rfl,rfl⟩:=H;exact⟨h',k,rfl,rfl,rfl,hx',hn'⟩
     .cases H
    .cases H
   .cases H
  have hp1:=gH hx G;have hp2:=gH hh G;simp only[DV.h]at hp1 hp2;split at h
  .rename_i e e2 R l W hj;have⟨ti,hft,W⟩:=pw hT W;rw[gX]at hj;split at h
   .rename_i te Zk;have Zm:=sk hT Zk;split at h
    .rename_i Y hsz;have Y:=aF Y;have hsz:=aF hsz;subst Y;have⟨h0,h1,h⟩:=ad4 h;simp only[my,uT,kF]at h;have⟨e3,t3,l3,F,ev1⟩:=hp1;have F:rw[j]?=some (.own e3 t3 l3):=F;rw[hj]at F;simp only[ak,DR.own.injEq]at F;obtain⟨rfl,rfl,hl3⟩:=F;cases hl3;have⟨xs1,X,hs1⟩:=m.row j e R l hj;have hjl:=(aC.1 hj).1;have ayG:=TL X;obtain⟨c,rfl⟩:∃c:Nat,n=c:=⟨n.toNat,by omega⟩;have hcl:c<=l.length:=by omega
     simp only[aX]at h;have htk:(l.take c).length=c:=by rw[bf];omega
     have hrun:(execOp a.eval o).run P w=.ok (.value (.slice (A j).1 c (A j).2)) w:=by have ev1:a.eval x=.slice (A j).1 l.length (A j).2:=ev1;simp only[execOp,ho,aR,bE,lv,fS,ev1,hp2,Instr.sliceAt,Instr.slice,bb (q8 hft W),bq,Instr.sliceBounds,sd,iu w k c (A j).2 .sliceAcap (by omega) (by omega),rJ Zm,pU,Fq,aX];congr 3;cases(A j).1<;>simp[Addr.add]
     have⟨m2,s2,e2⟩:=m.putRow (al:=al) (j:=j) (f:=kc j .jD) (rw':=rw.set j (.own e R (l.take c))) (e:=e) (t:=R) (l:=l.take c) (a:=(A j).1) (c:=(A j).2) (w':=w)
      (by rw[bh,ah rfl,ah hjl]) (λk hk=>by rw[bh,ag (hZ hk)])
      (λi p hp=>by
       unfold kc at hp;split at hp
       .rename_i hb;simp only[ak]at hp;exact⟨aF hb,hp.symm⟩
       .cases hp)
      (λhn=>by simp[kc]at hn) (λhn=>by simp[kc]at hn) ⟨rfl,rfl,rfl,au _⟩ (λb hb hnb=>rfl)
      (λy hy=>.inl ⟨_,y,hj,by simp,hy,rfl⟩)
      (λU' lt=>⟨xs1.take (c*R.size),by
       rw[htk];refine⟨by rw[bf,X.1];exact jU (dE _ hcl),?_⟩;rcases X.2 with⟨hA,hn0⟩|⟨g,cap,cur,heq,hb,hg,h5,h6,h7,h8⟩
       .left;simp only[gA]at hA ⊢;exact⟨⟨hA.1,by omega,hA.2.2⟩,by omega⟩
       .simp only[gA]at heq;have⟨hA,_,hC⟩:=heq;refine .inr ⟨g,cap,cur,by rw[hA,hC],hb,hg,by omega,h6,h7,?_⟩;rw[<-h8,Br,jU (dE _ hcl)],DT.Rz (DT.lR lt hs1) hcl⟩)
     refine eX hrun (oJ.ret h m2 (kE s2 _ G) ?_ e2);simp only[DV.h];have VB:(rw.set j (DR.own e R (l.take c)))[j]?=some (.own e R (l.take c)):=by rw[bh,ah rfl,ah hjl]
     exact⟨e,R,l.take c,VB,by show _=Value.slice (Eo A j ((A j).1,(A j).2) j).1 _ (Eo A j ((A j).1,(A j).2) j).2;rw[nC,htk]⟩
    .cases h
   .cases h
  .cases h
 split at h
 .have⟨ts1,AF,F',ps,h,m1,J,_,e1,_⟩:=wU (al:=al) _ h m G (ps:=[]) (us:=[]) (by simp[hL]);exact TT (Zn hT ho J rfl m1.afY h) m1 J e1
 .cases h
theorem am3{t}{x G:Operand}(hT:dL P T)(ho:o.op=.index t x G)(h:qA aj T C al av o ts pb rw K=some q)(m:Mem V U0 L B A pb rw w)(j:hL (env U0 B A pb rw w) ts a.tmps.toList):o.wp P a w (oJ V U0 L al B A pb rw w a K q) Q:=by
 simp only[qA,ho]at h;split at h
 .rename_i s k i R hi W;have J:=gH R j;have H:=gH hi j;have⟨ti,Y,y⟩:=pw hT W;unfold ajR at h;rcases xV h with⟨F,h⟩|⟨_,h⟩
  .have F:0<=i:=by simpa using F
   split at h
   .rename_i b hb;refine eX (v:=.int .u8 b.toNat) ?_ (oJ.ret h m j (by simp only[DV.h]) Ext.refl);have X:(execOp a.eval o).run P w=((Instr.index t (a.eval x) (a.eval G)).run P w).andThen λv w'=>.ok (.value v) w':=by simp only[execOp,ho,aR,bE]
    rw[X,J,H];simp[Instr.index,asIntOf,bb (DF Y y),F,hb]
   .cases h
  .cases h
 .cases h
theorem am4:∀{ps:List (Nat×DV)} {n:Nat},alV ps n=true->ps.map (·.1)=List.range' n ps.length/\∀p∈ps.map (·.2),∃f cs,p=.fn f cs
 |[],n,_=>⟨rfl,λp h=>by simp at h⟩
 |(i,p)::ps,n,h=>by
  simp only[alV,aD]at h;have⟨y,F⟩:=h;have y:=aF y;subst y;cases p with
  |fn f cs=>
   have⟨g1,G⟩:=am4 (show alV ps (i+1)=true from F);refine⟨by simp only[bI,g1,aJ,xl],λp j=>?_⟩;simp only[bI,aB]at j;rcases j with rfl|j
   .exact⟨_,_,rfl⟩
   .exact G p j
  |_=>cases F
theorem Xk{E}:∀{ps:List DV} {vs:List Value},(∀p∈ps,∃f cs,p=DV.fn f cs)->hL E ps vs->(∀v∈vs,v.cells.size=1)/\vs.flatMap (·.cells.toList)=vs
 |[],vs,_,h=>by simp only[hL]at h;subst h;exact⟨λv hv=>by simp at hv,rfl⟩
 |p::ps,vs,hp,h=>by
  simp only[hL]at h;obtain⟨v,F,rfl,y,G⟩:=h;obtain⟨f,cs,rfl⟩:=hp _ (bU ..);have⟨g1,H⟩:=Xk (λp h=>hp p (bd _ h)) G;obtain⟨us,rfl,_⟩:=y;have j:(fnV f us).cells = #[fnV f us]:=by unfold fnV;cases Nat.ble 1000000 f<;>rfl
  refine⟨λv hv=>?_,by simp only[cF,j,H];rfl⟩;rcases aB.1 hv with rfl|hv
  .rw[j];rfl
  .exact g1 v hv
theorem am5:∀{l:List (Nat×Value)} {n:Nat},l.map (·.1)=List.range' n l.length->l=AH n (l.map (·.2)):=by
 intro l;induction l with
 |nil=>intro n _;rfl
 |cons p l j=>intro n h;simp only[bI,aJ,xl,fj]at h;have:=j h.2;show p::l=(n,p.2)::AH (n+1) (l.map (·.2));rw[<-this,<-h.1]
theorem auh{t}{len}{parts}{ps:List (Nat×DV)}{l:List DV}(hT:dL P T)(ho:o.op=.buildSlice t len parts)(hl:atZ T t len ps=some l)
 (F:hL (env U0 B A pb rw w) (ps.map (·.2)) (parts.toList.map λp=>a.eval p.2)) (hp2:ps.map (·.1)=parts.toList.map (·.1)) (h:jx o.dst (.fns l) ts pb rw K=some q) (m:Mem V U0 L B A pb rw w) (Jk:hL (env U0 B A pb rw w) ts a.tmps.toList):o.wp P a w (oJ V U0 L al B A pb rw w a K q) Q:=by
 unfold atZ at hl;split at hl
 .rename_i e R;have⟨ti,hft,R⟩:=pw hT R;split at hl
  .rename_i te Zk;have Zm:=sk hT Zk;split at hl
   .rename_i Y y;simp only[aD]at Y y;simp only[ak]at hl;subst hl;have W:=aF Y.1;have H:=aF y.1;have k2:=bP y.2.1;have hbd:=bP y.2.2.1;have⟨f1,f2⟩:=am4 y.2.2.2;have h1:0<te.size:=by omega
    have hek:=AG hft R Zm (by rw[W];exact Y.2.1) h1;have⟨i,z,hi,hzz,X,hby,hzs⟩:=hek.info
    have G:parts.toList.map (λp=>(p.1,a.eval p.2))=AH 0 (parts.toList.map λp=>a.eval p.2):=by
     have:=am5 (l:=parts.toList.map λp=>(p.1,a.eval p.2)) (n:=0) (by
      have hh:ps.length=parts.toList.length:=by have:=bS List.length hp2;simpa using this
      rw[hJ,aW,<-hh,<-f1,hp2];rfl)
     rw[this,hJ];rfl
    generalize hvs:parts.toList.map (λp=>a.eval p.2)=vs at F G;have⟨c1,c2⟩:=Xk f2 F;have hvl:vs.length=len:=by rw[pI F,aW,H]
    have hr:(execOp a.eval o).run P w=((Instr.buildSlice t len (AH 0 vs).toArray).run P w).andThen λv w'=>.ok (.value v) w':=by simp only[execOp,ho,aR,bE];congr 3;rw[<-G];apply fY;simp
    have hrun:(Instr.buildSlice t len (AH 0 vs).toArray).run P w=.ok (.slice (some ⟨w.heap.size,0,none⟩) len len) (w.alloc (.cells vs.toArray e)):=by
     refine run_buildSlice w t e len _ vs.toArray i z hek.under hi hzz (by rw[X,W];simp;omega) (by rw[X];have:=Nat.mul_pos k2 h1;omega) ?_;rw[X];have hz0:((Array.range (len*te.size)).map (z.cells[· % z.cells.size]!))=([]++((List.range (len*te.size)).map (z.cells[· % z.cells.size]!))).toArray:=by apply fY;simp
     rw[hz0,TR te.size _ 0 [] _ (by simp) (by simp[hvl]) (λv hv=>by rw[c1 v hv,W])];simp[c2]
    rw[hrun]at hr;have⟨m',s,e1⟩:=m.world (al:=al) (B3 (.cells vs.toArray e)) (λb hb=>mQ w _ hb);refine eX hr (oJ.ret h m' (nD s Jk) ?_ e1);rw[ad5];refine⟨⟨w.heap.size,0,none⟩,vs,len,by rw[aW,H],nD s F,λj u hj=>⟨_,rfl,λJ=>?_,by show w.heap.size<(w.alloc _).heap.size;simp,?_⟩⟩
    .have J:Us U0 B A pb rw w.heap.size:=J;rcases J with J|⟨k,i,J⟩
     .have:=(m.u0 _ J).1;have:=m.size;omega
     .have:=(m.low k i _ J).1;omega
    .rw[tg,cq,cq];show(w.alloc (.cells vs.toArray e)).cell? ⟨w.heap.size,j,none⟩=some u;rw[cell_of_block (kQ w _)];simpa using hj
   .cases hl
  .cases hl
 .cases hl
theorem VD{t}{len}{j:Array (Nat×Operand)}(hT:dL P T)(ho:o.op=.buildSlice t len j)(h:qA aj T C al av o ts pb rw K=some q)(m:Mem V U0 L B A pb rw w)(J:hL (env U0 B A pb rw w) ts a.tmps.toList):o.wp P a w (oJ V U0 L al B A pb rw w a K q) Q:=by
 simp only[qA,ho]at h;split at h
 .rename_i ps hps;have⟨Y,hp2⟩:=TO hps J;split at h
  .rename_i l hl;exact auh hT ho hl Y hp2 h m J
  rw[ad5]at h;have⟨ts1,AF,F',qs,h,m1,aay,X,e1,_⟩:=wU (al:=al) _ h m J Y;split at h
  .rename_i e R;have⟨ti,hft,R⟩:=pw hT R;split at h
   .rename_i te te' Zk _;have Zm:=sk hT Zk;split at h
    .rename_i l hl;split at h
     .rename_i y F h1 hbd hz;have y:=aF y;have F:=aF F;have h1:=bP h1;have hbd:=bP hbd;have hek:=AG hft R Zm hz h1;have⟨i,z,hi,hzz,W,hby,hzs⟩:=hek.info;generalize hvs:j.toList.map (λp=>a.eval p.2)=vs at X;have hql:qs.length=ps.length:=by have g1:=pI X;have g2:=pI Y;rw[hvs]at g2;simp only[aW]at g2;omega
      have⟨r1,r2⟩:=aga hql;obtain⟨g1,g2,g3,g4⟩:=afZ (E:=env U0 B A AF F' w) (by omega) hl (by rw[r1];exact X);rw[r2,hp2]at g3
      have ayc:j.toList.map (λp=>(p.1,a.eval p.2))=AH 0 vs:=by
       rw[<-g3,<-hvs];induction j.toList with
       |nil=>rfl
       |cons p l ih=>simp[ih]
      have hr:(execOp a.eval o).run P w=((Instr.buildSlice t len (AH 0 vs).toArray).run P w).andThen λv w'=>.ok (.value v) w':=by simp only[execOp,ho,aR,bE];congr 3;rw[<-ayc];apply fY;simp
      have hvl:vs.length=len:=by omega
      have hrun:(Instr.buildSlice t len (AH 0 vs).toArray).run P w=.ok (.slice (some ⟨w.heap.size,0,none⟩) len len) (w.alloc (.cells (vs.flatMap (·.cells.toList)).toArray e)):=by
       rcases fw len with h0|k2
       .have G:vs=[]:=dX.1 (by omega);subst G;rw[h0];simp[Instr.buildSlice,bb hek.under,sizeOf,typeInfo,hi,newRow,Instr.fill,AH];have e0:∀f:Nat->Value,Array.map f (Array.range 0) = #[]:=λf=>fY (by simp)
        rw[e0]
       .refine run_buildSlice w t e len _ (vs.flatMap (·.cells.toList)).toArray i z hek.under hi hzz (by rw[W];simp;omega) (by rw[W];have:=Nat.mul_pos k2 h1;omega) ?_;rw[W];have G:((Array.range (len*te.size)).map (z.cells[· % z.cells.size]!))=([]++((List.range (len*te.size)).map (z.cells[· % z.cells.size]!))).toArray:=by apply fY;simp
        rw[G,TR te.size _ 0 [] _ (by simp) (by simp[hvl]) (λv hv=>by rw[g2 v hv,y])];simp
      have g1:te'.hs (Us U0 B A AF F') w l (vs.flatMap λv=>v.cells.toList):=g1;have H:(vs.flatMap (·.cells.toList)).length=len*te.size:=by have:=g1.1;rw[y]at this;rw[this];congr 1;omega
      rw[hrun]at hr;have hm:len<=maxLen:=by have:len*1<=len*te.size:=lN _ h1;rw[iE];omega
      rw[F]at hr hm H;have:=AI (P:=P) (Q:=Q) (al:=al) (e:=e) (t:=te') (l:=l) (a':=some ⟨w.heap.size,0,none⟩) (c:=l.length) (xs:=vs.flatMap (·.cells.toList)) m1 aay (w':=w.alloc (.cells (vs.flatMap (·.cells.toList)).toArray e)) hr (B3 _) (λb hb=>mQ w _ hb) (λx hx=>by simp only[ak]at hx;subst hx;simp) ⟨g1.1,.inr ⟨w.heap.size,l.length,_,rfl,br _,kQ w _,au _,hm,by rw[y];simpa using H,by rw[y];exact lX (by simpa using Fp H)⟩⟩ g1 h;exact AD this λa' w' hn=>oJ.more e1 rfl hn
     .cases h
    .cases h
   .cases h
  .cases h
 .cases h
theorem Zp{t}{ol oc:Operand}(hT:dL P T)(ho:o.op=.makeSlice t ol oc)(h:qA aj T C al av o ts pb rw K=some q)(m:Mem V U0 L B A pb rw w)(H:hL (env U0 B A pb rw w) ts a.tmps.toList):o.wp P a w (oJ V U0 L al B A pb rw w a K q) Q:=by
 simp only[qA,ho]at h;split at h
 .rename_i k1 n k2 c e hl hc J;have hl:=gH hl H;have hc:=gH hc H;have⟨ti,hft,J⟩:=pw hT J;split at h
  .rename_i W F Zk _;have Zm:=sk hT Zk;split at h
   .rename_i z j h1 hz hof;have j:=aF j;have h1:=bP h1;have hek:=AG hft J Zm hz h1;have⟨i,R,hi,X,hs1,hby,Y⟩:=hek.info;have G:W.zero=R.cells.toList:=by have⟨d,i',g1,g2,g3,g4,g5,g6,g7,g8⟩:=Zm.ex;rw[hi]at g2;obtain rfl:=cK g2;rw[g7,X]
    have key:∀(y:Nat),0<=c->(n:Int)=y->(y:Int)<=c->c.toNat<=281474976710656->c.toNat*W.bytes<=140737488355328->
     (uR rw (.own e F (List.replicate y z)) λrw'=>F0 rw.length λn=>jx o.dst (.row n) ts pb rw' K)=some q->o.wp P a w (oJ V U0 L al B A pb rw w a K q) Q:=by
     intro y h0 hn hnc hm1 hm2 h;have hm:c.toNat<=maxLen:=by rw[iE];omega
     have hb1:(i.bytes:Int)*c<=281474976710656:=by
      rw[hby];have e1:(W.bytes:Int)*c=((c.toNat*W.bytes:Nat):Int):=by rw[nr,sD (by omega),gE]
      rw[e1];omega
     have hrun:=run_make (P:=P) w t e i R hek.under hi X k1 k2 n c (by omega) (by omega) hb1 (by rw[iE]at hm;omega);have hr:(execOp a.eval o).run P w=((Instr.makeSlice t (a.eval ol) (a.eval oc)).run P w).andThen λv w'=>.ok (.value v) w':=by simp only[execOp,ho,aR,bE]
     rw[hl,hc,hrun,hs1]at hr;have hn':n.toNat=y:=by omega
     rw[hn']at hr;have hrl:(List.replicate y z).length=y:=wq;have hzh:F.h (Us U0 B A pb rw) w z R.cells.toList:=by rw[<-G];exact as3 hof
     refine AI (P:=P) (Q:=Q) (al:=al) (e:=e) (t:=F) (l:=List.replicate y z) (a':=some ⟨w.heap.size,0,none⟩) (c:=c.toNat) (xs:=(List.replicate y R.cells.toList).flatten) m H (w':=w.alloc (.cells (madeCells R.cells (c.toNat*W.size)) e)) (by rw[hrl];exact hr) (B3 _) (λb hb=>mQ w _ hb) (λx hx=>by simp only[ak]at hx;subst hx;simp) ?_ (DT.Y8 hzh y) h;rw[hrl];refine⟨by rw[Ms,fH,Y,j],.inr ⟨w.heap.size,c.toNat,_,rfl,br _,kQ w _,by omega,hm,by rw[size_madeCells,j],?_⟩⟩;rw[j];exact Xj Y (by omega)
    split at h
    .split at h
     .have⟨h0,h⟩:=aqc h;have⟨r1,r2,h⟩:=TM h;exact key 0 h0 rfl h0 r1 r2 h
     .cases h
    .have⟨h0,h⟩:=aqc h;have⟨r1,r2,h⟩:=TM h;have⟨b1,b2,h⟩:=ad4 h;exact key n.toNat h0 (by omega) (by omega) r1 r2 h
   .cases h
  .cases h
 .cases h
theorem am6{c}{xs:List DV}(hT:dL P T)(ho:o.op=.call c)(am0:c.callee=.builtin .clear)(hxs:hL (env U0 B A pb rw w) xs (c.args.toList.map a.eval))(h:qA aj T C al av o ts pb rw K=some q)(aug:opsV ts c.args.toList=some xs)
 (m:Mem V U0 L B A pb rw w) (Jk:hL (env U0 B A pb rw w) ts a.tmps.toList):o.wp P a w (oJ V U0 L al B A pb rw w a K q) Q:=by
 simp only[qA,ho,am0,aug]at h;split at h
 .rename_i j i t hat;split at h
  .rename_i e htd;have⟨ti,hft,htd⟩:=pw hT htd;split at h
   .rename_i te e2 y l Zk J;have Zm:=sk hT Zk;rw[gX]at J;split at h
    .rename_i z hee F hz h1 hof;have hee:=aF hee;subst hee;have F:=aF F;have h1:=bP h1;have hek:=AG hft htd Zm hz h1;have⟨i',R,hi2,hzz,hs1,hby,hzs⟩:=hek.info;have hzero:te.zero=R.cells.toList:=by have⟨d,i',g1,g2,g3,g4,g5,g6,g7,g8⟩:=Zm.ex;rw[hi2]at g2;obtain rfl:=cK g2;rw[g7,hzz]
     have⟨b1,b2,h⟩:=ad4 h;rw[kF]at h;have hin:(Int.ofNat i).toNat=i:=rfl;rw[hin]at h;have hil:i<=l.length:=by omega
     have aiy:c.argTypes = #[t]:=fY (by simpa using hat);obtain⟨v,_,ea,⟨e3,t3,l3,H,_,ev⟩,rfl⟩:=hxs;have H:rw[j]?=some (.own e3 t3 l3):=H;rw[J]at H;simp only[ak,DR.own.injEq]at H;obtain⟨rfl,rfl,hl3⟩:=H;cases hl3;have hr:(execOp a.eval o).run P w=((Builtin.clear_ #[t] o.type #[v]).run P w).andThen λv w'=>.ok (.value v) w':=by rw[amz ho am0,aiy,ea];simp only[builtin,aR,bE]
     change v=Value.slice (if(A j).2=i then(A j).1 else(A j).1.map (·.add (i*y.size))) (l.length-i) ((A j).2-i)at ev;subst ev;have⟨xs1,W,Y⟩:=m.row j e y l J;have hzh:y.h (Us U0 B A pb rw) w z R.cells.toList:=by rw[<-hzero];exact as3 hof
     have hjl:=(aC.1 J).1;rcases dO i l.length with hlt|hge
     .cases hA:(A j).1 with
      |none=>
       rw[hA]at W;rcases W.2 with⟨_,h'⟩|⟨_,_,_,h',_⟩
       .omega
       .simp at h'
      |some ad=>
       rw[hA]at W;obtain⟨g,X,rfl,hg,hn,hcm,hcs,htk,hcell⟩:=JY W;rw[hA,ag (by omega)]at hr;simp only[fS,tg,cq]at hr;have hvl:(Builtin.zeroCells R.cells (l.length-i)).toList=(List.replicate (l.length-i) R.cells.toList).flatten:=aiw hzs;have hfl:((List.replicate (l.length-i) R.cells.toList).flatten).length=(l.length-i)*y.size:=by rw[Ms,show R.cells.toList.length=y.size from(fH).trans (hzs.trans F.symm)]
       have hik:i*y.size+(l.length-i)*y.size=l.length*y.size:=by rw[<-iY];congr 1;omega
       have hlc:l.length*y.size<=(A j).2*y.size:=dE _ hn;have h1c:∀v∈(List.replicate (l.length-i) R.cells.toList).flatten,yI v=true:=λv hv=>by have⟨l',hl',hu⟩:=List.mem_flatten.1 hv;rw[(List.mem_replicate.1 hl').2]at hu;exact y.WZ hzh v hu
       have hg':w.heap[g]?=some (.cells X.toList.toArray e (0,0)):=by simpa using hg
       have hcl:X.toList.length=X.size:=fH;have hrun:=VC (P:=P) w t e o.type R hek.under (uO hi2 hzz) g (i*te.size) (l.length-i) ((A j).2-i) (by omega) (λk hk=>by rw[hvl,hfl]at hk;rw[cell_of_block hg',<-F,aw (by omega)];rfl) (λk _=>FE hg' _) (λv hv=>by rw[hvl]at hv;exact(wP (h1c v hv)).2);rw[F,hrun,hvl,<-F]at hr;generalize ayd:(List.replicate (l.length-i) R.cells.toList).flatten=zz at *;have hst:=BZ (P:=P) hg' (cs:=zz) (off:=i*y.size) (λv hv=>(wP (h1c v hv)).1) (by omega)
       have hw:w.setCells g (i*y.size) zz=setCells w ⟨g,i*y.size,none⟩ 0 zz:=by
        have:=Mt g (i*y.size) zz 0 w
        rwa [jh]at this
       rw[hw]at hr
       have⟨m2,s2,e2⟩:=m.putRow (al:=al) (j:=j) (f:=Iq) (rw':=rw.set j (.own e y (l.take i++List.replicate (l.length-i) z))) (e:=e) (t:=y) (l:=l.take i++List.replicate (l.length-i) z) (a:=(A j).1) (c:=(A j).2) (w':=setCells w ⟨g,i*y.size,none⟩ 0 zz)
        (by rw[bh,ah rfl,ah hjl]) (λk hk=>by rw[bh,ag (hZ hk)]) (λ_ _ h=>by cases h)
        (λ_ e4 t4 l4 h4=>by rw[J]at h4;simp only[ak,DR.own.injEq]at h4;obtain⟨rfl,rfl,h4⟩:=h4;cases h4;exact⟨_,by rw[bh,ah rfl,ah hjl],by simp;omega,rfl⟩)
        (λ_ d h4=>by rw[J]at h4;cases h4) (AE _ _ _)
        (λb hb hnb=>xU ⟨g,i*y.size,none⟩ b (λhe=>hnb ⟨_,⟨g,0,none⟩,J,by simp,hA,he.symm⟩) _ _ _)
        (λx hx=>.inl ⟨_,x,J,by simp,hx,rfl⟩)
        (λU' lt=>by
         have G:(l.take i++List.replicate (l.length-i) z).length=l.length:=by simp;omega
         have hxl:=Y.1;refine⟨xs1.take (i*y.size)++zz,⟨?_,?_⟩,?_⟩
         .rw[G];simp;omega
         .refine .inr ⟨g,(A j).2,(wr X.toList (i*y.size) zz).toArray,by rw[hA],br _,hst.2,by rw[G];exact hn,hcm,by rw[fi,DA,hcl,hcs],?_⟩;rw[G,<-htk];apply eT;intro k;rw[cD];by_cases hk:k<l.length*y.size
          .rw[ah hk,List.toList_toArray,JS _ _ _ _ (by omega)];by_cases hk2:i*y.size<=k
           .rw[ah (by omega),dP (by simp;omega)];congr 1;simp;omega
           .rw[ag (by omega),bC (by simp;omega),cD,ah (by omega),cD,ah (by omega)]
          .rw[ag hk,bD (by simp;omega)]
         .refine DT.EM (DT.Rz (DT.lR lt Y) hil) ?_;have:=DT.Y8 (y.mono lt hzh) (l.length-i)
          rwa [ayd]at this)
       rw[show Eo A j ((A j).1,(A j).2)=A from Md A j]at m2 s2 e2;rw[Mn]at m2 s2 e2;exact eX hr (oJ.ret h m2 (nD s2 Jk) (by simp only[DV.h]) e2)
     .have hie:i=l.length:=by omega
      have hl0:l.length-i=0:=by omega
      have e0:l.take i++List.replicate (l.length-i) z=l:=by rw[hl0,hie,bs];simp
      have e1:rw.set j (.own e y l)=rw:=by
       apply eT;intro k;rw[bh];split
       .rename_i hk;subst hk;first|exact J.symm|rw[ah hjl,J]
       .rfl
      rw[e0,e1]at h;rw[hl0,TS w t e o.type hek.under]at hr;exact eX hr (oJ.ret h m Jk (by simp only[DV.h]) Ext.refl)
    .cases h
   .cases h
  .cases h
 .cases h
end
open Go.ChangeMaps
section
variable {P : Program} {T : List TI} {V : World} {U0 L : Nat -> Prop} {al : Nat -> Bool} {B : Nat -> Nat} {A : yH} {ts : List DV} {pb : im} {rw : List DR} {a : Act} {w w' : World} {β : Type} {q : β} {o : Oper} {K : DK β} {Q : Exit -> Act -> World -> Prop} {C : F9} {av : List (Nat × Nat)}
theorem Mem.am7(m:Mem V U0 L B A pb rw w){j:Nat}{rw':List DR}{d:OD}{ob:Obj}{b:Nat}(hj:rw'[j]?=some (.obj d))(hi:∀i,i≠j->rw'[i]?=rw[i]?)
 (G:((rw[j]?=none)/\w.heap.size<=b/\b<w'.heap.size)\/∃W,rw[j]?=some (.obj W)/\d.po=W.po/\(A j).1=some ⟨b,0,none⟩/\b<w'.heap.size)
 (hr:w'.os=w.os/\w'.tape=w.tape/\w'.output=w.output/\w.heap.size<=w'.heap.size) (hk:∀c,c<w.heap.size->c≠b->w'.heap[c]?=w.heap[c]?) (hw:w'.heap[b]?=some ob)
 (hd:∀U',lE (Us U0 B A pb rw) U' w w'->d.h U' w' ob):
 Mem V U0 L B (Eo A j (some ⟨b,0,none⟩,(A j).2)) pb rw' w'/\Sub Iq (env U0 B A pb rw w) (env U0 B (Eo A j (some ⟨b,0,none⟩,(A j).2)) pb rw' w')/\Ext al B A pb rw w B (Eo A j (some ⟨b,0,none⟩,(A j).2)) pb rw' w':=by
 have hb:∀k i c,iN B (Eo A j (some ⟨b,0,none⟩,(A j).2)) pb rw' k i c->(¬(k=true/\i=j)/\iN B A pb rw k i c)\/(k=true/\i=j/\c=b):=by
  intro k i c h;cases k with
  |false=>exact .inl ⟨by simp,h⟩
  |true=>
   have⟨r,ad,F,J,Y,h4⟩:=h;by_cases y:i=j
   .subst y;rw[nC]at Y;simp only[ak]at Y;subst Y;exact .inr ⟨rfl,rfl,h4.symm⟩
   .rw[yK _ _ y]at Y;rw[hi i y]at F;exact .inl ⟨by simp[y],r,ad,F,J,Y,h4⟩
 have H:∀k i,iN B A pb rw k i b->k=true/\i=j:=by
  intro k i h;rcases G with⟨_,F,_⟩|⟨W,F,_,J,_⟩
  .have:=(m.low k i b h).1;omega
  .exact m.inj _ _ _ _ _ h ⟨_,_,F,by simp,J,rfl⟩
 have hl:∀k i c,iN B A pb rw k i c->¬(k=true/\i=j)->w'.heap[c]?=w.heap[c]?:=λk i c h hne=>hk c (m.low k i c h).1 (by rintro rfl;exact hne (H k i h))
 refine m.step Iq hr (λc hc X=>hk c hc ?_) (λk i c h=>?_) (λk i k' i' c h h'=>?_) (λi h=>⟨h,rfl⟩) (λi e t l _ h=>?_) (λi d1 _ h=>?_) (λ_ i q e t l h=>by cases h) (λ_ i q d ad h=>by cases h) (λs i b' h=>.inl ⟨b',h,rfl,by rw[oR],id,hl false i _ ⟨⟨_,h⟩,rfl⟩ (by simp)⟩) (λ_ i e t l h=>?_) λlt i d1 h=>?_
 .rintro rfl;rcases G with⟨_,F,_⟩|⟨W,F,_,J,_⟩
  .omega
  .exact X (.inr ⟨j,_,_,F,by simp,J,rfl⟩)
 .rcases hb k i c h with⟨_,h⟩|⟨rfl,rfl,rfl⟩
  .exact .inl h
  .rcases G with⟨_,F,J⟩|⟨W,F,_,J,_⟩
   .exact .inr ⟨F,J⟩
   .exact .inl ⟨_,_,F,by simp,J,rfl⟩
 .rcases hb k i c h with⟨X,g⟩|⟨rfl,rfl,rfl⟩
  .rcases hb k' i' c h' with⟨_,g'⟩|⟨rfl,rfl,rfl⟩
   .exact m.inj _ _ _ _ _ g g'
   .exact absurd (H k i g) X
  .rcases hb k' i' _ h' with⟨X,g⟩|⟨rfl,rfl,_⟩
   .exact absurd (H k' i' g) X
   .exact⟨rfl,rfl⟩
 .have y:i≠j:=by
   rintro rfl;rcases G with⟨F,_⟩|⟨W,F,_⟩
   .rw[F]at h;cases h
   .rw[F]at h;cases h
  exact⟨l,by rw[hi i y];exact h,rfl,yK _ _ y⟩
 .by_cases y:i=j
  .subst y;rcases G with⟨F,_⟩|⟨W,F,hm,J,_⟩
   .rw[F]at h;cases h
   .rw[F]at h;simp only[ak,DR.obj.injEq]at h;subst h;refine⟨⟨_,hj,hm⟩,?_⟩;rw[nC,<-J]
  .exact⟨⟨d1,by rw[hi i y];exact h,rfl⟩,yK _ _ y⟩
 .have y:i≠j:=by rintro rfl;rw[hj]at h;cases h
  rw[hi i y]at h;exact .inl ⟨h,yK _ _ y,λad R=>hl true i _ ⟨_,ad,h,by simp,R,rfl⟩ (by simp[y])⟩
 .by_cases y:i=j
  .subst y;rw[hj]at h;simp only[ak,DR.obj.injEq]at h;subst h;exact .inr ⟨b,ob,by rw[nC],hw,hd _ lt⟩
  .rw[hi i y]at h;exact .inl ⟨h,yK _ _ y,λad R=>hl true i _ ⟨_,ad,h,by simp,R,rfl⟩ (by simp[y])⟩
theorem Mem.Zq(m:Mem V U0 L B A pb rw w)(d:OD)(ob:Obj)(G:∀U',lE (Us U0 B A pb rw) U' w (w.alloc ob)->d.h U' (w.alloc ob) ob):
 Mem V U0 L B (Eo A rw.length (some ⟨w.heap.size,0,none⟩,(A rw.length).2)) pb (rw++[.obj d]) (w.alloc ob)/\Sub Iq (env U0 B A pb rw w) (env U0 B (Eo A rw.length (some ⟨w.heap.size,0,none⟩,(A rw.length).2)) pb (rw++[.obj d]) (w.alloc ob))/\
  Ext al B A pb rw w B (Eo A rw.length (some ⟨w.heap.size,0,none⟩,(A rw.length).2)) pb (rw++[.obj d]) (w.alloc ob)/\
  (DV.ob rw.length).h (env U0 B (Eo A rw.length (some ⟨w.heap.size,0,none⟩,(A rw.length).2)) pb (rw++[.obj d]) (w.alloc ob)) (d.at ⟨w.heap.size,0,none⟩):=by
 have y:(rw++[DR.obj d])[rw.length]?=some (.obj d):=by simp
 have⟨F,s',e⟩:=m.am7 (al:=al) (j:=rw.length) (rw':=rw++[.obj d]) (d:=d) (ob:=ob) (b:=w.heap.size) (w':=w.alloc ob) y (λi hi=>by
  rcases dO i rw.length with h|h
  .rw[bC h]
  .rw[bD (by simp;omega),bD h]) (.inl ⟨bD (au _),au _,by simp⟩) (B3 _) (λc H _=>mQ w _ H) (kQ w _) G
 refine⟨F,s',e,?_⟩;exact⟨d,_,y,by show(Eo A rw.length _ rw.length).1=_;rw[nC],rfl⟩
theorem Mem.Zr(m:Mem V U0 L B A pb rw w){j b:Nat}{J d:OD}{ob:Obj}(W:rw[j]?=some (.obj J))(hm:d.po=J.po)(X:(A j).1=some ⟨b,0,none⟩)(hb:b<w.heap.size){w1:World}(y:w1.heap=w.heap/\w1.os=w.os/\w1.tape=w.tape/\w1.output=w.output)
 (Y:∀U',lE (Us U0 B A pb rw) U' w (setBlock w1 b ob)->d.h U' (setBlock w1 b ob) ob):
 Mem V U0 L B A pb (rw.set j (.obj d)) (setBlock w1 b ob)/\Sub Iq (env U0 B A pb rw w) (env U0 B A pb (rw.set j (.obj d)) (setBlock w1 b ob))/\Ext al B A pb rw w B A pb (rw.set j (.obj d)) (setBlock w1 b ob):=by
 have H:=(aC.1 W).1;have F:b<w1.heap.size:=by rw[y.1];exact hb
 have⟨R,s',e⟩:=m.am7 (al:=al) (j:=j) (rw':=rw.set j (.obj d)) (d:=d) (ob:=ob) (b:=b) (w':=setBlock w1 b ob) (by rw[bh,ah rfl,ah H]) (λi hi=>by rw[bh,ag (hZ hi)]) (.inr ⟨J,W,hm,X,by simpa[setBlock]using F⟩) ⟨y.2.1,y.2.2.1,y.2.2.2,by simp[setBlock,y.1]⟩ (λc hc G=>by rw[TK G,y.1]) (adz F) Y;have e0:Eo A j (some (⟨b,0,none⟩:Addr),(A j).2)=A:=by rw[<-X];exact Md A j
 rw[e0]at R s' e;exact⟨R,s',e⟩
theorem Mem.aqk(m:Mem V U0 L B A pb rw w){j:Nat}{d:OD}(hj:rw[j]?=some (.obj d)):
 Mem V U0 L B A (oD (kc j .jD) pb) (rw.set j .dead) w/\Sub (kc j .jD) (env U0 B A pb rw w) (env U0 B A (oD (kc j .jD) pb) (rw.set j .dead) w)/\Ext al B A pb rw w B A (oD (kc j .jD) pb) (rw.set j .dead) w/\∀b,(A j).1=some ⟨b,0,none⟩->¬Us U0 B A (oD (kc j .jD) pb) (rw.set j .dead) b:=by
 have F:∀i,i≠j->(rw.set j DR.dead)[i]?=rw[i]?:=λi h=>by rw[bh,ag (hZ h)]
 have H:(rw.set j DR.dead)[j]?=some .dead:=by rw[bh,ah rfl,ah (aC.1 hj).1]
 have hb:∀k i b,iN B A (oD (kc j .jD) pb) (rw.set j .dead) k i b->iN B A pb rw k i b/\¬(k=true/\i=j):=by
  intro k i b h;cases k with
  |false=>exact⟨⟨ov.1 h.1,h.2⟩,by simp⟩
  |true=>
   have⟨r,ad,G,X,h3,h4⟩:=h;have y:i≠j:=by rintro rfl;rw[H]at G;simp at G;exact X G.symm
   rw[F i y]at G;exact⟨⟨r,ad,G,X,h3,h4⟩,by simp[y]⟩
 have G:∀i,kc j .jD i=none->i≠j:=by rintro i h rfl;simp[kc]at h
 have X:∀i q,kc j .jD i=some q->i=j/\q=.jD:=by
  intro i q h;unfold kc at h;split at h
  .rename_i hb;simp at h;exact⟨aF hb,h.symm⟩
  .cases h
 have⟨m',s',e⟩:=m.step (al:=al) (kc j .jD) (w':=w) (B':=B) (A':=A) (pb':=oD (kc j .jD) pb) (rw':=rw.set j .dead) ⟨rfl,rfl,rfl,au _⟩ (λ_ _ _=>rfl) (λk i b h=>.inl (hb k i b h).1) (λk i k' Y b h h'=>m.inj _ _ _ _ _ (hb k i b h).1 (hb k' Y b h').1) (λi h=>⟨ov.2 h,rfl⟩)
  (λi e' t' l' J h=>⟨l',(F i (G i J)).trans h,rfl,rfl⟩) (λi d J h=>⟨⟨d,(F i (G i J)).trans h,rfl⟩,rfl⟩) (λlt i q e' t' l' J h=>by obtain⟨rfl,rfl⟩:=X i q J;simp only[DV.h]) (λ_ i q d ad J _ _=>by obtain⟨rfl,rfl⟩:=X i q J;simp only[DV.h]) (λs i b' h=>by
   obtain⟨b0,h0,rfl⟩:=tQ.1 h;exact .inl ⟨b0,h0,rfl,rfl,id,rfl⟩) (λ_ i e' t' l' h=>by
   have y:i≠j:=by rintro rfl;rw[H]at h;cases h
   exact .inl ⟨(F i y).symm.trans h,rfl,λ_ _=>rfl⟩) λ_ i d h=>by
   have y:i≠j:=by rintro rfl;rw[H]at h;cases h
   exact .inl ⟨(F i y).symm.trans h,rfl,λ_ _=>rfl⟩
 refine⟨m',s',e,λb hA R=>?_⟩;have W:iN B A pb rw true j b:=⟨_,_,hj,by simp,hA,rfl⟩;rcases R with R|⟨k,Y,R⟩
 .have:=m.u0 b R;rcases(m.low _ _ _ W).2 with h|h
  .omega
  .exact this.2 h
 .have⟨g1,g2⟩:=hb k Y b R;exact g2 (m.inj _ _ _ _ _ g1 W)
theorem am8{t:TypeId}{x:Operand}(hT:dL P T)(ho:o.op=.range t x)(h:qA aj T C al av o ts pb rw K=some q)(m:Mem V U0 L B A pb rw w)(G:hL (env U0 B A pb rw w) ts a.tmps.toList):o.wp P a w (oJ V U0 L al B A pb rw w a K q) Q:=by
 simp only[qA,ho]at h;split at h
 .rename_i s hx ht;have hp:=gH hx G;have⟨ti,hf,J⟩:=pw hT ht;rw[q9,xw]at h;have Y:(execOp a.eval o).run P w=((Instr.range t (a.eval x)).run P w).andThen λv w'=>.ok (.value v) w':=by simp only[execOp,ho,aR,bE]
  have X:(Instr.range t (.string s)).run P w=.ok (.pointer (some ⟨w.heap.size,0,none⟩)) (w.alloc (.stringIter s 0)):=by simp[Instr.range,bb (DF hf J)]
  rw[hp,X]at Y;have⟨m',s',e,hv⟩:=m.Zq (al:=al) (.IZ s 0) (.stringIter s 0) (λ_ _=>rfl);exact eX Y (oJ.ret h m' (nD s' G) hv e)
 .rename_i j k0 e0 hx ht;split at h
  .rename_i ks hj;rw[gX]at hj;have hp:=gH hx G;have⟨d1,ad,F,hA,hv⟩:=hp;have hA:(A j).1=some ad:=hA;have F:rw[j]?=some (.obj d1):=F;rw[hj]at F;simp only[ak,DR.obj.injEq]at F;subst F;obtain⟨b,ob,hb,H,es,y,rfl,W⟩:=m.IZ j _ hj;rw[hA]at hb;simp only[ak]at hb;subst hb;have⟨ti,hf,J⟩:=pw hT ht;have Y:(execOp a.eval o).run P w=((Instr.range t (a.eval x)).run P w).andThen λv w'=>.ok (.value v) w':=by simp only[execOp,ho,aR,bE]
   rw[hv,show(OD.set ks).at ⟨b,0,none⟩=.map (some b)from rfl,run_range_map w t _ _ b es y (alF hf J) H]at Y;rw[my,uT,kF,q9,xw]at h;have R:=(cy.1 H).1;have⟨m1,s1,e1,hn⟩:=m.aqk (al:=al) hj;have hn:=hn b hA;have⟨m',s',e2,hv'⟩:=m1.Zq (al:=al) (.walk ks []) (.mapIter (some b) y #[] y) (λU' lt=>⟨b,es,y,y,#[],[],rfl,λhu=>hn (lt.sub _ R hu),eW R lt.size,(mQ w _ R).trans H,W,W.lt,au _,rfl,rfl,by simp,by simp⟩);exact eX Y (oJ.more e1 rfl (oJ.ret h m' (nD s' (kE s1 _ G)) hv' e2))
  .cases h
 .cases h
theorem aql{x:Operand}{b0:Bool}(ho:o.op=.next x b0)(h:qA aj T C al av o ts pb rw K=some q)(m:Mem V U0 L B A pb rw w)(J:hL (env U0 B A pb rw w) ts a.tmps.toList):o.wp P a w (oJ V U0 L al B A pb rw w a K q) Q:=by
 simp only[qA,ho]at h;split at h
 .rename_i j hx;split at h
  .rename_i s p W;rw[gX]at W;have hp:=gH hx J;have⟨d1,ad,G,X,hv⟩:=hp;have X:(A j).1=some ad:=X;have G:rw[j]?=some (.obj d1):=G;rw[W]at G;simp only[ak,DR.obj.injEq]at G;subst G;obtain⟨b,ob,hb,H,rfl⟩:=m.IZ j _ W;rw[X]at hb;simp only[ak]at hb;subst hb;replace hv:a.eval x=.pointer (some ⟨b,0,none⟩):=hv;have R:(execOp a.eval o).run P w=((Instr.next (a.eval x) true o.type).run P w).andThen λv w'=>.ok (.value v) w':=by simp only[execOp,ho,aR,bE]
   rw[hv]at R;change ë s p _ _=_ at h;unfold ë at h;rcases xV h with⟨y,h⟩|⟨y,h⟩
   .have y:p.toNat<s.size:=by simpa using y
    dsimp only at h;rw[kF]at h;have Y:=(cy.1 H).1;have hjl:=(aC.1 W).1;have F:(Instr.next (.pointer (some ⟨b,0,none⟩)) true o.type).run P w=.ok (.tuple #[.bool true,goInt p.toNat,.int .i32 (Utf8.decode s p.toNat).1]) { w with heap:=w.heap.setIfInBounds b (.stringIter s (p.toNat+(Utf8.decode s p.toNat).2)) }:=by simp[Instr.next,getObj,setObj,Sem.run,H,y]
    rw[F]at R;have⟨m',s',e⟩:=m.Zr (al:=al) (d:=.IZ s ((p.toNat+(Utf8.decode s p.toNat).2:Nat):Int)) (ob:=.stringIter s (p.toNat+(Utf8.decode s p.toNat).2)) W rfl X Y (w1:=w) ⟨rfl,rfl,rfl,rfl⟩ (λ_ _=>by simp only[OD.h,aX]);refine eX R (oJ.ret h m' (nD s' J) ?_ e);simp only[DV.h,hL];exact⟨_,rfl,_,_,rfl,rfl,_,_,rfl,rfl,_,_,rfl,rfl,rfl⟩
   .have y:¬p.toNat<s.size:=by simpa using y
    have F:(Instr.next (.pointer (some ⟨b,0,none⟩)) true o.type).run P w=.ok (.tuple #[.bool false]) w:=by simp[Instr.next,getObj,Sem.run,H,y]
    rw[F]at R;refine eX R (oJ.ret h m J ?_ Ext.refl);simp only[DV.h,hL];exact⟨_,rfl,_,_,rfl,rfl,rfl⟩
  .cases h
 .cases h
theorem ad6{t:TypeId}{r:Option Operand}(R:dL P T)(ho:o.op=.makeMap t r)(h:qA aj T C al av o ts pb rw K=some q)(m:Mem V U0 L B A pb rw w)(y:hL (env U0 B A pb rw w) ts a.tmps.toList):o.wp P a w (oJ V U0 L al B A pb rw w a K q) Q:=by
 simp only[qA,ho]at h;split at h
 .rename_i X e0 J;have⟨W,Y,H⟩:=pw R J;rw[q9,xw]at h;have F:(execOp a.eval o).run P w=((Instr.makeMap t none).run P w).andThen λv w'=>.ok (.value v) w':=by simp only[execOp,ho,aR,bE,lv]
  have j:(Instr.makeMap t none).run P w=.ok (.map (some w.heap.size)) (w.alloc (.map #[] 0)):=by rfl
  rw[j]at F;have⟨G,s',e,hv⟩:=m.Zq (al:=al) (.set []) (.map #[] 0) (λ_ _=>⟨#[],0,rfl,rfl,by simp,by simp,by simp,by simp,by simp⟩);exact eX F (oJ.ret h G (nD s' y) hv e)
 .cases h
theorem am9{ks:List KU}{k:KU}{j:List Value}(h:(kV k∈ks.map kV/\j=ks.map kV)\/(kV k∉ks.map kV/\j=ks.map kV++[kV k])):j=(QK ks k).map kV:=by
 unfold QK;rcases h with⟨h1,y⟩|⟨h1,y⟩
 .rw[uQ.2 (Tq.1 h1),y];rfl
 .have:N1 k ks=false:=by
   cases hm:N1 k ks with
   |true=>exact absurd (Tq.2 (uQ.1 hm)) h1
   |false=>rfl
  rw[this,y];simp
theorem aye{U:Nat->Prop}{w:World}{k:KU}{v:Value}(h:tKU.hv U w k v):v=kV k:=by obtain⟨us,h,rfl⟩:=h;obtain⟨F,us',rfl,rfl,y,j,rfl,rfl,rfl⟩:=h;rfl
theorem aww{E:Env}(k:KU):(tKU.val k).h E (kV k):=by simp only[DT.val,DT.cells,DV.h,hL];exact⟨_,rfl,_,_,rfl,rfl,_,_,rfl,rfl,rfl⟩
theorem Zs{t:TypeId}{x y z:Operand}(hT:dL P T)(ho:o.op=.mapUpdate t x y z)(h:qA aj T C al av o ts pb rw K=some q)(m:Mem V U0 L B A pb rw w)(H:hL (env U0 B A pb rw w) ts a.tmps.toList):o.wp P a w (oJ V U0 L al B A pb rw w a K q) Q:=by
 simp only[qA,ho]at h;split at h
 .rename_i kt et j kd ht hx hy hz;split at h
  .rename_i ks k hj hk;rw[gX]at hj;have hp:=gH hx H;have hpy:=gH hy H;have X:=gH hz H;have⟨d1,ad,G,hA,hv⟩:=hp;have hA:(A j).1=some ad:=hA;have G:rw[j]?=some (.obj d1):=G;rw[hj]at G;simp only[ak,DR.obj.injEq]at G;subst G;obtain⟨b,ob,hb,J,es,clock,rfl,hso⟩:=m.IZ j _ hj;rw[hA]at hb;simp only[ak]at hb;subst hb;replace hv:a.eval x=.map (some b):=hv;have hky:=aye (DT.Xe hk hpy);have⟨ti,hf,htd⟩:=pw hT ht;have R2:=(cy.1 J).1;have⟨Y,F,ks',W,R,hd⟩:=ait (awt hT ht).key (alF hf htd) J hso (k:=kV k) ⟨k.1,k.2.1,rfl⟩;have hr:(execOp a.eval o).run P w=((Instr.mapUpdate t (a.eval x) (a.eval y) (a.eval z)).run P w).andThen λ_ w'=>.ok .skip w':=by simp only[execOp,ho,aR,bE]
   rw[hv,hky,X,W]at hr;rw[kF]at h;have hks:=am9 hd;subst hks;have⟨m',s',e⟩:=m.Zr (al:=al) (d:=.set (QK ks k)) (ob:=.map Y F) hj rfl hA R2 (w1:=w) ⟨rfl,rfl,rfl,rfl⟩ (λ_ _=>⟨Y,F,rfl,R⟩);exact JX hr (oJ.ret h m' (nD s' H) (by simp only[DV.h]) e)
  .cases h
 .cases h
theorem awx{j}{K:KU->Option β}(h:aj.aH j ((j.length:Int)-1) K=some q):∃k,j[j.length-1]?=some k/\K k=some q:=by
 change aah j ((j.length:Int)-1) K=some q at h;unfold aah at h;rw[show((j.length:Int)-1).toNat=j.length-1 by omega]at h;split at h
 .rename_i x y;rcases xV h with⟨_,h⟩|⟨_,h⟩
  .exact⟨x,y,h⟩
  .cases h
 .cases h
theorem amA{x}(ho:o.op=.entry x)(h:qA aj T C al av o ts pb rw K=some q)(m:Mem V U0 L B A pb rw w)(F:hL (env U0 B A pb rw w) ts a.tmps.toList):o.wp P a w (oJ V U0 L al B A pb rw w a K q) Q:=by
 simp only[qA,ho]at h;split at h
 .rename_i j hx;split at h
  .rename_i ks dn R;rw[gX]at R;have⟨k,hk,h⟩:=awx h;have hp:=gH hx F;have⟨d1,ad,y,W,hv⟩:=hp;have W:(A j).1=some ad:=W;have y:rw[j]?=some (.obj d1):=y;rw[R]at y;simp only[ak,DR.obj.injEq]at y;subst y;have⟨b,ob,hb,J,bm,es,X,G,Y,ds,H⟩:=m.IZ j _ R;rw[W]at hb;simp only[ak]at hb;subst hb;replace hv:a.eval x=.pointer (some ⟨b,0,none⟩):=hv;have hr:(execOp a.eval o).run P w=((Instr.entry (a.eval x)).run P w).andThen λv w'=>.ok (.value v) w':=by simp only[execOp,ho,aR,bE]
   rw[hv,H.entry hk J]at hr;refine eX hr (oJ.ret h m F ?_ Ext.refl);simp only[DV.h,hL];exact⟨_,rfl,_,_,rfl,aww k,_,_,rfl,rfl,rfl⟩
  .cases h
 .cases h
theorem aqm[qT β]{j:Nat}{ks dn:List KU}(y:alX o ts rw=some (j,ks,dn))
 (h:(aj.Mh (PR ks dn) (λk=>yJ rw j (.obj (.walk ks (dn++[k]))) λrw'=>jx o.dst (.Iv [.lit true,tKU.val k,.lit true]) ts pb rw' K) (jx o.dst (.Iv [.lit false]) ts pb rw K))=some q)
 (m:Mem V U0 L B A pb rw w) (J:hL (env U0 B A pb rw w) ts a.tmps.toList):o.wp P a w (oJ V U0 L al B A pb rw w a K q) Q:=by
 unfold alX at y;split at y
 .rename_i x ho;split at y
  .rename_i j1 hx;split at y
   .rename_i ks1 dn1 Y;simp only[ak,fc]at y;obtain⟨rfl,rfl,rfl⟩:=y;rw[gX]at Y;have y:=gH hx J;have⟨d1,ad,G,hA,hv⟩:=y;have hA:(A j1).1=some ad:=hA;have G:rw[j1]?=some (.obj d1):=G;rw[Y]at G;simp only[ak,DR.obj.injEq]at G;subst G;have⟨b,ob,hb,R,bm,es,clock,since,seen,ds,H⟩:=m.IZ j1 _ Y;rw[hA]at hb;simp only[ak]at hb;subst hb;replace hv:a.eval x=.pointer (some ⟨b,0,none⟩):=hv;have hr:(execOp a.eval o).run P w=((Instr.next (a.eval x) false o.type).run P w).andThen λv w'=>.ok (.value v) w':=by simp only[execOp,ho,aR,bE]
    have X:b≠bm:=λe=>H.nu (.inr ⟨true,j1,_,_,Y,by simp,hA,e⟩)
    have R2:=(cy.1 R).1;have⟨h0,h1⟩:=apN (show alJ _ _ _=some q from h);rcases H.next (P:=P) (ty:=o.type) R X with⟨F,he⟩|⟨k,w1,o',hk,F,W,hW⟩
    .rw[hv,F]at hr;refine eX hr (oJ.ret (h0 he) m J ?_ Ext.refl);simp only[DV.h,hL];exact⟨_,rfl,_,_,rfl,rfl,rfl⟩
    .rw[hv,F]at hr;have hq:=h1 k hk;rw[kF]at hq;have⟨m',s',e⟩:=m.Zr (al:=al) (d:=.walk ks1 (dn1++[k])) (ob:=o') Y rfl hA R2 (w1:=w1) W (λU' lt=>hW U' _ (λhu=>H.nu (lt.sub _ H.low hu)) (eW H.low lt.size) (by rw[TK (hZ X),W.1]));refine eX hr (oJ.ret hq m' (nD s' J) ?_ e);simp only[DV.h,hL];exact⟨_,rfl,_,_,rfl,rfl,_,_,rfl,aww k,_,_,rfl,rfl,rfl⟩
   .cases y
  .cases y
 .cases y
end
end Go.Vc
namespace Go.Vc
open Go Go.RowKit
def Ow(B:Nat->Nat)(A:yH)(pb:im)(rw:List DR):Nat->Prop:=λb=>∃k i,iN B A pb rw k i b
def Ctr(P:Program)(g:FuncId)(j:List DV)(pb:im)(rw:List DR)(Q:DV->im->List DR->Prop):Prop:=∀(U0:Nat->Prop) (B:Nat->Nat) (A:yH) (vs:List Value) (w:World),Mem w U0 (Ow B A pb rw) B A pb rw w->hL (env U0 B A pb rw w) j vs->pG P g vs.toArray w λv w'=>∃B' A' r pb' rw',Mem w U0 (Ow B A pb rw) B' A' pb' rw' w'/\r.h (env U0 B' A' pb' rw' w') v/\(∀i,live pb i->live pb' i/\B' i=B i)/\Q r pb' rw'
def al2(P:Program)(g:FuncId)(s:ES):Prop:=∀x q,s.fn x=some q->Ctr P g (BW s.P x) [] [] λr pb' rw'=>pb'=[]/\(r,rw')=s.Q.mk q []
def ada(P:Program)(g:FuncId)(s:LS):Prop:=∀z o,s.fn z=some o->Ctr P g (G7 s.P .unit (y0 s.B _ z []).2.1 (y0 s.B _ z []).2.2).1 (y0 s.B _ z []).1 (G7 s.P .unit (y0 s.B _ z []).2.1 (y0 s.B _ z []).2.2).2.2 λr pb' rw'=>pb'=(y0 s.E .unit o.2 []).1/\(r,rw')=s.Q.mk o.1 (y0 s.E .unit o.2 []).2.2
def alA(P:Program)(g:FuncId)(s:MU):Prop:=∀l z l',s.fn l z=some l'->l'.length=l.length/\∀(U0:Nat->Prop) (B:Nat->Nat) (A:yH) (vs:List Value) (w:World),Mem w U0 (Ow B A [] [.own s.e s.t l]) B A [] [.own s.e s.t l] w->hL (env U0 B A [] [.own s.e s.t l] w) (.row 0::(G7 s.P .unit z []).1) vs->pG P g vs.toArray w λv w'=>v=.tuple #[]/\Mem w U0 (Ow B A [] [.own s.e s.t l]) B A [] [.own s.e s.t l'] w'
def aly(P:Program)(g:FuncId):EC->Prop
 | .mu s=>alA P g s
 | .es s=>al2 P g s
 | .ls s=>ada P g s
def DD(P:Program):F9->Prop
 |[]=>True
 |(n,c)::C=>aly P n c/\DD P C
theorem amB{P}:∀{C:F9} {g:Nat} {xs:List DV} {c:EC},DD P C->c∈esL C g xs->aly P g c
 |[],g,xs,c,hC,h=>by simp[esL]at h
 |(n,s)::C,g,xs,c,hC,h=>by
  simp only[esL]at h;split at h
  .rename_i hb;simp only[aD]at hb;rcases aB.1 h with rfl|h
   .have:=aF hb.1;subst this;exact hC.1
   .exact amB hC.2 h
  .exact amB hC.2 h
theorem TU{P}{J}{n}:∀{C:F9} (i:Nat),DD P C->DD P (aaq J n i C)
 |[],_,h=>h
 |(g,c)::C,i,h=>by
  simp only[aaq];split
  .exact TU (i+1) h.2
  .exact⟨h.1,TU (i+1) h.2⟩
theorem aaz{P}{J}{C}(h:DD P C):DD P (afR J C):=by
 unfold afR;split
 .exact TU 0 h
 .exact h
def lB(B:Nat->Nat)(σ:Nat->Option Nat):Nat->Nat:=λk=>B ((σ k).getD 0)
def lA(A:yH)(rs:List (Option Nat)):yH:=λn=>match rs[n]? with|some (some j)=>A j|_=>(none,0)
def lU(U:Nat->Prop)(B:Nat->Nat)(A:yH)(rw:List DR)(y bor:Nat->Prop):Nat->Prop:=λb=>U b/\¬y b/\¬ ∃j,bor j/\iN B A [] rw true j b
section
variable {V : World} {U0 L : Nat -> Prop} {al : Nat -> Bool} {B : Nat -> Nat} {A : yH} {ts : List DV} {pb : im} {rw : List DR} {w : World}
theorem Mem.aui(m:Mem V U0 L B A pb rw w){σ:Nat->Option Nat}{rs:List (Option Nat)}{bor:Nat->Prop}{pb0:im}{rw0:List DR}
 (hb:∀(k:Nat) (H:DB),pb0[k]?=some (some H)->∃i b,σ k=some i/\pb[i]?=some (some b)/\H.ty=b.ty/\H.w=true)
 (hc:∀(k:Nat) (H:DB) (i:Nat) (b:DB),pb0[k]?=some (some H)->σ k=some i->pb[i]?=some (some b)->∀vs,hL (env U0 B A pb rw w) b.cells vs->hL (env (lU (Us U0 B A pb rw) B A rw (Ow (lB B σ) (lA A rs) pb0 rw0) bor) (lB B σ) (lA A rs) pb0 rw0 w) H.cells vs)
 (hσ:∀(k W i:Nat),σ k=some i->σ W=some i->k=W)
 (hr:∀(n:Nat) (r:DR),rw0[n]?=some r->(∃j e t l,rs[n]?=some (some j)/\rw[j]?=some r/\r=.own e t l)\/(rs[n]?=some none/\∃e t,r=.own e t []))
 (hρ:∀(n n' j:Nat),rs[n]?=some (some j)->rs[n']?=some (some j)->n=n'):
 Mem w (lU (Us U0 B A pb rw) B A rw (Ow (lB B σ) (lA A rs) pb0 rw0) bor) (Ow (lB B σ) (lA A rs) pb0 rw0) (lB B σ) (lA A rs) pb0 rw0 w/\
  (∀b,Us (lU (Us U0 B A pb rw) B A rw (Ow (lB B σ) (lA A rs) pb0 rw0) bor) (lB B σ) (lA A rs) pb0 rw0 b->Us U0 B A pb rw b)/\
  (∀n b,iN (lB B σ) (lA A rs) pb0 rw0 true n b->∃j,rs[n]?=some (some j)/\iN B A pb rw true j b)/\
  (∀k b,iN (lB B σ) (lA A rs) pb0 rw0 false k b->∃i,σ k=some i/\iN B A pb rw false i b):=by
 have Y:∀n b,iN (lB B σ) (lA A rs) pb0 rw0 true n b->∃j,rs[n]?=some (some j)/\iN B A pb rw true j b:=by
  rintro n b ⟨r,ad,g1,C,G,F⟩;rcases hr n r g1 with⟨j,e,t,l,y,R,K⟩|⟨y,_⟩
  .refine⟨j,y,r,ad,R,C,?_,F⟩;simpa only[lA,y]using G
  .simp only[lA,y]at G;cases G
 have X:∀k b,iN (lB B σ) (lA A rs) pb0 rw0 false k b->∃i,σ k=some i/\iN B A pb rw false i b:=by rintro k b ⟨⟨H,g1⟩,C⟩;have⟨i,b1,y,R,_⟩:=hb k H g1;exact⟨i,y,⟨b1,R⟩,by simpa only[lB,y,fg]using C⟩
 have h3:∀k i b,iN (lB B σ) (lA A rs) pb0 rw0 k i b->∃J,iN B A pb rw k J b:=by
  intro k i b h;cases k with
  |true=>have⟨j,_,h⟩:=Y i b h;exact⟨j,h⟩
  |false=>have⟨j,_,h⟩:=X i b h;exact⟨j,h⟩
 have hU:∀b,Us (lU (Us U0 B A pb rw) B A rw (Ow (lB B σ) (lA A rs) pb0 rw0) bor) (lB B σ) (lA A rs) pb0 rw0 b->Us U0 B A pb rw b:=by
  rintro b (⟨h,_⟩|⟨k,i,h⟩)
  .exact h
  .have⟨J,h⟩:=h3 k i b h;exact .inr ⟨k,J,h⟩
 have hlt:∀b,Us U0 B A pb rw b->b<w.heap.size:=by
  rintro b (h|⟨k,i,h⟩)
  .exact eW (m.u0 b h).1 m.size
  .exact(m.low k i b h).1
 refine⟨⟨rfl,rfl,rfl,au _,λ_ _ _=>rfl,λb h=>⟨hlt b h.1,h.2.1⟩,λk i b h=>?_,λk i W J b h h'=>?_,λk H h=>?_,λn e t l h=>?_,λn d h=>?_⟩,hU,Y,X⟩
 .have⟨J,g⟩:=h3 k i b h;exact⟨(m.low k J b g).1,.inr ⟨k,i,h⟩⟩
 .cases k with
  |true=>
   have⟨j,g1,C⟩:=Y i b h;cases W with
   |true=>have⟨j',G,F⟩:=Y J b h';have:=(m.inj _ _ _ _ _ C F).2;subst this;exact⟨rfl,hρ _ _ _ g1 G⟩
   |false=>have⟨j',G,F⟩:=X J b h';have:=(m.inj _ _ _ _ _ C F).1;cases this
  |false=>
   have⟨j,g1,C⟩:=X i b h;cases W with
   |true=>have⟨j',G,F⟩:=Y J b h';have:=(m.inj _ _ _ _ _ C F).1;cases this
   |false=>have⟨j',G,F⟩:=X J b h';have:=(m.inj _ _ _ _ _ C F).2;subst this;exact⟨rfl,hσ _ _ _ g1 G⟩
 .have⟨i,b,g1,C,G,F⟩:=hb k H h;have⟨cs,y,R,_⟩:=m.box i b C;exact⟨cs,by simp only[lB,g1,fg,G];exact y,hc k H i b h g1 C cs R,λhw=>by rw[F]at hw;cases hw⟩
 .rcases hr n _ h with⟨j,e',t',l',y,R,K⟩|⟨y,e',t',K⟩
  .have⟨xs,g1,C⟩:=m.row j e t l R;refine⟨xs,by simp only[lA,y];exact g1,DT.lR ⟨λ_ _ _=>rfl,au _,λb _ h=>hU b h⟩ C⟩
  .simp only[DR.own.injEq]at K;obtain⟨rfl,rfl,K⟩:=K;cases K;exact⟨[],by simp only[lA,y];exact vM w 0 e t.size,DT.EQ⟩
 .rcases hr n _ h with⟨j,e',t',l',y,R,K⟩|⟨y,e',t',K⟩<;>cases K
end
mutual
def DV.Ga(σ:Nat->Option Nat)(y:List Nat):DV->DV
 | .row n=>match y[n]? with|some j=>.row j|none=>.jD
 | .own k o=>match σ k with|some i=>.own i o|none=>.jD
 | .fn g cs=>.fn g (F1 σ y cs)
 | .agg xs=>.agg (F1 σ y xs)
 | .Iv xs=>.Iv (F1 σ y xs)
 | .el _ _ _=>.jD
 | .re _ _ _=>.jD
 | .rt _ _=>.jD
 | .ob _=>.jD
 | .fns xs=>.fns (F1 σ y xs)
 | .fp _ _=>.jD
 | .ra _=>.jD
 | .rs _ _=>.jD
 | .cs _ _=>.jD
 |p=>p
def F1(σ:Nat->Option Nat)(j:List Nat):List DV->List DV
 |[]=>[]
 |p::ps=>p.Ga σ j::F1 σ j ps
end
mutual
def DV.Vp(f:Bool):DV->Bool
 | .sl _ _=>f
 | .set _=>f
 | .fn _ cs=>DI f cs
 | .agg cs=>DI f cs
 | .Iv cs=>DI f cs
 | .fns cs=>f&&DI f cs
 |_=>true
def DI(f:Bool):List DV->Bool
 |[]=>true
 |p::ps=>p.Vp f&&DI f ps
end
theorem aa0(σ)(j):(ps:List DV)->(F1 σ j ps).length=ps.length
 |[]=>rfl
 |p::ps=>by simp only[F1,aJ,aa0 σ j ps]
structure Tr(f:Bool)(σ:Nat->Option Nat)(js:List Nat)(E E':Env):Prop where
 sl:f=true->lE E.U E'.U E.w E'.w
 bx:∀k i,σ k=some i->live E.pb k->live E'.pb i/\E'.B i=E.B k
 row:∀n j e t l,js[n]?=some j->E.rw[n]?=some (.own e t l)->E'.rw[j]?=some (.own e t l)/\E'.A j=E.A n
mutual
theorem DV.amC{f}{σ}{y:List Nat}{E G:Env}(s:Tr f σ y E G):(p:DV)->p.Vp f=true->{v:Value}->p.h E v->(p.Ga σ y).h G v
 | .int _ _,_,_,h=>by simpa only[DV.Ga,DV.h]using h
 | .bool _,_,_,h=>by simpa only[DV.Ga,DV.h]using h
 | .lit _,_,_,h=>by simpa only[DV.Ga,DV.h]using h
 | .str _,_,_,h=>by simpa only[DV.Ga,DV.h]using h
 | .v _,_,_,h=>by simpa only[DV.Ga,DV.h]using h
 | .On,_,_,h=>by simpa only[DV.Ga,DV.h]using h
 | .sl t l,o,_,h=>by
  cases f with
  |false=>simp[DV.Vp]at o
  |true=>simp only[DV.Ga,DV.h]at h ⊢;exact(DT.slc t).mono (s.sl rfl) h
 | .set ks,o,_,h=>by
  cases f with
  |false=>simp[DV.Vp]at o
  |true=>simp only[DV.Ga,DV.h]at h ⊢;exact DT.set.mono (s.sl rfl) h
 | .row n,_,v,h=>by
  simp only[DV.h]at h;obtain⟨e,t,l,K,rfl⟩:=h;unfold DV.Ga;cases H:y[n]? with
  |none=>simp only[DV.h]
  |some j=>have⟨F,C⟩:=s.row n j e t l H K;exact⟨e,t,l,F,by rw[C]⟩
 | .own k o,_,v,h=>by
  simp only[DV.h]at h;obtain⟨F,rfl⟩:=h;unfold DV.Ga;cases J:σ k with
  |none=>simp only[DV.h]
  |some i=>have⟨C,R⟩:=s.bx k i J F;exact⟨C,by rw[R]⟩
 | .fn g cs,o,v,h=>by simp only[DV.Ga,DV.h]at h ⊢;obtain⟨vs,rfl,h⟩:=h;exact⟨vs,rfl,OE s cs (by simpa only[DV.Vp]using o) h⟩
 | .agg xs,o,v,h=>by simp only[DV.Ga,DV.h]at h ⊢;obtain⟨vs,rfl,h⟩:=h;exact⟨vs,rfl,OE s xs (by simpa only[DV.Vp]using o) h⟩
 | .Iv xs,o,v,h=>by simp only[DV.Ga,DV.h]at h ⊢;obtain⟨vs,rfl,h⟩:=h;exact⟨vs,rfl,OE s xs (by simpa only[DV.Vp]using o) h⟩
 | .el _ _ _,_,_,_=>by simp only[DV.Ga,DV.h]
 | .re _ _ _,_,_,_=>by simp only[DV.Ga,DV.h]
 | .rt _ _,_,_,_=>by simp only[DV.Ga,DV.h]
 | .ob _,_,_,_=>by simp only[DV.Ga,DV.h]
 | .fp _ _,_,_,_=>by simp only[DV.Ga,DV.h]
 | .ra _,_,_,_=>by simp only[DV.Ga,DV.h]
 | .rs _ _,_,_,_=>by simp only[DV.Ga,DV.h]
 | .cs _ _,_,_,_=>by simp only[DV.Ga,DV.h]
 | .fns xs,o,v,h=>by simp only[DV.Vp,aD]at o;obtain⟨ad,vs,c,rfl,h,k⟩:=h;exact⟨ad,vs,c,by rw[aa0],OE s xs o.2 h,k.mono (s.sl o.1)⟩
 | .jD,_,_,_=>by simp only[DV.Ga,DV.h]
theorem OE{f}{σ}{y:List Nat}{E C:Env}(s:Tr f σ y E C):(ps:List DV)->DI f ps=true->{vs:List Value}->hL E ps vs->hL C (F1 σ y ps) vs
 |[],_,_,h=>by simpa only[F1,hL]using h
 |p::ps,o,_,h=>by simp only[DI,aD]at o;obtain⟨v,j,rfl,G,F⟩:=h;exact⟨v,j,rfl,DV.amC s p o.1 G,OE s ps o.2 F⟩
end
end Go.Vc








namespace Go.Vc
open Go Go.RowKit
structure MI(E:Env)(m:MS)(rw0:List DR):Prop where
 len:m.rs.length=rw0.length
 row:∀(n:Nat) (r:DR),rw0[n]?=some r->(∃j e t l,m.rs[n]?=some (some j)/\E.rw[j]?=some r/\r=.own e t l)\/(m.rs[n]?=some none/\∃e t,r=.own e t [])
 inj:∀(n n' j:Nat),m.rs[n]?=some (some j)->m.rs[n']?=some (some j)->n=n'
 left:∀(j:Nat),(∀n:Nat,m.rs[n]?≠some (some j))->m.rw[j]?=E.rw[j]?
 gone:∀(n j:Nat),m.rs[n]?=some (some j)->m.rw[j]?=some .dead
theorem MI.nil(E):MI E ⟨[],E.rw⟩ []:=⟨rfl,λn r h=>by simp at h,λn y j h=>by simp at h,λ_ _=>rfl,λn j h=>by simp at h⟩
theorem kK{α}{l}{x y:α}{n:Nat}(h:(l++[x])[n]?=some y):(n<l.length/\l[n]?=some y)\/(n=l.length/\x=y):=by
 rcases dO n l.length with hl|hl
 .rw[bC hl]at h;exact .inl ⟨hl,h⟩
 .have:=(aC.1 h).1;simp at this;have:n=l.length:=by omega
  subst this;simp at h;exact .inr ⟨rfl,h⟩
theorem MI.take{E}{m}{rw0:List DR}(h:MI E m rw0){j:Nat}{e:TypeId}{t:DT}{l:List t.den}(J:m.rw[j]?=some (.own e t l)):MI E ⟨m.rs++[some j],m.rw.set j .dead⟩ (rw0++[.own e t l])/\E.rw[j]?=some (.own e t l):=by
 have H:∀n:Nat,m.rs[n]?≠some (some j):=λn H=>by rw[h.gone n j H]at J;cases J
 have Y:=(h.left j H).symm.trans J;have hl:=(aC.1 J).1;refine⟨⟨by simp[h.len],λn r R=>?_,λn X k K F=>?_,λk C=>?_,λn k C=>?_⟩,Y⟩
 .rcases kK R with⟨V,R⟩|⟨rfl,rfl⟩
  .have W:(m.rs++[some j])[n]?=m.rs[n]?:=bC (by rw[h.len];exact V);simp only[W];exact h.row n r R
  .exact .inl ⟨j,e,t,l,by simp[<-h.len],Y,rfl⟩
 .rcases kK K with⟨_,K⟩|⟨W,g1⟩
  .rcases kK F with⟨_,F⟩|⟨_,g2⟩
   .exact h.inj n X k K F
   .simp only[ak]at g2;subst g2;exact absurd K (H n)
  .simp only[ak]at g1;subst g1;rcases kK F with⟨_,F⟩|⟨e2,_⟩
   .exact absurd F (H X)
   .rw[W,e2]
 .have y:k≠j:=by rintro rfl;exact C m.rs.length (by simp)
  rw[bh,ag (hZ y)];refine h.left k λn G=>C n ?_
  rw[bC (aC.1 G).1];exact G
 .by_cases y:k=j
  .subst y;rw[bh,ah rfl,ah hl]
  .rw[bh,ag (hZ y)];rcases kK C with⟨_,C⟩|⟨_,gk⟩
   .exact h.gone n k C
   .simp only[ak]at gk;exact absurd gk.symm y
theorem MI.emp{E}{m}{rw0}(h:MI E m rw0)(e:TypeId)(t:DT):MI E ⟨m.rs++[none],m.rw⟩ (rw0++[.own e t []]):=by
 have hs:∀{n j:Nat},(m.rs++[none])[n]?=some (some j)->m.rs[n]?=some (some j):=λy=>by
  rcases kK y with⟨_,y⟩|⟨_,R⟩
  .exact y
  .cases R
 refine⟨by simp[h.len],λn r F=>?_,λn H k K J=>h.inj n H k (hs K) (hs J),λk y=>?_,λn k y=>h.gone n k (hs y)⟩
 .rcases kK F with⟨G,F⟩|⟨rfl,rfl⟩
  .have V:(m.rs++[Option.none])[n]?=m.rs[n]?:=bC (by rw[h.len];exact G);simp only[V];exact h.row n r F
  .exact .inr ⟨by simp[<-h.len],e,t,rfl⟩
 .refine h.left k λn C=>y n ?_
  rw[bC (aC.1 C).1];exact C
structure TrI(am:List (Nat×Nat))(rs:List (Option Nat))(E E0:Env):Prop where
 sl:lE E.U E0.U E.w E0.w
 bx:∀k i,FG am k=some i->live E.pb i->live E0.pb k/\E0.B k=E.B i
 row:∀(n j:Nat) e t l,rs[n]?=some (some j)->E.rw[j]?=some (.own e t l)->E0.rw[n]?=some (.own e t l)/\E0.A n=E.A j
 nil:∀(n:Nat),rs[n]?=some none->(∃e t,E0.rw[n]?=some (.own e t []))/\E0.A n=(none,0)
theorem as4{E E0}(l:lE E.U E0.U E.w E0.w):∀{P:DT} {ps:List DV} {x:P.den} {vs:List Value},ofA P ps=some x->hL E ps vs->hL E0 (BW P x) vs
 | .unit,ps,x,vs,h,hv=>by
  simp only[ofA]at h;split at h
  .exact hv
  .cases h
 | .pair a b,ps,x,vs,h,hv=>by
  simp only[ofA]at h;split at h
  .split at h
   .rename_i J H G F;simp only[ak]at h;subst h;obtain⟨v,j,rfl,C,y⟩:=hv;exact⟨v,j,rfl,a.κ (DT.RF l (DT.Xe G C)),as4 l F y⟩
   .cases h
  .cases h
 | .int _,ps,x,vs,h,_=>by simp[ofA]at h
 | .bool,ps,x,vs,h,_=>by simp[ofA]at h
 | .str,ps,x,vs,h,_=>by simp[ofA]at h
 | .slc _,ps,x,vs,h,_=>by simp[ofA]at h
theorem NK.awy{n:NK}{y:Value}(h:n.is y=true):y=n.val:=by unfold NK.is at h;split at h<;>first|rfl|cases h
mutual
theorem PK.x_s{am:List (Nat×Nat)}{E:Env}:(p:PK)->(r:DT)->(u:DV)->(m:MS)->(k:MS->Option (r.den×MS))->(rw0:List DR)->(z:(p.T r).den)->(H:MS)->p.x am r u m k=some (z,H)->MI E m rw0->
 ∃z0 G F,k G=some (z0,H)/\(p.mk r z rw0).2=(z0,F)/\MI E G F/\(∃a,G.rs=m.rs++a)/\(∃b,F=rw0++b)/\∀E0 v,(∃a,H.rs=G.rs++a)->TrI am H.rs E E0->u.h E v->(p.mk r z rw0).1.h E0 v
 | .v t,r,u,m,k,rw0,z,H,h,hm=>by
  simp only[PK.x]at h;split at h
  .rename_i x y G hx K;obtain⟨rfl,rfl⟩:=h;exact⟨y,m,rw0,K,rfl,hm,⟨[],by simp⟩,⟨[],by simp⟩,λE0 v _ s C=>t.κ (DT.RF s.sl (DT.Xe hx C))⟩
  .cases h
 | .row e t,r,u,m,k,rw0,z,H,h,hm=>by
  simp only[PK.x]at h;split at h
  .rename_i j;split at h
   .rename_i e' t' xs hj;rw[gX]at hj;split at h
    .rename_i hh y G he hs K;simp only[ak,fc]at h;obtain⟨rfl,rfl⟩:=h;have he:=aF he;subst he hh;have⟨hm',hE⟩:=hm.take hj;refine⟨y,_,rw0++[.own e' t' xs],K,rfl,hm',⟨_,rfl⟩,⟨_,rfl⟩,λE0 v ⟨a,J⟩ s C=>?_⟩;have hn:G.rs[rw0.length]?=some (some j):=by rw[J];simp[<-hm.len]
     have⟨g1,g2⟩:=s.row _ _ _ _ _ hn hE;obtain⟨e2,t2,l2,R,rfl⟩:=C;rw[hE]at R;simp only[ak,DR.own.injEq]at R;obtain⟨rfl,rfl,hl2⟩:=R;cases hl2;simp only[PK.mk,DV.h];exact⟨_,_,_,g1,by rw[g2]⟩
    .cases h
   .cases h
  .split at h
   .rename_i y G K;simp only[ak,fc]at h;obtain⟨rfl,rfl⟩:=h;refine⟨y,_,rw0++[.own e t []],K,rfl,hm.emp e t,⟨_,rfl⟩,⟨_,rfl⟩,λE0 v ⟨a,J⟩ s C=>?_⟩;have hn:G.rs[rw0.length]?=some none:=by rw[J];simp[<-hm.len]
    have⟨⟨e1,t1,g1⟩,g2⟩:=s.nil _ hn;simp only[DV.h]at C;subst C;simp only[PK.mk,DV.h];exact⟨_,_,_,g1,by rw[g2];rfl⟩
   .cases h
  .cases h
 | .ptr n,r,u,m,k,rw0,z,H,h,hm=>by
  simp only[PK.x]at h;split at h
  .rename_i i o;split at h
   .rename_i i' hl;split at h
    .rename_i hb;have hb:=aF hb;subst hb;refine⟨z,m,rw0,h,rfl,hm,⟨[],by simp⟩,⟨[],by simp⟩,λE0 v _ s C=>?_⟩;simp only[DV.h]at C;obtain⟨g1,rfl⟩:=C;have⟨g2,g3⟩:=s.bx _ _ hl g1;simp only[PK.mk,DV.h];exact⟨g2,by rw[g3]⟩
    .cases h
   .cases h
  .cases h
 | .fn g l,r,u,m,k,rw0,z,H,h,hm=>by
  simp only[PK.x]at h;split at h
  .rename_i g' cs;split at h
   .rename_i hg;have hg:=aF hg;subst hg;have⟨z0,G,F,h1,h2,Y,X,W,V⟩:=TV l r cs m k rw0 z H h hm;refine⟨z0,G,F,h1,by simp only[PK.mk];exact h2,Y,X,W,λE0 v J s C=>?_⟩;simp only[DV.h]at C;obtain⟨vs,rfl,C⟩:=C;simp only[PK.mk,DV.h];exact⟨vs,rfl,V E0 _ J s C⟩
   .cases h
  .cases h
 | .agg l,r,u,m,k,rw0,z,H,h,hm=>by
  simp only[PK.x]at h;split at h
  .rename_i cs;have⟨z0,G,F,h1,h2,Y,X,W,V⟩:=TV l r cs m k rw0 z H h hm;refine⟨z0,G,F,h1,by simp only[PK.mk];exact h2,Y,X,W,λE0 v J s C=>?_⟩;simp only[DV.h]at C;obtain⟨vs,rfl,C⟩:=C;simp only[PK.mk,DV.h];exact⟨vs,rfl,V E0 _ J s C⟩
  .cases h
 | .fns l,r,u,m,k,rw0,z,H,h,hm=>by
  simp only[PK.x]at h;split at h
  .rename_i cs;have⟨z0,G,F,h1,h2,Y,X,W,V⟩:=TV l r cs m k rw0 z H h hm;refine⟨z0,G,F,h1,by simp only[PK.mk];exact h2,Y,X,W,λE0 v J s C=>?_⟩;simp only[DV.h]at C;obtain⟨ad,vs,c,rfl,C,K⟩:=C;have hh:=V E0 _ J s C;simp only[PK.mk,DV.h];exact⟨ad,vs,c,by rw[<-pI C,pI hh],hh,K.mono s.sl⟩
  .cases h
 | .nil n,r,u,m,k,rw0,z,H,h,hm=>by
  simp only[PK.x]at h;split at h
  .rename_i y;split at h
   .rename_i hb;refine⟨z,m,rw0,h,rfl,hm,⟨[],by simp⟩,⟨[],by simp⟩,λE0 v _ s C=>?_⟩;simp only[DV.h]at C;subst C;simp only[PK.mk,DV.h];exact NK.awy hb
   .cases h
  .cases h
theorem TV{am}{E}:(l:List PK)->(r:DT)->(us:List DV)->(m:MS)->(k:MS->Option (r.den×MS))->(rw0:List DR)->(z:(Jh l r).den)->(y:MS)->pkX am l r us m k=some (z,y)->MI E m rw0->
 ∃z0 C j,k C=some (z0,y)/\(G7 l r z rw0).2=(z0,j)/\MI E C j/\(∃a,C.rs=m.rs++a)/\(∃b,j=rw0++b)/\∀E0 vs,(∃a,y.rs=C.rs++a)->TrI am y.rs E E0->hL E us vs->hL E0 (G7 l r z rw0).1 vs
 |[],r,us,m,k,rw0,z,y,h,hm=>by
  simp only[pkX]at h;split at h
  .exact⟨z,m,rw0,h,rfl,hm,⟨[],by simp⟩,⟨[],by simp⟩,λE0 vs _ _ G=>by simpa only[G7,hL]using G⟩
  .cases h
 |p::l,r,us,m,k,rw0,z,y,h,hm=>by
  simp only[pkX]at h;split at h
  .rename_i u us;have⟨z0,C,j,h1,h2,h3,⟨a1,h4⟩,⟨b1,h5⟩,h6⟩:=PK.x_s p (Jh l r) u m _ rw0 z y h hm;have⟨X,Y,H,g1,g2,g3,⟨a2,V⟩,⟨b2,g5⟩,g6⟩:=TV l r us C k j z0 y h1 h3;have W:(p.mk (Jh l r) z rw0)=((p.mk (Jh l r) z rw0).1,z0,j):=by rw[<-h2]
   refine⟨X,Y,H,g1,?_,g3,⟨a1++a2,by rw[V,h4,bn]⟩,⟨b1++b2,by rw[g5,h5,bn]⟩,λE0 vs ⟨a,R⟩ s G=>?_⟩
   .simp only[G7];rw[W];simp only[g2]
   .obtain⟨v,F,rfl,K,J⟩:=G;simp only[G7];rw[W];exact⟨v,F,rfl,h6 E0 v ⟨a2++a,by rw[R,V,bn]⟩ s K,g6 E0 F ⟨a,R⟩ s J⟩
  .cases h
end
theorem amD{am}{E}:(l:List BK)->(n:Nat)->(r:DT)->(m:MS)->(k:MS->Option (r.den×MS))->(rw0:List DR)->(z:(FC l r).den)->(y:MS)->bkX am E.pb l n r m k=some (z,y)->MI E m rw0->
 ∃z0 G j,k G=some (z0,y)/\(y0 l r z rw0).2=(z0,j)/\MI E G j/\(∃a,G.rs=m.rs++a)/\(∃b,j=rw0++b)/\(y0 l r z rw0).1.length=l.length/\
  (∀(q:Nat) (C:DB),(y0 l r z rw0).1[q]?=some (some C)->∃i b,FG am (n+q)=some i/\E.pb[i]?=some (some b)/\C.ty=b.ty/\C.w=true/\∀E0,(∃a,y.rs=G.rs++a)->TrI am y.rs E E0->∀vs,hL E b.cells vs->hL E0 C.cells vs)/\
  (∀q:Nat,q<l.length->∃C,(y0 l r z rw0).1[q]?=some (some C))
 |[],n,r,m,k,rw0,z,y,h,hm=>⟨z,m,rw0,h,rfl,hm,⟨[],by simp⟩,⟨[],by simp⟩,rfl,by simp[y0],by simp⟩
 |H::l,n,r,m,k,rw0,z,y,h,hm=>by
  simp only[bkX]at h;split at h
  .rename_i i hi;split at h
   .rename_i b hb;rw[xX]at hb;split at h
    .rename_i F;have F:=aF F;have⟨z0,G,j,h1,h2,h3,⟨a1,h4⟩,⟨b1,h5⟩,h6⟩:=TV H.cells (FC l r) b.cells m _ rw0 z y h hm;have⟨R,W,J,g1,g2,g3,⟨a2,V⟩,⟨b2,g5⟩,g6,g7,g8⟩:=amD l (n+1) r G k j z0 y h1 h3;have e1:(G7 H.cells (FC l r) z rw0)=((G7 H.cells (FC l r) z rw0).1,z0,j):=by rw[<-h2]
     have e2:y0 (H::l) r z rw0=(some ⟨H.ty,(G7 H.cells (FC l r) z rw0).1,true⟩::(y0 l r z0 j).1,R,J):=by simp only[y0];rw[e1];simp only[g2]
     rw[e2];refine⟨R,W,J,g1,rfl,g3,⟨a1++a2,by rw[V,h4,bn]⟩,⟨b1++b2,by rw[g5,h5,bn]⟩,by simp[g6],λq C K=>?_,λq K=>?_⟩
     .cases q with
      |zero=>simp only[ic,ak]at K;subst K;exact⟨i,b,hi,hb,F.symm,rfl,λE0 ⟨a,ha⟩ s vs hv=>h6 E0 vs ⟨a2++a,by rw[ha,V,bn]⟩ s hv⟩
      |succ q=>have⟨i',b',k1,k2,k3,Y,X⟩:=g7 q C (by simpa using K);exact⟨i',b',by rw[show n+(q+1)=n+1+q by omega];exact k1,k2,k3,Y,X⟩
     .cases q with
      |zero=>exact⟨_,rfl⟩
      |succ q=>simpa using g8 q (by simpa using K)
    .cases h
   .cases h
  .cases h
end Go.Vc








namespace Go.Vc
open Go Go.RowKit
def Iz(a b:List Nat):Prop:=∃c,b=a++c
theorem Iz.refl(a:List Nat):Iz a a:=⟨[],by simp⟩
theorem Iz.trans{a b c:List Nat}(h:Iz a b)(k:Iz b c):Iz a c:=by obtain⟨x,rfl⟩:=h;obtain⟨y,rfl⟩:=k;exact⟨x++y,by simp⟩
theorem Iz.get{a b:List Nat}(h:Iz a b){n j:Nat}(y:a[n]?=some j):b[n]?=some j:=by obtain⟨c,rfl⟩:=h;rw[bC (aC.1 y).1];exact y
structure RO(base rwE:List DR)(ρ:List (Option Nat))(rwC:List DR)(js:List Nat):Prop where
 len:js.length=rwE.length
 row:∀(n j:Nat) (r:DR),js[n]?=some j->rwE[n]?=some r->rwC[j]?=some r
 inj:∀(n n' j:Nat),js[n]?=some j->js[n']?=some j->n=n'
 sup:∀(a j:Nat),ρ[a]?=some (some j)->rwC[j]?=some .dead/\base[j]?=some .dead/\∀n:Nat,js[n]?≠some j
 auj:∀(a b j:Nat),ρ[a]?=some (some j)->ρ[b]?=some (some j)->a=b
 old:∀j:Nat,(∀n:Nat,js[n]?≠some j)->rwC[j]?=base[j]?
 new:∀(n j:Nat),js[n]?=some j->base[j]?=some .dead\/base[j]?=none
 own:∀(n:Nat) (r:DR),rwE[n]?=some r->∃e t l,r=.own e t l
theorem RO.tail{base y}{x}{ρ}{C:List DR}{G:List Nat}(h:RO base y (x::ρ) C G):RO base y ρ C G:=⟨h.len,h.row,h.inj,λa j F=>h.sup (a+1) j (by simpa using F),λa b j F hb=>by have:=h.auj (a+1) (b+1) j (by simpa using F) (by simpa using hb);omega,h.old,h.new,h.own⟩
theorem RO.lt{base C}{ρ}{y}{F:List Nat}(h:RO base C ρ y F){n j:Nat}(G:F[n]?=some j):j<y.length:=by have hl:=(aC.1 G).1;rw[h.len]at hl;exact(aC.1 (h.row n j _ G (aw hl))).1
theorem RO.put{base J}{ρ}{K C}{R}(h:RO base J ρ K R){j:Nat}{e:TypeId}{t:DT}{l:List t.den}(hn:∀n:Nat,R[n]?≠some j)(hj:C[j]?=some (.own e t l))(ho:∀k:Nat,k≠j->C[k]?=K[k]?)
 (hb:base[j]?=some .dead\/base[j]?=none) (hs:∀a:Nat,ρ[a]?≠some (some j)):RO base (J++[.own e t l]) ρ C (R++[j]):=by
 have ne:∀{n k:Nat},R[n]?=some k->k≠j:=λH=>by rintro rfl;exact hn _ H
 refine⟨by simp[h.len],λn k r G W=>?_,λn n' k G W=>?_,λa k X=>?_,h.auj,λk H=>?_,λn k G=>?_,λn r G=>?_⟩
 .rcases kK G with⟨g0,g1⟩|⟨g0,g1⟩
  .rcases kK W with⟨_,y⟩|⟨y,_⟩
   .rw[ho k (ne g1)];exact h.row n k r g1 y
   .have:=h.len;omega
  .rcases kK W with⟨y,_⟩|⟨_,y⟩
   .have:=h.len;omega
   .subst g1 y;exact hj
 .rcases kK G with⟨_,g1⟩|⟨g0,g1⟩
  .rcases kK W with⟨_,y⟩|⟨_,y⟩
   .exact h.inj n n' k g1 y
   .exact absurd y.symm (ne g1)
  .rcases kK W with⟨_,y⟩|⟨Y,_⟩
   .exact absurd g1.symm (ne y)
   .omega
 .have⟨g1,y,Y⟩:=h.sup a k X;have F:k≠j:=by rintro rfl;exact hs a X
  refine⟨by rw[ho k F];exact g1,y,λn H=>?_⟩;rcases kK H with⟨_,g⟩|⟨_,g⟩
  .exact Y n g
  .exact F g.symm
 .have F:k≠j:=by rintro rfl;exact H R.length (by simp)
  rw[ho k F];refine h.old k λn V=>H n ?_
  rw[bC (aC.1 V).1];exact V
 .rcases kK G with⟨_,g⟩|⟨_,g⟩
  .exact h.new n k g
  .subst g;exact hb
 .rcases kK G with⟨_,g⟩|⟨_,g⟩
  .exact h.own n r g
  .exact⟨e,t,l,g.symm⟩
section
variable {β : Type} {q : β} {σ : Nat -> Option Nat} {base : List DR}
theorem amE{ρ:List (Option Nat)}{e:TypeId}{t:DT}{l:List t.den}{C F:List DR}{H:List Nat}{K:DV->List (Option Nat)->List DR->Option β}(h:apS ρ e t l C K=some q)(ro:RO base F ρ C H):
 ∃j ρ' y,K (.row j) ρ' y=some q/\RO base (F++[.own e t l]) ρ' y (H++[j]):=by
 have G:∀ρ',RO base F ρ' C H->K (.row C.length) ρ' (C++[.own e t l])=some q->∃j ρ' y,K (.row j) ρ' y=some q/\RO base (F++[.own e t l]) ρ' y (H++[j]):=λρ' ro h=>by
  have J:∀n:Nat,H[n]?≠some C.length:=λn J=>by have:=ro.lt J;omega
  refine⟨_,ρ',_,h,ro.put J (by simp) (λk V=>?_) (.inr ?_) λa R=>?_⟩
  .rcases dO k C.length with hl|hl
   .rw[bC hl]
   .rw[bD (by simp;omega),bD hl]
  .rw[<-ro.old _ J,bD (au _)]
  .have:=(ro.sup a _ R).1;rw[bD (au _)]at this;cases this
 unfold apS at h;split at h
 .rename_i j ρ';rw[kF]at h;have⟨g1,X,W⟩:=ro.sup 0 j rfl;have hl:=(aC.1 g1).1;refine⟨j,ρ',_,h,ro.tail.put W (by rw[bh,ah rfl,ah hl]) (λk V=>by rw[bh,ag (hZ V)]) (.inl X) λa R=>?_⟩;have:=ro.auj 0 (a+1) j rfl (by simpa using R);omega
 .rename_i ρ';rw[q9,xw]at h;exact G _ ro.tail h
 .rw[q9,xw]at h;exact G _ ro h
theorem IA(j):(t:DT)->(x:t.den)->(r:List DV)->F1 σ j (t.cells x r)=t.cells x (F1 σ j r)
 | .int _,_,_ | .bool,_,_ | .str,_,_ | .slc _,_,_ | .set,_,_ | .unit,_,_=>rfl
 | .pair a b,x,r=>by simp only[DT.cells,IA j a,IA j b]
theorem agb(j:List Nat):(t:DT)->(x:t.den)->(t.val x).Ga σ j=t.val x
 | .int _,_ | .bool,_ | .str,_ | .slc _,_ | .set,_ | .unit,_=>rfl
 | .pair a b,x=>by simp only[DT.val,DV.Ga,IA j a,IA j b];rfl
theorem agc{y:List Nat}{n j:Nat}(h:y[n]?=some j):(DV.row n).Ga σ y=.row j:=by simp only[DV.Ga,h]
mutual
theorem PK.o_s:(p:PK)->(r:DT)->(z:(p.T r).den)->(ρ:List (Option Nat))->(C:List DR)->(K:DV->r.den->List (Option Nat)->List DR->Option β)->(F:List DR)->(J:List Nat)->p.o σ r z ρ C K=some q->RO base F ρ C J->
 ∃d ρ' y H,K d (p.mk r z F).2.1 ρ' y=some q/\RO base (p.mk r z F).2.2 ρ' y H/\Iz J H/\∀G,Iz H G->d=(p.mk r z F).1.Ga σ G
 | .v t,r,z,ρ,C,K,F,J,h,ro=>⟨_,ρ,C,J,h,ro,Iz.refl _,λG _=>(agb G t z.1).symm⟩
 | .row e t,r,z,ρ,C,K,F,J,h,ro=>by simp only[PK.o]at h;have⟨j,ρ',y,W,V⟩:=amE h ro;exact⟨_,ρ',y,_,W,V,⟨[j],rfl⟩,λG R=>(agc (R.get (by rw[<-ro.len];simp))).symm⟩
 | .ptr k,r,z,ρ,C,K,F,J,h,ro=>by
  simp only[PK.o]at h;split at h
  .rename_i i hi;exact⟨_,ρ,C,J,h,ro,Iz.refl _,λG _=>by simp only[PK.mk,DV.Ga,hi]⟩
  .cases h
 | .fn g l,r,z,ρ,C,K,F,J,h,ro=>by simp only[PK.o]at h;have⟨ds,ρ',y,H,W,V,Y,X⟩:=aa1 l r z ρ C _ F J h ro;exact⟨_,ρ',y,H,W,V,Y,λG R=>by simp only[PK.mk,DV.Ga,X G R]⟩
 | .agg l,r,z,ρ,C,K,F,J,h,ro=>by simp only[PK.o]at h;have⟨ds,ρ',y,H,W,V,Y,X⟩:=aa1 l r z ρ C _ F J h ro;exact⟨_,ρ',y,H,W,V,Y,λG R=>by simp only[PK.mk,DV.Ga,X G R]⟩
 | .fns l,r,z,ρ,C,K,F,J,h,ro=>by simp only[PK.o]at h;have⟨ds,ρ',y,H,W,V,Y,X⟩:=aa1 l r z ρ C _ F J h ro;exact⟨_,ρ',y,H,W,V,Y,λG R=>by simp only[PK.mk,DV.Ga,X G R]⟩
 | .nil n,r,z,ρ,C,K,F,J,h,ro=>⟨_,ρ,C,J,h,ro,Iz.refl _,λG _=>rfl⟩
theorem aa1:(l:List PK)->(r:DT)->(z:(Jh l r).den)->(ρ:List (Option Nat))->(y:List DR)->(K:List DV->r.den->List (Option Nat)->List DR->Option β)->(j:List DR)->(H:List Nat)->pkO σ l r z ρ y K=some q->RO base j ρ y H->
 ∃V ρ' F G,K V (G7 l r z j).2.1 ρ' F=some q/\RO base (G7 l r z j).2.2 ρ' F G/\Iz H G/\∀C,Iz G C->V=F1 σ C (G7 l r z j).1
 |[],r,z,ρ,y,K,j,H,h,ro=>⟨[],ρ,y,H,h,ro,Iz.refl _,λ_ _=>rfl⟩
 |p::l,r,z,ρ,y,K,j,H,h,ro=>by simp only[pkO]at h;have⟨d,ρ1,R,X,h1,h2,h3,h4⟩:=PK.o_s p (Jh l r) z ρ y _ j H h ro;have⟨V,ρ2,J,W,g1,g2,g3,g4⟩:=aa1 l r _ ρ1 R _ _ X h1 h2;exact⟨d::V,ρ2,J,W,g1,g2,h3.trans g3,λC Y=>by simp only[G7,F1,<-h4 C (g3.trans Y),<-g4 C Y]⟩
end
mutual
theorem QT.o_s:(Q:QT)->(x:Q.den)->(ρ:List (Option Nat))->(y:List DR)->(K:DV->List (Option Nat)->List DR->Option β)->(F:List DR)->(H:List Nat)->Q.o σ x ρ y K=some q->RO base F ρ y H->
 ∃d ρ' G J,K d ρ' G=some q/\RO base (Q.mk x F).2 ρ' G J/\Iz H J/\∀C,Iz J C->d=(Q.mk x F).1.Ga σ C
 | .v t,x,ρ,y,K,F,H,h,ro=>⟨_,ρ,y,H,h,ro,Iz.refl _,λC _=>(agb C t x).symm⟩
 | .own e t,x,ρ,y,K,F,H,h,ro=>by simp only[QT.o]at h;have⟨j,ρ',G,h1,h2⟩:=amE h ro;exact⟨_,ρ',G,_,h1,h2,⟨[j],rfl⟩,λC W=>(agc (W.get (by rw[<-ro.len];simp))).symm⟩
 | .ptr k,x,ρ,y,K,F,H,h,ro=>by
  simp only[QT.o]at h;split at h
  .rename_i i hi;exact⟨_,ρ,y,H,h,ro,Iz.refl _,λC _=>by simp only[QT.mk,DV.Ga,hi]⟩
  .cases h
 | .nil n,x,ρ,y,K,F,H,h,ro=>⟨_,ρ,y,H,h,ro,Iz.refl _,λC _=>rfl⟩
 | .unit,x,ρ,y,K,F,H,h,ro=>⟨_,ρ,y,H,h,ro,Iz.refl _,λC _=>rfl⟩
 | .pair a b,x,ρ,y,K,F,H,h,ro=>by simp only[QT.o]at h;have⟨d,ρ1,V,Y,h1,h2,h3,h4⟩:=QT.o_s a x.1 ρ y _ F H h ro;have⟨ds,ρ2,R,X,g1,g2,g3,g4⟩:=QT.awz b x.2 ρ1 V _ _ Y h1 h2;exact⟨_,ρ2,R,X,g1,g2,h3.trans g3,λC W=>by simp only[QT.mk,DV.Ga,F1,<-h4 C (g3.trans W),<-g4 C W]⟩
theorem QT.awz:(Q:QT)->(x:Q.den)->(ρ:List (Option Nat))->(j:List DR)->(K:List DV->List (Option Nat)->List DR->Option β)->(y:List DR)->(F:List Nat)->Q.os σ x ρ j K=some q->RO base y ρ j F->
 ∃X ρ' G H,K X ρ' G=some q/\RO base (Q.mks x y).2 ρ' G H/\Iz F H/\∀C,Iz H C->X=F1 σ C (Q.mks x y).1
 | .v t,x,ρ,j,K,y,F,h,ro=>⟨_,ρ,j,F,h,ro,Iz.refl _,λC _=>rfl⟩
 | .own e t,x,ρ,j,K,y,F,h,ro=>⟨_,ρ,j,F,h,ro,Iz.refl _,λC _=>rfl⟩
 | .ptr k,x,ρ,j,K,y,F,h,ro=>⟨_,ρ,j,F,h,ro,Iz.refl _,λC _=>rfl⟩
 | .nil n,x,ρ,j,K,y,F,h,ro=>⟨_,ρ,j,F,h,ro,Iz.refl _,λC _=>rfl⟩
 | .unit,x,ρ,j,K,y,F,h,ro=>⟨_,ρ,j,F,h,ro,Iz.refl _,λC _=>rfl⟩
 | .pair a b,x,ρ,j,K,y,F,h,ro=>by simp only[QT.os]at h;have⟨d,ρ1,R,W,h1,h2,h3,h4⟩:=QT.o_s a x.1 ρ j _ y F h ro;have⟨X,ρ2,J,V,g1,g2,g3,g4⟩:=QT.awz b x.2 ρ1 R _ _ W h1 h2;exact⟨_,ρ2,J,V,g1,g2,h3.trans g3,λC Y=>by simp only[QT.mks,F1,<-h4 C (g3.trans Y),<-g4 C Y]⟩
end
theorem amF{m:Nat}(hσ:∀(k k' i:Nat),σ k=some i->σ k'=some i->k=k'):(l:List BK)->(n:Nat)->(r:DT)->(z:(FC l r).den)->(ρ:List (Option Nat))->(pb:im)->(R:List DR)->(K:r.den->List (Option Nat)->im->List DR->Option β)->(y:List DR)->(js:List Nat)->
 bkO σ m l n r z ρ pb R K=some q->RO base y ρ R js->(∀k i,k<m->σ k=some i->i<pb.length)->(∀k,m<=k->n<=k->σ k=some (pb.length+(k-max n m)))->
 ∃ρ' pb' aw0 js',K (y0 l r z y).2.1 ρ' pb' aw0=some q/\RO base (y0 l r z y).2.2 ρ' aw0 js'/\Iz js js'/\(∀i,i<pb.length->(∀k,n<=k->k<m->σ k≠some i)->pb'[i]?=pb[i]?)/\(∀k b1 i,(y0 l r z y).1[k]?=some (some b1)->σ (n+k)=some i->∀J,Iz js' J->pb'[i]?=some (some ⟨b1.ty,F1 σ J b1.cells,true⟩))/\(∀i,i<pb'.length->i<pb.length\/∃k,k<l.length/\m<=n+k/\σ (n+k)=some i)/\(∀i,i<pb.length->live pb i->live pb' i)/\(∀k i,n<=k->k<n+l.length->k<m->σ k=some i->live pb' i)
 |[],n,r,z,ρ,pb,R,K,y,js,h,ro,h1,h2=>⟨ρ,pb,R,js,h,ro,Iz.refl _,λ_ _ _=>rfl,λk b1 i C=>by simp[y0]at C,λi hi=>.inl hi,λ_ _ h=>h,λk i a b=>by simp at b;omega⟩
 |W::l,n,r,z,ρ,pb,R,K,y,js,h,ro,h1,h2=>by
  simp only[bkO]at h;have⟨ds,ρ1,Y,js1,h3,h4,h5,h6⟩:=aa1 W.cells (FC l r) z ρ R _ y js h ro;have e2:y0 (W::l) r z y=(some ⟨W.ty,(G7 W.cells (FC l r) z y).1,true⟩::(y0 l r (G7 W.cells (FC l r) z y).2.1 (G7 W.cells (FC l r) z y).2.2).1,(y0 l r (G7 W.cells (FC l r) z y).2.1 (G7 W.cells (FC l r) z y).2.2).2.1,(y0 l r (G7 W.cells (FC l r) z y).2.1 (G7 W.cells (FC l r) z y).2.2).2.2):=rfl;rw[e2];split at h3
  .rename_i H;have H:=bP H;split at h3
   .rename_i i hi;rw[kF]at h3;have X:=h1 n i (by omega) hi;have⟨ρ2,Zt,V,js2,g1,g2,g3,g4,g5,g6,g7,g8⟩:=amF hσ l (n+1) r _ ρ1 _ Y K _ js1 h3 h4 (λk F C j=>by simpa using h1 k F C j) (λk C j=>by rw[h2 k C (by omega)];simp;omega);refine⟨ρ2,Zt,V,js2,g1,g2,h5.trans g3,λF G hno=>?_,λk b1 F C j J hp=>?_,λF G=>?_,λF G hl=>?_,λk F ha hb hm C=>?_⟩
    .rw[g4 F (by simpa using G) λk C j=>hno k (by omega) j,bh,ag];rintro rfl;exact hno n (au _) (by omega) hi
    .cases k with
     |zero=>simp only[ic,ak]at C;subst C;rw[jh,hi]at j;simp only[ak]at j;subst j;rw[g4 i (by simpa using X) λk C j hk2=>by have:=hσ _ _ _ hk2 hi;omega,bh,ah rfl,ah X,h6 J (g3.trans hp)]
     |succ k=>exact g5 k b1 F (by simpa using C) (by rw[show n+1+k=n+(k+1)by omega];exact j) J hp
    .rcases g6 F G with h'|⟨k,k1,k2,k3⟩
     .exact .inl (by simpa using h')
     .exact .inr ⟨k+1,by simp;omega,by omega,by rw[show n+(k+1)=n+1+k by omega];exact k3⟩
    .refine g7 F (by simpa using G) ?_;have⟨b,hb⟩:=hl;unfold live;rw[bh];split
     .rename_i e;subst e;exact⟨_,rfl⟩
     .exact⟨b,hb⟩
    .by_cases hkn:k=n
     .subst hkn;rw[hi]at C;simp only[ak]at C;subst C;refine g7 i (by simpa using X) ?_;unfold live;rw[bh,ah rfl,ah X];exact⟨_,rfl⟩
     .exact g8 k F (by omega) (by simp at hb;omega) hm C
   .cases h3
  .rename_i H
   have H:m<=n:=by
    rcases dO n m with h'|h'
    .have:=gU h';simp only[Nat.blt]at H;rw[this]at H;cases H
    .exact h'
   rw[q9]at h3;have hsn:σ n=some pb.length:=by have:=h2 n H (au _);rw[Nat.max_eq_left H]at this;simpa using this
   have⟨ρ2,Zt,V,js2,g1,g2,g3,g4,g5,g6,g7,g8⟩:=amF hσ l (n+1) r _ ρ1 _ Y K _ js1 h3 h4 (λk F C j=>by have:=h1 k F C j;simp;omega) (λk C j=>by rw[h2 k C (by omega)];simp;omega);refine⟨ρ2,Zt,V,js2,g1,g2,h5.trans g3,λF G hno=>?_,λk b1 F C j J hp=>?_,λF G=>?_,λF G hl=>?_,λk F ha hb hm C=>by omega⟩
   .rw[g4 F (by simp;omega) λk C j=>by omega,bC G]
   .cases k with
    |zero=>simp only[ic,ak]at C;subst C;rw[jh,hsn]at j;simp only[ak]at j;subst j;rw[g4 pb.length (by simp) λk C j=>by omega,h6 J (g3.trans hp)];simp
    |succ k=>exact g5 k b1 F (by simpa using C) (by rw[show n+1+k=n+(k+1)by omega];exact j) J hp
   .rcases g6 F G with h'|⟨k,k1,k2,k3⟩
    .rcases dO F pb.length with hl|hl
     .exact .inl hl
     .have:F=pb.length:=by simp at h';omega
      subst this;exact .inr ⟨0,by simp,by omega,by simpa using hsn⟩
    .exact .inr ⟨k+1,by simp;omega,by omega,by rw[show n+(k+1)=n+1+k by omega];exact k3⟩
   .refine g7 F (by simp;omega) ?_;have⟨b,hb⟩:=hl;exact⟨b,by rw[bC G];exact hb⟩
end
end Go.Vc








namespace Go.Vc
open Go Go.RowKit
mutual
theorem DV.TW:(p:DV)->p.Vp true=true
 | .fn _ cs=>by simp only[DV.Vp];exact zO cs
 | .agg cs=>by simp only[DV.Vp];exact zO cs
 | .Iv cs=>by simp only[DV.Vp];exact zO cs
 | .fns cs=>by simp only[DV.Vp,Bool.true_and];exact zO cs
 | .sl _ _ | .cs _ _ | .set _ | .int _ _ | .bool _ | .lit _ | .str _ | .v _ | .On | .row _ | .el _ _ _ | .re _ _ _ | .rt _ _ | .ob _ | .own _ _ | .fp _ _ | .ra _ | .rs _ _ | .jD=>rfl
theorem zO:(ps:List DV)->DI true ps=true
 |[]=>rfl
 |p::ps=>by simp only[DI,DV.TW p,zO ps];rfl
end
theorem IB{f}:(t:DT)->(x:t.den)->(r:List DV)->t.free=true->DI f r=true->DI f (t.cells x r)=true
 | .int _,_,r,_,h | .bool,_,r,_,h | .str,_,r,_,h=>by simp only[DT.cells,DI,DV.Vp];exact h
 | .slc _,_,_,h,_=>by cases h
 | .set,_,_,h,_=>by cases h
 | .unit,_,r,_,h=>h
 | .pair a b,x,r,j,h=>by simp only[DT.free,aD]at j;exact IB a _ _ j.1 (IB b _ _ j.2 h)
theorem agd{f}:(t:DT)->(x:t.den)->t.free=true->(t.val x).Vp f=true
 | .int _,_,_ | .bool,_,_ | .str,_,_ | .unit,_,_=>rfl
 | .slc _,_,h=>by cases h
 | .set,_,h=>by cases h
 | .pair a b,x,j=>by simp only[DT.free,aD]at j;exact IB a _ _ j.1 (IB b _ _ j.2 rfl)
def sB(rw:List DR):Prop:=∀(n:Nat) e t l,rw[n]?=some (.own e t l)->t.free=true
theorem sB.snoc{rw}(h:sB rw){e}{t}(l)(y:t.free=true):sB (rw++[.own e t l]):=by
 intro n F j l' C;rcases kK C with⟨_,g⟩|⟨_,g⟩
 .exact h n F j l' g
 .obtain⟨_,rfl,_⟩:=g;exact y
mutual
theorem PK.JZ:(p:PK)->(r:DT)->(z:(p.T r).den)->(rw:List DR)->p.free=true->sB rw->(p.mk r z rw).1.Vp false=true/\sB (p.mk r z rw).2.2
 | .v t,r,z,rw,h,j=>⟨agd t _ (by simpa only[PK.free]using h),j⟩
 | .row e t,r,z,rw,h,j=>⟨rfl,j.snoc _ (by simpa only[PK.free]using h)⟩
 | .ptr k,r,z,rw,h,j=>⟨rfl,j⟩
 | .fn g l,r,z,rw,h,j=>by simp only[PK.mk,DV.Vp];exact RG l r z rw (by simpa only[PK.free]using h) j
 | .agg l,r,z,rw,h,j=>by simp only[PK.mk,DV.Vp];exact RG l r z rw (by simpa only[PK.free]using h) j
 | .fns l,r,z,rw,h,j=>by simp only[PK.free]at h;cases h
 | .nil n,r,z,rw,h,j=>⟨rfl,j⟩
theorem RG:(l:List PK)->(r:DT)->(z:(Jh l r).den)->(rw:List DR)->Ot l=true->sB rw->DI false (G7 l r z rw).1=true/\sB (G7 l r z rw).2.2
 |[],r,z,rw,_,j=>⟨rfl,j⟩
 |p::l,r,z,rw,h,j=>by simp only[Ot,aD]at h;have⟨G,F⟩:=PK.JZ p (Jh l r) z rw h.1 j;obtain⟨C,y⟩:=RG l r _ _ h.2 F;exact⟨by simp only[G7,DI,G,C,Bool.and_self],y⟩
end
theorem age:(l:List BK)->(r:DT)->(z:(FC l r).den)->(rw:List DR)->Tw l=true->sB rw->(∀(k:Nat) b,(y0 l r z rw).1[k]?=some (some b)->DI false b.cells=true)/\sB (y0 l r z rw).2.2
 |[],r,z,rw,_,y=>⟨λk b h=>by simp[y0]at h,y⟩
 |J::l,r,z,rw,h,y=>by
  simp only[Tw,aD]at h;have⟨H,G⟩:=RG J.cells (FC l r) z rw h.1 y;obtain⟨F,C⟩:=age l r _ _ h.2 G;refine⟨λk b j=>?_,C⟩;simp only[y0]at j;cases k with
  |zero=>simp only[ic,ak]at j;subst j;exact H
  |succ k=>exact F k b (by simpa using j)
mutual
theorem QT.JZ:(Q:QT)->(x:Q.den)->(rw:List DR)->Q.free=true->sB rw->(Q.mk x rw).1.Vp false=true/\sB (Q.mk x rw).2
 | .v t,x,rw,h,j=>⟨agd t _ h,j⟩
 | .own e t,x,rw,h,j=>⟨rfl,j.snoc _ h⟩
 | .ptr k,x,rw,h,j=>⟨rfl,j⟩
 | .nil n,x,rw,h,j=>⟨rfl,j⟩
 | .unit,x,rw,h,j=>⟨rfl,j⟩
 | .pair a b,x,rw,h,j=>by simp only[QT.free,aD]at h;have⟨G,F⟩:=QT.JZ a x.1 rw h.1 j;have⟨C,y⟩:=QT.agf b x.2 _ h.2 F;exact⟨by simp only[QT.mk,DV.Vp,DI,G,C,Bool.and_self],y⟩
theorem QT.agf:(Q:QT)->(x:Q.den)->(rw:List DR)->Q.free=true->sB rw->DI false (Q.mks x rw).1=true/\sB (Q.mks x rw).2
 | .v t,x,rw,h,j=>⟨rfl,j⟩
 | .own e t,x,rw,h,j=>⟨rfl,j⟩
 | .ptr k,x,rw,h,j=>⟨rfl,j⟩
 | .nil n,x,rw,h,j=>⟨rfl,j⟩
 | .unit,x,rw,h,j=>⟨rfl,j⟩
 | .pair a b,x,rw,h,j=>by simp only[QT.free,aD]at h;have⟨G,F⟩:=QT.JZ a x.1 rw h.1 j;have⟨C,y⟩:=QT.agf b x.2 _ h.2 F;exact⟨by simp only[QT.mks,DI,G,C,Bool.and_self],y⟩
end
open Classical in
noncomputable def OF(B B1:Nat->Nat)(AF:im)(σ:Nat->Option Nat):Nat->Nat:=λi=>if h:∃k,live AF k/\σ k=some i then B1 (Classical.choose h)else B i
open Classical in
noncomputable def QO(A A1:yH)(js:List Nat):yH:=λj=>if h:∃n:Nat,js[n]?=some j then A1 (Classical.choose h)else A j
theorem Mu{B B1}{AF}{σ}(C:∀(k j i:Nat),σ k=some i->σ j=some i->k=j){k i}(hl:live AF k)(y:σ k=some i):OF B B1 AF σ i=B1 k:=by have h:∃k,live AF k/\σ k=some i:=⟨k,hl,y⟩;unfold OF;rw[zF h,C _ _ _ (Classical.choose_spec h).2 y]
theorem agh{B B1}{AF}{σ}{i}(h:¬ ∃k,live AF k/\σ k=some i):OF B B1 AF σ i=B i:=by unfold OF;rw[dif_neg h]
theorem TX{A A1}{js}(hi:∀(n y j:Nat),js[n]?=some j->js[y]?=some j->n=y){n j}(C:js[n]?=some j):QO A A1 js j=A1 n:=by have h:∃n:Nat,js[n]?=some j:=⟨n,C⟩;unfold QO;rw[zF h,hi _ _ _ (Classical.choose_spec h) C]
theorem Mv{A A1}{js}{j}(h:¬ ∃n:Nat,js[n]?=some j):QO A A1 js j=A j:=by unfold QO;rw[dif_neg h]
section
variable {V : World} {U0 L : Nat -> Prop} {al : Nat -> Bool} {B B1 : Nat -> Nat} {A A1 : yH} {pb pb0 AF pbF : im} {rw rw0 F' rwF base : List DR} {w w' : World} {σ0 σ : Nat -> Option Nat} {rs ρ : List (Option Nat)} {js : List Nat} {bor : Nat -> Prop}
theorem Mem.back(f)(fr)(m:Mem V U0 L B A pb rw w)
 (ayf:∀(n b:Nat),iN (lB B σ0) (lA A rs) pb0 rw0 true n b->∃j:Nat,rs[n]?=some (some j)/\iN B A pb rw true j b)
 (hbx:∀k b,iN (lB B σ0) (lA A rs) pb0 rw0 false k b->∃i,σ0 k=some i/\iN B A pb rw false i b)
 (hal:∀k i,σ0 k=some i->al i=true)
 (m1:Mem w (lU (Us U0 B A pb rw) B A rw (Ow (lB B σ0) (lA A rs) pb0 rw0) bor) (Ow (lB B σ0) (lA A rs) pb0 rw0) B1 A1 AF F' w')
 (amG:∀i,live pb0 i->live AF i/\B1 i=lB B σ0 i)
 (hσ:∀(k k' i:Nat),σ k=some i->σ k'=some i->k=k') (_:∀k i,live pb0 k->σ0 k=some i->σ k=some i) (hσl:∀k i,σ0 k=some i->live pb0 k)
 (hσn:∀k i,live AF k->σ k=some i->σ0 k=some i\/¬live pb i)
 (hpb:∀(i:Nat) (b':DB),pbF[i]?=some (some b')->(∃(k:Nat) (b1:DB),σ k=some i/\AF[k]?=some (some b1)/\b'.ty=b1.ty/\b'.cells=F1 σ js b1.cells/\b'.w=true)\/((∀k,σ k=some i->¬live AF k)/\(∀k,σ0 k≠some i)/\∃b,pb[i]?=some (some b)/\b'=⟨b.ty,zp f b.cells,b.w⟩))
 (hpl:∀i,live pb i->live pbF i) (hlF:∀k i,σ k=some i->live AF k->live pbF i) (ro:RO base F' ρ rwF js)
 (hb1:∀j:Nat,(∀n:Nat,rs[n]?≠some (some j))->base[j]?=rw[j]?) (hb2:∀n j:Nat,rs[n]?=some (some j)->base[j]?=some .dead)
 (hf:∀j,f j=none->∀n:Nat,rs[n]?≠some (some j)) (hfj:∀j p,f j=some p->p=.jD)
 (hfr:fr=true->∀j,¬bor j) (hok:∀(k:Nat) b,AF[k]?=some (some b)->DI fr b.cells=true) (ayg:fr=false->sB F'):
 Mem V U0 L (OF B B1 AF σ) (QO A A1 js) pbF rwF w'/\Sub f (env U0 B A pb rw w) (env U0 (OF B B1 AF σ) (QO A A1 js) pbF rwF w')/\Ext al B A pb rw w (OF B B1 AF σ) (QO A A1 js) pbF rwF w'/\Tr fr σ js (env (lU (Us U0 B A pb rw) B A rw (Ow (lB B σ0) (lA A rs) pb0 rw0) bor) B1 A1 AF F' w') (env U0 (OF B B1 AF σ) (QO A A1 js) pbF rwF w'):=by
 generalize hL0:Ow (lB B σ0) (lA A rs) pb0 rw0=L0 at*
 have L0s:∀b,L0 b->(∃k i,σ0 k=some i/\iN B A pb rw false i b)\/∃n j:Nat,rs[n]?=some (some j)/\iN B A pb rw true j b:=by
  intro b hb;rw[<-hL0]at hb;have⟨k,i,hb⟩:=hb;cases k with
  |true=>have⟨j,W,G⟩:=ayf i b hb;exact .inr ⟨i,j,W,G⟩
  |false=>have⟨j,W,G⟩:=hbx i b hb;exact .inl ⟨i,j,W,G⟩
 have L0w:∀b,L0 b->Wr al B A pb rw b:=λb hb=>by
  rcases L0s b hb with⟨k,i,W,G⟩|⟨n,j,_,G⟩
  .exact .inl ⟨i,hal k i W,G⟩
  .exact .inr ⟨j,G⟩
 have L0o:∀b,L0 b->∃k i,iN B A pb rw k i b:=λb hb=>by
  rcases L0s b hb with⟨k,i,W,G⟩|⟨n,j,_,G⟩
  .exact⟨_,i,G⟩
  .exact⟨_,j,G⟩
 have amH:∀j:Nat,(¬ ∃n:Nat,js[n]?=some j)->rwF[j]?=base[j]?:=λj h=>ro.old j λn C=>h ⟨n,C⟩
 have as5:∀j r,rw[j]?=some r->r≠.dead->(∀n:Nat,rs[n]?≠some (some j))->¬ ∃n:Nat,js[n]?=some j:=by
  rintro j r W G h3 ⟨n,C⟩;have:=hb1 j h3;rw[W]at this;rcases ro.new n j C with h|h
  .rw[this]at h;simp at h;exact G h
  .rw[this]at h;cases h
 have cl:∀k i b,iN (OF B B1 AF σ) (QO A A1 js) pbF rwF k i b->(∃i1,iN B1 A1 AF F' k i1 b/\((k=false/\σ i1=some i)\/(k=true/\js[i1]?=some i)))\/(iN B A pb rw k i b/\¬L0 b):=by
  intro k i b h;cases k with
  |false=>
   have⟨⟨b',g1⟩,g2⟩:=h;rcases hpb i b' g1 with⟨k1,b1,W,G,_⟩|⟨h0,W,b0,G,_⟩
   .rw[Mu hσ ⟨b1,G⟩ W]at g2;exact .inl ⟨k1,⟨⟨b1,G⟩,g2⟩,.inl ⟨rfl,W⟩⟩
   .rw[agh (by rintro⟨k,hk1,hk2⟩;exact h0 k hk2 hk1)]at g2;have y:iN B A pb rw false i b:=⟨⟨b0,G⟩,g2⟩;refine .inr ⟨y,λhL=>?_⟩;rcases L0s b hL with⟨k,i',e1,Y⟩|⟨n,j,_,Y⟩
    .have:=(m.inj _ _ _ _ _ y Y).2;subst this;exact W k e1
    .have:=(m.inj _ _ _ _ _ y Y).1;cases this
  |true=>
   have⟨r,ad,g1,g2,g3,g4⟩:=h;by_cases hh:∃n:Nat,js[n]?=some i
   .have⟨n,C⟩:=hh;have hl:=(aC.1 C).1;rw[ro.len]at hl;have J:=aw hl;have:=ro.row n i _ C J;rw[g1]at this;simp only[ak]at this;subst this;rw[TX ro.inj C]at g3;exact .inl ⟨n,⟨_,ad,J,g2,g3,g4⟩,.inr ⟨rfl,C⟩⟩
   .rw[amH i hh]at g1;have F:∀n:Nat,rs[n]?≠some (some i):=λn C=>by rw[hb2 n i C]at g1;simp at g1;exact g2 g1.symm
    rw[hb1 i F]at g1;rw[Mv hh]at g3;have y:iN B A pb rw true i b:=⟨r,ad,g1,g2,g3,g4⟩;refine .inr ⟨y,λhL=>?_⟩;rcases L0s b hL with⟨k,i',e1,Y⟩|⟨n,j,e1,Y⟩
    .have:=(m.inj _ _ _ _ _ y Y).1;cases this
    .have:=(m.inj _ _ _ _ _ y Y).2;subst this;exact F n e1
 have agi:∀b,b<w.heap.size->¬L0 b->w'.heap[b]?=w.heap[b]?:=λb hb C=>m1.same b hb C
 have lt:fr=true->lE (Us (lU (Us U0 B A pb rw) B A rw L0 bor) B1 A1 AF F') (Us U0 (OF B B1 AF σ) (QO A A1 js) pbF rwF) w' w':=λaqn=>⟨λ_ _ _=>rfl,au _,λb _ hu=>by
  have u1:∀b,Us U0 B A pb rw b->¬L0 b->lU (Us U0 B A pb rw) B A rw L0 bor b:=λb W G=>⟨W,G,λ⟨j,K,_⟩=>hfr aqn j K⟩
  rcases hu with hu|⟨k,i,hu⟩
  .refine .inl (u1 b (.inl hu) λhL=>?_);have⟨k,i,hb⟩:=L0o b hL;have:=m.u0 b hu;rcases(m.low k i b hb).2 with h|h
   .omega
   .exact this.2 h
  .rcases cl k i b hu with⟨i1,h,_⟩|⟨h,C⟩
   .exact .inr ⟨k,i1,h⟩
   .exact .inl (u1 b (.inr ⟨k,i,h⟩) C)⟩
 have tr:Tr fr σ js (env (lU (Us U0 B A pb rw) B A rw L0 bor) B1 A1 AF F' w') (env U0 (OF B B1 AF σ) (QO A A1 js) pbF rwF w'):=by refine⟨lt,λk i hk hl=>?_,λn j e t l C hr=>⟨ro.row n j _ C hr,TX ro.inj C⟩⟩;exact⟨hlF k i hk hl,Mu hσ hl hk⟩
 have ayh:∀i,live pb i->live pbF i/\OF B B1 AF σ i=B i:=λi hl=>by
  refine⟨hpl i hl,?_⟩;by_cases hh:∃k,live AF k/\σ k=some i
  .have⟨k,hk1,hk2⟩:=hh;rw[Mu hσ hk1 hk2];rcases hσn k i hk1 hk2 with h|h
   .rw[(amG k (hσl k i h)).2];simp only[lB,h,fg]
   .exact absurd hl h
  .exact agh hh
 have⟨M,S,X⟩:=m.asz (al:=al) f (w':=w') (B':=OF B B1 AF σ) (A':=QO A A1 js) (pb':=pbF) (rw':=rwF) ⟨m1.os,m1.tape,m1.output,m1.size⟩ (λb hb C=>agi b hb λhL=>C (L0w b hL))
  (λb hb=>by
   rcases hb with⟨i,ha,hb⟩|⟨j,hb⟩
   .rcases cl _ i b hb with⟨i1,h,_⟩|⟨h,_⟩
    .rcases(m1.low _ _ _ h).2 with H|H
     .exact .inr H
     .exact .inl (L0w b H)
    .exact .inl (.inl ⟨i,ha,h⟩)
   .rcases cl _ j b hb with⟨i1,h,_⟩|⟨h,_⟩
    .rcases(m1.low _ _ _ h).2 with H|H
     .exact .inr H
     .exact .inl (L0w b H)
    .exact .inl (.inr ⟨j,h⟩))
  (λk i b hb=>by
   rcases cl k i b hb with⟨i1,h,_⟩|⟨h,_⟩
   .have hl:=m1.low _ _ _ h;rcases hl.2 with H|H
    .exact .inr ⟨H,hl.1⟩
    .exact .inl (L0o b H)
   .exact .inl ⟨k,i,h⟩)
  (λk i k' i' b hb hb'=>by
   have no:∀k i k1 i1,iN B1 A1 AF F' k1 i1 b->iN B A pb rw k i b->¬L0 b->False:=λk i k1 i1 W G h3=>by
    rcases(m1.low _ _ _ W).2 with H|H
    .have:=(m.low _ _ _ G).1;omega
    .exact h3 H
   rcases cl k i b hb with⟨i1,h,hk⟩|⟨h,C⟩
   .rcases cl k' i' b hb' with⟨i1',H,R⟩|⟨H,hn'⟩
    .have⟨e1,Y⟩:=m1.inj _ _ _ _ _ h H;subst e1 Y;rcases hk with⟨rfl,hk⟩|⟨rfl,hk⟩
     .rcases R with⟨_,R⟩|⟨h0,_⟩
      .rw[hk]at R;simp at R;exact⟨rfl,R⟩
      .cases h0
     .rcases R with⟨h0,_⟩|⟨_,R⟩
      .cases h0
      .rw[hk]at R;simp at R;exact⟨rfl,R⟩
    .exact(no _ _ _ _ h H hn').elim
   .rcases cl k' i' b hb' with⟨i1',H,_⟩|⟨H,_⟩
    .exact(no _ _ _ _ H h C).elim
    .exact m.inj _ _ _ _ _ h H)
  ayh (λj e t l auk K=>by have F:=hf j auk;have hnj:=as5 j _ K (by simp) F;exact⟨l,by rw[amH j hnj,hb1 j F];exact K,rfl,Mv hnj⟩)
  (λj d auk K=>by have F:=hf j auk;have hnj:=as5 j _ K (by simp) F;exact⟨⟨d,by rw[amH j hnj,hb1 j F];exact K,rfl⟩,Mv hnj⟩)
  (λ_ j p e t l hp _=>by rw[hfj j p hp];simp only[DV.h])
  (λ_ j p d ad hp _ _=>by rw[hfj j p hp];simp only[DV.h])
  (λ_ i b' hi=>by
   rcases hpb i b' hi with⟨k,b1,W,G,h3,h4,h5⟩|⟨h0,W,b,G,rfl⟩
   .have⟨cs,g1,g2,_⟩:=m1.box k b1 G;refine .inr ⟨cs,by rw[Mu hσ ⟨b1,G⟩ W,h3];exact g1,by rw[h4];exact OE tr _ (hok k b1 G) g2,h5⟩
   .refine .inl ⟨b,G,rfl,rfl,id,?_⟩;have y:iN B A pb rw false i (B i):=⟨⟨b,G⟩,rfl⟩;refine agi _ (m.low _ _ _ y).1 λhL=>?_
    rcases L0s _ hL with⟨k,i',e1,Y⟩|⟨n,j,_,Y⟩
    .have:=(m.inj _ _ _ _ _ y Y).2;subst this;exact W k e1
    .have:=(m.inj _ _ _ _ _ y Y).1;cases this)
  (λ_ j e t l K=>by
   by_cases hh:∃n:Nat,js[n]?=some j
   .have⟨n,C⟩:=hh;have hl:=(aC.1 C).1;rw[ro.len]at hl;have J:=aw hl;have:=ro.row n j _ C J;rw[K]at this;rw[<-this]at J;have⟨xs,g1,g2⟩:=m1.row n e t l J;refine .inr ⟨xs,by rw[TX ro.inj C];exact g1,?_⟩;cases aqn:fr with
    |true=>exact DT.lR (lt aqn) g2
    |false=>exact⟨g2.1,λi x hx=>t.Y7 (ayg aqn n e t l J) (g2.2 i x hx)⟩
   .rw[amH j hh]at K;have F:∀n:Nat,rs[n]?≠some (some j):=λn C=>by rw[hb2 n j C]at K;cases K
    rw[hb1 j F]at K;refine .inl ⟨K,Mv hh,λad had=>?_⟩;have y:iN B A pb rw true j ad.block:=⟨_,ad,K,by simp,had,rfl⟩;refine agi _ (m.low _ _ _ y).1 λhL=>?_
    rcases L0s _ hL with⟨k,i',e1,Y⟩|⟨n,j',e1,Y⟩
    .have:=(m.inj _ _ _ _ _ y Y).1;cases this
    .have:=(m.inj _ _ _ _ _ y Y).2;subst this;exact F n e1)
  (λ_ j d K=>by
   by_cases hh:∃n:Nat,js[n]?=some j
   .have⟨n,C⟩:=hh;have hl:=(aC.1 C).1;rw[ro.len]at hl;have J:=aw hl;have:=ro.row n j _ C J;rw[K]at this;rw[<-this]at J;have⟨_,_,_,H⟩:=ro.own n _ J;cases H
   .rw[amH j hh]at K;have F:∀n:Nat,rs[n]?≠some (some j):=λn C=>by rw[hb2 n j C]at K;cases K
    rw[hb1 j F]at K;refine .inl ⟨K,Mv hh,λad had=>?_⟩;have y:iN B A pb rw true j ad.block:=⟨_,ad,K,by simp,had,rfl⟩;refine agi _ (m.low _ _ _ y).1 λhL=>?_
    rcases L0s _ hL with⟨k,i',e1,Y⟩|⟨n,j',e1,Y⟩
    .have:=(m.inj _ _ _ _ _ y Y).1;cases this
    .have:=(m.inj _ _ _ _ _ y Y).2;subst this;exact F n e1)
 exact⟨M,S,X,tr⟩
end
end Go.Vc








namespace Go.Vc
open Go Go.RowKit
mutual
theorem DV.Xl{f g}(h:∀j,(f j).isSome=(g j).isSome):(p:DV)->(acc:List Nat)->(∀j∈p.rows acc,f j=g j)->p.sub f=p.sub g/\∀j∈acc,f j=g j
 | .row i,acc,y=>by simp only[DV.rows]at y;exact⟨by unfold DV.sub;rw[y i (by simp)],λj G=>y j (by simp[G])⟩
 | .re i a b,acc,y=>by refine⟨?_,y⟩;unfold DV.sub;have:=h i;revert this;cases f i<;>cases g i<;>simp
 | .rt i a,acc,y=>by refine⟨?_,y⟩;unfold DV.sub;have:=h i;revert this;cases f i<;>cases g i<;>simp
 | .ra i,acc,y=>by refine⟨?_,y⟩;unfold DV.sub;have:=h i;revert this;cases f i<;>cases g i<;>simp
 | .rs i a,acc,y=>by refine⟨?_,y⟩;unfold DV.sub;have:=h i;revert this;cases f i<;>cases g i<;>simp
 | .fns cs,acc,y=>by simp only[DV.rows]at y;have⟨F,C⟩:=wV h cs acc y;exact⟨by simp only[DV.sub,F],C⟩
 | .fp cs _,acc,y=>by simp only[DV.rows]at y;have⟨F,C⟩:=wV h cs acc y;exact⟨by simp only[DV.sub,F],C⟩
 | .ob i,acc,y=>by simp only[DV.rows]at y;exact⟨by unfold DV.sub;rw[y i (by simp)],λj G=>y j (by simp[G])⟩
 | .fn _ cs,acc,y=>by simp only[DV.rows]at y;have⟨F,C⟩:=wV h cs acc y;exact⟨by simp only[DV.sub,F],C⟩
 | .agg cs,acc,y=>by simp only[DV.rows]at y;have⟨F,C⟩:=wV h cs acc y;exact⟨by simp only[DV.sub,F],C⟩
 | .Iv cs,acc,y=>by simp only[DV.rows]at y;have⟨F,C⟩:=wV h cs acc y;exact⟨by simp only[DV.sub,F],C⟩
 | .int _ _,_,y | .bool _,_,y | .lit _,_,y | .str _,_,y | .v _,_,y | .On,_,y | .sl _ _,_,y | .cs _ _,_,y | .set _,_,y | .el _ _ _,_,y | .own _ _,_,y | .jD,_,y=>⟨rfl,y⟩
theorem wV{f g}(h:∀j,(f j).isSome=(g j).isSome):(ps:List DV)->(acc:List Nat)->(∀j∈AA ps acc,f j=g j)->zp f ps=zp g ps/\∀j∈acc,f j=g j
 |[],acc,y=>⟨rfl,y⟩
 |p::ps,acc,y=>by simp only[AA]at y;have⟨H,G⟩:=DV.Xl h p _ y;have⟨F,C⟩:=wV h ps acc G;exact⟨by simp only[zp,H,F],C⟩
end
theorem Zu{rw}{j}{e}{t}{l}(h:rw[j]?=some (.own e t l)):sV rw j=some (.sl t l):=by unfold sV;rw[gX,h]
mutual
theorem PK.aul{β}{q}{rw}{f:Nat->Option DV}{E J:Env}(s:Sub f E J)(s0:Sub Iq E J)(hs:∀j,(f j).isSome=(sV rw j).isSome):(p:PK)->(u:DV)->(acc:List Nat)->(K:DV->Option β)->(∀j∈p.frz u acc,f j=sV rw j)->p.view rw u K=some q->
 (∃R,K R=some q/\∀v,u.h E v->R.h J v)/\∀j∈acc,f j=sV rw j
 | .v t,u,acc,K,y,h=>by simp only[PK.view,DV.Zc]at h;have⟨F,C⟩:=DV.Xl hs u acc y;rw[<-F]at h;exact⟨⟨_,h,λv hv=>DV.amj s u hv⟩,C⟩
 | .row e t,u,acc,K,y,h=>⟨⟨u,by cases u<;>exact h,λv hv=>OC s0 hv⟩,by cases u<;>exact y⟩
 | .ptr k,u,acc,K,y,h=>⟨⟨u,by cases u<;>exact h,λv hv=>OC s0 hv⟩,by cases u<;>exact y⟩
 | .fn g l,u,acc,K,y,h=>by
  cases u with
  |fn W cs=>simp only[PK.view]at h;have⟨⟨us,F,C,_⟩,G⟩:=Mw s s0 hs l cs acc _ y h;refine⟨⟨_,F,λv hv=>?_⟩,G⟩;obtain⟨vs,rfl,hv⟩:=hv;exact⟨vs,rfl,C _ hv⟩
  |_=>exact⟨⟨_,h,λv hv=>OC s0 hv⟩,y⟩
 | .agg l,u,acc,K,y,h=>by
  cases u with
  |agg cs=>simp only[PK.view]at h;have⟨⟨us,F,C,_⟩,G⟩:=Mw s s0 hs l cs acc _ y h;refine⟨⟨_,F,λv hv=>?_⟩,G⟩;obtain⟨vs,rfl,hv⟩:=hv;exact⟨vs,rfl,C _ hv⟩
  |_=>exact⟨⟨_,h,λv hv=>OC s0 hv⟩,y⟩
 | .fns l,u,acc,K,y,h=>by
  cases u with
  |fns cs=>simp only[PK.view]at h;have⟨⟨us,F,C,H⟩,G⟩:=Mw s s0 hs l cs acc _ y h;refine⟨⟨_,F,λv hv=>?_⟩,G⟩;obtain⟨ad,vs,c,rfl,hv,k⟩:=hv;exact⟨ad,vs,c,by rw[H],C _ hv,k.mono s0.FK⟩
  |_=>exact⟨⟨_,h,λv hv=>OC s0 hv⟩,y⟩
 | .nil n,u,acc,K,y,h=>⟨⟨u,by cases u<;>exact h,λv hv=>OC s0 hv⟩,by cases u<;>exact y⟩
theorem Mw{β}{q}{rw}{f:Nat->Option DV}{E F:Env}(s:Sub f E F)(s0:Sub Iq E F)(hs:∀j,(f j).isSome=(sV rw j).isSome):(l:List PK)->(us:List DV)->(acc:List Nat)->(K:List DV->Option β)->(∀j∈aan l us acc,f j=sV rw j)->Mm rw l us K=some q->
 (∃us',K us'=some q/\(∀vs,hL E us vs->hL F us' vs)/\us'.length=us.length)/\∀j∈acc,f j=sV rw j
 |[],us,acc,K,y,h=>⟨⟨us,h,λv hv=>nD s0 hv,rfl⟩,y⟩
 |p::l,[],acc,K,y,h=>⟨⟨[],h,λv hv=>nD s0 hv,rfl⟩,y⟩
 |p::l,u::us,acc,K,y,h=>by simp only[Mm]at h;have⟨⟨u',W,R⟩,J⟩:=PK.aul s s0 hs p u _ _ y h;have⟨⟨us',g1,g2,X⟩,Y⟩:=Mw s s0 hs l us acc _ J W;refine⟨⟨_,g1,λvs hv=>?_,by simp only[aJ,X]⟩,Y⟩;obtain⟨v,C,rfl,H,G⟩:=hv;exact⟨v,C,rfl,R v H,g2 C G⟩
end
theorem Zv:∀{am:List (Nat×Nat)} {k i:Nat},FG am k=some i->(k,i)∈am
 |[],k,i,h=>by simp[FG]at h
 |(j,y)::am,k,i,h=>by
  simp only[FG]at h;split at h
  .rename_i hb;simp only[ak]at h;subst h;rw[aF hb];simp
  .exact bd _ (Zv h)
theorem RH : ∀ {am : List (Nat × Nat)}, G6 (QL am) = true -> ∀ {k k' i : Nat}, FG am k = some i -> FG am k' = some i -> k = k'
  | [], _, k, k', i, h, _ => by simp [FG] at h
  | (k0, i0) :: am, hn, k, k', i, h, h' => by
    simp only [QL, G6, aD, jH] at hn
    have hni : ∀ k, (k, i0) ∉ am := λk hm => by
      have : i0 ∈ QL am := by
        clear h h' hn
        induction am with
        | nil => cases hm
        | cons p am ih => rcases aB.1 hm with rfl | hm
                          · simp [QL]
                          · simp [QL, ih hm]
      rw [<- uP] at this; rw [hn.1] at this; cases this
    simp only [FG] at h h'
    split at h
    · rename_i hb
      simp only [ak] at h; subst h
      split at h'
      · rename_i hb'; rw [<- aF hb, <- aF hb']
      · exact absurd (Zv h') (hni _)
    · split at h'
      · simp only [ak] at h'; subst h'; exact absurd (Zv h) (hni _)
      · exact RH hn.2 h h'
theorem Mx:∀{am:List (Nat×Nat)} {n:Nat},Ou am n=true->∀{k i:Nat},FG am k=some i->k<n
 |[],_,_,k,i,h=>by simp[FG]at h
 |(y,i0)::am,n,j,k,i,h=>by
  simp only[Ou,aD]at j;simp only[FG]at h;split at h
  .rename_i hb;rw[<-aF hb];exact bP j.1
  .exact Mx j.2 h
theorem amI:∀{am:List (Nat×Nat)} {al:Nat->Bool},Y9 al (QL am)=true->∀{k i:Nat},FG am k=some i->al i=true
 |[],_,_,k,i,h=>by simp[FG]at h
 |(y,i0)::am,al,j,k,i,h=>by
  simp only[QL,Y9,aD]at j;simp only[FG]at h;split at h
  .simp only[ak]at h;subst h;exact j.1
  .exact amI j.2 h
theorem IC:∀{rs:List (Option Nat)} {j:Nat},j∈FH rs↔∃n:Nat,rs[n]?=some (some j)
 |[],j=>by simp[FH]
 |some i::rs,j=>by
  simp only[FH,aB,IC (rs:=rs)];constructor
  .rintro(rfl|⟨n,y⟩)
   .exact⟨0,rfl⟩
   .exact⟨n+1,by simpa using y⟩
  .rintro⟨n,y⟩;cases n with
   |zero=>simp at y;exact .inl y.symm
   |succ n=>exact .inr ⟨n,by simpa using y⟩
 |none::rs,j=>by
  simp only[FH,IC (rs:=rs)];constructor
  .rintro⟨n,y⟩;exact⟨n+1,by simpa using y⟩
  .rintro⟨n,y⟩;cases n with
   |zero=>simp at y
   |succ n=>exact⟨n,by simpa using y⟩
theorem agj{y}{j}:(PS y j=none↔j∉y)/\∀p,PS y j=some p->p=.jD:=by
 unfold PS;cases h:Aw j y with
 |true=>exact⟨by simp[(uP j y).1 h],λp C=>by simp at C;exact C.symm⟩
 |false=>
  have F:j∉y:=λhm=>by rw[(uP j y).2 hm]at h;cases h
  exact⟨⟨λ_=>F,λ_=>rfl⟩,λp C=>by cases C⟩
theorem amJ:∀{l y:List Nat},apT l y=true->∀j∈l,j∉y
 |[],_,_=>by simp
 |n::l,y,h=>by
  simp only[apT,aD,jH]at h;intro j C;rcases aB.1 C with rfl|C
  .intro hm;rw[(uP _ _).2 hm]at h;cases h.1
  .exact amJ h.2 j C
section
variable {P : Program} {V : World} {U0 L : Nat -> Prop} {al : Nat -> Bool} {B : Nat -> Nat} {A : yH} {ts : List DV} {pb : im} {rw : List DR} {a : Act} {w : World} {β : Type} {q : β} {o : Oper} {K : DK β} {Q : Exit -> Act -> World -> Prop}
theorem Zw{g}{args}{R:Value->World->Prop}{N:Act->World->Prop}(j:(execOp a.eval o).run P w=(callFunc g args).run P w)(y:pG P g args w R)(C:∀v w',R v w'->N (a.put o.dst v) w'):o.wp P a w N Q:=by
 rcases y.ex with⟨hb,y⟩|⟨v,w',h1,G⟩
 .rw[hb.run]at j;simp only[Oper.wp,j,Oper.upon];refine y.mono λe w' ⟨v,F,hh⟩=>?_
  subst F;exact C v w' hh
 .rw[h1]at j;exact eX j (C v w' G)
theorem ad7{c}{f}{g}{j}(ho:o.op=.call c)(C:c.callee=.value f)(y:a.eval f=.func (.func g) j #[]):
 (execOp a.eval o).run P w=(callFunc g (j++c.args.map a.eval)).run P w:=by
 simp only[execOp,ho,resolve,C,y,Deferred.ofValue,aR,bE,bq,invoke,Array.append_empty]
theorem Zx{c}{f}{g}{j}(ho:o.op=.call c)(C:c.callee=.value f)(y:a.eval f=.func (.func g) #[] j):
 (execOp a.eval o).run P w=(callFunc g (c.args.map a.eval++j)).run P w:=by
 simp only[execOp,ho,resolve,C,y,Deferred.ofValue,aR,bE,bq,invoke,Array.empty_append]
theorem aw1{g}(h:Nat.ble 1000000 g=true)(vs):fnV g vs=.func (.func (g-1000000)) vs #[]:=by unfold fnV;rw[h,cond_true]
theorem arR{g}(h:Nat.ble 1000000 g=false)(vs):fnV g vs=.func (.func g) #[] vs:=by unfold fnV;rw[h,cond_false]
theorem RO.nil(rw):RO rw [] [] rw []:=⟨rfl,λn j r h=>by simp at h,λn y j h=>by simp at h,λa j h=>by simp at h,λa b j h=>by simp at h,λ_ _=>rfl,λn j h=>by simp at h,λn r h=>by simp at h⟩
theorem amK{g}{s}{xs}{vs}(fr:Bool)(bor:Nat->Prop)(hs:al2 P g s)(h:esF aj s xs ts pb rw (λr ts pb rw=>jx o.dst r ts pb rw K)=some q)(m:Mem V U0 L B A pb rw w)(Jk:hL (env U0 B A pb rw w) ts a.tmps.toList)
 (Y:hL ⟨lU (Us U0 B A pb rw) B A rw (λ_=>False) bor,w,B,A,pb,rw⟩ xs vs) (hfr:fr=true->∀j,¬bor j) (C:fr=false->s.Q.free=true) (J:(execOp a.eval o).run P w=(callFunc g vs.toArray).run P w):o.wp P a w (oJ V U0 L al B A pb rw w a K q) Q:=by
 unfold esF at h;split at h
 .rename_i x hx;have⟨y,hy,h⟩:=ad0 h
  have R:Ow (lB B λ_=>none) (lA A []) [] []=λ_=>False:=by
   funext b;refine propext ⟨?_,False.elim⟩;rintro⟨k,i,hb⟩;cases k with
   |true=>have⟨r,ad,W,_⟩:=hb;simp at W
   |false=>have⟨⟨b0,W⟩,_⟩:=hb;simp at W
  have⟨m0,hU,hr1,hb1⟩:=m.aui (σ:=λ_=>none) (rs:=[]) (bor:=bor) (pb0:=[]) (rw0:=[]) (λk b0 h=>by simp at h) (λk b0 i b h=>by simp at h) (λk k' i h=>by cases h) (λn r h=>by simp at h) (λn n' j h=>by simp at h)
  have G:hL (env (lU (Us U0 B A pb rw) B A rw (Ow (lB B λ_=>none) (lA A []) [] []) bor) (lB B λ_=>none) (lA A []) [] [] w) (BW s.P x) vs:=by
   refine as4 (E:=⟨lU (Us U0 B A pb rw) B A rw (λ_=>False) bor,w,B,A,pb,rw⟩) (E0:=env (lU (Us U0 B A pb rw) B A rw (Ow (lB B λ_=>none) (lA A []) [] []) bor) (lB B λ_=>none) (lA A []) [] [] w) ⟨λ_ _ _=>rfl,au _,λb _ H=>?_⟩ hx Y;rcases H with H|H
   .rw[R]at H;exact H
   .have:Ow (lB B λ_=>none) (lA A []) [] [] b:=H;rw[R]at this;exact this.elim
  refine Zw J (hs x y hy _ _ _ vs w m0 G) ?_;rintro v w' ⟨B1,A1,r,AF,F',m1,hrv,hlv,rfl,F⟩;have⟨d,ρ',rwC,js,W,h2,_,h3⟩:=QT.o_s s.Q y [] rw _ [] [] h (RO.nil rw);rw[<-F]at h2 h3;have⟨M,S,X,tr⟩:=Mem.back (al:=al) (σ:=λ_=>none) (pbF:=pb) (base:=rw) Iq fr m hr1 hb1 (λk i h=>by cases h) m1 hlv (λk k' i h=>by cases h) (λk i _ h=>by cases h) (λk i h=>by cases h) (λk i _ h=>by cases h) (λi b' hi=>.inr ⟨λk h=>(by cases h),λk h=>(by cases h),b',hi,by rw[oR]⟩) (λi h=>h) (λk i h=>by cases h) h2 (λ_ _=>rfl) (λn j h=>by simp at h) (λj _ n h=>by simp at h) (λj p h=>by cases h) hfr (λk b h=>by simp at h) (λhf=>by have:=(QT.JZ s.Q y [] (C hf) λn e t l h=>by simp at h).2;rw[<-F]at this;exact this);refine oJ.ret W M (nD S Jk) ?_ X;rw[h3 js (Iz.refl _)];refine DV.amC tr r ?_ hrv;cases hf:fr with
  |true=>exact DV.TW r
  |false=>have:=(QT.JZ s.Q y [] (C hf) λn e t l h=>by simp at h).1;rw[<-F]at this;exact this
 .cases h
end
end Go.Vc








namespace Go.Vc
open Go Go.RowKit
theorem aa2:∀{l l':List BK},alQ l l'=true->l.length<=l'.length
 |[],_,_=>br _
 |_::_,[],h=>by simp[alQ]at h
 |_::l,_::l',h=>by simp only[alQ,aD]at h;have:=aa2 h.2;simp;exact this
theorem Zy:∀(l:List BK) (r:DT) (z:(FC l r).den) (rw:List DR) (k:Nat),k<l.length->live (y0 l r z rw).1 k
 |[],_,_,_,k,h=>by simp at h
 |j::l,r,z,rw,k,h=>by
  cases k with
  |zero=>exact⟨_,rfl⟩
  |succ k=>exact Zy l r _ _ k (by simpa using h)
section
variable {P : Program} {T : List TI} {V : World} {U0 L : Nat -> Prop} {al : Nat -> Bool} {B : Nat -> Nat} {A : yH} {ts : List DV} {pb : im} {rw : List DR} {a : Act} {w : World} {β : Type} {q : β} {o : Oper} {K : DK β} {Q : Exit -> Act -> World -> Prop} {C : F9} {av : List (Nat × Nat)}
theorem aa3{g}{s}{am}{vw}{xs:List DV}{vs:List Value}(fr:Bool)(hs:ada P g s)(h:afN aj s al am vw xs ts pb rw (λr ts pb rw=>jx o.dst r ts pb rw K)=some q)(m:Mem V U0 L B A pb rw w)(Jk:hL (env U0 B A pb rw w) ts a.tmps.toList)
 (hxs:∀(bor:Nat->Prop),(fr=true->∀j,¬bor j)->(fr=false->∀j∈vw,bor j)->hL ⟨λb=>Us U0 B A pb rw b/\¬ ∃j,bor j/\iN B A [] rw true j b,w,B,A,pb,rw⟩ xs vs) (as6:fr=false->s.Q.free=true/\Tw s.E=true)
 (hrun:(execOp a.eval o).run P w=(callFunc g vs.toArray).run P w):o.wp P a w (oJ V U0 L al B A pb rw w a K q) Q:=by
 unfold afN at h;split at h
 .rename_i z ms hck hX;simp only[aD]at hck;have⟨⟨⟨hnd,hall⟩,hty⟩,hkl⟩:=hck;split at h
  .rename_i ayi;simp only[my,uT]at h;have⟨y,hy,h⟩:=ad0 h
   let bor:Nat->Prop:=λj=>fr=false/\∀n:Nat,ms.rs[n]?≠some (some j)
   have hb1:fr=true->∀j,¬bor j:=λhf j ⟨h,_⟩=>by rw[hf]at h;cases h
   have hb2:fr=false->∀j∈vw,bor j:=λhf j hj=>⟨hf,λn W=>amJ ayi j hj (IC.2 ⟨n,W⟩)⟩
   have hxs:=hxs bor hb1 hb2
   let E:Env:=⟨λb=>Us U0 B A pb rw b/\¬ ∃j,bor j/\iN B A [] rw true j b,w,B,A,pb,rw⟩
   have hlE:lE (Us U0 B A pb rw) E.U w w:=⟨λ_ _ _=>rfl,au _,λb _ hu=>hu.1⟩;have hsE:Sub Iq (env U0 B A pb rw w) E:=⟨hlE,λi h=>⟨h,rfl⟩,λj e t l _ h=>⟨l,h,rfl,rfl⟩,λj d _ h=>⟨⟨d,h,rfl⟩,rfl⟩,λj p e t l h=>(by cases h),λj p d ad h=>(by cases h)⟩;have⟨z0,m1,F',g1,g2,g3,⟨a1,g4⟩,⟨b1,g5⟩,g6,g7,g8⟩:=amD (am:=am) (E:=E) s.B 0 (Jh s.P .unit) ⟨[],rw⟩ _ [] z ms hX (MI.nil E);have⟨u0,R,rw2,k1,k2,k3,⟨a2,k4⟩,⟨b2,k5⟩,k6⟩:=TV (am:=am) (E:=E) s.P .unit xs m1 _ F' z0 ms g1 g3;simp only[ak,fc]at k1;obtain⟨_,rfl⟩:=k1;have e1:y0 s.B (Jh s.P .unit) z []=((y0 s.B (Jh s.P .unit) z []).1,z0,F'):=by rw[<-g2]
   have e2:G7 s.P .unit z0 F'=((G7 s.P .unit z0 F').1,u0,rw2):=by rw[<-k2]
   generalize ayj:(y0 s.B (Jh s.P .unit) z []).1=pb0 at e1 g6 g7 g8;generalize ayk:(G7 s.P .unit z0 F').1=ay9 at e2 k6;have aum:=hs z y hy;rw[e1]at aum;simp only[e2]at aum;have hr:=k3.row;have amG:∀k,k<s.B.length->∃i,FG am k=some i/\live pb i:=λk F=>by have⟨b0,hb0⟩:=g8 k F;have⟨i,b,h1,h2,_⟩:=g7 k b0 hb0;exact⟨i,by simpa using h1,b,h2⟩
   have aw2:∀k,live pb0 k->k<s.B.length:=λk ⟨b,hb⟩=>by rw[<-g6];exact(aC.1 hb).1
   let σ0:Nat->Option Nat:=λk=>match Nat.blt k s.B.length with|true=>FG am k|false=>none
   have H:∀k i,σ0 k=some i->k<s.B.length/\FG am k=some i:=λk i h=>by
    simp only[σ0]at h;split at h
    .rename_i hb;exact⟨bP hb,h⟩
    .cases h
   have σ0e:∀k,k<s.B.length->σ0 k=FG am k:=λk F=>by simp only[σ0];rw[show Nat.blt k s.B.length=true from gU F]
   have tri:TrI am R.rs E (env (lU (Us U0 B A pb rw) B A rw (Ow (lB B σ0) (lA A R.rs) pb0 rw2) bor) (lB B σ0) (lA A R.rs) pb0 rw2 w):=by
    refine⟨⟨λ_ _ _=>rfl,au _,λb _ hu=>?_⟩,λk i F hl=>?_,λn j e t l W hj=>?_,λn W=>?_⟩
    .rcases hu with hu|⟨k,i,hu⟩
     .exact⟨hu.1,hu.2.2⟩
     .cases k with
      |true=>
       have⟨r,ad,h1,h2,h3,h4⟩:=hu;rcases hr i r h1 with⟨j,e,t,l,c1,c2,c3⟩|⟨c1,_⟩
       .have R2:iN B A pb rw true j b:=⟨r,ad,c2,h2,by simpa only[lA,c1]using h3,h4⟩;refine⟨.inr ⟨_,_,R2⟩,?_⟩;rintro⟨j',hj',hb'⟩;have:=(m.inj _ _ _ _ _ R2 (show iN B A pb rw true j' b from hb')).2;subst this;exact hj'.2 i c1
       .simp only[lA,c1]at h3;cases h3
      |false=>have⟨⟨b0,h1⟩,h2⟩:=hu;have F:=aw2 i ⟨b0,h1⟩;have⟨i',b',c1,c2,_⟩:=g7 i b0 h1;rw[cq]at c1;have R2:iN B A pb rw false i' b:=⟨⟨b',c2⟩,by simpa only[lB,σ0e i F,c1,fg]using h2⟩;refine⟨.inr ⟨_,_,R2⟩,?_⟩;rintro⟨j',hj',hb'⟩;have:=(m.inj _ _ _ _ _ R2 (show iN B A pb rw true j' b from hb')).1;cases this
    .have hkB:=Mx hkl F;have⟨b0,hb0⟩:=g8 k hkB;refine⟨⟨b0,hb0⟩,?_⟩;show lB B σ0 k=B i;simp only[lB,σ0e k hkB,F,fg]
    .obtain⟨n',hn'⟩:∃r,rw2[n]?=some r:=⟨_,aw (by rw[<-k3.len];exact(aC.1 W).1)⟩;rcases hr n n' hn' with⟨j',e',t',l',c1,c2,c3⟩|⟨c1,_⟩
     .rw[W]at c1;simp only[ak]at c1;subst c1;have hj:=hj;rw[hj]at c2;simp only[ak]at c2;refine⟨by rw[c2];exact hn',?_⟩;show lA A R.rs n=A j;simp only[lA,W]
     .rw[W]at c1;cases c1
    .obtain⟨n',hn'⟩:∃r,rw2[n]?=some r:=⟨_,aw (by rw[<-k3.len];exact(aC.1 W).1)⟩;rcases hr n n' hn' with⟨j',e',t',l',c1,c2,c3⟩|⟨_,e,t,c1⟩
     .rw[W]at c1;cases c1
     .refine⟨⟨e,t,by rw[<-c1];exact hn'⟩,?_⟩;show lA A R.rs n=(none,0);simp only[lA,W]
   have hbw:∀(k:Nat) (b0:DB),pb0[k]?=some (some b0)->∃i b,σ0 k=some i/\pb[i]?=some (some b)/\b0.ty=b.ty/\b0.w=true:=λk b0 h=>by have⟨i,b,h1,h2,h3,h4,_⟩:=g7 k b0 h;rw[cq]at h1;exact⟨i,b,by rw[σ0e k (aw2 k ⟨b0,h⟩)];exact h1,h2,h3,h4⟩
   have⟨m0,hU,hr1,ayl⟩:=m.aui (σ:=σ0) (rs:=R.rs) (bor:=bor) (pb0:=pb0) (rw0:=rw2) hbw
    (λk b0 i b h1 h2 h3 us hu=>by have⟨i',b',c1,c2,_,_,c5⟩:=g7 k b0 h1;rw[cq]at c1;rw[(H k i h2).2]at c1;simp only[ak]at c1;subst c1;have c2:=c2;rw[h3]at c2;simp only[ak]at c2;subst c2;exact c5 _ ⟨a2,k4⟩ tri us (nD hsE hu))
    (λk k' i h h'=>RH hnd (H k i h).2 (H k' i h').2) (λn r h=>hr n r h) k3.inj
   refine Zw hrun (aum _ _ _ vs w m0 (k6 _ vs ⟨[],by simp⟩ tri hxs)) ?_;rintro v w' ⟨B1,A1,r,AF,ayH,m1',hrv,hlv,J,hmk⟩;have hm:=hty;have hEl:=aa2 hty
   let σ:=alR am s.B.length (oD (PS (FH R.rs)) pb).length
   have aun:∀k i,k<s.B.length->FG am k=some i->i<pb.length:=λk i F hi=>by have⟨i',h1,b,hb⟩:=amG k F;rw[hi]at h1;simp only[ak]at h1;subst h1;exact(aC.1 hb).1
   have Y:∀k,k<s.B.length->σ k=FG am k:=λk F=>by simp only[σ,alR];rw[show Nat.blt k s.B.length=true from gU F]
   have σhi:∀k,s.B.length<=k->σ k=some (pb.length+(k-s.B.length)):=λk F=>by
    simp only[σ,alR]
    rw[show Nat.blt k s.B.length=false from by
     cases hb:Nat.blt k s.B.length with
     |false=>rfl
     |true=>have:=bP hb;omega]
    simp only[zN]
   have hσ:∀(k k' i:Nat),σ k=some i->σ k'=some i->k=k':=λk k' i h h'=>by
    rcases dO k s.B.length with F|F
    .rw[Y k F]at h;have h3:=aun k i F h;rcases dO k' s.B.length with G|G
     .rw[Y k' G]at h';exact RH hnd h h'
     .rw[σhi k' G]at h';simp only[ak]at h';omega
    .rw[σhi k F]at h;simp only[ak]at h;rcases dO k' s.B.length with G|G
     .rw[Y k' G]at h';have:=aun k' i G h';omega
     .rw[σhi k' G]at h';simp only[ak]at h';omega
   have ro0:RO R.rw [] R.rs R.rw []:=⟨rfl,λn j r h=>(by simp at h),λn n' j h=>(by simp at h),λa j h=>⟨k3.gone a j h,k3.gone a j h,λn h=>(by simp at h)⟩,λa b j h h'=>k3.inj a b j h h',λ_ _=>rfl,λn j h=>(by simp at h),λn r h=>(by simp at h)⟩;have⟨ρ1,pbF,aym,js1,f1,f2,f3,f4,f5,f6,f7,f8⟩:=amF (σ:=σ) (base:=R.rw) hσ s.E 0 .unit y.2 R.rs _ R.rw _ [] [] h ro0 (λk i F hi=>by rw[zN];exact aun k i F (by rw[<-Y k F];exact hi)) (λk F _=>by rw[σhi k F,zN,Nat.zero_max]);have⟨d,ρ2,rwF,js,q1,q2,q3,q4⟩:=QT.o_s s.Q y.1 ρ1 aym _ _ js1 f1 f2;rw[<-hmk]at q2 q4;have aw3:fr=false->(∀(k:Nat) b,(y0 s.E .unit y.2 []).1[k]?=some (some b)->DI false b.cells=true)/\sB (y0 s.E .unit y.2 []).2.2:=λhf=>age s.E .unit y.2 [] (as6 hf).2 (λn e t l h=>(by simp at h))
   have aw4:fr=false->(s.Q.mk y.1 (y0 s.E .unit y.2 []).2.2).1.Vp false=true/\sB (s.Q.mk y.1 (y0 s.E .unit y.2 []).2.2).2:=λhf=>QT.JZ s.Q y.1 _ (as6 hf).1 (aw3 hf).2
   have pbl:∀i,live (oD (PS (FH R.rs)) pb) i↔live pb i:=λi=>ov
   have ltl:∀{pb:im} {i:Nat},live pb i->i<pb.length:=λ⟨b,hb⟩=>(aC.1 hb).1
   have⟨M,S,X,tr⟩:=Mem.back (al:=al) (σ:=σ) (pbF:=pbF) (base:=R.rw) (PS (FH R.rs)) fr m hr1 ayl (λk i h=>amI hall (H k i h).2) m1' hlv hσ (λk i _ h=>by rw[Y k (H k i h).1];exact(H k i h).2)
    (λk i h=>g8 k (H k i h).1)
    (λk i hl F=>by
     rcases dO k s.B.length with G|G
     .exact .inl (by rw[σ0e k G,<-Y k G];exact F)
     .refine .inr λhl'=>?_
      rw[σhi k G]at F;simp only[ak]at F;have:=ltl hl';omega)
    (λi b' hi=>by
     have aw5:(∃k b1,σ k=some i/\AF[k]?=some (some b1))\/¬ ∃k b1,σ k=some i/\AF[k]?=some (some b1):=Fs _;rcases aw5 with⟨k,b1,c1,c2⟩|hno
     .rw[J]at c2;have:=f5 k b1 i c2 (by rw[cq];exact c1) js q3;rw[hi]at this;simp only[ak]at this;subst this;exact .inl ⟨k,b1,c1,by rw[J];exact c2,rfl,rfl,rfl⟩
     .have auo:∀k,σ k=some i->¬live AF k:=λk F ⟨b1,hb1⟩=>hno ⟨k,b1,F,hb1⟩
      have aw6:∀k,k<s.B.length->σ k≠some i:=λk F hki=>by refine auo k hki ?_;rw[J];exact Zy s.E .unit y.2 [] k (by omega)
      refine .inr ⟨auo,λk F=>aw6 k (H k i F).1 (by rw[Y k (H k i F).1];exact(H k i F).2),?_⟩;have hil:=(aC.1 hi).1;rcases f6 i hil with h'|⟨k,c1,c2,c3⟩
      .rw[f4 i h' λk _ F=>aw6 k F]at hi;exact tQ.1 hi
      .rw[cq]at c3;exact absurd (by rw[J];exact Zy s.E .unit y.2 [] k c1) (auo k c3))
    (λi hl=>f7 i (by rw[zN];exact ltl hl) ((pbl i).2 hl))
    (λk i F hl=>by have⟨b1,hb1⟩:=hl;rw[J]at hb1;exact⟨_,f5 k b1 i hb1 (by rw[cq];exact F) js q3⟩)
    q2 (λj W=>k3.left j W) (λn j W=>k3.gone n j W)
    (λj hj n W=>(agj.1.1 hj) (IC.2 ⟨n,W⟩)) (λj p hp=>agj.2 p hp) hb1
    (λk b hb=>by
     cases hf:fr with
     |true=>exact zO _
     |false=>rw[J]at hb;exact(aw3 hf).1 k b hb)
    (λhf=>by have:=(aw4 hf).2;rw[<-hmk]at this;exact this)
   refine oJ.ret q1 M (kE S _ Jk) ?_ X;rw[q4 js (Iz.refl _)];refine DV.amC tr r ?_ hrv;cases hf:fr with
   |true=>exact DV.TW r
   |false=>have:=(aw4 hf).1;rw[<-hmk]at this;exact this
  .cases h
 .cases h
end
end Go.Vc
namespace Go.Vc
open Go Go.RowKit
mutual
theorem PK.aqo(rw):(p:PK)->(u:DV)->∃j,∀{β:Type} (K:DV->Option β),p.view rw u K=K j
 | .v t,u=>⟨u.sub (sV rw),λK=>by simp only[PK.view,DV.Zc]⟩
 | .row e t,u=>⟨u,λK=>by cases u<;>rfl⟩
 | .ptr k,u=>⟨u,λK=>by cases u<;>rfl⟩
 | .fn g l,u=>by
  cases u with
  |fn y cs=>have⟨us,h⟩:=G9 rw l cs;exact⟨.fn y us,λK=>by simp only[PK.view,h]⟩
  |_=>exact⟨_,λK=>rfl⟩
 | .agg l,u=>by
  cases u with
  |agg cs=>have⟨us,h⟩:=G9 rw l cs;exact⟨.agg us,λK=>by simp only[PK.view,h]⟩
  |_=>exact⟨_,λK=>rfl⟩
 | .fns l,u=>by
  cases u with
  |fns cs=>have⟨us,h⟩:=G9 rw l cs;exact⟨.fns us,λK=>by simp only[PK.view,h]⟩
  |_=>exact⟨_,λK=>rfl⟩
 | .nil n,u=>⟨u,λK=>by cases u<;>rfl⟩
theorem G9(rw):(l:List PK)->(us:List DV)->∃us',∀{β:Type} (K:List DV->Option β),Mm rw l us K=K us'
 |[],us=>⟨us,λK=>rfl⟩
 |_::_,[]=>⟨[],λK=>rfl⟩
 |p::l,u::us=>by have⟨j,F⟩:=PK.aqo rw p u;have⟨us',y⟩:=G9 rw l us;exact⟨j::us',λK=>by simp only[Mm,F,y]⟩
end
section
variable {P : Program} {T : List TI} {V : World} {U0 L : Nat -> Prop} {al : Nat -> Bool} {B : Nat -> Nat} {A : yH} {ts : List DV} {pb : im} {rw : List DR} {a : Act} {w : World} {β : Type} {q : β} {o : Oper} {K : DK β} {Q : Exit -> Act -> World -> Prop} {C : F9} {av : List (Nat × Nat)}
def OD.aqp:OD->Option (List KU)
 | .set ks=>some ks
 |_=>none
theorem Mem.as7(m:Mem V U0 L B A pb rw w){U' h:Nat->Prop}(W:∀b,U' b->Us U0 B A pb rw b)(R:∀j,¬h j->∀b,U' b->¬iN B A pb rw true j b)(f:Nat->Option DV)(H:∀j,(h j/\f j=(sV rw j).map λ_=>.jD)\/(¬h j/\f j=sV rw j)):
 Sub f (env U0 B A pb rw w) ⟨U',w,B,A,pb,rw⟩:=by
 have G:∀j,f j=none->sV rw j=none:=λj F=>by
  rcases H j with⟨_,h⟩|⟨_,h⟩
  .rw[F]at h;simpa using h.symm
  .rw[<-h];exact F
 refine⟨⟨λ_ _ _=>rfl,au _,λb _ h=>W b h⟩,λi h=>⟨h,rfl⟩,λj e t l F y=>?_,λj d _ h=>⟨⟨d,h,rfl⟩,rfl⟩,λj p e t l F y=>?_,λj p d ad F y X=>?_⟩
 .have:=G j F;have y:rw[j]?=some (.own e t l):=y;rw[Zu y]at this;cases this
 .have y:rw[j]?=some (.own e t l):=y;rcases H j with⟨_,h⟩|⟨J,h⟩
  .rw[F,Zu y]at h;simp only[fS,ak]at h;subst h;simp only[DV.h]
  .rw[F,Zu y]at h;simp only[ak]at h;subst h;exact m.afT y W (R j J)
 .have y:rw[j]?=some (.obj d):=y;have hv:sV rw j=match(OD.aqp d)with|some ks=>some (.set ks)|none=>none:=by unfold sV;rw[gX,y];cases d<;>rfl
  cases d with
  |set ks=>
   rcases H j with⟨_,h⟩|⟨J,h⟩
   .rw[F,hv]at h;simp only[OD.aqp,fS,ak]at h;subst h;simp only[DV.h]
   .rw[F,hv]at h;simp only[OD.aqp,ak]at h;subst h;simp only[DV.h];exact m.afU y X (R j J)
  |_=>rcases H j with⟨_,h⟩|⟨J,h⟩<;>(rw[F,hv]at h;simp[OD.aqp]at h)
theorem amL{g}{s}{xs}{vs:List Value}(hs:alA P g s)(h:alS aj s xs ts pb rw (λr ts pb rw=>jx o.dst r ts pb rw K)=some q)(m:Mem V U0 L B A pb rw w)(Jk:hL (env U0 B A pb rw w) ts a.tmps.toList)(hxs:hL (env U0 B A pb rw w) xs vs)
 (hrun:(execOp a.eval o).run P w=(callFunc g vs.toArray).run P w):o.wp P a w (oJ V U0 L al B A pb rw w a K q) Q:=by
 unfold alS at h;split at h
 .rename_i j ys;split at h
  .rename_i e t l R;rw[gX]at R;split at h
   .rename_i hh z ms F as2 hX;split at h
    .rename_i hrs;subst hh;have⟨l',J,h⟩:=ad0 h;rw[kF]at h;simp only[aD]at F;have⟨F,W⟩:=F;have he:=aF F;subst he;have J:=J;have⟨hlen,hc⟩:=hs l z l' J;obtain⟨v0,vs',rfl,⟨e1,t1,l1,y,rfl⟩,hys⟩:=hxs;have y:rw[j]?=some (.own e1 t1 l1):=y;rw[R]at y;simp only[ak,DR.own.injEq]at y;obtain⟨rfl,rfl,hl1⟩:=y;cases hl1
     have⟨m0,hU,hr1,_⟩:=m.aui (σ:=λ_=>none) (rs:=[some j]) (bor:=λ_=>False) (pb0:=[]) (rw0:=[.own s.e s.t l]) (by simp) (by simp) (by simp)
      (λn r hr=>by
       cases n with
       |zero=>simp at hr;subst hr;exact .inl ⟨j,_,_,_,rfl,R,rfl⟩
       |succ n=>simp at hr)
      (λn n' k H Y=>by
       cases n with
       |zero=>cases n' with
        |zero=>rfl
        |succ n'=>simp at Y
       |succ n=>simp at H)
     have⟨z0,m1,F',k1,_,_,_,_,k6⟩:=TV (am:=[]) (E:=env U0 B A pb rw w) s.P .unit ys ⟨[],rw⟩ _ [] z ms hX (MI.nil (env U0 B A pb rw w));have hA0:lA A [some j] 0=A j:=rfl
     have hLb:∀b,Ow (lB B λ_=>none) (lA A [some j]) [] [.own s.e s.t l] b->iN B A pb rw true j b:=by
      rintro b ⟨k,i,hb⟩;cases k with
      |false=>have⟨⟨_,hb⟩,_⟩:=hb;simp at hb
      |true=>
       have⟨j',H,Y⟩:=hr1 i b hb;cases i with
       |zero=>simp at H;subst H;exact Y
       |succ i=>simp at H
     refine Zw hrun (hc _ _ _ _ w m0 ?_) ?_
     .refine⟨_,_,rfl,⟨_,_,_,rfl,by show _=Value.slice (lA A [some j] 0).1 _ (lA A [some j] 0).2;rw[hA0];rfl⟩,k6 _ _ ?_ ?_ hys⟩
      .simp only[ak,fc]at k1;exact⟨[],by rw[k1.2,bZ]⟩
      .refine⟨⟨λ_ _ _=>rfl,au _,λb _ hu=>hU b hu⟩,λk i hk=>(by simp[FG]at hk),λn j' e t l hn=>(by rw[hrs]at hn;simp at hn),λn hn=>(by rw[hrs]at hn;simp at hn)⟩
     .rintro v w' ⟨rfl,X⟩;have hlt:=(aC.1 R).1
      have⟨m2,s2,e2⟩:=m.putRow (al:=al) (j:=j) (f:=Iq) (rw':=rw.set j (.own s.e s.t l')) (e:=s.e) (t:=s.t) (l:=l') (a:=(A j).1) (c:=(A j).2) (w':=w')
       (by rw[bh,ah rfl,ah hlt]) (λk hk=>by rw[bh,ag (hZ hk)]) (λ_ _ h=>by cases h)
       (λ_ e4 t4 l4 G=>by rw[R]at G;simp only[ak,DR.own.injEq]at G;obtain⟨rfl,rfl,G⟩:=G;cases G;exact⟨_,by rw[bh,ah rfl,ah hlt],hlen,rfl⟩)
       (λ_ d G=>by rw[R]at G;cases G) ⟨X.os,X.tape,X.output,X.size⟩
       (λb hb hnb=>X.same b hb λh=>hnb (hLb b h))
       (λx hx=>.inl ⟨_,x,R,by simp,hx,rfl⟩)
       (λU' lt=>by have⟨xs,H,Y⟩:=X.row 0 s.e s.t l' rfl;rw[hA0]at H;exact⟨xs,H,Y.1,λi x hi=>s.t.Y7 W (Y.2 i x hi)⟩)
      rw[show Eo A j ((A j).1,(A j).2)=A from Md A j]at m2 s2 e2;rw[Mn]at m2 s2 e2;exact oJ.ret h m2 (nD s2 Jk) (by simp only[DV.h,hL];exact⟨#[],rfl,rfl⟩) e2
    .cases h
   .cases h
  .cases h
 .cases h
theorem aa4{g}{c:EC}{xs:List DV}{vs:List Value}(hc:aly P g c)(h:aao aj c al xs ts pb rw (λr ts pb rw=>jx o.dst r ts pb rw K)=some q)(m:Mem V U0 L B A pb rw w)(X:hL (env U0 B A pb rw w) ts a.tmps.toList)(W:hL (env U0 B A pb rw w) xs vs)
 (J:(execOp a.eval o).run P w=(callFunc g vs.toArray).run P w):o.wp P a w (oJ V U0 L al B A pb rw w a K q) Q:=by
 unfold aao at h;split at h
 .rename_i s;exact amL (show alA P g s from hc) h m X W J
 .rename_i s;have hs:=hc;split at h
  .rename_i G;rw[my]at h;have sv:=m.as7 (U':=lU (Us U0 B A pb rw) B A rw (λ_=>False) λ_=>True) (h:=λ_=>False) (λb h=>h.1) (λj _ b h hb=>h.2.2 ⟨j,trivial,hb⟩) (sV rw) (λj=>.inr ⟨id,rfl⟩);exact amK false (λ_=>True) hs h m X (kE sv xs W) (λh=>by cases h) (λ_=>G) J
  .have⟨ts1,F,y,ps,h,m1,H,hps,e1,_⟩:=wU (al:=al) _ h m X W;have s1:Sub Iq (env U0 B A F y w) ⟨lU (Us U0 B A F y) B A y (λ_=>False) λ_=>False,w,B,A,F,y⟩:=⟨⟨λ_ _ _=>rfl,au _,λb _ h=>h.1⟩,λi h=>⟨h,rfl⟩,λj e t l _ h=>⟨l,h,rfl,rfl⟩,λj d _ h=>⟨⟨d,h,rfl⟩,rfl⟩,λj p e t l h=>(by cases h),λj p d ad h=>(by cases h)⟩;have:=amK (al:=al) (Q:=Q) true (λ_=>False) hs h m1 H (nD s1 hps) (λ_ j h=>h) (λh=>by cases h) J;exact AD this λa' w' hn=>oJ.more e1 rfl hn
 .rename_i s;have hs:=hc;split at h
  .rename_i G;simp only[aD]at G;have⟨ts1,F,y,xs1,h,m1,H,R,e1,_⟩:=wU (al:=al) _ h m X W;have⟨ys,hys⟩:=G9 y s.P xs1;rw[hys]at h
   have:=aa3 (al:=al) (Q:=Q) false hs h m1 H (λbor _ hb=>by
    classical
    let f:Nat->Option DV:=λj=>if bor j then sV y j else(sV y j).map λ_=>.jD
    have sv:=m1.as7 (U':=λb=>Us U0 B A F y b/\¬ ∃j,bor j/\iN B A [] y true j b) (h:=λj=>¬bor j) (λb h=>h.1) (λj hj b h R2=>h.2 ⟨j,Classical.not_not.1 hj,R2⟩) f (λj=>by
     by_cases Y:bor j
     .exact .inr ⟨Classical.not_not.2 Y,ah Y⟩
     .exact .inl ⟨Y,ag Y⟩)
    have s0:Sub Iq (env U0 B A F y w) ⟨λb=>Us U0 B A F y b/\¬ ∃j,bor j/\iN B A [] y true j b,w,B,A,F,y⟩:=⟨⟨λ_ _ _=>rfl,au _,λb _ h=>h.1⟩,λi h=>⟨h,rfl⟩,λj e t l _ h=>⟨l,h,rfl,rfl⟩,λj d _ h=>⟨⟨d,h,rfl⟩,rfl⟩,λj p e t l h=>(by cases h),λj p d ad h=>(by cases h)⟩
    have⟨⟨us,h1,h2,_⟩,_⟩:=Mw (q:=ys) sv s0 (λj=>by
     show(if bor j then sV y j else(sV y j).map λ_=>DV.jD).isSome=_;split
     .rfl
     .simp) s.P xs1 [] (λl=>some l) (λj hj=>ah (hb rfl j hj)) (hys some)
    simp only[ak]at h1;subst h1;exact h2 vs R) (λ_=>G) J
   exact AD this λa' w' hn=>oJ.more e1 rfl hn
  .have⟨ts1,F,y,xs1,h,m1,H,R,e1,_⟩:=wU (al:=al) _ h m X W;have:=aa3 (al:=al) (Q:=Q) true hs h m1 H (λbor hb _=>by have s1:Sub Iq (env U0 B A F y w) ⟨λb=>Us U0 B A F y b/\¬ ∃j,bor j/\iN B A [] y true j b,w,B,A,F,y⟩:=⟨⟨λ_ _ _=>rfl,au _,λb _ h=>h.1⟩,λi h=>⟨h,rfl⟩,λj e t l _ h=>⟨l,h,rfl,rfl⟩,λj d _ h=>⟨⟨d,h,rfl⟩,rfl⟩,λj p e t l h=>(by cases h),λj p d ad h=>(by cases h)⟩;exact nD s1 R) (λh=>by cases h) J;exact AD this λa' w' hn=>oJ.more e1 rfl hn
theorem aa5{g}{xs}{vs:List Value}(F:hL (env U0 B A pb rw w) ts a.tmps.toList)(m:Mem V U0 L B A pb rw w)(y:hL (env U0 B A pb rw w) xs vs)(j:(execOp a.eval o).run P w=(callFunc g vs.toArray).run P w):
 ∀(l:List EC),(∀c∈l,aly P g c)->aap aj al xs ts pb rw (λr ts pb rw=>jx o.dst r ts pb rw K) l=some q->o.wp P a w (oJ V U0 L al B A pb rw w a K q) Q
 |[],_,h=>by cases h
 |c::l,hl,h=>by
  unfold aap at h;split at h
  .exact aa4 (hl c (bU ..)) h m F y j
  .rename_i d l';have h:orF (aao aj c al xs ts pb rw λr ts pb rw=>jx o.dst r ts pb rw K) (aap aj al xs ts pb rw (λr ts pb rw=>jx o.dst r ts pb rw K) (d::l'))=some q:=h;unfold orF at h;split at h
   .rename_i x G;simp only[ak]at h;subst h;exact aa4 (hl c (bU ..)) G m F y j
   .exact aa5 F m y j (d::l') (λc H=>hl c (bd _ H)) h
theorem aa6{g}{xs}{vs:List Value}(H:DD P C)(h:alT aj C al g xs ts pb rw (λr ts pb rw=>jx o.dst r ts pb rw K)=some q)(m:Mem V U0 L B A pb rw w)(F:hL (env U0 B A pb rw w) ts a.tmps.toList)(y:hL (env U0 B A pb rw w) xs vs)
 (j:(execOp a.eval o).run P w=(callFunc g vs.toArray).run P w):o.wp P a w (oJ V U0 L al B A pb rw w a K q) Q:=
 aa5 F m y j _ (λ_ G=>amB H G) h
theorem aqq{c}(X:dL P T)(hC:DD P C)(ho:o.op=.call c)(h:qA aj T C al av o ts pb rw K=some q)(m:Mem V U0 L B A pb rw w)(y:hL (env U0 B A pb rw w) ts a.tmps.toList):o.wp P a w (oJ V U0 L al B A pb rw w a K q) Q:=by
 cases j:c.callee with
 |value f=>
  have Y:=h;simp only[qA,ho,j]at h;split at h
  .rename_i g axK xs W R;have W:=gH W y;have R:=OA R y;have⟨cv,H,J⟩:=W;split at h
   .rename_i hb;refine aa6 hC h m y (ady J R) ?_;rw[ad7 ho j (H.trans (aw1 hb cv))];congr 2;apply fY;simp
   .rename_i hb;refine aa6 hC h m y (ady R J) ?_;rw[Zx ho j (H.trans (arR hb cv))];congr 2;apply fY;simp
  .cases h
 |invoke r s=>simp only[qA,ho,j]at h;cases h
 |builtin b=>
  have Y:=h;simp only[qA,ho,j]at h;split at h
  .rename_i xs F;have G:=OA F y;cases b with
   |append=>exact aix X ho j G Y F m y
   |clear=>exact am6 X ho j G Y F m y
   |_=>exact TT (TQ X ho j rfl G h) m y Ext.refl
  .cases h
theorem aqr(G:dL P T)(H:DD P C)(h:qA aj T C al av o ts pb rw K=some q)(m:Mem V U0 L B A pb rw w)(j:hL (env U0 B A pb rw w) ts a.tmps.toList):o.wp P a w (oJ V U0 L al B A pb rw w a K q) Q:=by
 have F:=h;unfold qA at h;cases ho:o.op with
 |alloc t=>exact am1 G ho F m j
 |box t x=>exact auf ho F m j
 |load t x=>exact aqi G ho F m j
 |store t x y=>exact amx G ho F m j
 |call c=>exact aqq G H ho F m j
 |buildSlice t l p=>exact VD G ho F m j
 |slice t x lo hi J=>exact am2 G ho F m j
 |makeSlice t l c=>exact Zp G ho F m j
 |index t x i=>exact am3 G ho F m j
 |range t x=>exact am8 G ho F m j
 |next x b=>exact aql ho F m j
 |makeMap t r=>exact ad6 G ho F m j
 |mapUpdate t x y z=>exact Zs G ho F m j
 |entry x=>exact amA ho F m j
 |_=>rw[ho]at h;exact TT (Zn G ho j rfl m.afY h) m j Ext.refl
end
end Go.Vc







