import Derived.Test.YthghpahghjppjaaGreatB1
import Derived.Lib.AppendStr
import Derived.Lib.AppendZerosOnto
import Derived.Laws.MakeOwn
import Derived.Laws.BytesString
import Derived.Great.BuildSlice
import Derived.Lib.SliceRun
import Derived.Lib.ConvBytes
namespace Go.Vc
open Go Go.RowKit
section
variable {P : Program} {T : List TI} {E : Env} {ts : List DV} {a : Act} {β : Type} {q : β} {o : Oper} {ret : DV -> Option β} {rw : List DR}
def alZ(E:Env):Prop:=∀j e t l,E.rw[j]?=some (.own e t l)->(E.A j).1=none->l.length=0
def sW(P:Program)(E:Env)(a:Act)(o:Oper)(ret:DV->Option β)(q:β):Prop:=∃r v,ret r=some q/\r.h E v/\∀w,(execOp a.eval o).run P w=.ok (.value v) w
theorem sX{s:Sem Value}{r:DV}{v:Value}(C:∀w,(execOp a.eval o).run P w=(s.run P w).andThen λv w'=>.ok (.value v) w')(y:ret r=some q)(j:r.h E v)(hs:∀w,s.run P w=.ok v w):sW P E a o ret q:=⟨r,v,y,j,λw=>by rw[C,hs];rfl⟩
theorem apX{g}{x y r}(h:al3 g x y=some r){u v}(j:x.h E u)(hv:y.h E v):r.h E (if g then u else v):=by
 unfold al3 at h
 split at h<;>first
  |(cases h;done)
  |(simp only[ak]at h;subst h;simp only[DV.h]at j hv ⊢;subst j;subst hv;cases g<;>simp)
theorem apY{c x y}(ho:o.op=.pick c x y)(j:hL E ts a.tmps.toList)(h:vG aj T o.op ts rw ret=some q):sW P E a o ret q:=by
 simp only[ho,vG]at h;have⟨g,C,h⟩:=wD h;have C:=gq C j;have G:∀w,(execOp a.eval o).run P w=((asBool (a.eval c)).run P w).andThen λb w'=>.ok (.value (if b then a.eval x else a.eval y)) w':=by intro w;simp only[execOp,ho,aR,bI]
 split at h
 .have⟨z,F,h⟩:=wD h;simp only[DV.h]at C;exact⟨z,_,h,gq F j,λw=>by rw[G,C];simp[asBool]⟩
 .have⟨z,F,h⟩:=wD h;simp only[DV.h]at C;exact⟨z,_,h,gq F j,λw=>by rw[G,C];simp[asBool]⟩
 .have⟨z,F,h⟩:=wD h;have⟨u,J,h⟩:=wD h;have⟨r,H,h⟩:=wD h;simp only[DV.h]at C;exact⟨r,_,h,apX H (gq F j) (gq J j),λw=>by rw[G,C];simp[asBool]⟩
 .cases h
theorem aao{x}(ho:o.op=.nilCheck x)(y:hL E ts a.tmps.toList)(h:vG aj T o.op ts rw ret=some q):sW P E a o ret q:=by
 simp only[ho,vG]at h;have⟨g,j,h⟩:=wD h;have j:=gq j y;split at h
 .refine⟨_,_,h,j,λw=>?_⟩;simp only[DV.h]at j;have⟨_,j⟩:=j;simp only[execOp,ho,j];rfl
 .refine⟨_,_,h,j,λw=>?_⟩;simp only[DV.h]at j;have⟨_,_,j,_⟩:=j;simp only[execOp,ho,j];rfl
 .refine⟨_,_,h,j,λw=>?_⟩;simp only[DV.h]at j;have⟨_,_,_,_,_,_,_,j⟩:=j;simp only[execOp,ho,j];rfl
 .rename_i f _ _;refine⟨_,_,h,j,λw=>?_⟩;simp only[DV.h]at j;have⟨_,j,_⟩:=j;simp only[execOp,ho,j,fnV];cases Nat.ble 1000000 f<;>rfl
 .cases h
theorem apZ{op:UnOp}{t:TypeId}{x:Operand}(ho:o.op=.unOp op t x)(C:hL E ts a.tmps.toList)(h:vG aj T o.op ts rw ret=some q):sW P E a o ret q:=by
 simp only[ho,vG]at h;have⟨g,y,h⟩:=wD h;have⟨r,j,h⟩:=wD h;have y:=gq y C;have F:∀w,(execOp a.eval o).run P w=((Op.unary op (a.eval x)).run P w).andThen λv w'=>.ok (.value v) w':=by intro w;simp only[execOp,ho,aR,bI]
 unfold unV at j
 split at j<;>first
  |(cases j;done)
  |(simp only[ak]at j;subst j;simp only[DV.h]at y;rw[y]at F;exact sX F h (by simp only[DV.h];rfl) λw=>by first|(simp[Op.unary];done)|(simp[Op.unary,Op.intArith];done)|(simp[Op.unary,intBits_xor];done))
theorem adx{s d:TypeId}{x:Operand}(G:dD P T)(ho:o.op=.convert s d x)(J:hL E ts a.tmps.toList)(h:vG aj T (.convert s d x) ts rw ret=some q):sW P E a o ret q:=by
 simp only[vG]at h;have⟨g,C,h⟩:=wD h;have C:=gq C J;have F:∀w,(execOp a.eval o).run P w=((convert s d (a.eval x)).run P w).andThen λv w'=>.ok (.value v) w':=by intro w;simp only[execOp,ho,aR,bI]
 split at h
 .rename_i hs R _;have⟨V,is,y,_⟩:=(rL G hs).ex;have⟨W,K,j⟩:=pc G R;have H:=atT K j;simp only[DV.h]at C;rw[C]at F;exact sX F h (by simp only[DV.h];rfl) λw=>by simp[convert,aR,bb y,bb H,Conv.intToInt]
 .rename_i hs R _;have⟨V,is,y,_⟩:=(rL G hs).ex;have⟨W,K,j⟩:=pc G R;have H:=Dl K j;simp only[DV.h]at C;rw[C]at F;exact sX F h (by simp only[DV.h];rfl) λw=>by simp only[convert,aR,bb y,bb H,br];cases V<;>simp
 .cases h
theorem aqa{p r}{off}(h:al4 p off=some r){v}(hv:p.h E v):∃ad,v=.pointer (some ad)/\r.h E (.pointer (some (ad.add off))):=by
 unfold al4 at h;split at h
 .simp only[ak]at h;subst h;simp only[DV.h]at hv ⊢;obtain⟨j,rfl⟩:=hv;exact⟨_,rfl,j,by rw[sK]⟩
 .simp only[ak]at h;subst h;simp only[DV.h]at hv ⊢;obtain⟨ad,us,rfl,j,y⟩:=hv;exact⟨_,rfl,ad,us,by rw[nT],j,y⟩
 .simp only[ak]at h;subst h;simp only[DV.h]at hv ⊢;obtain⟨e,t,l,ad,j,y,C,rfl⟩:=hv;exact⟨_,rfl,e,t,l,ad,j,y,C,by rw[nT,CP]⟩
 .cases h
theorem X8{s:TypeId}{f:Nat}{x:Operand}(hT:dD P T)(ho:o.op=.fieldAddr s x f)(H:hL E ts a.tmps.toList)(h:vG aj T o.op ts rw ret=some q):sW P E a o ret q:=by
 simp only[ho,vG]at h;have⟨g,R,h⟩:=wD h;have R:=gq R H;have X:∀w,(execOp a.eval o).run P w=((Instr.fieldAt s (a.eval x) f).run P w).andThen λv w'=>.ok (.value v) w':=by intro w;simp only[execOp,ho,aR,bI]
 split at h
 .rename_i fs hs;have⟨fq,V,h1⟩:=wD h;have⟨r,y,h2⟩:=wD h1;have⟨ti,hf,J⟩:=pc hT hs;obtain⟨fl,hu,rfl⟩:=HM hf J;have⟨F,j⟩:=X6 V;simp only[kI,ep]at F;obtain⟨Y,W,rfl⟩:=F;simp only at j y;have⟨i,hi,C⟩:=sm Y.type j;have G:fl[f]?=some Y:=by simpa using W
  have⟨ad,hv,K⟩:=aqa y R;rw[hv]at X;exact sX X h2 K λw=>by simp[Instr.fieldAt,aR,bb hu,G,Instr.sureAddr,fieldPlace,tg hi,C,j]
 .cases h
theorem ama(K:dD P T){ty}{xs}{off}{r}{i}(h:al5 T ty i.size xs off=some r)(hi:P.info? ty=some i){vs}(hv:hL E xs vs.toList):
 ∃v,r.h E v/\∀w,(part ty vs off).run P w=.ok v w:=by
 unfold al5 at h;split at h
 .rename_i R G;have y:=rL K G;split at h
  .rename_i j;split at h
   .rename_i l hl;simp only[ak]at h;subst h;obtain⟨rfl,J⟩:=wC hl;refine⟨.agg ((vs.toList.drop off).take i.size).toArray,by simp only[DV.h];exact⟨_,rfl,alP hv off i.size⟩,λw=>?_⟩;simp only[part,aR,XU y,j,br,rH,tg hi,bI];congr 2;apply fG;simp[yj,rQ]
   .cases h
  .rename_i j;split at h
   .rename_i x H;simp only[ak]at h;subst h;have⟨v,F,C⟩:=Jt hv _ _ (NQ H);refine⟨v,C,λw=>?_⟩;have:vs[off]?=some v:=by simpa using F
    simp[part,XU y,j,this]
   .cases h
 .cases h
theorem amb{s:TypeId}{f:Nat}{x:Operand}(hT:dD P T)(ho:o.op=.field s x f)(R:hL E ts a.tmps.toList)(h:vG aj T o.op ts rw ret=some q):sW P E a o ret q:=by
 simp only[ho,vG]at h;have⟨g,y,h⟩:=wD h;have y:=gq y R;have Y:∀w,(execOp a.eval o).run P w=((Instr.field s (a.eval x) f).run P w).andThen λv w'=>.ok (.value v) w':=by intro w;simp only[execOp,ho,aR,bI]
 split at h
 .rename_i fs xs hs _;have⟨fq,W,h1⟩:=wD h;have⟨r,j,h2⟩:=wD h1;have⟨ti,hf,V⟩:=pc hT hs;obtain⟨fl,hu,rfl⟩:=HM hf V;have⟨G,C⟩:=X6 W;simp only[kI,ep]at G;obtain⟨fd,X,rfl⟩:=G;simp only at C j;have⟨i,hi,F⟩:=sm fd.type C;have H:fl[f]?=some fd:=by simpa using X
  simp only[DV.h]at y;have⟨vs,hv,y⟩:=y;rw[hv]at Y;rw[<-F]at j;have⟨v,K,J⟩:=ama hT j hi y;exact sX Y h2 K λw=>by simp[Instr.field,aR,bb hu,H,asAgg,J]
 .cases h
theorem X9{t:TypeId}{x ix:Operand}(hT:dD P T)(ho:o.op=.indexAddr t x ix)(IN:hL E ts a.tmps.toList)(hrw:E.rw=rw)(hA:alZ E)(h:vG aj T o.op ts rw ret=some q):sW P E a o ret q:=by
 simp only[ho,vG]at h;have⟨g,X,h⟩:=wD h;have⟨u,W,h⟩:=wD h;have X:=gq X IN;have W:=gq W IN;have hr:∀w,(execOp a.eval o).run P w=((Instr.indexAt t (a.eval x) (a.eval ix)).run P w).andThen λv w'=>.ok (.value v) w':=by intro w;simp only[execOp,ho,aR,bI]
 split at h
 .rename_i e t' l k i C _ _ _;have⟨ti,hf,C⟩:=pc hT C;have G:=qK hf C;split at h
  .rename_i te H;have J:=rL hT H;split at h
   .rename_i F h0;have F:=aE F;have⟨hi0,y,hy,h⟩:=as3 h;simp only[DV.h]at X W;have⟨aa,c,hv,hlc,hcm,hel⟩:=X;simp only[dC,nJ]at hv;have⟨us,hus,V⟩:=hel _ _ hy;have hlt:=(aC.1 hy).1;have hul:=t'.Ac hus
    obtain⟨ad,rfl⟩:∃ad,aa=some ad:=by
     have hp:0<us.length:=by rw[hul];exact bS h0
     have⟨x0,K,_⟩:=V 0 _ (ay hp);exact⟨x0,K⟩
    rw[hv,W]at hr;refine sX hr h (v:=.pointer (some (ad.add (i.toNat*te.size)))) ?_ λw=>?_
    .simp only[DV.h];refine⟨ad.add (i.toNat*te.size),us,by rw[nT];rfl,hus,λj z hj=>?_⟩;have⟨x0,K,h1,h2,h3⟩:=V j z hj;simp only[ak]at K;subst K;exact⟨_,rfl,by rw[jD];exact h1,by rw[jD];exact h2,by rw[nT,cg,F];exact h3⟩
    .have h1:i<(l.length:Int):=by omega
     simp[Instr.indexAt,aR,bb G,asIntOf,hi0,h1,ri J]
   .cases h
  .cases h
 .rename_i e j k i C _ _ _;have⟨ti,hf,C⟩:=pc hT C;have G:=qK hf C;split at h
  .rename_i te e' t' l H R;have J:=rL hT H;rw[gM,<-hrw]at R;split at h
   .rename_i F h0;have F:=aE F;have⟨hi0,y,hy,h⟩:=as3 h;simp only[DV.h]at X W;have⟨e2,t2,l2,Y,hv⟩:=X;rw[R]at Y;simp only[ak,DR.own.injEq]at Y;obtain⟨rfl,rfl,hl2⟩:=Y;cases hl2;have hlt:=(aC.1 hy).1;cases ha:(E.A j).1 with
    |none=>have:=hA j e' t' l R ha;omega
    |some ad=>
     rw[hv,W,ha]at hr;refine sX hr h (v:=.pointer (some (ad.add (i.toNat*te.size)))) ?_ λw=>?_
     .simp only[DV.h];exact⟨e',t',l,ad,R,hlt,ha,by rw[F,gP]⟩
     .have h1:i<(l.length:Int):=by omega
      simp[Instr.indexAt,aR,bb G,asIntOf,hi0,h1,ri J]
   .cases h
  .cases h
 .rename_i e l _ k C _ _ _;have⟨ti,hf,C⟩:=pc hT C;have G:=qK hf C;split at h
  .rename_i te H;have J:=rL hT H;split at h
   .rename_i F h0;have F:=aE F;have h0:k<l.length:=bS h0;simp only[DV.h]at X W;have⟨ad,vs,c,hv,hel,V⟩:=X;rw[hv,W]at hr;refine sX hr h (v:=.pointer (some (ad.add k))) (by simp only[DV.h];exact⟨ad,vs,rfl,hel,V⟩) λw=>?_
    have h1:((k:Nat):Int)<(l.length:Int):=by omega
    have h2:(0:Int)<=((k:Nat):Int):=by omega
    simp[Instr.indexAt,aR,bb G,asIntOf,h0,ri J,F]
   .cases h
  .cases h
 .cases h
theorem ady{t:Operand}{i:Nat}(ho:o.op=.extract t i)(F:hL E ts a.tmps.toList)(h:vG aj T o.op ts rw ret=some q):sW P E a o ret q:=by
 simp only[ho,vG]at h;have⟨g,j,h⟩:=wD h;have j:=gq j F;have G:∀w,(execOp a.eval o).run P w=((Instr.extract (a.eval t) i).run P w).andThen λv w'=>.ok (.value v) w':=by intro w;simp only[execOp,ho,aR,bI]
 split at h
 .split at h
  .rename_i xs x H;simp only[DV.h]at j;have⟨vs,hv,j⟩:=j;have⟨v,C,y⟩:=Jt j _ _ (NQ H);rw[hv]at G;have:vs[i]?=some v:=by simpa using C
   exact sX G h y λw=>by simp[Instr.extract,this]
  .cases h
 .cases h
theorem aap{fn}{first j}(ho:o.op=.makeFunc fn first j)(H:hL E ts a.tmps.toList)(h:vG aj T o.op ts rw ret=some q):sW P E a o ret q:=by
 simp only[ho,vG]at h;split at h
 .rename_i f y;split at h
  .rename_i cs hb F;have J:=NS F H;have C:first = #[]:=by apply fG;simpa using y
   refine⟨_,.func (.func f) #[] (j.map a.eval),h,by simp only[DV.h];exact⟨_,by unfold fnV;rw[hb];rfl,by simpa using J⟩,λw=>?_⟩;simp[execOp,ho,Instr.makeFunc,C]
  .cases h
 .rename_i f G _;split at h
  .rename_i cs F;have J:=NS F H;have C:j = #[]:=by apply fG;simpa using G
   have hb:Nat.ble 1000000 (f+1000000)=true:=gJ (by omega);refine⟨_,.func (.func f) (first.map a.eval) #[],h,by simp only[DV.h];exact⟨first.map a.eval,by unfold fnV;rw[hb];simp,by simpa using J⟩,λw=>?_⟩;simp[execOp,ho,Instr.makeFunc,C]
  .cases h
 .cases h
theorem Dm{x:Option DV}{d j n:Nat}{C:Option Operand}(H:(C=none/\x=none)\/∃y p,C=some y/\x=some p/\p.h E (a.eval y))(hb:(x=none/\n=d)\/∃k i,x=some (.int k i)/\0<=i/\i<=(j:Int)/\n=i.toNat):
 (C=none/\n=d)\/∃y k i,C=some y/\a.eval y=.int k i/\0<=i/\i<=(j:Int)/\n=i.toNat:=by
 rcases H with⟨rfl,rfl⟩|⟨y,p,rfl,rfl,hp⟩
 .rcases hb with⟨_,rfl⟩|⟨k,i,h,_⟩
  .exact .inl ⟨rfl,rfl⟩
  .cases h
 .rcases hb with⟨h,_⟩|⟨k,i,h,h1,G,F⟩
  .cases h
  .simp only[ak]at h;subst h;simp only[DV.h]at hp;exact .inr ⟨y,k,i,rfl,hp,h1,G,F⟩
theorem amc{t:TypeId}{x:Operand}{lo hi mx:Option Operand}(hT:dD P T)(ho:o.op=.slice t x lo hi mx)(Y:hL E ts a.tmps.toList)(h:vG aj T (.slice t x lo hi mx) ts rw ret=some q):sW P E a o ret q:=by
 simp only[vG]at h;have⟨g,hg,h⟩:=wD h;have hg:=gq hg Y;split at h
 .rename_i plo phi G J;have G:=alX G Y;have J:=alX J Y;have hr:∀w,(execOp a.eval o).run P w=((Instr.sliceAt t (a.eval x) (lo.map a.eval) (hi.map a.eval) (mx.map a.eval)).run P w).andThen λv w'=>.ok (.value v) w':=by intro w;simp only[execOp,ho,aR,bI]
  split at h
  .rename_i e t' l F _ _;have⟨ti,hf,F⟩:=pc hT F;have C:=qK hf F;split at h
   .rename_i te X';have K:=rL hT X';split at h
    .rename_i H;have H:=aE H;simp only[DV.h]at hg;have⟨W,c,hv,hlc,hcm,hel⟩:=hg;simp only[dC,nJ]at hv;split at h
     .have⟨n,h9,hb⟩:=SI h;have hnl:n<=l.length:=by rcases hb with⟨_,rfl⟩|⟨_,_,_,_,_,rfl⟩<;>omega
      rcases G with⟨rfl,_⟩|⟨_,_,rfl,V,_⟩;case inr=>cases V
      rw[hv]at hr;refine sX hr h9 (v:=.slice W n c) ?_ λw=>?_
      .simp only[DV.h]
       exact⟨W,c,by simp;omega,by simp;omega,hcm,λi y X=>hel i y (by
        rw[cw]at X;split at X
        .exact X
        .cases X)⟩
      .rcases Dm J hb with⟨rfl,rfl⟩|⟨o',k,i,rfl,R,h0,h1,rfl⟩
       .simp only[Instr.sliceAt,Instr.slice,aR,bb C,br,kR,Instr.sliceBounds,bI,ri K,pH,E8];congr 2;cases W<;>simp[Addr.add]
       .have h1':i<=(c:Int):=by omega
        simp only[Instr.sliceAt,Instr.slice,aR,bb C,br,kR,fy,R,Instr.sliceBounds,bI,rH,ie w k i c .sliceAcap h0 h1',ri K,pH,E8];congr 2;cases W<;>simp[Addr.add]
     .rename_i plo;have⟨n,h8,hb⟩:=SI h;have⟨m,h9,Qm⟩:=SI h8;have hnl:n<=l.length:=by rcases hb with⟨_,rfl⟩|⟨_,_,_,_,_,rfl⟩<;>omega
      have hmn:m<=n:=by
       rcases Qm with⟨V,_⟩|⟨_,_,_,_,_,rfl⟩
       .cases V
       .omega
      rcases Dm G Qm with⟨rfl,_⟩|⟨ol,kl,il,rfl,awy,hl0,hl1,rfl⟩
      .rcases G with⟨_,V⟩|⟨_,_,V,_⟩<;>cases V
      .rw[hv]at hr;refine sX hr h9 (v:=.slice (if c=il.toNat then W else W.map (·.add (il.toNat*te.size))) (n-il.toNat) (c-il.toNat)) ?_ λw=>?_
       .simp only[DV.h];have hlen:((l.take n).drop il.toNat).length=n-il.toNat:=by rw[dP,aY,gz hnl]
        refine⟨_,_,by rw[hlen],by rw[hlen];omega,by omega,λi y X=>?_⟩;rw[cI,cw]at X;split at X
        .have⟨us,h1,h2⟩:=hel _ y X;refine⟨us,h1,λj u hj=>?_⟩;obtain⟨ad,rfl,g1,g2,g3⟩:=h2 j u hj;rw[ag (by omega)];refine⟨_,rfl,by rw[jD];exact g1,by rw[jD];exact g2,?_⟩;rw[nT,H,<-g3];congr 2;rw[iN];omega
        .cases X
       .rcases Dm J hb with⟨rfl,rfl⟩|⟨o',k,i,rfl,R,h0,h1,rfl⟩
        .simp only[Instr.sliceAt,Instr.slice,aR,bb C,br,kR,fy,awy,Instr.sliceBounds,bI,pJ,eM,nS,ie w kl il _ .sliceB hl0 hl1,ri K]
        .have h1':i<=(c:Int):=by omega
         simp only[Instr.sliceAt,Instr.slice,aR,bb C,br,kR,fy,awy,R,Instr.sliceBounds,bI,pJ,eM,nS,rH,ie w k i c .sliceAcap h0 h1',ie w kl il _ .sliceB hl0 hl1,ri K]
    .cases h
   .cases h
  .rename_i s F _ _;have⟨ti,hf,F⟩:=pc hT F;have C:=Dl hf F;have⟨n,h8,hb⟩:=SI h;have⟨m,h9,Qm⟩:=SI h8;simp only[DV.h]at hg;rw[hg]at hr;refine sX hr h9 (v:=.string (s.extract m n)) (by simp only[DV.h]) λw=>?_
   rcases Dm J hb with⟨rfl,rfl⟩|⟨o',k,i,rfl,R,h0,h1,rfl⟩<;>rcases Dm G Qm with⟨rfl,rfl⟩|⟨ol,k2,i2,rfl,awz,h2,h3,rfl⟩
   .simp[Instr.sliceAt,Instr.slice,aR,bb C,Instr.sliceBounds]
   .simp[Instr.sliceAt,Instr.slice,aR,bb C,Instr.sliceBounds,awz,ie w k2 i2 _ .sliceB h2 h3]
   .simp[Instr.sliceAt,Instr.slice,aR,bb C,Instr.sliceBounds,R,ie w k i _ .sliceAlen h0 h1]
   .simp[Instr.sliceAt,Instr.slice,aR,bb C,Instr.sliceBounds,R,awz,ie w k i _ .sliceAlen h0 h1,ie w k2 i2 _ .sliceB h2 h3]
  .rename_i e t' l m F _ _;have⟨ti,hf,F⟩:=pc hT F;have C:=qK hf F;split at h
   .rename_i kn n kk k te hm X' _ _;have K:=rL hT X';split at h
    .rename_i H;have H:=aE H;rcases alU h with⟨hc,h9⟩|⟨_,h9⟩;case inr=>cases h9
     simp only[aD,fW]at hc;obtain⟨rfl,rfl⟩:=hc;simp only[DV.h]at hg;have⟨W,c,hv,hlc,hcm,hel⟩:=hg;simp only[dC,nJ]at hv;have hm:=gq hm Y;simp only[DV.h]at hm;rcases G with⟨rfl,_⟩|⟨_,_,rfl,V,_⟩;case inr=>cases V
     rcases J with⟨_,V⟩|⟨o',p,rfl,V,hp⟩
     .cases V
     simp only[ak]at V;subst V;simp only[DV.h]at hp;rw[hv]at hr;refine sX hr h9 (v:=.slice W l.length l.length) ?_ λw=>?_
     .simp only[DV.h];exact⟨⟨W,l.length,rfl,au _,by omega,hel⟩,W,rfl⟩
     .simp only[Instr.sliceAt,Instr.slice,aR,bb C,br,kR,fy,hm,hp,Instr.sliceBounds,bI,rH,ie w kk l.length c .slice3Acap (by omega) (by omega),aP,ie w kn l.length l.length .slice3B (by omega) (by omega),ri K,pH,E8];congr 2;cases W<;>simp[Addr.add]
    .cases h
   .cases h
  .cases h
 .cases h
theorem O'(w):∀(fl:List Field),(∀f∈fl,(sizeOf f.type).run P w=.ok (P.cellsOf f.type) w)->
    (fl.mapM (λf=>do pure (f.offset,<-sizeOf f.type):Field->Sem (Nat×Nat))).run P w=.ok (fl.map λf=>(f.offset,P.cellsOf f.type)) w
  |[],_=>by simp
  |f::fl,h=>by
    have C:=h f (by simp)
    have j:=O' w fl (λg y=>h g (by simp[y]))
    simp only[List.mapM_cons,aR,C,j,br,bI,bK]
theorem Ya{Y}:∀(ps:List (Nat×DV)) (y:List (Nat×Value)) (cells:List DV) (cs:List Value) (K:List DV->Option β),aah Y cells ps K=some q->hL E (ps.map (·.2)) (y.map (·.2))->ps.map (·.1)=y.map (·.1)->hL E cells cs->
 ∃r us,K r=some q/\hL E r us/\Instr.fill (λi=>(Y.map λf=>(f.1,f.2.2))[i]?) cs.toArray y=some us.toArray
 |[],y,cells,cs,K,h,hv,C,G=>by
  cases y with
  |nil=>exact⟨cells,cs,h,G,by simp[Instr.fill]⟩
  |cons n y=>simp at C
 |(i,x)::ps,y,cells,cs,K,h,hv,C,G=>by
  cases y with
  |nil=>simp at C
  |cons n y=>
   have⟨i',v⟩:=n;simp only[bK,dC]at C;obtain⟨rfl,C⟩:=C;simp only[bK,hL]at hv;have⟨v',vs',e,J,H⟩:=hv;simp only[dC]at e;obtain⟨rfl,rfl⟩:=e;simp only[aah]at h;split at h
   .rename_i off ty W F;have⟨F,hsz⟩:=X6 F;split at h
    .rename_i ds V;have X:=SG V J;split at h
     .rename_i j Bn;have j:=aE j;have hle:=(wC Bn).2;rw[X5]at h;have⟨r,us,h1,h2,h3⟩:=Ya ps y _ _ K h H C (alO off G X);refine⟨r,us,h1,h2,?_⟩;have hs:v.cells.size=W:=by rw[<-fi,pt X,j]
      have hcl:=pt G;simp only[Instr.fill,kI,F,fy];have R:¬(off+W>cs.length):=by omega
      simp only[hs,ne_eq,not_true_eq_false,decide_false,eX,Bool.false_or,R];rw[<-h3];congr 1;have:=al0 v.cells.toList cs.toArray off 0;rw[<-Array.foldl_toList,Array.toList_zipIdx];rw[this];simp
     .cases h
    .cases h
   .cases h
theorem Wb{e}{j}:∀{n k i:Nat} {q:Nat×Nat×Nat},(V4 e j n k)[i]?=some q->q=((k+i)*j,e,j)
 |0,k,i,q,h=>by simp[V4]at h
 |n+1,k,0,q,h=>by simp[V4]at h;rw[<-h];rfl
 |n+1,k,i+1,q,h=>by simp only[V4,fg]at h;rw[Wb h,show k+1+i=k+(i+1)by omega]
theorem Wc{f g}(h:∀i p,f i=some p->g i=some p):∀{cs:Array Value} (ps:List (Nat×Value)) {r:Array Value},Instr.fill f cs ps=some r->Instr.fill g cs ps=some r
 |cs,[],r,j=>j
 |cs,(i,v)::ps,r,j=>by
  unfold Instr.fill at j ⊢;cases y:f i with
  |none=>rw[y]at j;cases j
  |some p=>
   rw[y]at j;rw[h i p y];have⟨off,F⟩:=p;simp only at j ⊢;split at j
   .cases j
   .rename_i C;rw[ag C];exact Wc h ps j
theorem amd{t:TypeId}{F:Array (Nat×Operand)}(hT:dD P T)(ho:o.op=.build t F)(IN:hL E ts a.tmps.toList)(h:vG aj T o.op ts rw ret=some q):sW P E a o ret q:=by
  simp only[ho,vG]at h
  split at h
  · rename_i ps hps
    have⟨ZF,hp2⟩:=SH hps IN
    have hr:∀w,(execOp a.eval o).run P w=((Instr.build t (F.toList.map λp=>(p.1,a.eval p.2)).toArray).run P w).andThen λv w'=>.ok (.value v) w':=by
      intro w
      simp only[execOp,ho,aR,bI]
      congr 3
      apply fG
      simp
    split at h
    · rename_i ti hti
      have hf:=rL hT hti
      split at h
      · rename_i fs z R X hz
        obtain⟨fl,hu,rfl⟩:=HM hf X
        split at h
        · rename_i C
          have C:=alW C
          obtain⟨r,us,h,Y,G⟩:=Ya ps (F.toList.map λp=>(p.1,a.eval p.2)) _ _ _ h (by simpa[gQ,vy]using ZF) (by simpa[gQ,vy]using hp2) (Gz (z::R))
          have⟨i,hi,_,y⟩:=Lv hf
          rw[hz]at y
          obtain⟨H,V,W⟩:∃H,i.zero=some H/\H.cells.toList=z::R:=by
            cases J:i.zero with
            |none=>rw[J]at y;cases y
            |some H=>rw[J]at y;exact⟨H,rfl,y.symm⟩
          refine sX hr h (v:=.agg us.toArray) (by simp only[DV.h];exact⟨_,rfl,by simpa using Y⟩) λw=>?_
          have hm:=O' (P:=P) w fl.toList (λf hf'=>by
            have:=C _ (aN.2 ⟨f,hf',rfl⟩)
            have⟨j,hj,hjs⟩:=sm f.type this
            rw[tg hj,hjs])
          have hm':(fl.mapM (λf=>do pure (f.offset,<-sizeOf f.type):Field->Sem (Nat×Nat))).run P w=.ok (fl.toList.map λf=>(f.offset,P.cellsOf f.type)).toArray w:=by
            rw[Array.mapM_eq_mapM_toList]
            simp only[Sem.run_map,hm,br]
          have hc:H.cells=(z::R).toArray:=by rw[<-W]
          simp only[Instr.build,aR,uD hi V,br,bb hu,hm',hc]
          simp only[gQ]at G
          have e:(λx:Nat=>((fl.toList.map λf=>(f.offset,P.cellsOf f.type)).toArray)[x]?)=(λi:Nat=>(fl.toList.map ((λf=>(f.1,f.2.2)) ∘ λf=>(f.offset,f.type,P.cellsOf f.type)))[i]?):=by
            funext i;simp;rfl
          rw[e,G]
          simp
        · cases h
      · rename_i n e z R X hz
        have hu:=aac hf X
        split at h
        · rename_i te X'
          have Yb:=rL hT X'
          split at h
          · rename_i C
            have C:=bS C
            have hsz:=ri Yb
            obtain⟨r,us,h,Y,G⟩:=Ya ps (F.toList.map λp=>(p.1,a.eval p.2)) _ _ _ h (by simpa[gQ,vy]using ZF) (by simpa[gQ,vy]using hp2) (Gz (z::R))
            obtain⟨i,hi,_,y⟩:=Lv hf
            rw[hz]at y
            obtain⟨H,V,W⟩:∃H,i.zero=some H/\H.cells.toList=z::R:=by
              cases J:i.zero with
              |none=>rw[J]at y;cases y
              |some H=>rw[J]at y;exact⟨H,rfl,y.symm⟩
            refine sX hr h (v:=.agg us.toArray) (by simp only[DV.h];exact⟨_,rfl,by simpa using Y⟩) λw=>?_
            have hc:H.cells=(z::R).toArray:=by rw[<-W]
            have K:=Wc (g:=λi=>some (i*te.size,te.size)) (λi p hp=>by
              simp only[kI,ep]at hp
              obtain⟨q,hq,rfl⟩:=hp
              rw[Wb hq];simp) _ G
            simp only[Instr.build,aR,uD hi V,br,bb hu,hc,hsz,K]
            simp
          · cases h
        · cases h
      · cases h
    · cases h
  · cases h
theorem SJ{c}{b}{xs}(hT:dD P T)(ho:o.op=.call c)(R:c.callee=.builtin b)(hrw:E.rw=rw)(j:hL E xs (c.args.toList.map a.eval))(h:LC T b c.argTypes xs rw ret=some q):sW P E a o ret q:=by
 have X:∀w,(execOp a.eval o).run P w=(builtin b c.argTypes o.type (c.args.map λ| .const _=>true|_=>false) (c.args.toList.map a.eval).toArray).run P w:=by
  intro w;have:c.args.map a.eval=(c.args.toList.map a.eval).toArray:=by apply fG;simp
  simp only[execOp,ho,resolve,R,aR,bI,br,invoke,this];rfl
 have one:∀{td:TD},adr T c.argTypes=some td->∃t K,c.argTypes = #[t]/\nY P t K/\K.td=td:=by
  intro td h;unfold adr at h;split at h
  .rename_i t V;have⟨K,h1,h2⟩:=pc hT h;exact⟨t,K,by apply fG;simpa using V,h1,h2⟩
  .cases h
 unfold LC at h;split at h
 .split at h
  .rename_i e y;have⟨t,K,y,hf,H⟩:=one y;have G:=qK hf H;split at h
   .rename_i n C
    have:∃W cc,c.args.toList.map a.eval=[.slice W n cc]:=by
     unfold awf at C;split at C
     .simp only[ak]at C;subst C;simp only[hL,DV.h]at j;obtain⟨v,_,F,⟨W,cc,Y,_⟩,rfl⟩:=j;simp only[dC,nJ]at Y;subst Y;exact⟨W,cc,F⟩
     .split at C
      .rename_i J;simp only[ak]at C;subst C;simp only[hL,DV.h]at j;obtain⟨v,_,F,⟨e',t',l',hj,rfl⟩,rfl⟩:=j;rw[gM,<-hrw,hj]at J;simp only[ak,DR.own.injEq]at J;obtain⟨rfl,rfl,hl⟩:=J;cases hl;exact⟨_,_,F⟩
      .cases C
     .simp only[ak]at C;subst C;simp only[hL,DV.h]at j;obtain⟨v,_,F,rfl,rfl⟩:=j;exact⟨_,_,F⟩
     .simp only[ak]at C;subst C;simp only[hL,DV.h]at j;obtain⟨v,_,F,⟨W,vs,cc,Y,_⟩,rfl⟩:=j;subst Y;exact⟨_,cc,F⟩
     .cases C
    have⟨W,cc,e⟩:=this;refine⟨_,.int .i64 n,h,by simp only[DV.h],λw=>?_⟩;rw[X,e];simp[builtin,Builtin.len_,y,bb G,goInt,aR]
   .cases h
  .rename_i y;have⟨t,K,y,hf,H⟩:=one y;have G:=Dl hf H;split at h
   .simp only[hL,DV.h]at j;obtain⟨v,_,F,rfl,rfl⟩:=j;refine⟨_,_,h,by simp only[DV.h];rfl,λw=>?_⟩;rw[X,F];simp[builtin,Builtin.len_,y,bb G,goInt,aR]
   .cases h
  .cases h
 .split at h
  .simp only[hL,DV.h]at j;obtain⟨v,_,F,rfl,u,_,rfl,rfl,rfl⟩:=j;refine⟨_,_,h,by simp only[DV.h];rfl,λw=>?_⟩;rw[X,F];simp only[builtin,aR,run_max_int2,br,bI]
  .cases h
 .split at h
  .simp only[hL,DV.h]at j;obtain⟨v,_,F,rfl,u,_,rfl,rfl,rfl⟩:=j;refine⟨_,_,h,by simp only[DV.h];rfl,λw=>?_⟩;rw[X,F];simp only[builtin,aR,run_min_int2,br,bI]
  .cases h
 .cases h
theorem Yc(C:dD P T){op}(ho:o.op=op)(j:hL E ts a.tmps.toList)(F:E.rw=rw)(X:alZ E)(h:vG aj T op ts rw ret=some q):sW P E a o ret q:=by
 cases op with
 |move x=>have⟨p,J,h⟩:=wD h;exact⟨p,_,h,gq J j,λw=>by simp[execOp,ho]⟩
 |assign x=>have⟨p,J,h⟩:=wD h;exact⟨p,_,h,gq J j,λw=>by simp[execOp,ho]⟩
 |pick c x y=>exact apY ho j (by rw[ho];exact h)
 |nilCheck x=>exact aao ho j (by rw[ho];exact h)
 |binOp op t x y ty=>simp only[vG]at h;have⟨g,W,h⟩:=wD h;have⟨u,R,h⟩:=wD h;have⟨r,z,h,V,G⟩:=alY C h (gq W j) (gq R j) x y;refine⟨r,z,h,V,λw=>?_⟩;have:=G w;simp only[execOp,ho];rw[aR,this];simp
 |unOp op t x=>exact apZ ho j (by rw[ho];exact h)
 |convert s d x=>exact adx C ho j h
 |fieldAddr s x f=>exact X8 C ho j (by rw[ho];exact h)
 |field s x f=>exact amb C ho j (by rw[ho];exact h)
 |indexAddr t x ix=>exact X9 C ho j F X (by rw[ho];exact h)
 |extract t i=>exact ady ho j (by rw[ho];exact h)
 |slice t x lo hi Y=>exact amc C ho j h
 |build t parts=>exact amd C ho j (by rw[ho];exact h)
 |makeFunc fn first K=>exact aap ho j (by rw[ho];exact h)
 |call c=>
  simp only[vG]at h;split at h
  .rename_i b hb;split at h
   .rename_i xs H;exact SJ C ho hb F (NS H j) h
   .cases h
  .cases h
 |_=>cases h
end
theorem Aj{P}{o:Oper}{a:Act}{w:World}{N j:Act->World->Prop}{Q:Exit->Act->World->Prop}(h:o.wp P a w N Q)(k:∀a w,N a w->j a w):o.wp P a w j Q:=Oper.wp_mono k h
theorem eN{P}{o}{a}{w w'}{v:Value}{N:Act->World->Prop}{Q:Exit->Act->World->Prop}
 (h:(execOp a.eval o).run P w=.ok (.value v) w') (j:N (a.put o.dst v) w'):o.wp P a w N Q:=by
 simp only[Oper.wp,h,Oper.upon];exact j
theorem Jv{P}{o}{a}{w w':World}{N:Act->World->Prop}{Q:Exit->Act->World->Prop}
 (h:(execOp a.eval o).run P w=.ok .skip w') (j:N (a.put o.dst undef) w'):o.wp P a w N Q:=by
 simp only[Oper.wp,h,Oper.upon];exact j
section
variable {P : Program} {T : List TI} {V : World} {U0 L : Nat -> Prop} {al : Nat -> Bool} {B : Nat -> Nat} {A : yu} {ts : List DV} {pb : hZ} {rw : List DR} {a : Act} {w : World} {β : Type} {q : β} {o : Oper} {K : DK β} {Q : Exit -> Act -> World -> Prop}
def oq(V:World)(U0 L:Nat->Prop)(al:Nat->Bool)(B:Nat->Nat)(A:yu)(pb:hZ)(rw:List DR)(w:World)(a:Act)(K:DK β)(q:β):Act->World->Prop:=λa' w'=>∃B' A' j pb' rw',Mem V U0 L B' A' pb' rw' w'/\hL (env U0 B' A' pb' rw' w') j a'.tmps.toList/\K j pb' rw'=some q/\a'.defers=a.defers/\Ext al B A pb rw w B' A' pb' rw' w'
theorem Ext.refl:Ext al B A pb rw w B A pb rw w:=⟨λ_ h=>⟨h,rfl⟩,λ_ _ _=>rfl,λ_ h=>.inl h,au _⟩
theorem Lr{α}(f:Nat->α)(n:Nat):Ea f n (f n)=f:=by funext i;unfold Ea;split<;>simp_all
theorem NT{E}{dst}{x}{v}(h:jq dst x ts pb rw K=some q)(y:hL E ts a.tmps.toList)(C:x.h E v):∃j,K j pb rw=some q/\hL E j (a.put dst v).tmps.toList/\(a.put dst v).defers=a.defers:=by
 cases dst with
 |none=>exact⟨ts,h,y,rfl⟩
 |some d=>simp only[jq,km]at h;exact⟨_,h,by simpa[Act.put]using X3 y d C,rfl⟩
theorem oq.ret{B'}{A'}{j}{pb'}{rw'}{w':World}{x:DV}{v:Value}(h:jq o.dst x j pb' rw' K=some q)(F:Mem V U0 L B' A' pb' rw' w')(C:hL (env U0 B' A' pb' rw' w') j a.tmps.toList)(G:x.h (env U0 B' A' pb' rw' w') v)
 (e:Ext al B A pb rw w B' A' pb' rw' w'):oq V U0 L al B A pb rw w a K q (a.put o.dst v) w':=by
 have⟨y,R,J,H⟩:=NT h C G;exact⟨B',A',y,pb',rw',F,J,R,H,e⟩
theorem oq.more{J}{R}{y}{j}{w1:World}{H a':Act}{w':World}(e:Ext al B A pb rw w J R y j w1)(X:H.defers=a.defers)(h:oq V U0 L al J R y j w1 H K q a' w'):oq V U0 L al B A pb rw w a K q a' w':=
 let ⟨B2,A2,C,G,F,W,h2,h3,Y,e2⟩:=h
 ⟨B2,A2,C,G,F,W,h2,h3,Y.trans X,e.trans e2⟩
theorem nc{E j}(s:Sub HH E j){ps:List DV}{vs:List Value}(h:hL E ps vs):hL j ps vs:=by have:=kj s ps h;rwa [oy]at this
theorem NU{E j}(s:Sub HH E j){p:DV}{v:Value}(h:p.h E v):p.h j v:=by have:=DV.alR s p h;rwa [DV.alS]at this
theorem Mem.afX(m:Mem V U0 L B A pb rw w):alZ (env U0 B A pb rw w):=by
 intro j e t l F C;have⟨xs,h,_⟩:=m.row j e t l F;have C:(A j).1=none:=C;rcases h.2 with⟨_,h1⟩|⟨g,cap,G,y,_⟩
 .exact h1
 .rw[C]at y;simp at y
theorem LI{E}{t}{X:TI}(W:nY P t X){cells:List DV}{off:Nat}{cs:List Value}{ad:Addr}{ret:DV->Option β}(h:V6 X cells off ret=some q)(G:hL E cells cs)(hw:∀j u,cs[j]?=some u->w.cell? (ad.add j)=some u):
 ∃r u,ret r=some q/\r.h E u/\(∀w':World,w'.heap[ad.block]?=w.heap[ad.block]?->(Instr.loadAt t (.pointer (some (ad.add off)))).run P w'=.ok u w')/\cs≠[]:=by
 have y:∀w':World,w'.heap[ad.block]?=w.heap[ad.block]?->∀j u,cs[j]?=some u->w'.cell? (ad.add j)=some u:=λw' hs j u hj=>by rw[<-hw j u hj];exact yi (by rw[jD];exact hs)
 unfold V6 at h;split at h
 .rename_i n R J;split at h
  .rename_i l hl;obtain⟨rfl,hle⟩:=wC hl;refine⟨_,.agg ((cs.drop off).take (n+1)).toArray,h,by simp only[DV.h];exact⟨_,rfl,by simpa using alP G off (n+1)⟩,λw' hs=>?_,by rintro rfl;have:=pt G;simp at this;omega⟩;have F:((cs.drop off).take (n+1)).length=n+1:=by have:=pt G;simp;omega
   have:=run_loadCells_list (P:=P) w' (ad.add off) ((cs.drop off).take (n+1)) (λj v hv=>by rw[nT];exact y w' hs _ _ (sq.1 hv).2);rw[F]at this;simp[Instr.loadAt,Instr.sureAddr,loadVar,aR,XU W,R,ri W,J,this]
  .cases h
 .rename_i R;split at h
  .rename_i x Y;have⟨v,C,H⟩:=Jt G _ _ (NQ Y);refine⟨x,v,h,H,λw' hs=>?_,by rintro rfl;simp at C⟩;have:=y w' hs _ _ C;simp[Instr.loadAt,Instr.sureAddr,loadVar,aR,XU W,R,run_load,this]
  .cases h
 .cases h
theorem Jw{e}{k}{ad}{n c}{xs}(h:w.ownsRow 0 e k (.slice (some ad) n c) n xs):∃g y,ad=⟨g,0,none⟩/\w.heap[g]?=some (.cells y e (0,0))/\n<=c/\c<=maxLen/\y.size=c*k/\y.toList.take (n*k)=xs/\∀j u,xs[j]?=some u->w.cell? (ad.add j)=some u:=by
 rcases h.2 with⟨h1,_⟩|⟨g,cap,y,C,hb,G,h1,R,J,H⟩
 .simp at h1
 .simp only[dm,ak]at C;obtain⟨rfl,_,rfl⟩:=C;refine⟨g,y,rfl,G,h1,R,J,H,λj u F=>?_⟩;rw[<-H,cw]at F;split at F
  .rw[sK,cg,Cb w g j y e (0,0) G];simpa using F
  .cases F
theorem LJ(hT:dD P T)(m:Mem V U0 L B A pb rw w){t:TypeId}{p:DV}{ret:DV->Option β}(h:O7 aj T t p pb rw ret=some q){v:Value}(J:p.h (env U0 B A pb rw w) v):
 ∃r u ad,v=.pointer (some ad)/\ret r=some q/\r.h (env U0 B A pb rw w) u/\(∀w',w'.heap[ad.block]?=w.heap[ad.block]?->(Instr.loadAt t v).run P w'=.ok u w')/\((∃i off,p=.own i off/\iF B A pb rw false i ad.block)\/(∃t x off,p=.el t x off/\¬Us U0 B A pb rw ad.block/\ad.block<w.heap.size)\/(∃j i off,p=.re j i off)\/∃l k,p=.fp l k):=by
 unfold O7 at h;split at h
 .rename_i ti hti;have hf:=rL hT hti;split at h
  .rename_i i off;simp only[DV.h]at J;obtain⟨hl,rfl⟩:=J;split at h
   .rename_i b hb;rw[xK]at hb;have⟨cs,W,R,_⟩:=m.box i b hb;have⟨r,u,g1,Y,G,g4⟩:=LI (P:=P) (w:=w) (ad:=⟨B i,0,none⟩) hf h R (λj u C=>by rw[sK,cg,cell_of_block W];exact C);rw[sK,cg]at G;exact⟨r,u,_,rfl,g1,Y,G,.inl ⟨i,off,rfl,hl,rfl⟩⟩
   .cases h
  .rename_i t' x off;simp only[DV.h]at J;obtain⟨ad,us,rfl,W,R⟩:=J;have hc:=t'.EG (E:=env U0 B A pb rw w) W (r:=[]) (us':=[]) (by simp[hL]);rw[cz]at hc
   have⟨r,u,g1,Y,G,g4⟩:=LI (P:=P) (w:=w) (ad:=ad) hf h hc (λj u C=>by
    have⟨x,H,_,_,h3⟩:=R j u C;simp only[ak]at H;subst H
    rwa [cg]at h3)
   refine⟨r,u,_,rfl,g1,Y,λw' hs=>G w' (by rwa [jD]at hs),.inr (.inl ⟨t',x,off,rfl,?_⟩)⟩;rw[jD];cases us with
   |nil=>exact absurd rfl g4
   |cons u0 us=>have⟨x,H,h3,h4,_⟩:=R 0 u0 rfl;simp only[ak]at H;subst H;exact⟨h3,h4⟩
  .rename_i l k;simp only[DV.h]at J;obtain⟨ad,us,rfl,W,R⟩:=J
   have⟨r,u,g1,Y,G,g4⟩:=LI (P:=P) (w:=w) (ad:=ad) hf h W (λj u C=>by
    have⟨x,H,_,_,h3⟩:=R j u C;simp only[ak]at H;subst H
    rwa [cg]at h3)
   refine⟨r,u,_,rfl,g1,Y,λw' hs=>G w' (by rwa [jD]at hs),.inr (.inr (.inr ⟨l,k,rfl⟩))⟩
  .rename_i j i off;simp only[DV.h]at J;obtain⟨e,t1,l1,ad,C,hi,ha,rfl⟩:=J;split at h
   .rename_i e2 t' l F;rw[gM]at F;have C:rw[j]?=some (.own e t1 l1):=C;rw[C]at F;simp only[ak,DR.own.injEq]at F;obtain⟨rfl,rfl,hl⟩:=F;cases hl;have⟨y,hy,h⟩:=as4 h;have⟨xs,W,R⟩:=m.row j e t1 l1 C;have ha:(A j).1=some ad:=ha;rw[ha]at W;obtain⟨g,cur,rfl,_,_,_,_,_,X⟩:=Jw W;have hc:=t1.EG (E:=env U0 B A pb rw w) (R.2 i y hy) (r:=[]) (us':=[]) (by simp[hL]);rw[cz]at hc;have⟨r,u,g1,Y,G,g4⟩:=LI (P:=P) (w:=w) (ad:=(⟨g,0,none⟩:Addr).add (i*t1.size)) hf h hc (λk u hk=>by rw[nT];exact X _ _ (sq.1 hk).2);rw[nT]at G;exact⟨r,u,_,rfl,g1,Y,λw' hs=>G w' (by rw[jD]at hs ⊢;exact hs),.inr (.inr (.inl ⟨j,i,off,rfl⟩))⟩
   .cases h
  .cases h
 .cases h
theorem aqb{t}{G}{z:Value}{F:List Value}(J:nY P t G)(H:G.zero=z::F):∃C,∀w,(zeroValue t).run P w=.ok C w/\C.cells=(z::F).toArray:=by
 have⟨i,hi,_,j⟩:=Lv J;rw[H]at j;cases y:i.zero with
 |none=>rw[y]at j;cases j
 |some C=>rw[y]at j;exact⟨C,λw=>⟨uD hi y w,by apply fG;simpa using j.symm⟩⟩
theorem We:∀{pb:hZ} {i:Nat},HO pb i=true->pb[i]?=some none
 |[],i,h=>by simp[HO]at h
 |o::pb,0,h=>by
  simp only[HO]at h;split at h
  .cases h
  .rfl
 |o::pb,i+1,h=>by simp only[HO]at h;simpa using We h
theorem aaq{av}{ty:TypeId}{cells:List DV}{cs:List Value}(y:(execOp a.eval o).run P w=.ok (.value (.pointer (some ⟨w.heap.size,0,none⟩))) (w.alloc (.cells cs.toArray ty)))
 (h:afN av o.dst ty cells ts pb rw K=some q) (m:Mem V U0 L B A pb rw w) (G:hL (env U0 B A pb rw w) ts a.tmps.toList) (Y:hL (env U0 B A pb rw w) cells cs):o.wp P a w (oq V U0 L al B A pb rw w a K q) Q:=by
 unfold afN at h;have key:∀(i:Nat) (pb':hZ) (d:Tmp),pb'[i]?=some (some ⟨ty,cells,true⟩)->(∀j,j≠i->pb'[j]?=pb[j]?)->¬live pb i->o.dst=some d->jq (some d) (.own i 0) ts pb' rw K=some q->o.wp P a w (oq V U0 L al B A pb rw w a K q) Q:=by intro i pb' d W h2 h3 F h4;have⟨X,s,e⟩:=m.auc (al:=al) W h2 h3 Y;refine eN y (oq.ret (by rw[F];exact h4) X (nc s G) ?_ e);simp only[DV.h];exact⟨⟨_,W⟩,by show _=Value.pointer (some ⟨Ea B i w.heap.size i,0,none⟩);rw[nb]⟩
 split at h
 .cases h
 .rename_i d F;split at h
  .rename_i i hi;split at h
   .rename_i C;have C:=We C;rw[km]at h;have H:=(aC.1 C).1;exact key i _ d (by rw[bf,ah rfl,ah H]) (λj R=>by rw[bf,ag (ga R)]) (by rintro⟨b,hb⟩;rw[C]at hb;cases hb) F h
   .cases h
  .rw[qM]at h;rw[xi]at h
   exact key pb.length _ d (by simp) (λj R=>by
    rcases dI j pb.length with J|J
    .rw[bG J]
    .rw[bJ (by simp;omega),bJ J]) (by rintro⟨b,hb⟩;rw[bJ (au _)]at hb;cases hb) F h
theorem aue{t}{x}{C:FR}{H:List (Nat×Nat)}(ho:o.op=.box t x)(h:qf aj T C al H o ts pb rw K=some q)(m:Mem V U0 L B A pb rw w)(j:hL (env U0 B A pb rw w) ts a.tmps.toList):o.wp P a w (oq V U0 L al B A pb rw w a K q) Q:=by
 simp only[qf,ho]at h;split at h
 .rename_i p F;split at h
  .rename_i cs y;have G:=SG y (gq F j);refine aaq ?_ h m j G;have:(a.eval x).cells=((a.eval x).cells.toList).toArray:=by simp
   simp only[execOp,ho,aR,Instr.box,newVar,newRow,run_newObj,bI,br];rfl
  .cases h
 .cases h
theorem aqc{t:TypeId}{x:Operand}{C:FR}{R:List (Nat×Nat)}(F:dD P T)(ho:o.op=.load t x)(h:qf aj T C al R o ts pb rw K=some q)(m:Mem V U0 L B A pb rw w)(j:hL (env U0 B A pb rw w) ts a.tmps.toList):o.wp P a w (oq V U0 L al B A pb rw w a K q) Q:=by
 simp only[qf,ho]at h;split at h
 .rename_i p y;have⟨r,u,ad,hv,J,H,G,_⟩:=LJ F m h (gq y j);exact eN (by rw[Sj ho,G w rfl];rfl) (oq.ret J m j H Ext.refl)
 .cases h
theorem wE:∀(H:List Nat) {ts:List DV} {pb:hZ} {rw:List DR} {ps:List DV} {K:List DV->hZ->List DR->List DV->Option β} {vs us:List Value},Jr H ts pb rw ps K=some q->Mem V U0 L B A pb rw w->hL (env U0 B A pb rw w) ts vs->hL (env U0 B A pb rw w) ps us->
 ∃y pb' rw' C,K y pb' rw' C=some q/\Mem V U0 L B A pb' rw' w/\hL (env U0 B A pb' rw' w) y vs/\hL (env U0 B A pb' rw' w) C us/\Ext al B A pb rw w B A pb' rw' w/\pb'.length=pb.length
 |[],ts,pb,rw,ps,K,vs,us,h,m,F,G=>⟨ts,pb,rw,ps,h,m,F,G,Ext.refl,rfl⟩
 |j::H,ts,pb,rw,ps,K,vs,us,h,m,F,G=>by
  simp only[Jr]at h;split at h
  .rename_i e t l J;rw[gM]at J;simp only[l9,uI,km]at h;have⟨W,s,e1⟩:=m.freeze (al:=al) J;have⟨y,pb',rw',C,h1,R,h2,Y,e2,X⟩:=wE H h W (kj s _ F) (kj s _ G);exact⟨y,pb',rw',C,h1,R,h2,Y,e1.trans e2,by rw[X,zv]⟩
  .rename_i ks J;rw[gM]at J;simp only[l9,uI,km]at h;have⟨W,s,e1⟩:=m.air (al:=al) J;have⟨y,pb',rw',C,h1,R,h2,Y,e2,X⟩:=wE H h W (kj s _ F) (kj s _ G);exact⟨y,pb',rw',C,h1,R,h2,Y,e1.trans e2,by rw[X,zv]⟩
  .exact wE H h m F G
theorem BH{b off}{xs cs}{ty}(hb:w.heap[b]?=some (.cells xs.toArray ty (0,0)))(y:∀v∈cs,Sh v=true)(C:off+cs.length<=xs.length):
 (storeCells ⟨b,off,none⟩ cs 0).run P w=.ok () (setCells w ⟨b,off,none⟩ 0 cs)/\(setCells w ⟨b,off,none⟩ 0 cs).heap[b]?=some (.cells (wr xs off cs).toArray ty (0,0)):=by
 refine⟨Gv (P:=P) ⟨b,off,none⟩ cs 0 w y λj F=>?_,by have:=Gm b off cs 0 w _ hb;rwa [gP]at this⟩;rw[cg,sK,cell_of_block hb,Fl hb];have:off+j<xs.length:=by omega
 simp[this]
theorem aar{t}{x y}{C}(W:nY P t C)(ho:o.op=.store t x y){b off:Nat}{xs cs:List Value}{ty:TypeId}(R:a.eval x=.pointer (some ⟨b,off,none⟩))(H:(a.eval y).cells.toList=cs)(hs:cs.length=C.size)
 (hb:w.heap[b]?=some (.cells xs.toArray ty (0,0))) (j:∀v∈cs,Sh v=true) (G:off+cs.length<=xs.length):(execOp a.eval o).run P w=.ok .skip (setCells w ⟨b,off,none⟩ 0 cs):=by
 have J:=ail (P:=P) (w:=w) (a:=a) ho;rw[R]at J;have F:(a.eval y).cells.size=C.size:=by rw[<-fi,H,hs]
 rw[J];simp only[Instr.storeAt,Instr.sureAddr,storeVar,aR,bI,br,ri W,F,ne_eq,not_true_eq_false,nS,H,(BH (P:=P) hb j G).1]
theorem Ak(b off)(cs):(setCells w ⟨b,off,none⟩ 0 cs).os=w.os/\(setCells w ⟨b,off,none⟩ 0 cs).tape=w.tape/\(setCells w ⟨b,off,none⟩ 0 cs).output=w.output/\w.heap.size<=(setCells w ⟨b,off,none⟩ 0 cs).heap.size:=by have:=Co ⟨b,off,none⟩ cs 0 w;exact⟨this.1,this.2.1,this.2.2.1,E7 this.2.2.2.1.symm⟩
theorem ame{t}{x y:Operand}{C:FR}{av:List (Nat×Nat)}(hT:dD P T)(ho:o.op=.store t x y)(h:qf aj T C al av o ts pb rw K=some q)(m:Mem V U0 L B A pb rw w)(IN:hL (env U0 B A pb rw w) ts a.tmps.toList):o.wp P a w (oq V U0 L al B A pb rw w a K q) Q:=by
 simp only[qf,ho]at h;split at h
 .rename_i p v ti hp hv hti;have hf:=rL hT hti;split at h
  .rename_i cs hcs;have hc:=SG hcs (gq hv IN);have X:=gq hp IN;generalize hcv:(a.eval y).cells.toList=cv at hc;split at h
   .rename_i i off R G;have R:=aE R;split at h
    .rename_i b hal hb;rw[xK]at hb;split at h
     .rename_i l Bn;have hle:=(wC Bn).2;rw[X5,km]at h;simp only[DV.h]at X;have⟨_,X⟩:=X;have⟨xs,h1,h2,_⟩:=m.box i b hb;have hxl:=pt h2;have hcl:=pt hc;have H:off+cv.length<=xs.length:=by omega
      have G:=X7 G hc;have⟨m',s,e⟩:=m.aud (al:=al) hal hb (alO off h2 hc) (Ak (w:=w) (B i) off _) (λb' _ hne=>xH _ _ hne _ _ _) (BH (P:=P) h1 G H).2;exact Jv (aar hf ho X hcv (by omega) h1 G H) (oq.ret h m' (nc s IN) (by simp only[DV.h]) e)
     .cases h
    .cases h
   .rename_i j0 i0 axW R G;have R:=aE R;have⟨ts1,Al,FT,ps,h,m1,aas,hps,e1,_⟩:=wE (al:=al) _ h m IN (ps:=.re j0 i0 axW::cs) (us:=a.eval x::cv) (by simp only[hL];exact⟨_,_,rfl,X,hc⟩);split at h
    .rename_i j i off cs';simp only[hL]at hps;have⟨v1,vs1,e2,ZF,hc1⟩:=hps;simp only[dC]at e2;obtain⟨rfl,rfl⟩:=e2;split at h
     .rename_i e F l J;rw[gM]at J;split at h
      .rename_i hle;have hle:=bS hle;have⟨z,hz,h⟩:=as4 h;rw[X5]at h;split at h
       .rename_i y' hy';rw[km]at h;simp only[DV.h]at ZF;have⟨e3,t3,l3,ad,hj3,hi3,ha,hpv⟩:=ZF;have hj3:FT[j]?=some (.own e3 t3 l3):=hj3;rw[J]at hj3;simp only[ak,DR.own.injEq]at hj3;obtain⟨rfl,rfl,hl3⟩:=hj3;cases hl3;have ha:(A j).1=some ad:=ha;have⟨xs,h1,h2⟩:=m1.row j e F l J;rw[ha]at h1;obtain⟨g,W,rfl,hg,hn,hcm,axX,htk,hcell⟩:=Jw h1;rw[sK,cg]at hpv;have hcl:=pt hc1;have hil:=wB (k:=F.size) hi3;have hxl:=h2.1;have ayE:xs.length<=W.size:=by rw[<-htk,aY];simp only[fi];omega
        have Y:=X7 G hc;have H:(i*F.size+off)+cv.length<=W.toList.length:=by have h0:W.toList.length=W.size:=fi;omega
        have hg':w.heap[g]?=some (.cells W.toList.toArray e (0,0)):=by simpa using hg
        have hst:=BH (P:=P) hg' Y H;have hyh:∃us,F.h (Us U0 B A Al FT) w y' us/\us=wr ((xs.drop (i*F.size)).take F.size) off cv:=by have hz':=F.EG (E:=env U0 B A Al FT w) (h2.2 i z hz) (r:=[]) (us':=[]) (by simp[hL]);rw[cz]at hz';have⟨us,us',e4,h3,h4⟩:=F.aio hy' (alO off hz' hc1);simp only[hL]at h4;subst h4;rw[cz]at e4;exact⟨us,h3,e4.symm⟩
        have⟨us,hus,axY⟩:=hyh
        have axZ:(wr W.toList (i*F.size+off) cv).take (l.length*F.size)=wr xs (i*F.size) us:=by
         have hul:=F.Ac hus;apply eK;intro k;rw[Jq _ _ _ _ (by omega),cw];by_cases hk:k<l.length*F.size
         .rw[ah hk,Jq _ _ _ _ H];by_cases hk1:i*F.size<=k/\k<i*F.size+us.length
          .rw[ah hk1,axY,Jq _ _ _ _ (by rw[aY,dP];omega)];by_cases hk2:off<=k-i*F.size/\k-i*F.size<off+cv.length
           .rw[ah (by omega),ah hk2];congr 1;omega
           .rw[ag (by omega),ag hk2,cw,ah (by omega),cI,<-htk,cw,ah (by omega)];congr 1;omega
          .rw[ag hk1,ag (by omega),<-htk,cw,ah hk]
         .rw[ag hk,ag (by omega),bJ (by omega)]
        have hlt:=(aC.1 J).1
        have⟨m2,s2,e2⟩:=m1.putRow (al:=al) (j:=j) (f:=HH) (rw':=FT.set j (.own e F (l.set i y'))) (e:=e) (t:=F) (l:=l.set i y') (a:=(A j).1) (c:=(A j).2) (w':=setCells w ⟨g,i*F.size+off,none⟩ 0 cv)
         (by rw[bf,ah rfl,ah hlt]) (λk hk=>by rw[bf,ag (ga hk)]) (λ_ _ h=>by cases h)
         (λ_ e4 t4 l4 h4=>by rw[J]at h4;simp only[ak,DR.own.injEq]at h4;obtain⟨rfl,rfl,h4⟩:=h4;cases h4;exact⟨_,by rw[bf,ah rfl,ah hlt],by simp,rfl⟩)
         (λ_ d h4=>by rw[J]at h4;cases h4) (Ak _ _ _)
         (λb hb hnb=>xH ⟨g,i*F.size+off,none⟩ b (λhe=>hnb ⟨_,⟨g,0,none⟩,J,by simp,ha,he.symm⟩) _ _ _)
         (λx hx=>.inl ⟨_,x,J,by simp,hx,rfl⟩)
         (λU' lt=>by
          refine⟨wr xs (i*F.size) us,⟨?_,?_⟩,?_⟩
          .rw[Dg,hxl];simp
          .refine .inr ⟨g,(A j).2,(wr W.toList (i*F.size+off) cv).toArray,by rw[ha],bE _,hst.2,by simpa using hn,hcm,by rw[eX,Dg,fi,axX],by simpa using axZ⟩
          .exact DT.atW (DT.lr lt h2) hi3 (F.mono lt hus))
        rw[show Ea A j ((A j).1,(A j).2)=A from Lr A j]at m2 s2 e2;rw[LF]at m2 s2 e2;exact Jv (aar hf ho hpv hcv (by have:=pt hc;omega) hg' Y H) (oq.more e1 rfl (oq.ret h m2 (nc s2 aas) (by simp only[DV.h]) e2))
       .cases h
      .cases h
     .cases h
    .cases h
   .cases h
  .cases h
 .cases h
end
structure Nz(P:Program)(t e:TypeId)(size bytes:Nat):Prop where
 under:P.underlying t=some (.slice e)
 info:∃i z,P.info? e=some i/\i.zero=some z/\i.size=size/\i.bytes=bytes/\z.cells.size=size
 pos:0<size
theorem Am{P}{t e}{H F:TI}(R:nY P t H)(G:H.td=.slice e)(W:nY P e F)(y:Nat.beq F.zero.length F.size=true)(J:0<F.size):Nz P t e F.size F.bytes:=by
 have⟨d,i,h1,h2,h3,h4,Y,h6,X,h8⟩:=W.ex;have y:=aE y;rw[X]at y;cases j:i.zero with
 |none=>rw[j]at y;simp at y;omega
 |some z=>exact⟨qK R G,⟨i,z,h2,j,h4.symm,Y.symm,by rw[j]at y;simpa using y⟩,J⟩
theorem foldl_set:∀(cs:List Value) (off s:Nat) (y old j:List Value),y.length=off+s->old.length=cs.length->
 (cs.zipIdx s).foldl (λa (p:Value×Nat)=>a.setIfInBounds (off+p.2) p.1) (y++old++j).toArray=(y++cs++j).toArray
 |[],_,_,y,old,j,_,ho=>by
  cases old with
  |nil=>rfl
  |cons _ _=>simp at ho
 |c::cs,off,s,y,old,j,hp,ho=>by
  cases old with
  |nil=>simp at ho
  |cons o old=>
   simp only[List.zipIdx_cons,kQ];have e:((y++o::old++j).toArray.setIfInBounds (off+s) c)=(y++[c]++old++j).toArray:=by rw[fc];congr 1;rw[<-hp];simp
   rw[e,foldl_set cs off (s+1) (y++[c]) old j (by simp;omega) (by simpa using ho)];simp
def An:Nat->List Value->List (Nat×Value)
 |_,[]=>[]
 |i,v::vs=>(i,v)::An (i+1) vs
theorem SK(k):∀(vs:List Value) (i:Nat) (y j:List Value),y.length=i*k->j.length=vs.length*k->(∀v∈vs,v.cells.size=k)->
 Instr.fill (λi=>some (i*k,k)) (y++j).toArray (An i vs)=some (y++vs.flatMap (·.cells.toList)).toArray
 |[],_,y,j,_,F,_=>by
  have:j=[]:=by cases j<;>simp_all
  subst this;simp[An,Instr.fill]
 |v::vs,i,y,j,hp,F,hk=>by
  have hv:=hk v (by simp);have J:j.length=k+vs.length*k:=by rw[F,aJ,lE];omega
  simp only[An,Instr.fill];rw[ag (by simp[hv,hp];omega)];have hs:y++j=y++j.take k++j.drop k:=by simp
  have G:v.cells.zipIdx.foldl (λcs (p:Value×Nat)=>cs.setIfInBounds (i*k+p.2) p.1) (y++j).toArray=(y++v.cells.toList++j.drop k).toArray:=by rw[<-Array.foldl_toList,Array.toList_zipIdx,hs];exact foldl_set v.cells.toList (i*k) 0 y (j.take k) (j.drop k) (by simpa using hp) (by simp[hv];omega)
  rw[G,SK k vs (i+1) (y++v.cells.toList) (j.drop k) (by simp[hp,hv,lE]) (by simp;omega) (λu H=>hk u (by simp[H]))];simp
theorem Pa{α}{k}:∀{els:List (List α)} {i:Nat} {cs:List α},(∀l∈els,l.length=k)->els[i]?=some cs->∀j r,cs[j]?=some r->els.flatten[i*k+j]?=some r
 |[],i,cs,_,h,_,_,_=>by simp at h
 |l::els,i,cs,hk,h,j,r,F=>by
  have hl:=hk l (by simp);have y:=(aC.1 F).1;cases i with
  |zero=>simp at h;subst h;simp only[vv,pH,cg];rw[bG y];exact F
  |succ i=>simp only[vv];rw[dJ (by rw[hl,lE];omega),show(i+1)*k+j-l.length=i*k+j by rw[hl,lE];omega];exact Pa (λl hl=>hk l (by simp[hl])) (by simpa using h) j r F
theorem LL{α}(j:List α):∀n,(List.replicate n j).flatten.length=n*j.length
 |0=>by simp
 |n+1=>by rw[oC,vv,aq,LL j n,lE];omega
theorem Wf {z} {n c k : Nat} (hk : z.size = k) (hn : n <= c) : (madeCells z (c * k)).toList.take (n * k) = (List.replicate n z.toList).flatten := by
  have hnc := du k hn
  apply eK
  intro t
  by_cases ht : t < n * k
  · have hk0 : 0 < k := by rcases fb k with h | h; · subst h; simp at ht
                           · exact h
    have hfk : ∀ l ∈ List.replicate n z.toList, l.length = k := λl hl => by rw [(List.mem_replicate.1 hl).2]; simpa using hk
    have hdiv := (mC hk0).2 ht
    have aya : t % k < k := Bh _ hk0
    have hfl := Pa (k := k) (els := List.replicate n z.toList) (i := t / k) (cs := z.toList) hfk (by rw [List.getElem?_replicate, ah hdiv]) (t % k) (z.toList[t % k]'(by simpa [hk] using aya)) (ay _)
    rw [Nat.div_add_mod' t k] at hfl
    rw [dF ht, hfl, dg, madeCells, Array.getElem?_map, Array.getElem?_range, ah (by omega)]
    simp only [fy, hk]
    rw [lF z (t % k) (by omega)]; rfl
  · rw [List.getElem?_take_eq_none (by omega), bJ (by rw [LL, fi, hk]; omega)]
theorem ais{z}{n k}(j:z.size=k):(Builtin.zeroCells z n).toList=(List.replicate n z.toList).flatten:=by
 have h:=Wf (z:=z) (n:=n) (c:=n) j (au _);have e:Builtin.zeroCells z n=madeCells z (n*k):=by rw[<-j];rfl
 rw[e,<-h,lD];simp[madeCells]
theorem Uy{P}(w)(t e ty)(z)(F:P.underlying t=some (.slice e))(hv:∀w,(zeroValue e).run P w=.ok z w)(b o n c)(R:0<n)
 (H:∀j,j<(Builtin.zeroCells z.cells n).toList.length->(w.cell? ⟨b,o+j,none⟩).isSome=true) (G:∀j,j<(Builtin.zeroCells z.cells n).toList.length->w.frozen? ⟨b,o+j,none⟩=false) (J:∀v∈(Builtin.zeroCells z.cells n).toList,v.oneCell'=true):
 (Builtin.clear_ #[t] ty #[.slice (some ⟨b,o,none⟩) n c]).run P w=.ok (.tuple #[]) (w.setCells b o (Builtin.zeroCells z.cells n).toList):=by
 have y:=yh (P:=P) b o (Builtin.zeroCells z.cells n).toList 0 w (by simpa using H) (by simpa using G) J;simp only[gP]at y;obtain⟨m,rfl⟩:∃m,n=m+1:=⟨n-1,by omega⟩;simp[Builtin.clear_,bb F,hv,y]
theorem SL{P}(w)(t e ty)(j:P.underlying t=some (.slice e))(a)(c):
 (Builtin.clear_ #[t] ty #[.slice a 0 c]).run P w=.ok (.tuple #[]) w:=by
 cases a<;>simp[Builtin.clear_,bb j]
theorem Dn{P}{t ty e}{size bytes n c c2}{a a2}(j:Nz P t e size bytes)(F:n<=c)(w):
 (Builtin.append_ #[t,t] ty #[.slice a n c,.slice a2 0 c2]).run P w=.ok (.slice a n c) w:=by
 have⟨i,z,hi,H,hs,hb,y⟩:=j.info;have G:(Builtin.firstCells i.size 0 (.slice a2 0 c2)).run P w=.ok #[] w:=by cases a2<;>simp[Builtin.firstCells,loadCells,loadCellsFrom]
 cases a<;>simp[Builtin.append_,bb j.under,sizeOf,typeInfo,hi,Builtin.lenOf,F,G,storeCells]
theorem gC:maxLen=9223372036854775807:=by simp[maxLen]
theorem DT.amf{U}{w}{t:DT}{x:t.den}{v:Value}(h:t.hv U w x v)(_:0<t.size):t.h U w x v.cells.toList:=by
 obtain⟨us,j,rfl⟩:=h;cases y:t.agg with
 |true=>simpa[Value.cells]using j
 |false=>
  have hl:=t.Ac j;rw[DT.awv t y]at hl;obtain⟨u,rfl⟩:=List.length_eq_one_iff.1 hl;have F:=t.VX j u (by simp);have:u.cells = #[u]:=by cases u<;>simp_all [yv,Value.cells]
  simpa[this]using j
section
variable {P : Program} {T : List TI} {V : World} {U0 L : Nat -> Prop} {al : Nat -> Bool} {B : Nat -> Nat} {A : yu} {ts : List DV} {pb : hZ} {rw : List DR} {a : Act} {w w' : World} {β : Type} {q : β} {o : Oper} {K : DK β} {Q : Exit -> Act -> World -> Prop} {C : FR} {av : List (Nat × Nat)}
theorem Mem.aqd(m:Mem V U0 L B A pb rw w){e:TypeId}{t:DT}{l:List t.den}{a:Option Addr}{c:Nat}{xs:List Value}(H:w'.os=w.os/\w'.tape=w.tape/\w'.output=w.output/\w.heap.size<=w'.heap.size)(J:∀b,b<w.heap.size->w'.heap[b]?=w.heap[b]?)
 (R:∀x,a=some x->w.heap.size<=x.block/\x.block<w'.heap.size) (ho:w'.ownsRow 0 e t.size (.slice a l.length c) l.length xs) (hs:t.hs (Us U0 B A pb rw) w l xs):
 Mem V U0 L B (Ea A rw.length (a,c)) pb (rw++[.own e t l]) w'/\Sub HH (env U0 B A pb rw w) (env U0 B (Ea A rw.length (a,c)) pb (rw++[.own e t l]) w')/\Ext al B A pb rw w B (Ea A rw.length (a,c)) pb (rw++[.own e t l]) w'/\(DV.row rw.length).h (env U0 B (Ea A rw.length (a,c)) pb (rw++[.own e t l]) w') (.slice a l.length c):=by
 have y:rw[rw.length]?=none:=bJ (au _);have F:(rw++[DR.own e t l])[rw.length]?=some (.own e t l):=by simp
 have:=m.putRow (al:=al) (j:=rw.length) (f:=HH) (rw':=rw++[.own e t l]) (e:=e) (t:=t) (l:=l) (a:=a) (c:=c) (w':=w') F (λi hi=>by
  rcases dI i rw.length with h|h
  .rw[bG h]
  .rw[bJ (by simp;omega),bJ h])
  (λ_ _ h=>by cases h) (λ_ e t l h=>by rw[y]at h;cases h) (λ_ d h=>by rw[y]at h;cases h) H (λb hb _=>J b hb) (λx G=>.inr (R x G)) (λU' lt=>⟨xs,ho,DT.lr lt hs⟩)
 rw[LF]at this;refine⟨this.1,this.2.1,this.2.2,?_⟩;simp only[DV.h];exact⟨e,t,l,F,by show _=Value.slice (Ea A rw.length (a,c) rw.length).1 _ (Ea A rw.length (a,c) rw.length).2;rw[nb]⟩
theorem Ao{e:TypeId}{t:DT}{l:List t.den}{a':Option Addr}{c:Nat}{xs:List Value}(m:Mem V U0 L B A pb rw w)(F:hL (env U0 B A pb rw w) ts a.tmps.toList)(j:(execOp a.eval o).run P w=.ok (.value (.slice a' l.length c)) w')
 (H:w'.os=w.os/\w'.tape=w.tape/\w'.output=w.output/\w.heap.size<=w'.heap.size) (J:∀b,b<w.heap.size->w'.heap[b]?=w.heap[b]?)
 (R:∀x,a'=some x->w.heap.size<=x.block/\x.block<w'.heap.size) (ho:w'.ownsRow 0 e t.size (.slice a' l.length c) l.length xs) (hs:t.hs (Us U0 B A pb rw) w l xs)
 (h:(uG rw (.own e t l) λrw'=>FH rw.length λn=>jq o.dst (.row n) ts pb rw' K)=some q):o.wp P a w (oq V U0 L al B A pb rw w a K q) Q:=by
 rw[qM,xi]at h;have⟨G,s,W,y⟩:=m.aqd (al:=al) H J R ho hs;exact eN j (oq.ret h G (nc s F) y W)
theorem Yd{U}{t}{l}{Y:Option Addr}{c:Nat}(h:(DT.slc t).h U w l [.slice Y l.length c])(h0:0<t.size)(hl:0<l.length):
 ∃ad us,Y=some ad/\us.length=l.length*t.size/\t.hs U w l us/\∀j u,us[j]?=some u->w.cell? (ad.add j)=some u:=by
 have⟨a',c',e,_,_,y⟩:=h;simp only[dC,dm,nJ]at e;obtain⟨rfl,_,rfl⟩:=e;obtain⟨ad,rfl⟩:∃ad,Y=some ad:=by have⟨us,G,F⟩:=y 0 _ (ay hl);have:=t.Ac G;have⟨x,H,_⟩:=F 0 _ (ay (by omega));exact⟨x,H⟩
 have all:∀(n:Nat),n<=l.length->∃us,us.length=n*t.size/\t.hs U w (l.take n) us/\∀j u,us[j]?=some u->w.cell? (ad.add j)=some u:=by
  intro n;induction n with
  |zero=>intro _;exact⟨[],by simp,by simpa using DT.EB,by simp⟩
  |succ n ih=>
   intro hn;have⟨us,G,F,X⟩:=ih (by omega);have⟨vs,g1,g2⟩:=y n _ (ay (by omega));have gl:=t.Ac g1;refine⟨us++vs,by simp[G,gl,lE],?_,λj u J=>?_⟩
   .rw[List.take_add_one,ay (by omega)];exact DT.Ex F (DT.XJ g1)
   .rcases dI j us.length with R|W
    .rw[bG R]at J;exact X j u J
    .rw[dJ W]at J;have⟨x,H,_,_,g3⟩:=g2 _ u J;simp only[ak]at H;subst H
     rwa [show n*t.size+(j-us.length)=j by omega]at g3
 have⟨us,G,F,X⟩:=all l.length (au _);exact⟨ad,us,rfl,G,by simpa using F,X⟩
theorem Pb{row}(j:w.grownBy w' row):w'.os=w.os/\w'.tape=w.tape/\w'.output=w.output/\w.heap.size<=w'.heap.size:=⟨j.os,j.tape,j.output,j.size⟩
theorem BI(ob):(w.alloc ob).os=w.os/\(w.alloc ob).tape=w.tape/\(w.alloc ob).output=w.output/\w.heap.size<=(w.alloc ob).heap.size:=⟨rfl,rfl,rfl,by simp⟩
theorem amg{c}{b}(ho:o.op=.call c)(j:c.callee=.builtin b):(execOp a.eval o).run P w=(builtin b c.argTypes o.type (c.args.map λ| .const _=>true|_=>false) (c.args.toList.map a.eval).toArray).run P w:=by
 have:c.args.map a.eval=(c.args.toList.map a.eval).toArray:=by apply fG;simp
 simp only[execOp,ho,resolve,j,aR,bI,br,invoke,this];rfl
theorem ait{c}{xs:List DV}(hT:dD P T)(ho:o.op=.call c)(amh:c.callee=.builtin .append)(κ:hL (env U0 B A pb rw w) xs (c.args.toList.map a.eval))(h:qf aj T C al av o ts pb rw K=some q)(auf:opsV ts c.args.toList=some xs)
 (m:Mem V U0 L B A pb rw w) (IN:hL (env U0 B A pb rw w) ts a.tmps.toList):o.wp P a w (oq V U0 L al B A pb rw w a K q) Q:=by
 simp only[qf,ho,amh,auf]at h;split at h
 .rename_i p1 p2;have⟨ts1,Al,FT,ps,h,m1,aas,hps,e1,_⟩:=wE (al:=al) _ h m IN κ;split at h
  .rename_i p1 p2 t t' hat;split at h
   .rename_i e htd;have⟨ti,hft,htd⟩:=pc hT htd;split at h
    .rename_i te X';have Yb:=rL hT X';split at h
     .rename_i t2 F htt hz;have htt:=aE htt;subst htt;have ayb:c.argTypes = #[t,t]:=fG (by simpa using hat);simp only[hL]at hps;obtain⟨v1,_,ea,ZF,v2,_,rfl,hp2,rfl⟩:=hps;simp only[DV.h]at hp2;have⟨a2,c2,ev2,_⟩:=id hp2;simp only[dC,nJ]at ev2;subst ev2;have G:(execOp a.eval o).run P w=((Builtin.append_ #[t,t] o.type #[v1,.slice a2 F.length c2]).run P w).andThen λv w'=>.ok (.value v) w':=by rw[amg ho amh,ayb,ea];simp only[builtin,aR,bI]
      split at h
      .rename_i j h0;have h0:=bS h0;split at h
       .rename_i e2 t1 l hj;rw[gM]at hj;split at h
        .rename_i hh hee H as5;have hee:=aE hee;have H:=aE H;subst hee;subst hh;have⟨r1,r2,h⟩:=SF h;simp only[l9,uI,km]at h;simp only[DV.h]at ZF;have⟨e3,t3,l3,hj3,ev1⟩:=ZF;have hj3:FT[j]?=some (.own e3 t3 l3):=hj3;rw[hj]at hj3;simp only[ak,DR.own.injEq]at hj3;obtain⟨rfl,rfl,hl3⟩:=hj3;cases hl3;subst ev1;simp only[env]at G;have⟨xs1,ho1,hs1⟩:=m1.row j e t2 l hj;have W:=Am hft htd Yb hz (by omega);have hjl:=(aC.1 hj).1
         have fin:∀(a':Option Addr) (c':Nat) (w2:World) (xs2:List Value),w.grownBy w2 (Value.slice (A j).1 l.length (A j).2).ownBlock->((Value.slice a' (l.length+F.length) c').ownBlock=(Value.slice (A j).1 l.length (A j).2).ownBlock\/(Value.slice a' (l.length+F.length) c').ownBlock=some w.heap.size)->
          w2.ownsRow 0 e t2.size (.slice a' (l.length+F.length) c') (l.length+F.length) xs2->t2.hs (Us U0 B A Al FT) w (l++F) xs2->
          oq V U0 L al B A pb rw w a K q (a.put o.dst (.slice a' (l.length+F.length) c')) w2:=by
          intro a' c' w2 xs2 hg ayc how hsw
          have Qm:∀b,(Value.slice (A j).1 l.length (A j).2).ownBlock=some b↔iF B A Al FT true j b:=by
           intro b;constructor
           .intro hb;cases hA:(A j).1 with
            |none=>rw[hA]at hb;simp[Value.ownBlock]at hb
            |some ad=>rw[hA]at hb;simp only[Value.ownBlock,ak]at hb;exact⟨_,ad,hj,by simp,hA,hb⟩
           .rintro⟨r,ad,_,_,hA,rfl⟩;rw[hA];rfl
          have⟨m2,s2,e2⟩:=m1.putRow (al:=al) (j:=j) (f:=j2 j .ju) (rw':=FT.set j (.own e t2 (l++F))) (e:=e) (t:=t2) (l:=l++F) (a:=a') (c:=c') (w':=w2)
           (by rw[bf,ah rfl,ah hjl]) (λk hk=>by rw[bf,ag (ga hk)])
           (λi p hp=>by
            unfold j2 at hp;split at hp
            .rename_i hb;simp only[ak]at hp;exact⟨aE hb,hp.symm⟩
            .cases hp)
           (λhn=>by simp[j2]at hn) (λhn=>by simp[j2]at hn) (Pb hg) (λb hb hnb=>hg.block b hb λh=>hnb ((Qm b).1 h.symm))
           (λx hx=>by
            subst hx;rcases ayc with h'|h'
            .exact .inl ((Qm _).1 h'.symm)
            .simp only[Value.ownBlock,ak]at h';have:=(how.lt x.block rfl).2;exact .inr ⟨by omega,this⟩)
           (λU' lt=>⟨xs2,by rw[aq];exact how,DT.lr lt hsw⟩)
          refine oq.more e1 rfl (oq.ret h m2 (kj s2 _ aas) ?_ e2);simp only[DV.h];have Ux:(FT.set j (DR.own e t2 (l++F)))[j]?=some (.own e t2 (l++F)):=by rw[bf,ah rfl,ah hjl]
          exact⟨e,t2,l++F,Ux,by show _=Value.slice (Ea A j (a',c') j).1 _ (Ea A j (a',c') j).2;rw[nb,aq]⟩
         rcases fb F.length with R|R
         .have hnil:=dt.1 R;have J:=Dn (P:=P) (t:=t) (ty:=o.type) (n:=l.length) (c:=(A j).2) (c2:=c2) (a:=(A j).1) (a2:=a2) W (SE ho1).1 w;refine eN (by rw[G,R];rw[J];rfl) ?_;have:=fin (A j).1 (A j).2 w xs1 ⟨rfl,rfl,rfl,au _,λ_ _ _=>rfl⟩ (.inl (by rw[R];rfl)) (by rw[R];exact ho1) (by rw[hnil];simpa using hs1);rw[R]at this;exact this
         .obtain⟨ad,us,rfl,hul,Y,hcs⟩:=Yd hp2 h0 R;have⟨i,z,hi,hz',X,hb,hzs⟩:=W.info;have⟨v',w2,J,ho2,hg,_,aiu⟩:=run_append_own_at (P:=P) w 0 t o.type e i z te.size te.bytes W.under hi hz' X hb hzs W.pos (.slice (A j).1 l.length (A j).2) l.length xs1 (by rw[<-H];exact ho1) ad F.length c2 us (by rw[hul,H]) hcs (λu hu=>(wz (DT.Gn Y u hu)).2) (by rw[gC];omega) r2 (bE _)
          obtain⟨a',c',rfl⟩:∃a' c',v'=.slice a' (l.length+F.length) c':=by
           rcases ho2.2 with⟨rfl,h'⟩|⟨g,cap,cur,rfl,_⟩
           .exact⟨none,0,by rw[h']⟩
           .exact⟨_,_,rfl⟩
          exact eN (by rw[G,J];rfl) (fin a' c' w2 _ hg aiu (by rw[H];exact ho2) (DT.Ex hs1 Y))
        .cases h
       .cases h
      .rename_i h0;have h0:=bS h0;split at h
       .rename_i H;have H:=aE H;have⟨r1,r2,h⟩:=SF h;simp only[DV.h]at ZF;subst ZF;have W:=Am hft htd Yb hz (by omega);rcases fb F.length with R|R
        .have hnil:=dt.1 R;have J:=Dn (P:=P) (t:=t) (ty:=o.type) (n:=0) (c:=0) (c2:=c2) (a:=none) (a2:=a2) W (au _) w;rw[R]at G;rw[J]at G;subst hnil;have:=Ao (P:=P) (Q:=Q) (al:=al) (e:=e) (t:=t2) (l:=[]) (a':=none) (c:=0) (xs:=[]) m1 aas (w':=w) G ⟨rfl,rfl,rfl,au _⟩ (λ_ _=>rfl) (λx hx=>by cases hx) (vz w 0 e t2.size) DT.EB h;exact Aj this λa' w' hn=>oq.more e1 rfl hn
        .obtain⟨ad,us,rfl,hul,Y,hcs⟩:=Yd hp2 h0 R;have⟨i,z,hi,hz',X,hb,hzs⟩:=W.info;have⟨v',w2,J,ho2,hg,_,aiu⟩:=run_append_own_at (P:=P) w 0 t o.type e i z te.size te.bytes W.under hi hz' X hb hzs W.pos (.slice none 0 0) 0 [] (vz w 0 e te.size) ad F.length c2 us (by rw[hul,H]) hcs (λu hu=>(wz (DT.Gn Y u hu)).2) (by rw[gC];omega) (by rw[cg];exact r2) (bE _)
         obtain⟨a',c',rfl⟩:∃a' c',v'=.slice a' (0+F.length) c':=by
          rcases ho2.2 with⟨rfl,h'⟩|⟨g,cap,cur,rfl,_⟩
          .exact⟨none,0,by rw[h']⟩
          .exact⟨_,_,rfl⟩
         rw[cg]at J ho2 aiu;rw[J]at G
         have:=Ao (P:=P) (Q:=Q) (al:=al) (e:=e) (t:=t2) (l:=F) (a':=a') (c:=c') (xs:=us) m1 aas (w':=w2) G (Pb hg) (λb hb=>hg.block b hb (by simp[Value.ownBlock])) (λx hx=>by
          subst hx;have:=(ho2.lt x.block rfl).2;rcases aiu with h'|h'
          .simp[Value.ownBlock]at h'
          .simp only[Value.ownBlock,ak]at h';omega) (by rw[H];simpa using ho2) Y h
         exact Aj this λa' w' hn=>oq.more e1 rfl hn
       .cases h
      .rename_i t1 l h0;have h0:=bS h0;split at h
       .rename_i hh y ys H as5 _;have H:=aE H;subst hh;have⟨r1,r2,h⟩:=SF h;simp only[DV.h]at ZF;have⟨ZF,aa,ev1⟩:=ZF;subst ev1;have W:=Am hft htd Yb hz (by omega);have R:0<(y::ys).length:=by simp
        have⟨i,z,hi,hz',X,hb,hzs⟩:=W.info;obtain⟨ad,vs,rfl,hvl,hvs,hcv⟩:=Yd hp2 h0 R
        obtain⟨us,hul,Y,hold⟩:∃us:List Value,us.length=l.length*t2.size/\t2.hs (Us U0 B A Al FT) w l us/\(Builtin.firstCells i.size l.length (.slice aa l.length l.length)).run P w.drew=.ok us.toArray w.drew:=by
         rcases fb l.length with hl0|hl0
         .have hnil:=dt.1 hl0;subst hnil;refine⟨[],by simp,DT.EB,?_⟩;cases aa with
          |none=>exact run_firstCells_none w.drew _ _ _ _
          |some b=>exact rY w.drew _ _ b _ _ [] (by simp) (λj v hj=>by simp at hj)
         .obtain⟨ad2,us,rfl,hul,Y,hcs⟩:=Yd ZF h0 hl0;exact⟨us,hul,Y,rY w.drew _ _ ad2 _ _ us (by rw[hul,H,X]) λj v hj=>hcs j v hj⟩
        have hsrc:Src P i.size t (.slice (some ad) (y::ys).length c2) (y::ys).length vs w:=by rw[X,<-H];exact Src.ofSlice w W.under ad (y::ys).length c2 vs hvl hcv (λu hu=>(wz (DT.Gn hvs u hu)).2)
        have J:=run_append_grow_src (P:=P) w t t o.type e i z W.under hi hz' aa l.length l.length us hold (.slice (some ad) (y::ys).length c2) (y::ys).length vs hsrc (by omega) (by omega) (by rw[hb];exact growslice_fits (by omega) r2);rw[J]at G;have hC:=Cc w (l.length+(y::ys).length) l.length e;have hC2:=pI w (l.length+(y::ys).length) l.length e (by rw[gC];omega);generalize grownCap w (l.length+(y::ys).length) l.length e=C at *;rw[<-aq]at G;have hal:(us++vs).length=(l++(y::ys)).length*t2.size:=by rw[aq,aq,hul,hvl,iN]
        have:=Ao (P:=P) (Q:=Q) (al:=al) (e:=e) (t:=t2) (l:=l++(y::ys)) (a':=some ⟨w.heap.size,0,none⟩) (c:=C) (xs:=us++vs) m1 aas G ⟨rfl,rfl,rfl,by simp⟩ (λb hb=>mw w.drew _ hb)
         (λx hx=>by simp only[ak]at hx;subst hx;exact⟨au _,by simp⟩)
         ⟨hal,.inr ⟨w.heap.size,C,_,rfl,bE _,kA w.drew _,by rw[aq];exact hC,hC2,by
          rw[iP,size_zeroCells,hzs,eX,hal,H,aq,<-iN];congr 1;omega,by
          rw[Array.toList_append,List.toList_toArray,<-hal,List.take_left'];rfl⟩⟩ (DT.Ex Y hvs) h
        exact Aj this λa' w' hn=>oq.more e1 rfl hn
       .cases h
      .cases h
     .cases h
    .cases h
   .cases h
  .cases h
 .cases h
end
theorem adz{β}{q}{i:Int}{n:Nat}{K:Nat->Option β}(h:ado i n K=some q):0<=i/\i<=(n:Int)/\K i.toNat=some q:=alT (by change ado i n K=_;exact h)
theorem LM(g o):∀(vs:List Value) (i:Nat) (w:World),w.setCells g (o+i) vs=setCells w ⟨g,o,none⟩ i vs
 |[],_,_=>rfl
 |v::vs,i,w=>by simp only[World.setCells,setCells,sK];rw[<-LM g o vs (i+1),CP]
theorem as6{U}{w}{t:DT}{zero:List Value}{z:t.den}(h:t.of (Cw zero)=some (z,[])):t.h U w z zero:=by have⟨us,us',e,y,j⟩:=t.aio (E:=⟨U,w,λ_=>0,λ_=>(none,0),[],[]⟩) h (Gz zero);simp only[hL]at j;subst j;rw[cz]at e;subst e;exact y
theorem afY{E}{t}(G:0<t.size):∀{ps:List (Nat×DV)} {n:Nat} {l:List t.den} {vs:List Value},al6 t ps n=some l->hL E (ps.map (·.2)) vs->
 t.hs E.U E.w l (vs.flatMap (·.cells.toList))/\(∀v∈vs,v.cells.size=t.size)/\(List.zip (ps.map (·.1)) vs)=An n vs/\l.length=vs.length
 |[],n,l,vs,h,hv=>by simp[al6]at h;subst h;simp only[nQ,hL]at hv;subst hv;exact⟨by simpa using DT.EB,by simp,rfl,rfl⟩
 |(i,p)::ps,n,l,vs,h,hv=>by
  simp only[al6]at h;split at h
  .rename_i x hi J;have hi:=aE hi;subst hi;split at h
   .rename_i l' y;simp only[ak]at h;subst h;simp only[bK,hL]at hv;obtain⟨v,H,rfl,W,R⟩:=hv;have⟨g1,g2,Y,X⟩:=afY G y R;have F:=DT.amf (DT.V' J W) G;refine⟨?_,?_,?_,by simp[X]⟩
    .simp only[cp];exact DT.Ex (DT.XJ F) g1
    .intro u j;rcases aG.1 j with rfl|j
     .have:=t.Ac F;simpa using this
     .exact g2 u j
    .simp only[bK,Bk,An,Y]
   .cases h
  .cases h
theorem afZ:∀{ps:List (Nat×DV)} {qs:List DV},qs.length=ps.length->(Sq ps qs).map (·.2)=qs/\(Sq ps qs).map (·.1)=ps.map (·.1)
 |[],[],_=>⟨rfl,rfl⟩
 |[],_::_,h=>by simp at h
 |_::_,[],h=>by simp at h
 |(i,p)::ps,q::qs,h=>by have⟨y,j⟩:=afZ (ps:=ps) (qs:=qs) (by simpa using h);simp[Sq,y,j]
theorem ad0:∀(ps:List (Nat×DV)),V7 ps=ps.map (·.2)
 |[]=>rfl
 |(_,p)::ps=>by simp[V7,ad0 ps]
section
variable {P : Program} {T : List TI} {V : World} {U0 L : Nat -> Prop} {al : Nat -> Bool} {B : Nat -> Nat} {A : yu} {ts : List DV} {pb : hZ} {rw : List DR} {a : Act} {w w' : World} {β : Type} {q : β} {o : Oper} {K : DK β} {Q : Exit -> Act -> World -> Prop} {C : FR} {av : List (Nat × Nat)}
theorem SM{G}{F}{j:List DR}(h:sW P (env U0 B A F j w) a o (λy=>jq o.dst y G F j K) q)(J:Mem V U0 L B A F j w)(H:hL (env U0 B A F j w) G a.tmps.toList)(e:Ext al B A pb rw w B A F j w):o.wp P a w (oq V U0 L al B A pb rw w a K q) Q:=by have⟨r,v,X,W,R⟩:=h;exact eN (R w) (oq.ret X J H W e)
theorem ami{t}{C}{av:List (Nat×Nat)}(J:dD P T)(ho:o.op=.alloc t)(h:qf aj T C al av o ts pb rw K=some q)(m:Mem V U0 L B A pb rw w)(y:hL (env U0 B A pb rw w) ts a.tmps.toList):o.wp P a w (oq V U0 L al B A pb rw w a K q) Q:=by
 simp only[qf,ho]at h;split at h
 .rename_i X F;have H:=rL J F;split at h
  .rename_i z W G;have⟨R,j⟩:=aqb H G;refine aaq ?_ h m y (Gz _);simp only[execOp,ho,aR,Instr.alloc,(j w).1,br,newVar,newRow,run_newObj,bI,(j w).2];rfl
  .cases h
 .cases h
theorem amj{t}{x}{lo hi mx:Option Operand}(hT:dD P T)(ho:o.op=.slice t x lo hi mx)(h:qf aj T C al av o ts pb rw K=some q)(m:Mem V U0 L B A pb rw w)(G:hL (env U0 B A pb rw w) ts a.tmps.toList):o.wp P a w (oq V U0 L al B A pb rw w a K q) Q:=by
 simp only[qf,ho]at h;split at h
 .rename_i j n H
  obtain⟨oh,k,rfl,rfl,rfl,hx,hh⟩:∃oh k,lo=none/\hi=some oh/\mx=none/\vF ts x=some (.row j)/\vF ts oh=some (.int k n):=by
   unfold awk at H;split at H
   .split at H
    .rename_i j' h' hx';split at H
     .rename_i k n' hn';simp only[ak,bX]at H;obtain⟨rfl,rfl⟩:=H;exact⟨h',k,rfl,rfl,rfl,hx',hn'⟩
     .cases H
    .cases H
   .cases H
  have ZF:=gq hx G;have hp2:=gq hh G;simp only[DV.h]at ZF hp2;split at h
  .rename_i e e2 R l W hj;have⟨ti,hft,W⟩:=pc hT W;rw[gM]at hj;split at h
   .rename_i te X';have Yb:=rL hT X';split at h
    .rename_i Y hsz;have Y:=aE Y;have hsz:=aE hsz;subst Y;have⟨h0,h1,h⟩:=adz h;simp only[l9,uI,km]at h;have⟨e3,t3,l3,F,ev1⟩:=ZF;have F:rw[j]?=some (.own e3 t3 l3):=F;rw[hj]at F;simp only[ak,DR.own.injEq]at F;obtain⟨rfl,rfl,hl3⟩:=F;cases hl3;have⟨xs1,X,hs1⟩:=m.row j e R l hj;have hjl:=(aC.1 hj).1;have ayF:=SE X;obtain⟨c,rfl⟩:∃c:Nat,n=c:=⟨n.toNat,by omega⟩;have hcl:c<=l.length:=by omega
     simp only[aP]at h;have htk:(l.take c).length=c:=by rw[aY];omega
     have hrun:(execOp a.eval o).run P w=.ok (.value (.slice (A j).1 c (A j).2)) w:=by have ev1:a.eval x=.slice (A j).1 l.length (A j).2:=ev1;simp only[execOp,ho,aR,bI,kR,fy,ev1,hp2,Instr.sliceAt,Instr.slice,bb (qK hft W),br,Instr.sliceBounds,rH,ie w k c (A j).2 .sliceAcap (by omega) (by omega),ri Yb,pH,E8,aP];congr 3;cases(A j).1<;>simp[Addr.add]
     have⟨m2,s2,e2⟩:=m.putRow (al:=al) (j:=j) (f:=j2 j .ju) (rw':=rw.set j (.own e R (l.take c))) (e:=e) (t:=R) (l:=l.take c) (a:=(A j).1) (c:=(A j).2) (w':=w)
      (by rw[bf,ah rfl,ah hjl]) (λk hk=>by rw[bf,ag (ga hk)])
      (λi p hp=>by
       unfold j2 at hp;split at hp
       .rename_i hb;simp only[ak]at hp;exact⟨aE hb,hp.symm⟩
       .cases hp)
      (λhn=>by simp[j2]at hn) (λhn=>by simp[j2]at hn) ⟨rfl,rfl,rfl,au _⟩ (λb hb hnb=>rfl)
      (λy hy=>.inl ⟨_,y,hj,by simp,hy,rfl⟩)
      (λU' lt=>⟨xs1.take (c*R.size),by
       rw[htk];refine⟨by rw[aY,X.1];exact gz (du _ hcl),?_⟩;rcases X.2 with⟨hA,hn0⟩|⟨g,cap,cur,heq,hb,hg,h5,h6,h7,h8⟩
       .left;simp only[dm]at hA ⊢;exact⟨⟨hA.1,by omega,hA.2.2⟩,by omega⟩
       .simp only[dm]at heq;have⟨hA,_,hC⟩:=heq;refine .inr ⟨g,cap,cur,by rw[hA,hC],hb,hg,by omega,h6,h7,?_⟩;rw[<-h8,Bf,gz (du _ hcl)],DT.QG (DT.lr lt hs1) hcl⟩)
     refine eN hrun (oq.ret h m2 (kj s2 _ G) ?_ e2);simp only[DV.h];have Ux:(rw.set j (DR.own e R (l.take c)))[j]?=some (.own e R (l.take c)):=by rw[bf,ah rfl,ah hjl]
     exact⟨e,R,l.take c,Ux,by show _=Value.slice (Ea A j ((A j).1,(A j).2) j).1 _ (Ea A j ((A j).1,(A j).2) j).2;rw[nb,htk]⟩
    .cases h
   .cases h
  .cases h
 split at h
 .have⟨ts1,Al,FT,ps,h,m1,J,_,e1,_⟩:=wE (al:=al) _ h m G (ps:=[]) (us:=[]) (by simp[hL]);exact SM (Yc hT ho J rfl m1.afX h) m1 J e1
 .cases h
theorem amk{t}{x G:Operand}(hT:dD P T)(ho:o.op=.index t x G)(h:qf aj T C al av o ts pb rw K=some q)(m:Mem V U0 L B A pb rw w)(j:hL (env U0 B A pb rw w) ts a.tmps.toList):o.wp P a w (oq V U0 L al B A pb rw w a K q) Q:=by
 simp only[qf,ho]at h;split at h
 .rename_i s k i R hi W;have J:=gq R j;have H:=gq hi j;simp only[DV.h]at J H;have⟨ti,Y,y⟩:=pc hT W;change aff s i _=_ at h;unfold aff at h;rcases xI h with⟨F,h⟩|⟨_,h⟩
  .have F:0<=i:=by simpa using F
   split at h
   .rename_i b hb;refine eN (v:=.int .u8 b.toNat) ?_ (oq.ret h m j (by simp only[DV.h]) Ext.refl);have X:(execOp a.eval o).run P w=((Instr.index t (a.eval x) (a.eval G)).run P w).andThen λv w'=>.ok (.value v) w':=by simp only[execOp,ho,aR,bI]
    rw[X,J,H];simp[Instr.index,asIntOf,bb (Dl Y y),F,hb]
   .cases h
  .cases h
 .cases h
theorem aml:∀{ps:List (Nat×DV)} {n:Nat},alD ps n=true->ps.map (·.1)=List.range' n ps.length/\∀p∈ps.map (·.2),∃f cs,p=.fn f cs
 |[],n,_=>⟨rfl,λp h=>by simp at h⟩
 |(i,p)::ps,n,h=>by
  simp only[alD,aD]at h;have⟨y,F⟩:=h;have y:=aE y;subst y;cases p with
  |fn f cs=>
   have⟨g1,G⟩:=aml (show alD ps (i+1)=true from F);refine⟨by simp only[bK,g1,aJ,wZ],λp j=>?_⟩;simp only[bK,aG]at j;rcases j with rfl|j
   .exact⟨_,_,rfl⟩
   .exact G p j
  |_=>cases F
theorem Wg{E}:∀{ps:List DV} {vs:List Value},(∀p∈ps,∃f cs,p=DV.fn f cs)->hL E ps vs->(∀v∈vs,v.cells.size=1)/\vs.flatMap (·.cells.toList)=vs
 |[],vs,_,h=>by simp only[hL]at h;subst h;exact⟨λv hv=>by simp at hv,rfl⟩
 |p::ps,vs,hp,h=>by
  simp only[hL]at h;obtain⟨v,F,rfl,y,G⟩:=h;obtain⟨f,cs,rfl⟩:=hp _ (ec ..);have⟨g1,H⟩:=Wg (λp h=>hp p (cH _ h)) G;simp only[DV.h]at y;obtain⟨us,rfl,_⟩:=y;have j:(fnV f us).cells = #[fnV f us]:=by unfold fnV;cases Nat.ble 1000000 f<;>rfl
  refine⟨λv hv=>?_,by simp only[cp,j,H];rfl⟩;rcases aG.1 hv with rfl|hv
  .rw[j];rfl
  .exact g1 v hv
theorem amm:∀{l:List (Nat×Value)} {n:Nat},l.map (·.1)=List.range' n l.length->l=An n (l.map (·.2)):=by
 intro l;induction l with
 |nil=>intro n _;rfl
 |cons p l j=>intro n h;simp only[bK,aJ,wZ,dC]at h;have:=j h.2;show p::l=(n,p.2)::An (n+1) (l.map (·.2));rw[<-this,<-h.1]
theorem aug{t}{len}{parts}{ps:List (Nat×DV)}{l:List DV}(hT:dD P T)(ho:o.op=.buildSlice t len parts)(hl:atZ T t len ps=some l)
 (F:hL (env U0 B A pb rw w) (ps.map (·.2)) (parts.toList.map λp=>a.eval p.2)) (hp2:ps.map (·.1)=parts.toList.map (·.1)) (h:jq o.dst (.fns l) ts pb rw K=some q) (m:Mem V U0 L B A pb rw w) (IN:hL (env U0 B A pb rw w) ts a.tmps.toList):o.wp P a w (oq V U0 L al B A pb rw w a K q) Q:=by
 unfold atZ at hl;split at hl
 .rename_i e R;have⟨ti,hft,R⟩:=pc hT R;split at hl
  .rename_i te X';have Yb:=rL hT X';split at hl
   .rename_i Y y;simp only[aD]at Y y;simp only[ak]at hl;subst hl;have W:=aE Y.1;have H:=aE y.1;have k2:=bS y.2.1;have hbd:=bS y.2.2.1;have⟨f1,f2⟩:=aml y.2.2.2;have h1:0<te.size:=by omega
    have hek:=Am hft R Yb (by rw[W];exact Y.2.1) h1;have⟨i,z,hi,hzz,X,hby,hzs⟩:=hek.info
    have G:parts.toList.map (λp=>(p.1,a.eval p.2))=An 0 (parts.toList.map λp=>a.eval p.2):=by
     have:=amm (l:=parts.toList.map λp=>(p.1,a.eval p.2)) (n:=0) (by
      have hh:ps.length=parts.toList.length:=by have:=bQ List.length hp2;simpa using this
      rw[gQ,bp,<-hh,<-f1,hp2];rfl)
     rw[this,gQ];rfl
    generalize hvs:parts.toList.map (λp=>a.eval p.2)=vs at F G;have⟨c1,c2⟩:=Wg f2 F;have hvl:vs.length=len:=by rw[pt F,bp,H]
    have hr:(execOp a.eval o).run P w=((Instr.buildSlice t len (An 0 vs).toArray).run P w).andThen λv w'=>.ok (.value v) w':=by simp only[execOp,ho,aR,bI];congr 3;rw[<-G];apply fG;simp
    have hrun:(Instr.buildSlice t len (An 0 vs).toArray).run P w=.ok (.slice (some ⟨w.heap.size,0,none⟩) len len) (w.alloc (.cells vs.toArray e)):=by
     refine run_buildSlice w t e len _ vs.toArray i z hek.under hi hzz (by rw[X,W];simp;omega) (by rw[X];have:=Nat.mul_pos k2 h1;omega) ?_;rw[X];have hz0:((Array.range (len*te.size)).map (z.cells[· % z.cells.size]!))=([]++((List.range (len*te.size)).map (z.cells[· % z.cells.size]!))).toArray:=by apply fG;simp
     rw[hz0,SK te.size _ 0 [] _ (by simp) (by simp[hvl]) (λv hv=>by rw[c1 v hv,W])];simp[c2]
    rw[hrun]at hr;have⟨m',s,e1⟩:=m.world (al:=al) (BI (.cells vs.toArray e)) (λb hb=>mw w _ hb);refine eN hr (oq.ret h m' (nc s IN) ?_ e1);rw[ad0];simp only[DV.h];refine⟨⟨w.heap.size,0,none⟩,vs,len,by rw[bp,H],nc s F,λj u hj=>⟨_,rfl,λJ=>?_,by show w.heap.size<(w.alloc _).heap.size;simp,?_⟩⟩
    .have J:Us U0 B A pb rw w.heap.size:=J;rcases J with J|⟨k,i,J⟩
     .have:=(m.u0 _ J).1;have:=m.size;omega
     .have:=(m.low k i _ J).1;omega
    .rw[sK,cg,cg];show(w.alloc (.cells vs.toArray e)).cell? ⟨w.heap.size,j,none⟩=some u;rw[cell_of_block (kA w _)];simpa using hj
   .cases hl
  .cases hl
 .cases hl
theorem Uz{t}{len}{j:Array (Nat×Operand)}(hT:dD P T)(ho:o.op=.buildSlice t len j)(h:qf aj T C al av o ts pb rw K=some q)(m:Mem V U0 L B A pb rw w)(J:hL (env U0 B A pb rw w) ts a.tmps.toList):o.wp P a w (oq V U0 L al B A pb rw w a K q) Q:=by
 simp only[qf,ho]at h;split at h
 .rename_i ps hps;have⟨Y,hp2⟩:=SH hps J;split at h
  .rename_i l hl;exact aug hT ho hl Y hp2 h m J
  rw[ad0]at h;have⟨ts1,Al,FT,qs,h,m1,aas,X,e1,_⟩:=wE (al:=al) _ h m J Y;split at h
  .rename_i e R;have⟨ti,hft,R⟩:=pc hT R;split at h
   .rename_i te te' X' _;have Yb:=rL hT X';split at h
    .rename_i l hl;split at h
     .rename_i y F h1 hbd hz;have y:=aE y;have F:=aE F;have h1:=bS h1;have hbd:=bS hbd;have hek:=Am hft R Yb hz h1;have⟨i,z,hi,hzz,W,hby,hzs⟩:=hek.info;generalize hvs:j.toList.map (λp=>a.eval p.2)=vs at X;have hql:qs.length=ps.length:=by have g1:=pt X;have g2:=pt Y;rw[hvs]at g2;simp only[bp]at g2;omega
      have⟨r1,r2⟩:=afZ hql;obtain⟨g1,g2,g3,g4⟩:=afY (E:=env U0 B A Al FT w) (by omega) hl (by rw[r1];exact X);rw[r2,hp2]at g3
      have ayd:j.toList.map (λp=>(p.1,a.eval p.2))=An 0 vs:=by
       rw[<-g3,<-hvs];induction j.toList with
       |nil=>rfl
       |cons p l ih=>simp[ih]
      have hr:(execOp a.eval o).run P w=((Instr.buildSlice t len (An 0 vs).toArray).run P w).andThen λv w'=>.ok (.value v) w':=by simp only[execOp,ho,aR,bI];congr 3;rw[<-ayd];apply fG;simp
      have hvl:vs.length=len:=by omega
      have hrun:(Instr.buildSlice t len (An 0 vs).toArray).run P w=.ok (.slice (some ⟨w.heap.size,0,none⟩) len len) (w.alloc (.cells (vs.flatMap (·.cells.toList)).toArray e)):=by
       rcases fb len with h0|k2
       .have G:vs=[]:=dt.1 (by omega);subst G;rw[h0];simp[Instr.buildSlice,bb hek.under,sizeOf,typeInfo,hi,newRow,Instr.fill,An];have e0:∀f:Nat->Value,Array.map f (Array.range 0) = #[]:=λf=>fG (by simp)
        rw[e0]
       .refine run_buildSlice w t e len _ (vs.flatMap (·.cells.toList)).toArray i z hek.under hi hzz (by rw[W];simp;omega) (by rw[W];have:=Nat.mul_pos k2 h1;omega) ?_;rw[W];have G:((Array.range (len*te.size)).map (z.cells[· % z.cells.size]!))=([]++((List.range (len*te.size)).map (z.cells[· % z.cells.size]!))).toArray:=by apply fG;simp
        rw[G,SK te.size _ 0 [] _ (by simp) (by simp[hvl]) (λv hv=>by rw[g2 v hv,y])];simp
      have g1:te'.hs (Us U0 B A Al FT) w l (vs.flatMap λv=>v.cells.toList):=g1;have H:(vs.flatMap (·.cells.toList)).length=len*te.size:=by have:=g1.1;rw[y]at this;rw[this];congr 1;omega
      rw[hrun]at hr;have hm:len<=maxLen:=by have:len*1<=len*te.size:=lm _ h1;rw[gC];omega
      rw[F]at hr hm H;have:=Ao (P:=P) (Q:=Q) (al:=al) (e:=e) (t:=te') (l:=l) (a':=some ⟨w.heap.size,0,none⟩) (c:=l.length) (xs:=vs.flatMap (·.cells.toList)) m1 aas (w':=w.alloc (.cells (vs.flatMap (·.cells.toList)).toArray e)) hr (BI _) (λb hb=>mw w _ hb) (λx hx=>by simp only[ak]at hx;subst hx;simp) ⟨g1.1,.inr ⟨w.heap.size,l.length,_,rfl,bE _,kA w _,au _,hm,by rw[y];simpa using H,by rw[y];exact lD (by simpa using E7 H)⟩⟩ g1 h;exact Aj this λa' w' hn=>oq.more e1 rfl hn
     .cases h
    .cases h
   .cases h
  .cases h
 .cases h
theorem Ye{t}{ol oc:Operand}(hT:dD P T)(ho:o.op=.makeSlice t ol oc)(h:qf aj T C al av o ts pb rw K=some q)(m:Mem V U0 L B A pb rw w)(H:hL (env U0 B A pb rw w) ts a.tmps.toList):o.wp P a w (oq V U0 L al B A pb rw w a K q) Q:=by
 simp only[qf,ho]at h;split at h
 .rename_i k1 n k2 c e hl hc J;have hl:=gq hl H;have hc:=gq hc H;simp only[DV.h]at hl hc;have⟨ti,hft,J⟩:=pc hT J;split at h
  .rename_i W F X' _;have Yb:=rL hT X';split at h
   .rename_i z j h1 hz hof;have j:=aE j;have h1:=bS h1;have hek:=Am hft J Yb hz h1;have⟨i,R,hi,X,hs1,hby,Y⟩:=hek.info;have G:W.zero=R.cells.toList:=by have⟨d,i',g1,g2,g3,g4,g5,g6,g7,g8⟩:=Yb.ex;rw[hi]at g2;obtain rfl:=cG g2;rw[g7,X]
    have key:∀(y:Nat),0<=c->(n:Int)=y->(y:Int)<=c->c.toNat<=281474976710656->c.toNat*W.bytes<=140737488355328->
     (uG rw (.own e F (List.replicate y z)) λrw'=>FH rw.length λn=>jq o.dst (.row n) ts pb rw' K)=some q->o.wp P a w (oq V U0 L al B A pb rw w a K q) Q:=by
     intro y h0 hn hnc hm1 hm2 h;have hm:c.toNat<=maxLen:=by rw[gC];omega
     have hb1:(i.bytes:Int)*c<=281474976710656:=by
      rw[hby];have e1:(W.bytes:Int)*c=((c.toNat*W.bytes:Nat):Int):=by rw[mU,rX (by omega),iv]
      rw[e1];omega
     have hrun:=run_make (P:=P) w t e i R hek.under hi X k1 k2 n c (by omega) (by omega) hb1 (by rw[gC]at hm;omega);have hr:(execOp a.eval o).run P w=((Instr.makeSlice t (a.eval ol) (a.eval oc)).run P w).andThen λv w'=>.ok (.value v) w':=by simp only[execOp,ho,aR,bI]
     rw[hl,hc,hrun,hs1]at hr;have hn':n.toNat=y:=by omega
     rw[hn']at hr;have hrl:(List.replicate y z).length=y:=vY;have hzh:F.h (Us U0 B A pb rw) w z R.cells.toList:=by rw[<-G];exact as6 hof
     refine Ao (P:=P) (Q:=Q) (al:=al) (e:=e) (t:=F) (l:=List.replicate y z) (a':=some ⟨w.heap.size,0,none⟩) (c:=c.toNat) (xs:=(List.replicate y R.cells.toList).flatten) m H (w':=w.alloc (.cells (madeCells R.cells (c.toNat*W.size)) e)) (by rw[hrl];exact hr) (BI _) (λb hb=>mw w _ hb) (λx hx=>by simp only[ak]at hx;subst hx;simp) ?_ (DT.XY hzh y) h;rw[hrl];refine⟨by rw[LL,fi,Y,j],.inr ⟨w.heap.size,c.toNat,_,rfl,bE _,kA w _,by omega,hm,by rw[size_madeCells,j],?_⟩⟩;rw[j];exact Wf Y (by omega)
    split at h
    .split at h
     .have⟨h0,h⟩:=apW h;have⟨r1,r2,h⟩:=SF h;exact key 0 h0 rfl h0 r1 r2 h
     .cases h
    .have⟨h0,h⟩:=apW h;have⟨r1,r2,h⟩:=SF h;have⟨b1,b2,h⟩:=adz h;exact key n.toNat h0 (by omega) (by omega) r1 r2 h
   .cases h
  .cases h
 .cases h
theorem amn{c}{xs:List DV}(hT:dD P T)(ho:o.op=.call c)(amh:c.callee=.builtin .clear)(κ:hL (env U0 B A pb rw w) xs (c.args.toList.map a.eval))(h:qf aj T C al av o ts pb rw K=some q)(auf:opsV ts c.args.toList=some xs)
 (m:Mem V U0 L B A pb rw w) (IN:hL (env U0 B A pb rw w) ts a.tmps.toList):o.wp P a w (oq V U0 L al B A pb rw w a K q) Q:=by
 simp only[qf,ho,amh,auf]at h;split at h
 .rename_i j i t hat;split at h
  .rename_i e htd;have⟨ti,hft,htd⟩:=pc hT htd;split at h
   .rename_i te e2 y l X' J;have Yb:=rL hT X';rw[gM]at J;split at h
    .rename_i z hee F hz h1 hof;have hee:=aE hee;subst hee;have F:=aE F;have h1:=bS h1;have hek:=Am hft htd Yb hz h1;have⟨i',R,hi2,hzz,hs1,hby,hzs⟩:=hek.info;have hzero:te.zero=R.cells.toList:=by have⟨d,i',g1,g2,g3,g4,g5,g6,g7,g8⟩:=Yb.ex;rw[hi2]at g2;obtain rfl:=cG g2;rw[g7,hzz]
     have⟨b1,b2,h⟩:=adz h;rw[km]at h;have hin:(Int.ofNat i).toNat=i:=rfl;rw[hin]at h;have hil:i<=l.length:=by omega
     have aiu:c.argTypes = #[t]:=fG (by simpa using hat);simp only[hL,DV.h]at κ;obtain⟨v,_,ea,⟨e3,t3,l3,H,_,ev⟩,rfl⟩:=κ;have H:rw[j]?=some (.own e3 t3 l3):=H;rw[J]at H;simp only[ak,DR.own.injEq]at H;obtain⟨rfl,rfl,hl3⟩:=H;cases hl3;have hr:(execOp a.eval o).run P w=((Builtin.clear_ #[t] o.type #[v]).run P w).andThen λv w'=>.ok (.value v) w':=by rw[amg ho amh,aiu,ea];simp only[builtin,aR,bI]
     change v=Value.slice (if(A j).2=i then(A j).1 else(A j).1.map (·.add (i*y.size))) (l.length-i) ((A j).2-i)at ev;subst ev;have⟨xs1,W,Y⟩:=m.row j e y l J;have hzh:y.h (Us U0 B A pb rw) w z R.cells.toList:=by rw[<-hzero];exact as6 hof
     have hjl:=(aC.1 J).1;rcases dI i l.length with hlt|hge
     .cases hA:(A j).1 with
      |none=>
       rw[hA]at W;rcases W.2 with⟨_,h'⟩|⟨_,_,_,h',_⟩
       .omega
       .simp at h'
      |some ad=>
       rw[hA]at W;obtain⟨g,X,rfl,hg,hn,hcm,hcs,htk,hcell⟩:=Jw W;rw[hA,ag (by omega)]at hr;simp only[fy,sK,cg]at hr;have hvl:(Builtin.zeroCells R.cells (l.length-i)).toList=(List.replicate (l.length-i) R.cells.toList).flatten:=ais hzs;have hfl:((List.replicate (l.length-i) R.cells.toList).flatten).length=(l.length-i)*y.size:=by rw[LL,show R.cells.toList.length=y.size from(fi).trans (hzs.trans F.symm)]
       have hik:i*y.size+(l.length-i)*y.size=l.length*y.size:=by rw[<-iN];congr 1;omega
       have hlc:l.length*y.size<=(A j).2*y.size:=du _ hn;have h1c:∀v∈(List.replicate (l.length-i) R.cells.toList).flatten,yv v=true:=λv hv=>by have⟨l',hl',hu⟩:=List.mem_flatten.1 hv;rw[(List.mem_replicate.1 hl').2]at hu;exact y.VX hzh v hu
       have hg':w.heap[g]?=some (.cells X.toList.toArray e (0,0)):=by simpa using hg
       have hcl:X.toList.length=X.size:=fi;have hrun:=Uy (P:=P) w t e o.type R hek.under (uD hi2 hzz) g (i*te.size) (l.length-i) ((A j).2-i) (by omega) (λk hk=>by rw[hvl,hfl]at hk;rw[cell_of_block hg',<-F,ay (by omega)];rfl) (λk _=>Fl hg' _) (λv hv=>by rw[hvl]at hv;exact(wz (h1c v hv)).2);rw[F,hrun,hvl,<-F]at hr;generalize aye:(List.replicate (l.length-i) R.cells.toList).flatten=zz at *;have hst:=BH (P:=P) hg' (cs:=zz) (off:=i*y.size) (λv hv=>(wz (h1c v hv)).1) (by omega)
       have hw:w.setCells g (i*y.size) zz=setCells w ⟨g,i*y.size,none⟩ 0 zz:=by
        have:=LM g (i*y.size) zz 0 w
        rwa [gP]at this
       rw[hw]at hr
       have⟨m2,s2,e2⟩:=m.putRow (al:=al) (j:=j) (f:=HH) (rw':=rw.set j (.own e y (l.take i++List.replicate (l.length-i) z))) (e:=e) (t:=y) (l:=l.take i++List.replicate (l.length-i) z) (a:=(A j).1) (c:=(A j).2) (w':=setCells w ⟨g,i*y.size,none⟩ 0 zz)
        (by rw[bf,ah rfl,ah hjl]) (λk hk=>by rw[bf,ag (ga hk)]) (λ_ _ h=>by cases h)
        (λ_ e4 t4 l4 h4=>by rw[J]at h4;simp only[ak,DR.own.injEq]at h4;obtain⟨rfl,rfl,h4⟩:=h4;cases h4;exact⟨_,by rw[bf,ah rfl,ah hjl],by simp;omega,rfl⟩)
        (λ_ d h4=>by rw[J]at h4;cases h4) (Ak _ _ _)
        (λb hb hnb=>xH ⟨g,i*y.size,none⟩ b (λhe=>hnb ⟨_,⟨g,0,none⟩,J,by simp,hA,he.symm⟩) _ _ _)
        (λx hx=>.inl ⟨_,x,J,by simp,hx,rfl⟩)
        (λU' lt=>by
         have G:(l.take i++List.replicate (l.length-i) z).length=l.length:=by simp;omega
         have hxl:=Y.1;refine⟨xs1.take (i*y.size)++zz,⟨?_,?_⟩,?_⟩
         .rw[G];simp;omega
         .refine .inr ⟨g,(A j).2,(wr X.toList (i*y.size) zz).toArray,by rw[hA],bE _,hst.2,by rw[G];exact hn,hcm,by rw[eX,Dg,hcl,hcs],?_⟩;rw[G,<-htk];apply eK;intro k;rw[cw];by_cases hk:k<l.length*y.size
          .rw[ah hk,List.toList_toArray,Jq _ _ _ _ (by omega)];by_cases hk2:i*y.size<=k
           .rw[ah (by omega),dJ (by simp;omega)];congr 1;simp;omega
           .rw[ag (by omega),bG (by simp;omega),cw,ah (by omega),cw,ah (by omega)]
          .rw[ag hk,bJ (by simp;omega)]
         .refine DT.Ex (DT.QG (DT.lr lt Y) hil) ?_;have:=DT.XY (y.mono lt hzh) (l.length-i)
          rwa [aye]at this)
       rw[show Ea A j ((A j).1,(A j).2)=A from Lr A j]at m2 s2 e2;rw[LF]at m2 s2 e2;exact eN hr (oq.ret h m2 (nc s2 IN) (by simp only[DV.h]) e2)
     .have hie:i=l.length:=by omega
      have hl0:l.length-i=0:=by omega
      have e0:l.take i++List.replicate (l.length-i) z=l:=by rw[hl0,hie,bq];simp
      have e1:rw.set j (.own e y l)=rw:=by
       apply eK;intro k;rw[bf];split
       .rename_i hk;subst hk;first|exact J.symm|rw[ah hjl,J]
       .rfl
      rw[e0,e1]at h;rw[hl0,SL w t e o.type hek.under]at hr;exact eN hr (oq.ret h m IN (by simp only[DV.h]) Ext.refl)
    .cases h
   .cases h
  .cases h
 .cases h
end
open Go.ChangeMaps
section
variable {P : Program} {T : List TI} {V : World} {U0 L : Nat -> Prop} {al : Nat -> Bool} {B : Nat -> Nat} {A : yu} {ts : List DV} {pb : hZ} {rw : List DR} {a : Act} {w w' : World} {β : Type} {q : β} {o : Oper} {K : DK β} {Q : Exit -> Act -> World -> Prop} {C : FR} {av : List (Nat × Nat)}
theorem Mem.amo(m:Mem V U0 L B A pb rw w){j:Nat}{rw':List DR}{d:OD}{ob:Obj}{b:Nat}(hj:rw'[j]?=some (.obj d))(hi:∀i,i≠j->rw'[i]?=rw[i]?)
 (G:((rw[j]?=none)/\w.heap.size<=b/\b<w'.heap.size)\/∃W,rw[j]?=some (.obj W)/\d.p9=W.p9/\(A j).1=some ⟨b,0,none⟩/\b<w'.heap.size)
 (hr:w'.os=w.os/\w'.tape=w.tape/\w'.output=w.output/\w.heap.size<=w'.heap.size) (hk:∀c,c<w.heap.size->c≠b->w'.heap[c]?=w.heap[c]?) (hw:w'.heap[b]?=some ob)
 (hd:∀U',kW (Us U0 B A pb rw) U' w w'->d.h U' w' ob):
 Mem V U0 L B (Ea A j (some ⟨b,0,none⟩,(A j).2)) pb rw' w'/\Sub HH (env U0 B A pb rw w) (env U0 B (Ea A j (some ⟨b,0,none⟩,(A j).2)) pb rw' w')/\Ext al B A pb rw w B (Ea A j (some ⟨b,0,none⟩,(A j).2)) pb rw' w':=by
 have hb:∀k i c,iF B (Ea A j (some ⟨b,0,none⟩,(A j).2)) pb rw' k i c->(¬(k=true/\i=j)/\iF B A pb rw k i c)\/(k=true/\i=j/\c=b):=by
  intro k i c h;cases k with
  |false=>exact .inl ⟨by simp,h⟩
  |true=>
   have⟨r,ad,F,J,Y,h4⟩:=h;by_cases y:i=j
   .subst y;rw[nb]at Y;simp only[ak]at Y;subst Y;exact .inr ⟨rfl,rfl,h4.symm⟩
   .rw[yx _ _ y]at Y;rw[hi i y]at F;exact .inl ⟨by simp[y],r,ad,F,J,Y,h4⟩
 have H:∀k i,iF B A pb rw k i b->k=true/\i=j:=by
  intro k i h;rcases G with⟨_,F,_⟩|⟨W,F,_,J,_⟩
  .have:=(m.low k i b h).1;omega
  .exact m.inj _ _ _ _ _ h ⟨_,_,F,by simp,J,rfl⟩
 have hl:∀k i c,iF B A pb rw k i c->¬(k=true/\i=j)->w'.heap[c]?=w.heap[c]?:=λk i c h hne=>hk c (m.low k i c h).1 (by rintro rfl;exact hne (H k i h))
 refine m.step HH hr (λc hc X=>hk c hc ?_) (λk i c h=>?_) (λk i k' i' c h h'=>?_) (λi h=>⟨h,rfl⟩) (λi e t l _ h=>?_) (λi d1 _ h=>?_) (λ_ i q e t l h=>by cases h) (λ_ i q d ad h=>by cases h) (λs i b' h=>.inl ⟨b',h,rfl,by rw[oy],id,hl false i _ ⟨⟨_,h⟩,rfl⟩ (by simp)⟩) (λ_ i e t l h=>?_) λlt i d1 h=>?_
 .rintro rfl;rcases G with⟨_,F,_⟩|⟨W,F,_,J,_⟩
  .omega
  .exact X (.inr ⟨j,_,_,F,by simp,J,rfl⟩)
 .rcases hb k i c h with⟨_,h⟩|⟨rfl,rfl,rfl⟩
  .exact .inl h
  .rcases G with⟨_,F,J⟩|⟨W,F,_,J,_⟩
   .exact .inr ⟨F,J⟩
   .exact .inl ⟨_,_,F,by simp,J,rfl⟩
 .rcases hb k i c h with⟨X,g⟩|⟨rfl,rfl,rfl⟩
  .rcases hb k' i' c h' with⟨_,g'⟩|⟨rfl,rfl,rfl⟩
   .exact m.inj _ _ _ _ _ g g'
   .exact absurd (H k i g) X
  .rcases hb k' i' _ h' with⟨X,g⟩|⟨rfl,rfl,_⟩
   .exact absurd (H k' i' g) X
   .exact⟨rfl,rfl⟩
 .have y:i≠j:=by
   rintro rfl;rcases G with⟨F,_⟩|⟨W,F,_⟩
   .rw[F]at h;cases h
   .rw[F]at h;cases h
  exact⟨l,by rw[hi i y];exact h,rfl,yx _ _ y⟩
 .by_cases y:i=j
  .subst y;rcases G with⟨F,_⟩|⟨W,F,hm,J,_⟩
   .rw[F]at h;cases h
   .rw[F]at h;simp only[ak,DR.obj.injEq]at h;subst h;refine⟨⟨_,hj,hm⟩,?_⟩;rw[nb,<-J]
  .exact⟨⟨d1,by rw[hi i y];exact h,rfl⟩,yx _ _ y⟩
 .have y:i≠j:=by rintro rfl;rw[hj]at h;cases h
  rw[hi i y]at h;exact .inl ⟨h,yx _ _ y,λad R=>hl true i _ ⟨_,ad,h,by simp,R,rfl⟩ (by simp[y])⟩
 .by_cases y:i=j
  .subst y;rw[hj]at h;simp only[ak,DR.obj.injEq]at h;subst h;exact .inr ⟨b,ob,by rw[nb],hw,hd _ lt⟩
  .rw[hi i y]at h;exact .inl ⟨h,yx _ _ y,λad R=>hl true i _ ⟨_,ad,h,by simp,R,rfl⟩ (by simp[y])⟩
theorem Mem.Yf(m:Mem V U0 L B A pb rw w)(d:OD)(ob:Obj)(G:∀U',kW (Us U0 B A pb rw) U' w (w.alloc ob)->d.h U' (w.alloc ob) ob):
 Mem V U0 L B (Ea A rw.length (some ⟨w.heap.size,0,none⟩,(A rw.length).2)) pb (rw++[.obj d]) (w.alloc ob)/\Sub HH (env U0 B A pb rw w) (env U0 B (Ea A rw.length (some ⟨w.heap.size,0,none⟩,(A rw.length).2)) pb (rw++[.obj d]) (w.alloc ob))/\
  Ext al B A pb rw w B (Ea A rw.length (some ⟨w.heap.size,0,none⟩,(A rw.length).2)) pb (rw++[.obj d]) (w.alloc ob)/\
  (DV.ob rw.length).h (env U0 B (Ea A rw.length (some ⟨w.heap.size,0,none⟩,(A rw.length).2)) pb (rw++[.obj d]) (w.alloc ob)) (d.at ⟨w.heap.size,0,none⟩):=by
 have y:(rw++[DR.obj d])[rw.length]?=some (.obj d):=by simp
 have⟨F,s',e⟩:=m.amo (al:=al) (j:=rw.length) (rw':=rw++[.obj d]) (d:=d) (ob:=ob) (b:=w.heap.size) (w':=w.alloc ob) y (λi hi=>by
  rcases dI i rw.length with h|h
  .rw[bG h]
  .rw[bJ (by simp;omega),bJ h]) (.inl ⟨bJ (au _),au _,by simp⟩) (BI _) (λc H _=>mw w _ H) (kA w _) G
 refine⟨F,s',e,?_⟩;simp only[DV.h];exact⟨d,_,y,by show(Ea A rw.length _ rw.length).1=_;rw[nb],rfl⟩
theorem Mem.Yg(m:Mem V U0 L B A pb rw w){j b:Nat}{J d:OD}{ob:Obj}(W:rw[j]?=some (.obj J))(hm:d.p9=J.p9)(X:(A j).1=some ⟨b,0,none⟩)(hb:b<w.heap.size){w1:World}(y:w1.heap=w.heap/\w1.os=w.os/\w1.tape=w.tape/\w1.output=w.output)
 (Y:∀U',kW (Us U0 B A pb rw) U' w (setBlock w1 b ob)->d.h U' (setBlock w1 b ob) ob):
 Mem V U0 L B A pb (rw.set j (.obj d)) (setBlock w1 b ob)/\Sub HH (env U0 B A pb rw w) (env U0 B A pb (rw.set j (.obj d)) (setBlock w1 b ob))/\Ext al B A pb rw w B A pb (rw.set j (.obj d)) (setBlock w1 b ob):=by
 have H:=(aC.1 W).1;have F:b<w1.heap.size:=by rw[y.1];exact hb
 have⟨R,s',e⟩:=m.amo (al:=al) (j:=j) (rw':=rw.set j (.obj d)) (d:=d) (ob:=ob) (b:=b) (w':=setBlock w1 b ob) (by rw[bf,ah rfl,ah H]) (λi hi=>by rw[bf,ag (ga hi)]) (.inr ⟨J,W,hm,X,by simpa[setBlock]using F⟩) ⟨y.2.1,y.2.2.1,y.2.2.2,by simp[setBlock,y.1]⟩ (λc hc G=>by rw[SC G,y.1]) (adv F) Y;have e0:Ea A j (some (⟨b,0,none⟩:Addr),(A j).2)=A:=by rw[<-X];exact Lr A j
 rw[e0]at R s' e;exact⟨R,s',e⟩
theorem Mem.aqe(m:Mem V U0 L B A pb rw w){j:Nat}{d:OD}(hj:rw[j]?=some (.obj d)):
 Mem V U0 L B A (oe (j2 j .ju) pb) (rw.set j .dead) w/\Sub (j2 j .ju) (env U0 B A pb rw w) (env U0 B A (oe (j2 j .ju) pb) (rw.set j .dead) w)/\Ext al B A pb rw w B A (oe (j2 j .ju) pb) (rw.set j .dead) w/\∀b,(A j).1=some ⟨b,0,none⟩->¬Us U0 B A (oe (j2 j .ju) pb) (rw.set j .dead) b:=by
 have F:∀i,i≠j->(rw.set j DR.dead)[i]?=rw[i]?:=λi h=>by rw[bf,ag (ga h)]
 have H:(rw.set j DR.dead)[j]?=some .dead:=by rw[bf,ah rfl,ah (aC.1 hj).1]
 have hb:∀k i b,iF B A (oe (j2 j .ju) pb) (rw.set j .dead) k i b->iF B A pb rw k i b/\¬(k=true/\i=j):=by
  intro k i b h;cases k with
  |false=>exact⟨⟨nZ.1 h.1,h.2⟩,by simp⟩
  |true=>
   have⟨r,ad,G,X,h3,h4⟩:=h;have y:i≠j:=by rintro rfl;rw[H]at G;simp at G;exact X G.symm
   rw[F i y]at G;exact⟨⟨r,ad,G,X,h3,h4⟩,by simp[y]⟩
 have G:∀i,j2 j .ju i=none->i≠j:=by rintro i h rfl;simp[j2]at h
 have X:∀i q,j2 j .ju i=some q->i=j/\q=.ju:=by
  intro i q h;unfold j2 at h;split at h
  .rename_i hb;simp at h;exact⟨aE hb,h.symm⟩
  .cases h
 have⟨m',s',e⟩:=m.step (al:=al) (j2 j .ju) (w':=w) (B':=B) (A':=A) (pb':=oe (j2 j .ju) pb) (rw':=rw.set j .dead) ⟨rfl,rfl,rfl,au _⟩ (λ_ _ _=>rfl) (λk i b h=>.inl (hb k i b h).1) (λk i k' Y b h h'=>m.inj _ _ _ _ _ (hb k i b h).1 (hb k' Y b h').1) (λi h=>⟨nZ.2 h,rfl⟩)
  (λi e' t' l' J h=>⟨l',(F i (G i J)).trans h,rfl,rfl⟩) (λi d J h=>⟨⟨d,(F i (G i J)).trans h,rfl⟩,rfl⟩) (λlt i q e' t' l' J h=>by obtain⟨rfl,rfl⟩:=X i q J;simp only[DV.h]) (λ_ i q d ad J _ _=>by obtain⟨rfl,rfl⟩:=X i q J;simp only[DV.h]) (λs i b' h=>by
   obtain⟨b0,h0,rfl⟩:=th.1 h;exact .inl ⟨b0,h0,rfl,rfl,id,rfl⟩) (λ_ i e' t' l' h=>by
   have y:i≠j:=by rintro rfl;rw[H]at h;cases h
   exact .inl ⟨(F i y).symm.trans h,rfl,λ_ _=>rfl⟩) λ_ i d h=>by
   have y:i≠j:=by rintro rfl;rw[H]at h;cases h
   exact .inl ⟨(F i y).symm.trans h,rfl,λ_ _=>rfl⟩
 refine⟨m',s',e,λb hA R=>?_⟩;have W:iF B A pb rw true j b:=⟨_,_,hj,by simp,hA,rfl⟩;rcases R with R|⟨k,Y,R⟩
 .have:=m.u0 b R;rcases(m.low _ _ _ W).2 with h|h
  .omega
  .exact this.2 h
 .have⟨g1,g2⟩:=hb k Y b R;exact g2 (m.inj _ _ _ _ _ g1 W)
theorem amp{t:TypeId}{x:Operand}(hT:dD P T)(ho:o.op=.range t x)(h:qf aj T C al av o ts pb rw K=some q)(m:Mem V U0 L B A pb rw w)(G:hL (env U0 B A pb rw w) ts a.tmps.toList):o.wp P a w (oq V U0 L al B A pb rw w a K q) Q:=by
 simp only[qf,ho]at h;split at h
 .rename_i s hx ht;have hp:=gq hx G;simp only[DV.h]at hp;have⟨ti,hf,J⟩:=pc hT ht;rw[qM,xi]at h;have Y:(execOp a.eval o).run P w=((Instr.range t (a.eval x)).run P w).andThen λv w'=>.ok (.value v) w':=by simp only[execOp,ho,aR,bI]
  have X:(Instr.range t (.string s)).run P w=.ok (.pointer (some ⟨w.heap.size,0,none⟩)) (w.alloc (.stringIter s 0)):=by simp[Instr.range,bb (Dl hf J)]
  rw[hp,X]at Y;have⟨m',s',e,hv⟩:=m.Yf (al:=al) (.Iq s 0) (.stringIter s 0) (λ_ _=>rfl);exact eN Y (oq.ret h m' (nc s' G) hv e)
 .rename_i j k0 e0 hx ht;split at h
  .rename_i ks hj;rw[gM]at hj;have hp:=gq hx G;simp only[DV.h]at hp;have⟨d1,ad,F,hA,hv⟩:=hp;have hA:(A j).1=some ad:=hA;have F:rw[j]?=some (.obj d1):=F;rw[hj]at F;simp only[ak,DR.obj.injEq]at F;subst F;obtain⟨b,ob,hb,H,es,y,rfl,W⟩:=m.Iq j _ hj;rw[hA]at hb;simp only[ak]at hb;subst hb;have⟨ti,hf,J⟩:=pc hT ht;have Y:(execOp a.eval o).run P w=((Instr.range t (a.eval x)).run P w).andThen λv w'=>.ok (.value v) w':=by simp only[execOp,ho,aR,bI]
   rw[hv,show(OD.set ks).at ⟨b,0,none⟩=.map (some b)from rfl,run_range_map w t _ _ b es y (aly hf J) H]at Y;rw[l9,uI,km,qM,xi]at h;have R:=(cq.1 H).1;have⟨m1,s1,e1,hn⟩:=m.aqe (al:=al) hj;have hn:=hn b hA;have⟨m',s',e2,hv'⟩:=m1.Yf (al:=al) (.walk ks []) (.mapIter (some b) y #[] y) (λU' lt=>⟨b,es,y,y,#[],[],rfl,λhu=>hn (lt.sub _ R hu),dZ R lt.size,(mw w _ R).trans H,W,W.lt,au _,rfl,rfl,by simp,by simp⟩);exact eN Y (oq.more e1 rfl (oq.ret h m' (nc s' (kj s1 _ G)) hv' e2))
  .cases h
 .cases h
theorem aqf{x:Operand}{b0:Bool}(ho:o.op=.next x b0)(h:qf aj T C al av o ts pb rw K=some q)(m:Mem V U0 L B A pb rw w)(J:hL (env U0 B A pb rw w) ts a.tmps.toList):o.wp P a w (oq V U0 L al B A pb rw w a K q) Q:=by
 simp only[qf,ho]at h;split at h
 .rename_i j hx;split at h
  .rename_i s p W;rw[gM]at W;have hp:=gq hx J;simp only[DV.h]at hp;have⟨d1,ad,G,X,hv⟩:=hp;have X:(A j).1=some ad:=X;have G:rw[j]?=some (.obj d1):=G;rw[W]at G;simp only[ak,DR.obj.injEq]at G;subst G;obtain⟨b,ob,hb,H,rfl⟩:=m.Iq j _ W;rw[X]at hb;simp only[ak]at hb;subst hb;replace hv:a.eval x=.pointer (some ⟨b,0,none⟩):=hv;have R:(execOp a.eval o).run P w=((Instr.next (a.eval x) true o.type).run P w).andThen λv w'=>.ok (.value v) w':=by simp only[execOp,ho,aR,bI]
   rw[hv]at R;change ZQ s p _ _=_ at h;unfold ZQ at h;rcases xI h with⟨y,h⟩|⟨y,h⟩
   .have y:p.toNat<s.size:=by simpa using y
    dsimp only at h;rw[km]at h;have Y:=(cq.1 H).1;have hjl:=(aC.1 W).1;have F:(Instr.next (.pointer (some ⟨b,0,none⟩)) true o.type).run P w=.ok (.tuple #[.bool true,goInt p.toNat,.int .i32 (Utf8.decode s p.toNat).1]) { w with heap:=w.heap.setIfInBounds b (.stringIter s (p.toNat+(Utf8.decode s p.toNat).2)) }:=by simp[Instr.next,getObj,setObj,Sem.run,H,y]
    rw[F]at R;have⟨m',s',e⟩:=m.Yg (al:=al) (d:=.Iq s ((p.toNat+(Utf8.decode s p.toNat).2:Nat):Int)) (ob:=.stringIter s (p.toNat+(Utf8.decode s p.toNat).2)) W rfl X Y (w1:=w) ⟨rfl,rfl,rfl,rfl⟩ (λ_ _=>by simp only[OD.h,aP]);refine eN R (oq.ret h m' (nc s' J) ?_ e);simp only[DV.h,hL];exact⟨_,rfl,_,_,rfl,rfl,_,_,rfl,rfl,_,_,rfl,rfl,rfl⟩
   .have y:¬p.toNat<s.size:=by simpa using y
    have F:(Instr.next (.pointer (some ⟨b,0,none⟩)) true o.type).run P w=.ok (.tuple #[.bool false]) w:=by simp[Instr.next,getObj,Sem.run,H,y]
    rw[F]at R;refine eN R (oq.ret h m J ?_ Ext.refl);simp only[DV.h,hL];exact⟨_,rfl,_,_,rfl,rfl,rfl⟩
  .cases h
 .cases h
theorem ad1{t:TypeId}{r:Option Operand}(R:dD P T)(ho:o.op=.makeMap t r)(h:qf aj T C al av o ts pb rw K=some q)(m:Mem V U0 L B A pb rw w)(y:hL (env U0 B A pb rw w) ts a.tmps.toList):o.wp P a w (oq V U0 L al B A pb rw w a K q) Q:=by
 simp only[qf,ho]at h;split at h
 .rename_i X e0 J;have⟨W,Y,H⟩:=pc R J;rw[qM,xi]at h;have F:(execOp a.eval o).run P w=((Instr.makeMap t none).run P w).andThen λv w'=>.ok (.value v) w':=by simp only[execOp,ho,aR,bI,kR]
  have j:(Instr.makeMap t none).run P w=.ok (.map (some w.heap.size)) (w.alloc (.map #[] 0)):=by rfl
  rw[j]at F;have⟨G,s',e,hv⟩:=m.Yf (al:=al) (.set []) (.map #[] 0) (λ_ _=>⟨#[],0,rfl,rfl,by simp,by simp,by simp,by simp,by simp⟩);exact eN F (oq.ret h G (nc s' y) hv e)
 .cases h
theorem amq{ks:List KU}{k:KU}{j:List Value}(h:(kV k∈ks.map kV/\j=ks.map kV)\/(kV k∉ks.map kV/\j=ks.map kV++[kV k])):j=(PV ks k).map kV:=by
 unfold PV;rcases h with⟨h1,y⟩|⟨h1,y⟩
 .rw[uF.2 (Sk.1 h1),y];rfl
 .have:Sm k ks=false:=by
   cases hm:Sm k ks with
   |true=>exact absurd (Sk.2 (uF.1 hm)) h1
   |false=>rfl
  rw[this,y];simp
theorem ayf{U:Nat->Prop}{w:World}{k:KU}{v:Value}(h:tKU.hv U w k v):v=kV k:=by obtain⟨us,h,rfl⟩:=h;simp only[DT.h]at h;obtain⟨F,us',rfl,rfl,y,j,rfl,rfl,rfl⟩:=h;rfl
theorem aw0{E:Env}(k:KU):(tKU.val k).h E (kV k):=by simp only[DT.val,DT.cells,DV.h,hL];exact⟨_,rfl,_,_,rfl,rfl,_,_,rfl,rfl,rfl⟩
theorem Yh{t:TypeId}{x y z:Operand}(hT:dD P T)(ho:o.op=.mapUpdate t x y z)(h:qf aj T C al av o ts pb rw K=some q)(m:Mem V U0 L B A pb rw w)(H:hL (env U0 B A pb rw w) ts a.tmps.toList):o.wp P a w (oq V U0 L al B A pb rw w a K q) Q:=by
 simp only[qf,ho]at h;split at h
 .rename_i kt et j kd ht hx hy hz;split at h
  .rename_i ks k hj hk;rw[gM]at hj;have hp:=gq hx H;have hpy:=gq hy H;have X:=gq hz H;simp only[DV.h]at hp X;have⟨d1,ad,G,hA,hv⟩:=hp;have hA:(A j).1=some ad:=hA;have G:rw[j]?=some (.obj d1):=G;rw[hj]at G;simp only[ak,DR.obj.injEq]at G;subst G;obtain⟨b,ob,hb,J,es,clock,rfl,hso⟩:=m.Iq j _ hj;rw[hA]at hb;simp only[ak]at hb;subst hb;replace hv:a.eval x=.map (some b):=hv;have hky:=ayf (DT.V' hk hpy);have⟨ti,hf,htd⟩:=pc hT ht;have Qm:=(cq.1 J).1;have⟨Y,F,ks',W,R,hd⟩:=aip (awx hT ht).key (aly hf htd) J hso (k:=kV k) ⟨k.1,k.2.1,rfl⟩;have hr:(execOp a.eval o).run P w=((Instr.mapUpdate t (a.eval x) (a.eval y) (a.eval z)).run P w).andThen λ_ w'=>.ok .skip w':=by simp only[execOp,ho,aR,bI]
   rw[hv,hky,X,W]at hr;rw[km]at h;have hks:=amq hd;subst hks;have⟨m',s',e⟩:=m.Yg (al:=al) (d:=.set (PV ks k)) (ob:=.map Y F) hj rfl hA Qm (w1:=w) ⟨rfl,rfl,rfl,rfl⟩ (λ_ _=>⟨Y,F,rfl,R⟩);exact Jv hr (oq.ret h m' (nc s' H) (by simp only[DV.h]) e)
  .cases h
 .cases h
theorem aw1{j}{K:KU->Option β}(h:aj.aI j ((j.length:Int)-1) K=some q):∃k,j[j.length-1]?=some k/\K k=some q:=by
 change XV j ((j.length:Int)-1) K=some q at h;unfold XV at h;rw[show((j.length:Int)-1).toNat=j.length-1 by omega]at h;split at h
 .rename_i x y;rcases xI h with⟨_,h⟩|⟨_,h⟩
  .exact⟨x,y,h⟩
  .cases h
 .cases h
theorem amr{x}(ho:o.op=.entry x)(h:qf aj T C al av o ts pb rw K=some q)(m:Mem V U0 L B A pb rw w)(F:hL (env U0 B A pb rw w) ts a.tmps.toList):o.wp P a w (oq V U0 L al B A pb rw w a K q) Q:=by
 simp only[qf,ho]at h;split at h
 .rename_i j hx;split at h
  .rename_i ks dn R;rw[gM]at R;have⟨k,hk,h⟩:=aw1 h;have hp:=gq hx F;simp only[DV.h]at hp;have⟨d1,ad,y,W,hv⟩:=hp;have W:(A j).1=some ad:=W;have y:rw[j]?=some (.obj d1):=y;rw[R]at y;simp only[ak,DR.obj.injEq]at y;subst y;have⟨b,ob,hb,J,bm,es,X,G,Y,ds,H⟩:=m.Iq j _ R;rw[W]at hb;simp only[ak]at hb;subst hb;replace hv:a.eval x=.pointer (some ⟨b,0,none⟩):=hv;have hr:(execOp a.eval o).run P w=((Instr.entry (a.eval x)).run P w).andThen λv w'=>.ok (.value v) w':=by simp only[execOp,ho,aR,bI]
   rw[hv,H.entry hk J]at hr;refine eN hr (oq.ret h m F ?_ Ext.refl);simp only[DV.h,hL];exact⟨_,rfl,_,_,rfl,aw0 k,_,_,rfl,rfl,rfl⟩
  .cases h
 .cases h
theorem aqg[qL β]{j:Nat}{ks dn:List KU}(y:alF o ts rw=some (j,ks,dn))
 (h:(aj.Ly (O5 ks dn) (λk=>yw rw j (.obj (.walk ks (dn++[k]))) λrw'=>jq o.dst (.HN [.lit true,tKU.val k,.lit true]) ts pb rw' K) (jq o.dst (.HN [.lit false]) ts pb rw K))=some q)
 (m:Mem V U0 L B A pb rw w) (J:hL (env U0 B A pb rw w) ts a.tmps.toList):o.wp P a w (oq V U0 L al B A pb rw w a K q) Q:=by
 unfold alF at y;split at y
 .rename_i x ho;split at y
  .rename_i j1 hx;split at y
   .rename_i ks1 dn1 Y;simp only[ak,bX]at y;obtain⟨rfl,rfl,rfl⟩:=y;rw[gM]at Y;have y:=gq hx J;simp only[DV.h]at y;have⟨d1,ad,G,hA,hv⟩:=y;have hA:(A j1).1=some ad:=hA;have G:rw[j1]?=some (.obj d1):=G;rw[Y]at G;simp only[ak,DR.obj.injEq]at G;subst G;have⟨b,ob,hb,R,bm,es,clock,since,seen,ds,H⟩:=m.Iq j1 _ Y;rw[hA]at hb;simp only[ak]at hb;subst hb;replace hv:a.eval x=.pointer (some ⟨b,0,none⟩):=hv;have hr:(execOp a.eval o).run P w=((Instr.next (a.eval x) false o.type).run P w).andThen λv w'=>.ok (.value v) w':=by simp only[execOp,ho,aR,bI]
    have X:b≠bm:=λe=>H.nu (.inr ⟨true,j1,_,_,Y,by simp,hA,e⟩)
    have Qm:=(cq.1 R).1;have⟨h0,h1⟩:=apG (show al1 _ _ _=some q from h);rcases H.next (P:=P) (ty:=o.type) R X with⟨F,he⟩|⟨k,w1,o',hk,F,W,hW⟩
    .rw[hv,F]at hr;refine eN hr (oq.ret (h0 he) m J ?_ Ext.refl);simp only[DV.h,hL];exact⟨_,rfl,_,_,rfl,rfl,rfl⟩
    .rw[hv,F]at hr;have hq:=h1 k hk;rw[km]at hq;have⟨m',s',e⟩:=m.Yg (al:=al) (d:=.walk ks1 (dn1++[k])) (ob:=o') Y rfl hA Qm (w1:=w1) W (λU' lt=>hW U' _ (λhu=>H.nu (lt.sub _ H.low hu)) (dZ H.low lt.size) (by rw[SC (ga X),W.1]));refine eN hr (oq.ret hq m' (nc s' J) ?_ e);simp only[DV.h,hL];exact⟨_,rfl,_,_,rfl,rfl,_,_,rfl,aw0 k,_,_,rfl,rfl,rfl⟩
   .cases y
  .cases y
 .cases y
end
end Go.Vc
namespace Go.Vc
open Go Go.RowKit
def Ow(B:Nat->Nat)(A:yu)(pb:hZ)(rw:List DR):Nat->Prop:=λb=>∃k i,iF B A pb rw k i b
def Ctr(P:Program)(g:FuncId)(j:List DV)(pb:hZ)(rw:List DR)(Q:DV->hZ->List DR->Prop):Prop:=∀(U0:Nat->Prop) (B:Nat->Nat) (A:yu) (vs:List Value) (w:World),Mem w U0 (Ow B A pb rw) B A pb rw w->hL (env U0 B A pb rw w) j vs->oM P g vs.toArray w λv w'=>∃B' A' r pb' rw',Mem w U0 (Ow B A pb rw) B' A' pb' rw' w'/\r.h (env U0 B' A' pb' rw' w') v/\(∀i,live pb i->live pb' i/\B' i=B i)/\Q r pb' rw'
def alk(P:Program)(g:FuncId)(s:ES):Prop:=∀x q,s.fn x=some q->Ctr P g (yL s.P x) [] [] λr pb' rw'=>pb'=[]/\(r,rw')=s.Q.mk q []
def acW(P:Program)(g:FuncId)(s:LS):Prop:=∀z o,s.fn z=some o->Ctr P g (Gy s.P .unit (yM s.B _ z []).2.1 (yM s.B _ z []).2.2).1 (yM s.B _ z []).1 (Gy s.P .unit (yM s.B _ z []).2.1 (yM s.B _ z []).2.2).2.2 λr pb' rw'=>pb'=(yM s.E .unit o.2 []).1/\(r,rw')=s.Q.mk o.1 (yM s.E .unit o.2 []).2.2
def alt(P:Program)(g:FuncId)(s:MU):Prop:=∀l z l',s.fn l z=some l'->l'.length=l.length/\∀(U0:Nat->Prop) (B:Nat->Nat) (A:yu) (vs:List Value) (w:World),Mem w U0 (Ow B A [] [.own s.e s.t l]) B A [] [.own s.e s.t l] w->hL (env U0 B A [] [.own s.e s.t l] w) (.row 0::(Gy s.P .unit z []).1) vs->oM P g vs.toArray w λv w'=>v=.tuple #[]/\Mem w U0 (Ow B A [] [.own s.e s.t l]) B A [] [.own s.e s.t l'] w'
def alg(P:Program)(g:FuncId):EC->Prop
 | .mu s=>alt P g s
 | .es s=>alk P g s
 | .ls s=>acW P g s
def Di(P:Program):FR->Prop
 |[]=>True
 |(n,c)::C=>alg P n c/\Di P C
theorem ams{P}:∀{C:FR} {g:Nat} {xs:List DV} {c:EC},Di P C->c∈esL C g xs->alg P g c
 |[],g,xs,c,hC,h=>by simp[esL]at h
 |(n,s)::C,g,xs,c,hC,h=>by
  simp only[esL]at h;split at h
  .rename_i hb;simp only[aD]at hb;rcases aG.1 h with rfl|h
   .have:=aE hb.1;subst this;exact hC.1
   .exact ams hC.2 h
  .exact ams hC.2 h
theorem SN{P}{J}{n}:∀{C:FR} (i:Nat),Di P C->Di P (aak J n i C)
 |[],_,h=>h
 |(g,c)::C,i,h=>by
  simp only[aak];split
  .exact SN (i+1) h.2
  .exact⟨h.1,SN (i+1) h.2⟩
theorem aat{P}{J}{C}(h:Di P C):Di P (afQ J C):=by
 unfold afQ;split
 .exact SN 0 h
 .exact h
def lB(B:Nat->Nat)(σ:Nat->Option Nat):Nat->Nat:=λk=>B ((σ k).getD 0)
def lA(A:yu)(rs:List (Option Nat)):yu:=λn=>match rs[n]? with|some (some j)=>A j|_=>(none,0)
def lU(U:Nat->Prop)(B:Nat->Nat)(A:yu)(rw:List DR)(y bor:Nat->Prop):Nat->Prop:=λb=>U b/\¬y b/\¬ ∃j,bor j/\iF B A [] rw true j b
section
variable {V : World} {U0 L : Nat -> Prop} {al : Nat -> Bool} {B : Nat -> Nat} {A : yu} {ts : List DV} {pb : hZ} {rw : List DR} {w : World}
theorem Mem.auh(m:Mem V U0 L B A pb rw w){σ:Nat->Option Nat}{rs:List (Option Nat)}{bor:Nat->Prop}{pb0:hZ}{rw0:List DR}
 (hb:∀(k:Nat) (H:DB),pb0[k]?=some (some H)->∃i b,σ k=some i/\pb[i]?=some (some b)/\H.ty=b.ty/\H.w=true)
 (hc:∀(k:Nat) (H:DB) (i:Nat) (b:DB),pb0[k]?=some (some H)->σ k=some i->pb[i]?=some (some b)->∀vs,hL (env U0 B A pb rw w) b.cells vs->hL (env (lU (Us U0 B A pb rw) B A rw (Ow (lB B σ) (lA A rs) pb0 rw0) bor) (lB B σ) (lA A rs) pb0 rw0 w) H.cells vs)
 (hσ:∀(k W i:Nat),σ k=some i->σ W=some i->k=W)
 (hr:∀(n:Nat) (r:DR),rw0[n]?=some r->(∃j e t l,rs[n]?=some (some j)/\rw[j]?=some r/\r=.own e t l)\/(rs[n]?=some none/\∃e t,r=.own e t []))
 (hρ:∀(n n' j:Nat),rs[n]?=some (some j)->rs[n']?=some (some j)->n=n'):
 Mem w (lU (Us U0 B A pb rw) B A rw (Ow (lB B σ) (lA A rs) pb0 rw0) bor) (Ow (lB B σ) (lA A rs) pb0 rw0) (lB B σ) (lA A rs) pb0 rw0 w/\
  (∀b,Us (lU (Us U0 B A pb rw) B A rw (Ow (lB B σ) (lA A rs) pb0 rw0) bor) (lB B σ) (lA A rs) pb0 rw0 b->Us U0 B A pb rw b)/\
  (∀n b,iF (lB B σ) (lA A rs) pb0 rw0 true n b->∃j,rs[n]?=some (some j)/\iF B A pb rw true j b)/\
  (∀k b,iF (lB B σ) (lA A rs) pb0 rw0 false k b->∃i,σ k=some i/\iF B A pb rw false i b):=by
 have Y:∀n b,iF (lB B σ) (lA A rs) pb0 rw0 true n b->∃j,rs[n]?=some (some j)/\iF B A pb rw true j b:=by
  rintro n b ⟨r,ad,g1,C,G,F⟩;rcases hr n r g1 with⟨j,e,t,l,y,R,K⟩|⟨y,_⟩
  .refine⟨j,y,r,ad,R,C,?_,F⟩;simpa only[lA,y]using G
  .simp only[lA,y]at G;cases G
 have X:∀k b,iF (lB B σ) (lA A rs) pb0 rw0 false k b->∃i,σ k=some i/\iF B A pb rw false i b:=by rintro k b ⟨⟨H,g1⟩,C⟩;have⟨i,b1,y,R,_⟩:=hb k H g1;exact⟨i,y,⟨b1,R⟩,by simpa only[lB,y,gE]using C⟩
 have h3:∀k i b,iF (lB B σ) (lA A rs) pb0 rw0 k i b->∃J,iF B A pb rw k J b:=by
  intro k i b h;cases k with
  |true=>have⟨j,_,h⟩:=Y i b h;exact⟨j,h⟩
  |false=>have⟨j,_,h⟩:=X i b h;exact⟨j,h⟩
 have hU:∀b,Us (lU (Us U0 B A pb rw) B A rw (Ow (lB B σ) (lA A rs) pb0 rw0) bor) (lB B σ) (lA A rs) pb0 rw0 b->Us U0 B A pb rw b:=by
  rintro b (⟨h,_⟩|⟨k,i,h⟩)
  .exact h
  .have⟨J,h⟩:=h3 k i b h;exact .inr ⟨k,J,h⟩
 have hlt:∀b,Us U0 B A pb rw b->b<w.heap.size:=by
  rintro b (h|⟨k,i,h⟩)
  .exact dZ (m.u0 b h).1 m.size
  .exact(m.low k i b h).1
 refine⟨⟨rfl,rfl,rfl,au _,λ_ _ _=>rfl,λb h=>⟨hlt b h.1,h.2.1⟩,λk i b h=>?_,λk i W J b h h'=>?_,λk H h=>?_,λn e t l h=>?_,λn d h=>?_⟩,hU,Y,X⟩
 .have⟨J,g⟩:=h3 k i b h;exact⟨(m.low k J b g).1,.inr ⟨k,i,h⟩⟩
 .cases k with
  |true=>
   have⟨j,g1,C⟩:=Y i b h;cases W with
   |true=>have⟨j',G,F⟩:=Y J b h';have:=(m.inj _ _ _ _ _ C F).2;subst this;exact⟨rfl,hρ _ _ _ g1 G⟩
   |false=>have⟨j',G,F⟩:=X J b h';have:=(m.inj _ _ _ _ _ C F).1;cases this
  |false=>
   have⟨j,g1,C⟩:=X i b h;cases W with
   |true=>have⟨j',G,F⟩:=Y J b h';have:=(m.inj _ _ _ _ _ C F).1;cases this
   |false=>have⟨j',G,F⟩:=X J b h';have:=(m.inj _ _ _ _ _ C F).2;subst this;exact⟨rfl,hσ _ _ _ g1 G⟩
 .have⟨i,b,g1,C,G,F⟩:=hb k H h;have⟨cs,y,R,_⟩:=m.box i b C;exact⟨cs,by simp only[lB,g1,gE,G];exact y,hc k H i b h g1 C cs R,λhw=>by rw[F]at hw;cases hw⟩
 .rcases hr n _ h with⟨j,e',t',l',y,R,K⟩|⟨y,e',t',K⟩
  .have⟨xs,g1,C⟩:=m.row j e t l R;refine⟨xs,by simp only[lA,y];exact g1,DT.lr ⟨λ_ _ _=>rfl,au _,λb _ h=>hU b h⟩ C⟩
  .simp only[DR.own.injEq]at K;obtain⟨rfl,rfl,K⟩:=K;cases K;exact⟨[],by simp only[lA,y];exact vz w 0 e t.size,DT.EB⟩
 .rcases hr n _ h with⟨j,e',t',l',y,R,K⟩|⟨y,e',t',K⟩<;>cases K
end
mutual
def DV.FJ(σ:Nat->Option Nat)(y:List Nat):DV->DV
 | .row n=>match y[n]? with|some j=>.row j|none=>.ju
 | .own k o=>match σ k with|some i=>.own i o|none=>.ju
 | .fn g cs=>.fn g (EH σ y cs)
 | .agg xs=>.agg (EH σ y xs)
 | .HN xs=>.HN (EH σ y xs)
 | .el _ _ _=>.ju
 | .re _ _ _=>.ju
 | .rt _ _=>.ju
 | .ob _=>.ju
 | .fns xs=>.fns (EH σ y xs)
 | .fp _ _=>.ju
 | .ra _=>.ju
 | .rs _ _=>.ju
 | .cs _ _=>.ju
 |p=>p
def EH(σ:Nat->Option Nat)(j:List Nat):List DV->List DV
 |[]=>[]
 |p::ps=>p.FJ σ j::EH σ j ps
end
mutual
def DV.SO(f:Bool):DV->Bool
 | .sl _ _=>f
 | .set _=>f
 | .fn _ cs=>Dp f cs
 | .agg cs=>Dp f cs
 | .HN cs=>Dp f cs
 | .fns cs=>f&&Dp f cs
 |_=>true
def Dp(f:Bool):List DV->Bool
 |[]=>true
 |p::ps=>p.SO f&&Dp f ps
end
theorem aau(σ)(j):(ps:List DV)->(EH σ j ps).length=ps.length
 |[]=>rfl
 |p::ps=>by simp only[EH,aJ,aau σ j ps]
structure Tr(f:Bool)(σ:Nat->Option Nat)(js:List Nat)(E E':Env):Prop where
 sl:f=true->kW E.U E'.U E.w E'.w
 bx:∀k i,σ k=some i->live E.pb k->live E'.pb i/\E'.B i=E.B k
 row:∀n j e t l,js[n]?=some j->E.rw[n]?=some (.own e t l)->E'.rw[j]?=some (.own e t l)/\E'.A j=E.A n
mutual
theorem DV.amu{f}{σ}{y:List Nat}{E G:Env}(s:Tr f σ y E G):(p:DV)->p.SO f=true->{v:Value}->p.h E v->(p.FJ σ y).h G v
 | .int _ _,_,_,h=>by simpa only[DV.FJ,DV.h]using h
 | .bool _,_,_,h=>by simpa only[DV.FJ,DV.h]using h
 | .lit _,_,_,h=>by simpa only[DV.FJ,DV.h]using h
 | .str _,_,_,h=>by simpa only[DV.FJ,DV.h]using h
 | .v _,_,_,h=>by simpa only[DV.FJ,DV.h]using h
 | .NI,_,_,h=>by simpa only[DV.FJ,DV.h]using h
 | .sl t l,o,_,h=>by
  cases f with
  |false=>simp[DV.SO]at o
  |true=>simp only[DV.FJ,DV.h]at h ⊢;exact(DT.slc t).mono (s.sl rfl) h
 | .set ks,o,_,h=>by
  cases f with
  |false=>simp[DV.SO]at o
  |true=>simp only[DV.FJ,DV.h]at h ⊢;exact DT.set.mono (s.sl rfl) h
 | .row n,_,v,h=>by
  simp only[DV.h]at h;obtain⟨e,t,l,K,rfl⟩:=h;unfold DV.FJ;cases H:y[n]? with
  |none=>simp only[DV.h]
  |some j=>have⟨F,C⟩:=s.row n j e t l H K;simp only[DV.h];exact⟨e,t,l,F,by rw[C]⟩
 | .own k o,_,v,h=>by
  simp only[DV.h]at h;obtain⟨F,rfl⟩:=h;unfold DV.FJ;cases J:σ k with
  |none=>simp only[DV.h]
  |some i=>have⟨C,R⟩:=s.bx k i J F;simp only[DV.h];exact⟨C,by rw[R]⟩
 | .fn g cs,o,v,h=>by simp only[DV.FJ,DV.h]at h ⊢;obtain⟨vs,rfl,h⟩:=h;exact⟨vs,rfl,NV s cs (by simpa only[DV.SO]using o) h⟩
 | .agg xs,o,v,h=>by simp only[DV.FJ,DV.h]at h ⊢;obtain⟨vs,rfl,h⟩:=h;exact⟨vs,rfl,NV s xs (by simpa only[DV.SO]using o) h⟩
 | .HN xs,o,v,h=>by simp only[DV.FJ,DV.h]at h ⊢;obtain⟨vs,rfl,h⟩:=h;exact⟨vs,rfl,NV s xs (by simpa only[DV.SO]using o) h⟩
 | .el _ _ _,_,_,_=>by simp only[DV.FJ,DV.h]
 | .re _ _ _,_,_,_=>by simp only[DV.FJ,DV.h]
 | .rt _ _,_,_,_=>by simp only[DV.FJ,DV.h]
 | .ob _,_,_,_=>by simp only[DV.FJ,DV.h]
 | .fp _ _,_,_,_=>by simp only[DV.FJ,DV.h]
 | .ra _,_,_,_=>by simp only[DV.FJ,DV.h]
 | .rs _ _,_,_,_=>by simp only[DV.FJ,DV.h]
 | .cs _ _,_,_,_=>by simp only[DV.FJ,DV.h]
 | .fns xs,o,v,h=>by simp only[DV.SO,aD]at o;simp only[DV.FJ,DV.h]at h ⊢;obtain⟨ad,vs,c,rfl,h,k⟩:=h;exact⟨ad,vs,c,by rw[aau],NV s xs o.2 h,k.mono (s.sl o.1)⟩
 | .ju,_,_,_=>by simp only[DV.FJ,DV.h]
theorem NV{f}{σ}{y:List Nat}{E C:Env}(s:Tr f σ y E C):(ps:List DV)->Dp f ps=true->{vs:List Value}->hL E ps vs->hL C (EH σ y ps) vs
 |[],_,_,h=>by simpa only[EH,hL]using h
 |p::ps,o,_,h=>by simp only[Dp,aD]at o;simp only[hL,EH]at h ⊢;obtain⟨v,j,rfl,G,F⟩:=h;exact⟨v,j,rfl,DV.amu s p o.1 G,NV s ps o.2 F⟩
end
end Go.Vc






namespace Go.Vc
open Go Go.RowKit
structure MI(E:Env)(m:MS)(rw0:List DR):Prop where
 len:m.rs.length=rw0.length
 row:∀(n:Nat) (r:DR),rw0[n]?=some r->(∃j e t l,m.rs[n]?=some (some j)/\E.rw[j]?=some r/\r=.own e t l)\/(m.rs[n]?=some none/\∃e t,r=.own e t [])
 inj:∀(n n' j:Nat),m.rs[n]?=some (some j)->m.rs[n']?=some (some j)->n=n'
 left:∀(j:Nat),(∀n:Nat,m.rs[n]?≠some (some j))->m.rw[j]?=E.rw[j]?
 gone:∀(n j:Nat),m.rs[n]?=some (some j)->m.rw[j]?=some .dead
theorem MI.nil(E):MI E ⟨[],E.rw⟩ []:=⟨rfl,λn r h=>by simp at h,λn y j h=>by simp at h,λ_ _=>rfl,λn j h=>by simp at h⟩
theorem kv{α}{l}{x y:α}{n:Nat}(h:(l++[x])[n]?=some y):(n<l.length/\l[n]?=some y)\/(n=l.length/\x=y):=by
 rcases dI n l.length with hl|hl
 .rw[bG hl]at h;exact .inl ⟨hl,h⟩
 .have:=(aC.1 h).1;simp at this;have:n=l.length:=by omega
  subst this;simp at h;exact .inr ⟨rfl,h⟩
theorem MI.take{E}{m}{rw0:List DR}(h:MI E m rw0){j:Nat}{e:TypeId}{t:DT}{l:List t.den}(J:m.rw[j]?=some (.own e t l)):MI E ⟨m.rs++[some j],m.rw.set j .dead⟩ (rw0++[.own e t l])/\E.rw[j]?=some (.own e t l):=by
 have H:∀n:Nat,m.rs[n]?≠some (some j):=λn H=>by rw[h.gone n j H]at J;cases J
 have Y:=(h.left j H).symm.trans J;have hl:=(aC.1 J).1;refine⟨⟨by simp[h.len],λn r R=>?_,λn X k K F=>?_,λk C=>?_,λn k C=>?_⟩,Y⟩
 .rcases kv R with⟨V,R⟩|⟨rfl,rfl⟩
  .have W:(m.rs++[some j])[n]?=m.rs[n]?:=bG (by rw[h.len];exact V);simp only[W];exact h.row n r R
  .exact .inl ⟨j,e,t,l,by simp[<-h.len],Y,rfl⟩
 .rcases kv K with⟨_,K⟩|⟨W,g1⟩
  .rcases kv F with⟨_,F⟩|⟨_,g2⟩
   .exact h.inj n X k K F
   .simp only[ak]at g2;subst g2;exact absurd K (H n)
  .simp only[ak]at g1;subst g1;rcases kv F with⟨_,F⟩|⟨e2,_⟩
   .exact absurd F (H X)
   .rw[W,e2]
 .have y:k≠j:=by rintro rfl;exact C m.rs.length (by simp)
  rw[bf,ag (ga y)];refine h.left k λn G=>C n ?_
  rw[bG (aC.1 G).1];exact G
 .by_cases y:k=j
  .subst y;rw[bf,ah rfl,ah hl]
  .rw[bf,ag (ga y)];rcases kv C with⟨_,C⟩|⟨_,gk⟩
   .exact h.gone n k C
   .simp only[ak]at gk;exact absurd gk.symm y
theorem MI.emp{E}{m}{rw0}(h:MI E m rw0)(e:TypeId)(t:DT):MI E ⟨m.rs++[none],m.rw⟩ (rw0++[.own e t []]):=by
 have hs:∀{n j:Nat},(m.rs++[none])[n]?=some (some j)->m.rs[n]?=some (some j):=λy=>by
  rcases kv y with⟨_,y⟩|⟨_,R⟩
  .exact y
  .cases R
 refine⟨by simp[h.len],λn r F=>?_,λn H k K J=>h.inj n H k (hs K) (hs J),λk y=>?_,λn k y=>h.gone n k (hs y)⟩
 .rcases kv F with⟨G,F⟩|⟨rfl,rfl⟩
  .have V:(m.rs++[Option.none])[n]?=m.rs[n]?:=bG (by rw[h.len];exact G);simp only[V];exact h.row n r F
  .exact .inr ⟨by simp[<-h.len],e,t,rfl⟩
 .refine h.left k λn C=>y n ?_
  rw[bG (aC.1 C).1];exact C
structure TrI(am:List (Nat×Nat))(rs:List (Option Nat))(E E0:Env):Prop where
 sl:kW E.U E0.U E.w E0.w
 bx:∀k i,Fo am k=some i->live E.pb i->live E0.pb k/\E0.B k=E.B i
 row:∀(n j:Nat) e t l,rs[n]?=some (some j)->E.rw[j]?=some (.own e t l)->E0.rw[n]?=some (.own e t l)/\E0.A n=E.A j
 nil:∀(n:Nat),rs[n]?=some none->(∃e t,E0.rw[n]?=some (.own e t []))/\E0.A n=(none,0)
theorem as7{E E0}(l:kW E.U E0.U E.w E0.w):∀{P:DT} {ps:List DV} {x:P.den} {vs:List Value},ofA P ps=some x->hL E ps vs->hL E0 (yL P x) vs
 | .unit,ps,x,vs,h,hv=>by
  simp only[ofA]at h;split at h
  .simp only[yL,hL]at hv ⊢;exact hv
  .cases h
 | .pair a b,ps,x,vs,h,hv=>by
  simp only[ofA]at h;split at h
  .split at h
   .rename_i J H G F;simp only[ak]at h;subst h;simp only[hL]at hv;obtain⟨v,j,rfl,C,y⟩:=hv;simp only[yL,hL];exact⟨v,j,rfl,a.Z_ (DT.QL l (DT.V' G C)),as7 l F y⟩
   .cases h
  .cases h
 | .int _,ps,x,vs,h,_=>by simp[ofA]at h
 | .bool,ps,x,vs,h,_=>by simp[ofA]at h
 | .str,ps,x,vs,h,_=>by simp[ofA]at h
 | .slc _,ps,x,vs,h,_=>by simp[ofA]at h
theorem NK.aw2{n:NK}{y:Value}(h:n.is y=true):y=n.val:=by unfold NK.is at h;split at h<;>first|rfl|cases h
mutual
theorem PK.x_s{am:List (Nat×Nat)}{E:Env}:(p:PK)->(r:DT)->(u:DV)->(m:MS)->(k:MS->Option (r.den×MS))->(rw0:List DR)->(z:(p.T r).den)->(H:MS)->p.x am r u m k=some (z,H)->MI E m rw0->
 ∃z0 G F,k G=some (z0,H)/\(p.mk r z rw0).2=(z0,F)/\MI E G F/\(∃a,G.rs=m.rs++a)/\(∃b,F=rw0++b)/\∀E0 v,(∃a,H.rs=G.rs++a)->TrI am H.rs E E0->u.h E v->(p.mk r z rw0).1.h E0 v
 | .v t,r,u,m,k,rw0,z,H,h,hm=>by
  simp only[PK.x]at h;split at h
  .rename_i x y G hx K;simp only[ak,bX]at h;obtain⟨rfl,rfl⟩:=h;exact⟨y,m,rw0,K,rfl,hm,⟨[],by simp⟩,⟨[],by simp⟩,λE0 v _ s C=>t.Z_ (DT.QL s.sl (DT.V' hx C))⟩
  .cases h
 | .row e t,r,u,m,k,rw0,z,H,h,hm=>by
  simp only[PK.x]at h;split at h
  .rename_i j;split at h
   .rename_i e' t' xs hj;rw[gM]at hj;split at h
    .rename_i hh y G he hs K;simp only[ak,bX]at h;obtain⟨rfl,rfl⟩:=h;have he:=aE he;subst he hh;have⟨hm',hE⟩:=hm.take hj;refine⟨y,_,rw0++[.own e' t' xs],K,rfl,hm',⟨_,rfl⟩,⟨_,rfl⟩,λE0 v ⟨a,J⟩ s C=>?_⟩;have hn:G.rs[rw0.length]?=some (some j):=by rw[J];simp[<-hm.len]
     have⟨g1,g2⟩:=s.row _ _ _ _ _ hn hE;simp only[DV.h]at C;obtain⟨e2,t2,l2,R,rfl⟩:=C;rw[hE]at R;simp only[ak,DR.own.injEq]at R;obtain⟨rfl,rfl,hl2⟩:=R;cases hl2;simp only[PK.mk,DV.h];exact⟨_,_,_,g1,by rw[g2]⟩
    .cases h
   .cases h
  .split at h
   .rename_i y G K;simp only[ak,bX]at h;obtain⟨rfl,rfl⟩:=h;refine⟨y,_,rw0++[.own e t []],K,rfl,hm.emp e t,⟨_,rfl⟩,⟨_,rfl⟩,λE0 v ⟨a,J⟩ s C=>?_⟩;have hn:G.rs[rw0.length]?=some none:=by rw[J];simp[<-hm.len]
    have⟨⟨e1,t1,g1⟩,g2⟩:=s.nil _ hn;simp only[DV.h]at C;subst C;simp only[PK.mk,DV.h];exact⟨_,_,_,g1,by rw[g2];rfl⟩
   .cases h
  .cases h
 | .ptr n,r,u,m,k,rw0,z,H,h,hm=>by
  simp only[PK.x]at h;split at h
  .rename_i i o;split at h
   .rename_i i' hl;split at h
    .rename_i hb;have hb:=aE hb;subst hb;refine⟨z,m,rw0,h,rfl,hm,⟨[],by simp⟩,⟨[],by simp⟩,λE0 v _ s C=>?_⟩;simp only[DV.h]at C;obtain⟨g1,rfl⟩:=C;have⟨g2,g3⟩:=s.bx _ _ hl g1;simp only[PK.mk,DV.h];exact⟨g2,by rw[g3]⟩
    .cases h
   .cases h
  .cases h
 | .fn g l,r,u,m,k,rw0,z,H,h,hm=>by
  simp only[PK.x]at h;split at h
  .rename_i g' cs;split at h
   .rename_i hg;have hg:=aE hg;subst hg;have⟨z0,G,F,h1,h2,Y,X,W,V⟩:=SP l r cs m k rw0 z H h hm;refine⟨z0,G,F,h1,by simp only[PK.mk];exact h2,Y,X,W,λE0 v J s C=>?_⟩;simp only[DV.h]at C;obtain⟨vs,rfl,C⟩:=C;simp only[PK.mk,DV.h];exact⟨vs,rfl,V E0 _ J s C⟩
   .cases h
  .cases h
 | .agg l,r,u,m,k,rw0,z,H,h,hm=>by
  simp only[PK.x]at h;split at h
  .rename_i cs;have⟨z0,G,F,h1,h2,Y,X,W,V⟩:=SP l r cs m k rw0 z H h hm;refine⟨z0,G,F,h1,by simp only[PK.mk];exact h2,Y,X,W,λE0 v J s C=>?_⟩;simp only[DV.h]at C;obtain⟨vs,rfl,C⟩:=C;simp only[PK.mk,DV.h];exact⟨vs,rfl,V E0 _ J s C⟩
  .cases h
 | .fns l,r,u,m,k,rw0,z,H,h,hm=>by
  simp only[PK.x]at h;split at h
  .rename_i cs;have⟨z0,G,F,h1,h2,Y,X,W,V⟩:=SP l r cs m k rw0 z H h hm;refine⟨z0,G,F,h1,by simp only[PK.mk];exact h2,Y,X,W,λE0 v J s C=>?_⟩;simp only[DV.h]at C;obtain⟨ad,vs,c,rfl,C,K⟩:=C;have hh:=V E0 _ J s C;simp only[PK.mk,DV.h];exact⟨ad,vs,c,by rw[<-pt C,pt hh],hh,K.mono s.sl⟩
  .cases h
 | .nil n,r,u,m,k,rw0,z,H,h,hm=>by
  simp only[PK.x]at h;split at h
  .rename_i y;split at h
   .rename_i hb;refine⟨z,m,rw0,h,rfl,hm,⟨[],by simp⟩,⟨[],by simp⟩,λE0 v _ s C=>?_⟩;simp only[DV.h]at C;subst C;simp only[PK.mk,DV.h];exact NK.aw2 hb
   .cases h
  .cases h
theorem SP{am}{E}:(l:List PK)->(r:DT)->(us:List DV)->(m:MS)->(k:MS->Option (r.den×MS))->(rw0:List DR)->(z:(IJ l r).den)->(y:MS)->pkX am l r us m k=some (z,y)->MI E m rw0->
 ∃z0 C j,k C=some (z0,y)/\(Gy l r z rw0).2=(z0,j)/\MI E C j/\(∃a,C.rs=m.rs++a)/\(∃b,j=rw0++b)/\∀E0 vs,(∃a,y.rs=C.rs++a)->TrI am y.rs E E0->hL E us vs->hL E0 (Gy l r z rw0).1 vs
 |[],r,us,m,k,rw0,z,y,h,hm=>by
  simp only[pkX]at h;split at h
  .exact⟨z,m,rw0,h,rfl,hm,⟨[],by simp⟩,⟨[],by simp⟩,λE0 vs _ _ G=>by simpa only[Gy,hL]using G⟩
  .cases h
 |p::l,r,us,m,k,rw0,z,y,h,hm=>by
  simp only[pkX]at h;split at h
  .rename_i u us;have⟨z0,C,j,h1,h2,h3,⟨a1,h4⟩,⟨b1,h5⟩,h6⟩:=PK.x_s p (IJ l r) u m _ rw0 z y h hm;have⟨X,Y,H,g1,g2,g3,⟨a2,V⟩,⟨b2,g5⟩,g6⟩:=SP l r us C k j z0 y h1 h3;have W:(p.mk (IJ l r) z rw0)=((p.mk (IJ l r) z rw0).1,z0,j):=by rw[<-h2]
   refine⟨X,Y,H,g1,?_,g3,⟨a1++a2,by rw[V,h4,bn]⟩,⟨b1++b2,by rw[g5,h5,bn]⟩,λE0 vs ⟨a,R⟩ s G=>?_⟩
   .simp only[Gy];rw[W];simp only[g2]
   .simp only[hL]at G;obtain⟨v,F,rfl,K,J⟩:=G;simp only[Gy];rw[W];simp only[hL];exact⟨v,F,rfl,h6 E0 v ⟨a2++a,by rw[R,V,bn]⟩ s K,g6 E0 F ⟨a,R⟩ s J⟩
  .cases h
end
theorem amv{am}{E}:(l:List BK)->(n:Nat)->(r:DT)->(m:MS)->(k:MS->Option (r.den×MS))->(rw0:List DR)->(z:(Fk l r).den)->(y:MS)->bkX am E.pb l n r m k=some (z,y)->MI E m rw0->
 ∃z0 G j,k G=some (z0,y)/\(yM l r z rw0).2=(z0,j)/\MI E G j/\(∃a,G.rs=m.rs++a)/\(∃b,j=rw0++b)/\(yM l r z rw0).1.length=l.length/\
  (∀(q:Nat) (C:DB),(yM l r z rw0).1[q]?=some (some C)->∃i b,Fo am (n+q)=some i/\E.pb[i]?=some (some b)/\C.ty=b.ty/\C.w=true/\∀E0,(∃a,y.rs=G.rs++a)->TrI am y.rs E E0->∀vs,hL E b.cells vs->hL E0 C.cells vs)/\
  (∀q:Nat,q<l.length->∃C,(yM l r z rw0).1[q]?=some (some C))
 |[],n,r,m,k,rw0,z,y,h,hm=>⟨z,m,rw0,h,rfl,hm,⟨[],by simp⟩,⟨[],by simp⟩,rfl,by simp[yM],by simp⟩
 |H::l,n,r,m,k,rw0,z,y,h,hm=>by
  simp only[bkX]at h;split at h
  .rename_i i hi;split at h
   .rename_i b hb;rw[xK]at hb;split at h
    .rename_i F;have F:=aE F;have⟨z0,G,j,h1,h2,h3,⟨a1,h4⟩,⟨b1,h5⟩,h6⟩:=SP H.cells (Fk l r) b.cells m _ rw0 z y h hm;have⟨R,W,J,g1,g2,g3,⟨a2,V⟩,⟨b2,g5⟩,g6,g7,g8⟩:=amv l (n+1) r G k j z0 y h1 h3;have e1:(Gy H.cells (Fk l r) z rw0)=((Gy H.cells (Fk l r) z rw0).1,z0,j):=by rw[<-h2]
     have e2:yM (H::l) r z rw0=(some ⟨H.ty,(Gy H.cells (Fk l r) z rw0).1,true⟩::(yM l r z0 j).1,R,J):=by simp only[yM];rw[e1];simp only[g2]
     rw[e2];refine⟨R,W,J,g1,rfl,g3,⟨a1++a2,by rw[V,h4,bn]⟩,⟨b1++b2,by rw[g5,h5,bn]⟩,by simp[g6],λq C K=>?_,λq K=>?_⟩
     .cases q with
      |zero=>simp only[gU,ak]at K;subst K;exact⟨i,b,hi,hb,F.symm,rfl,λE0 ⟨a,ha⟩ s vs hv=>h6 E0 vs ⟨a2++a,by rw[ha,V,bn]⟩ s hv⟩
      |succ q=>have⟨i',b',k1,k2,k3,Y,X⟩:=g7 q C (by simpa using K);exact⟨i',b',by rw[show n+(q+1)=n+1+q by omega];exact k1,k2,k3,Y,X⟩
     .cases q with
      |zero=>exact⟨_,rfl⟩
      |succ q=>simpa using g8 q (by simpa using K)
    .cases h
   .cases h
  .cases h
end Go.Vc






namespace Go.Vc
open Go Go.RowKit
def HT(a b:List Nat):Prop:=∃c,b=a++c
theorem HT.refl(a:List Nat):HT a a:=⟨[],by simp⟩
theorem HT.trans{a b c:List Nat}(h:HT a b)(k:HT b c):HT a c:=by obtain⟨x,rfl⟩:=h;obtain⟨y,rfl⟩:=k;exact⟨x++y,by simp⟩
theorem HT.get{a b:List Nat}(h:HT a b){n j:Nat}(y:a[n]?=some j):b[n]?=some j:=by obtain⟨c,rfl⟩:=h;rw[bG (aC.1 y).1];exact y
structure RO(base rwE:List DR)(ρ:List (Option Nat))(rwC:List DR)(js:List Nat):Prop where
 len:js.length=rwE.length
 row:∀(n j:Nat) (r:DR),js[n]?=some j->rwE[n]?=some r->rwC[j]?=some r
 inj:∀(n n' j:Nat),js[n]?=some j->js[n']?=some j->n=n'
 sup:∀(a j:Nat),ρ[a]?=some (some j)->rwC[j]?=some .dead/\base[j]?=some .dead/\∀n:Nat,js[n]?≠some j
 aui:∀(a b j:Nat),ρ[a]?=some (some j)->ρ[b]?=some (some j)->a=b
 old:∀j:Nat,(∀n:Nat,js[n]?≠some j)->rwC[j]?=base[j]?
 new:∀(n j:Nat),js[n]?=some j->base[j]?=some .dead\/base[j]?=none
 own:∀(n:Nat) (r:DR),rwE[n]?=some r->∃e t l,r=.own e t l
theorem RO.tail{base y}{x}{ρ}{C:List DR}{G:List Nat}(h:RO base y (x::ρ) C G):RO base y ρ C G:=⟨h.len,h.row,h.inj,λa j F=>h.sup (a+1) j (by simpa using F),λa b j F hb=>by have:=h.aui (a+1) (b+1) j (by simpa using F) (by simpa using hb);omega,h.old,h.new,h.own⟩
theorem RO.lt{base C}{ρ}{y}{F:List Nat}(h:RO base C ρ y F){n j:Nat}(G:F[n]?=some j):j<y.length:=by have hl:=(aC.1 G).1;rw[h.len]at hl;exact(aC.1 (h.row n j _ G (ay hl))).1
theorem RO.put{base J}{ρ}{K C}{R}(h:RO base J ρ K R){j:Nat}{e:TypeId}{t:DT}{l:List t.den}(hn:∀n:Nat,R[n]?≠some j)(hj:C[j]?=some (.own e t l))(ho:∀k:Nat,k≠j->C[k]?=K[k]?)
 (hb:base[j]?=some .dead\/base[j]?=none) (hs:∀a:Nat,ρ[a]?≠some (some j)):RO base (J++[.own e t l]) ρ C (R++[j]):=by
 have ne:∀{n k:Nat},R[n]?=some k->k≠j:=λH=>by rintro rfl;exact hn _ H
 refine⟨by simp[h.len],λn k r G W=>?_,λn n' k G W=>?_,λa k X=>?_,h.aui,λk H=>?_,λn k G=>?_,λn r G=>?_⟩
 .rcases kv G with⟨g0,g1⟩|⟨g0,g1⟩
  .rcases kv W with⟨_,y⟩|⟨y,_⟩
   .rw[ho k (ne g1)];exact h.row n k r g1 y
   .have:=h.len;omega
  .rcases kv W with⟨y,_⟩|⟨_,y⟩
   .have:=h.len;omega
   .subst g1 y;exact hj
 .rcases kv G with⟨_,g1⟩|⟨g0,g1⟩
  .rcases kv W with⟨_,y⟩|⟨_,y⟩
   .exact h.inj n n' k g1 y
   .exact absurd y.symm (ne g1)
  .rcases kv W with⟨_,y⟩|⟨Y,_⟩
   .exact absurd g1.symm (ne y)
   .omega
 .have⟨g1,y,Y⟩:=h.sup a k X;have F:k≠j:=by rintro rfl;exact hs a X
  refine⟨by rw[ho k F];exact g1,y,λn H=>?_⟩;rcases kv H with⟨_,g⟩|⟨_,g⟩
  .exact Y n g
  .exact F g.symm
 .have F:k≠j:=by rintro rfl;exact H R.length (by simp)
  rw[ho k F];refine h.old k λn V=>H n ?_
  rw[bG (aC.1 V).1];exact V
 .rcases kv G with⟨_,g⟩|⟨_,g⟩
  .exact h.new n k g
  .subst g;exact hb
 .rcases kv G with⟨_,g⟩|⟨_,g⟩
  .exact h.own n r g
  .exact⟨e,t,l,g.symm⟩
section
variable {β : Type} {q : β} {σ : Nat -> Option Nat} {base : List DR}
theorem amw{ρ:List (Option Nat)}{e:TypeId}{t:DT}{l:List t.den}{C F:List DR}{H:List Nat}{K:DV->List (Option Nat)->List DR->Option β}(h:apL ρ e t l C K=some q)(ro:RO base F ρ C H):
 ∃j ρ' y,K (.row j) ρ' y=some q/\RO base (F++[.own e t l]) ρ' y (H++[j]):=by
 have G:∀ρ',RO base F ρ' C H->K (.row C.length) ρ' (C++[.own e t l])=some q->∃j ρ' y,K (.row j) ρ' y=some q/\RO base (F++[.own e t l]) ρ' y (H++[j]):=λρ' ro h=>by
  have J:∀n:Nat,H[n]?≠some C.length:=λn J=>by have:=ro.lt J;omega
  refine⟨_,ρ',_,h,ro.put J (by simp) (λk V=>?_) (.inr ?_) λa R=>?_⟩
  .rcases dI k C.length with hl|hl
   .rw[bG hl]
   .rw[bJ (by simp;omega),bJ hl]
  .rw[<-ro.old _ J,bJ (au _)]
  .have:=(ro.sup a _ R).1;rw[bJ (au _)]at this;cases this
 unfold apL at h;split at h
 .rename_i j ρ';rw[km]at h;have⟨g1,X,W⟩:=ro.sup 0 j rfl;have hl:=(aC.1 g1).1;refine⟨j,ρ',_,h,ro.tail.put W (by rw[bf,ah rfl,ah hl]) (λk V=>by rw[bf,ag (ga V)]) (.inl X) λa R=>?_⟩;have:=ro.aui 0 (a+1) j rfl (by simpa using R);omega
 .rename_i ρ';rw[qM,xi]at h;exact G _ ro.tail h
 .rw[qM,xi]at h;exact G _ ro h
theorem HU(j):(t:DT)->(x:t.den)->(r:List DV)->EH σ j (t.cells x r)=t.cells x (EH σ j r)
 | .int _,_,_ | .bool,_,_ | .str,_,_ | .slc _,_,_ | .set,_,_ | .unit,_,_=>rfl
 | .pair a b,x,r=>by simp only[DT.cells];rw[HU j a,HU j b]
theorem aga(j:List Nat):(t:DT)->(x:t.den)->(t.val x).FJ σ j=t.val x
 | .int _,_ | .bool,_ | .str,_ | .slc _,_ | .set,_ | .unit,_=>rfl
 | .pair a b,x=>by simp only[DT.val,DV.FJ];rw[HU j a,HU j b];rfl
theorem agb{y:List Nat}{n j:Nat}(h:y[n]?=some j):(DV.row n).FJ σ y=.row j:=by simp only[DV.FJ,h]
mutual
theorem PK.o_s:(p:PK)->(r:DT)->(z:(p.T r).den)->(ρ:List (Option Nat))->(C:List DR)->(K:DV->r.den->List (Option Nat)->List DR->Option β)->(F:List DR)->(J:List Nat)->p.o σ r z ρ C K=some q->RO base F ρ C J->
 ∃d ρ' y H,K d (p.mk r z F).2.1 ρ' y=some q/\RO base (p.mk r z F).2.2 ρ' y H/\HT J H/\∀G,HT H G->d=(p.mk r z F).1.FJ σ G
 | .v t,r,z,ρ,C,K,F,J,h,ro=>⟨_,ρ,C,J,h,ro,HT.refl _,λG _=>(aga G t z.1).symm⟩
 | .row e t,r,z,ρ,C,K,F,J,h,ro=>by simp only[PK.o]at h;have⟨j,ρ',y,W,V⟩:=amw h ro;exact⟨_,ρ',y,_,W,V,⟨[j],rfl⟩,λG R=>(agb (R.get (by rw[<-ro.len];simp))).symm⟩
 | .ptr k,r,z,ρ,C,K,F,J,h,ro=>by
  simp only[PK.o]at h;split at h
  .rename_i i hi;exact⟨_,ρ,C,J,h,ro,HT.refl _,λG _=>by simp only[PK.mk,DV.FJ,hi]⟩
  .cases h
 | .fn g l,r,z,ρ,C,K,F,J,h,ro=>by simp only[PK.o]at h;have⟨ds,ρ',y,H,W,V,Y,X⟩:=aav l r z ρ C _ F J h ro;exact⟨_,ρ',y,H,W,V,Y,λG R=>by simp only[PK.mk,DV.FJ];rw[X G R]⟩
 | .agg l,r,z,ρ,C,K,F,J,h,ro=>by simp only[PK.o]at h;have⟨ds,ρ',y,H,W,V,Y,X⟩:=aav l r z ρ C _ F J h ro;exact⟨_,ρ',y,H,W,V,Y,λG R=>by simp only[PK.mk,DV.FJ];rw[X G R]⟩
 | .fns l,r,z,ρ,C,K,F,J,h,ro=>by simp only[PK.o]at h;have⟨ds,ρ',y,H,W,V,Y,X⟩:=aav l r z ρ C _ F J h ro;exact⟨_,ρ',y,H,W,V,Y,λG R=>by simp only[PK.mk,DV.FJ];rw[X G R]⟩
 | .nil n,r,z,ρ,C,K,F,J,h,ro=>⟨_,ρ,C,J,h,ro,HT.refl _,λG _=>rfl⟩
theorem aav:(l:List PK)->(r:DT)->(z:(IJ l r).den)->(ρ:List (Option Nat))->(y:List DR)->(K:List DV->r.den->List (Option Nat)->List DR->Option β)->(j:List DR)->(H:List Nat)->pkO σ l r z ρ y K=some q->RO base j ρ y H->
 ∃V ρ' F G,K V (Gy l r z j).2.1 ρ' F=some q/\RO base (Gy l r z j).2.2 ρ' F G/\HT H G/\∀C,HT G C->V=EH σ C (Gy l r z j).1
 |[],r,z,ρ,y,K,j,H,h,ro=>⟨[],ρ,y,H,h,ro,HT.refl _,λ_ _=>rfl⟩
 |p::l,r,z,ρ,y,K,j,H,h,ro=>by simp only[pkO]at h;have⟨d,ρ1,R,X,h1,h2,h3,h4⟩:=PK.o_s p (IJ l r) z ρ y _ j H h ro;have⟨V,ρ2,J,W,g1,g2,g3,g4⟩:=aav l r _ ρ1 R _ _ X h1 h2;exact⟨d::V,ρ2,J,W,g1,g2,h3.trans g3,λC Y=>by simp only[Gy,EH];rw[<-h4 C (g3.trans Y),<-g4 C Y]⟩
end
mutual
theorem QT.o_s:(Q:QT)->(x:Q.den)->(ρ:List (Option Nat))->(y:List DR)->(K:DV->List (Option Nat)->List DR->Option β)->(F:List DR)->(H:List Nat)->Q.o σ x ρ y K=some q->RO base F ρ y H->
 ∃d ρ' G J,K d ρ' G=some q/\RO base (Q.mk x F).2 ρ' G J/\HT H J/\∀C,HT J C->d=(Q.mk x F).1.FJ σ C
 | .v t,x,ρ,y,K,F,H,h,ro=>⟨_,ρ,y,H,h,ro,HT.refl _,λC _=>(aga C t x).symm⟩
 | .own e t,x,ρ,y,K,F,H,h,ro=>by simp only[QT.o]at h;have⟨j,ρ',G,h1,h2⟩:=amw h ro;exact⟨_,ρ',G,_,h1,h2,⟨[j],rfl⟩,λC W=>(agb (W.get (by rw[<-ro.len];simp))).symm⟩
 | .ptr k,x,ρ,y,K,F,H,h,ro=>by
  simp only[QT.o]at h;split at h
  .rename_i i hi;exact⟨_,ρ,y,H,h,ro,HT.refl _,λC _=>by simp only[QT.mk,DV.FJ,hi]⟩
  .cases h
 | .nil n,x,ρ,y,K,F,H,h,ro=>⟨_,ρ,y,H,h,ro,HT.refl _,λC _=>rfl⟩
 | .unit,x,ρ,y,K,F,H,h,ro=>⟨_,ρ,y,H,h,ro,HT.refl _,λC _=>rfl⟩
 | .pair a b,x,ρ,y,K,F,H,h,ro=>by simp only[QT.o]at h;have⟨d,ρ1,V,Y,h1,h2,h3,h4⟩:=QT.o_s a x.1 ρ y _ F H h ro;have⟨ds,ρ2,R,X,g1,g2,g3,g4⟩:=QT.aw3 b x.2 ρ1 V _ _ Y h1 h2;exact⟨_,ρ2,R,X,g1,g2,h3.trans g3,λC W=>by simp only[QT.mk,DV.FJ,EH];rw[<-h4 C (g3.trans W),<-g4 C W]⟩
theorem QT.aw3:(Q:QT)->(x:Q.den)->(ρ:List (Option Nat))->(j:List DR)->(K:List DV->List (Option Nat)->List DR->Option β)->(y:List DR)->(F:List Nat)->Q.os σ x ρ j K=some q->RO base y ρ j F->
 ∃X ρ' G H,K X ρ' G=some q/\RO base (Q.mks x y).2 ρ' G H/\HT F H/\∀C,HT H C->X=EH σ C (Q.mks x y).1
 | .v t,x,ρ,j,K,y,F,h,ro=>⟨_,ρ,j,F,h,ro,HT.refl _,λC _=>rfl⟩
 | .own e t,x,ρ,j,K,y,F,h,ro=>⟨_,ρ,j,F,h,ro,HT.refl _,λC _=>rfl⟩
 | .ptr k,x,ρ,j,K,y,F,h,ro=>⟨_,ρ,j,F,h,ro,HT.refl _,λC _=>rfl⟩
 | .nil n,x,ρ,j,K,y,F,h,ro=>⟨_,ρ,j,F,h,ro,HT.refl _,λC _=>rfl⟩
 | .unit,x,ρ,j,K,y,F,h,ro=>⟨_,ρ,j,F,h,ro,HT.refl _,λC _=>rfl⟩
 | .pair a b,x,ρ,j,K,y,F,h,ro=>by simp only[QT.os]at h;have⟨d,ρ1,R,W,h1,h2,h3,h4⟩:=QT.o_s a x.1 ρ j _ y F h ro;have⟨X,ρ2,J,V,g1,g2,g3,g4⟩:=QT.aw3 b x.2 ρ1 R _ _ W h1 h2;exact⟨_,ρ2,J,V,g1,g2,h3.trans g3,λC Y=>by simp only[QT.mks,EH];rw[<-h4 C (g3.trans Y),<-g4 C Y]⟩
end
theorem amx{m:Nat}(hσ:∀(k k' i:Nat),σ k=some i->σ k'=some i->k=k'):(l:List BK)->(n:Nat)->(r:DT)->(z:(Fk l r).den)->(ρ:List (Option Nat))->(pb:hZ)->(R:List DR)->(K:r.den->List (Option Nat)->hZ->List DR->Option β)->(y:List DR)->(js:List Nat)->
 bkO σ m l n r z ρ pb R K=some q->RO base y ρ R js->(∀k i,k<m->σ k=some i->i<pb.length)->(∀k,m<=k->n<=k->σ k=some (pb.length+(k-max n m)))->
 ∃ρ' pb' aw4 js',K (yM l r z y).2.1 ρ' pb' aw4=some q/\RO base (yM l r z y).2.2 ρ' aw4 js'/\HT js js'/\(∀i,i<pb.length->(∀k,n<=k->k<m->σ k≠some i)->pb'[i]?=pb[i]?)/\(∀k b1 i,(yM l r z y).1[k]?=some (some b1)->σ (n+k)=some i->∀J,HT js' J->pb'[i]?=some (some ⟨b1.ty,EH σ J b1.cells,true⟩))/\(∀i,i<pb'.length->i<pb.length\/∃k,k<l.length/\m<=n+k/\σ (n+k)=some i)/\(∀i,i<pb.length->live pb i->live pb' i)/\(∀k i,n<=k->k<n+l.length->k<m->σ k=some i->live pb' i)
 |[],n,r,z,ρ,pb,R,K,y,js,h,ro,h1,h2=>⟨ρ,pb,R,js,h,ro,HT.refl _,λ_ _ _=>rfl,λk b1 i C=>by simp[yM]at C,λi hi=>.inl hi,λ_ _ h=>h,λk i a b=>by simp at b;omega⟩
 |W::l,n,r,z,ρ,pb,R,K,y,js,h,ro,h1,h2=>by
  simp only[bkO]at h;have⟨ds,ρ1,Y,js1,h3,h4,h5,h6⟩:=aav W.cells (Fk l r) z ρ R _ y js h ro;have e2:yM (W::l) r z y=(some ⟨W.ty,(Gy W.cells (Fk l r) z y).1,true⟩::(yM l r (Gy W.cells (Fk l r) z y).2.1 (Gy W.cells (Fk l r) z y).2.2).1,(yM l r (Gy W.cells (Fk l r) z y).2.1 (Gy W.cells (Fk l r) z y).2.2).2.1,(yM l r (Gy W.cells (Fk l r) z y).2.1 (Gy W.cells (Fk l r) z y).2.2).2.2):=rfl;rw[e2];split at h3
  .rename_i H;have H:=bS H;split at h3
   .rename_i i hi;rw[km]at h3;have X:=h1 n i (by omega) hi;have⟨ρ2,Yi,V,js2,g1,g2,g3,g4,g5,g6,g7,g8⟩:=amx hσ l (n+1) r _ ρ1 _ Y K _ js1 h3 h4 (λk F C j=>by simpa using h1 k F C j) (λk C j=>by rw[h2 k C (by omega)];simp;omega);refine⟨ρ2,Yi,V,js2,g1,g2,h5.trans g3,λF G hno=>?_,λk b1 F C j J hp=>?_,λF G=>?_,λF G hl=>?_,λk F ha hb hm C=>?_⟩
    .rw[g4 F (by simpa using G) λk C j=>hno k (by omega) j,bf,ag];rintro rfl;exact hno n (au _) (by omega) hi
    .cases k with
     |zero=>simp only[gU,ak]at C;subst C;rw[gP,hi]at j;simp only[ak]at j;subst j;rw[g4 i (by simpa using X) λk C j hk2=>by have:=hσ _ _ _ hk2 hi;omega,bf,ah rfl,ah X,h6 J (g3.trans hp)]
     |succ k=>exact g5 k b1 F (by simpa using C) (by rw[show n+1+k=n+(k+1)by omega];exact j) J hp
    .rcases g6 F G with h'|⟨k,k1,k2,k3⟩
     .exact .inl (by simpa using h')
     .exact .inr ⟨k+1,by simp;omega,by omega,by rw[show n+(k+1)=n+1+k by omega];exact k3⟩
    .refine g7 F (by simpa using G) ?_;have⟨b,hb⟩:=hl;unfold live;rw[bf];split
     .rename_i e;subst e;exact⟨_,rfl⟩
     .exact⟨b,hb⟩
    .by_cases hkn:k=n
     .subst hkn;rw[hi]at C;simp only[ak]at C;subst C;refine g7 i (by simpa using X) ?_;unfold live;rw[bf,ah rfl,ah X];exact⟨_,rfl⟩
     .exact g8 k F (by omega) (by simp at hb;omega) hm C
   .cases h3
  .rename_i H
   have H:m<=n:=by
    rcases dI n m with h'|h'
    .have:=gJ h';simp only[Nat.blt]at H;rw[this]at H;cases H
    .exact h'
   rw[qM]at h3;have hsn:σ n=some pb.length:=by have:=h2 n H (au _);rw[Nat.max_eq_left H]at this;simpa using this
   have⟨ρ2,Yi,V,js2,g1,g2,g3,g4,g5,g6,g7,g8⟩:=amx hσ l (n+1) r _ ρ1 _ Y K _ js1 h3 h4 (λk F C j=>by have:=h1 k F C j;simp;omega) (λk C j=>by rw[h2 k C (by omega)];simp;omega);refine⟨ρ2,Yi,V,js2,g1,g2,h5.trans g3,λF G hno=>?_,λk b1 F C j J hp=>?_,λF G=>?_,λF G hl=>?_,λk F ha hb hm C=>by omega⟩
   .rw[g4 F (by simp;omega) λk C j=>by omega,bG G]
   .cases k with
    |zero=>simp only[gU,ak]at C;subst C;rw[gP,hsn]at j;simp only[ak]at j;subst j;rw[g4 pb.length (by simp) λk C j=>by omega,h6 J (g3.trans hp)];simp
    |succ k=>exact g5 k b1 F (by simpa using C) (by rw[show n+1+k=n+(k+1)by omega];exact j) J hp
   .rcases g6 F G with h'|⟨k,k1,k2,k3⟩
    .rcases dI F pb.length with hl|hl
     .exact .inl hl
     .have:F=pb.length:=by simp at h';omega
      subst this;exact .inr ⟨0,by simp,by omega,by simpa using hsn⟩
    .exact .inr ⟨k+1,by simp;omega,by omega,by rw[show n+(k+1)=n+1+k by omega];exact k3⟩
   .refine g7 F (by simp;omega) ?_;have⟨b,hb⟩:=hl;exact⟨b,by rw[bG G];exact hb⟩
end
end Go.Vc






namespace Go.Vc
open Go Go.RowKit
mutual
theorem DV.SQ:(p:DV)->p.SO true=true
 | .fn _ cs=>by simp only[DV.SO];exact zw cs
 | .agg cs=>by simp only[DV.SO];exact zw cs
 | .HN cs=>by simp only[DV.SO];exact zw cs
 | .fns cs=>by simp only[DV.SO,CO];exact zw cs
 | .sl _ _ | .cs _ _ | .set _ | .int _ _ | .bool _ | .lit _ | .str _ | .v _ | .NI | .row _ | .el _ _ _ | .re _ _ _ | .rt _ _ | .ob _ | .own _ _ | .fp _ _ | .ra _ | .rs _ _ | .ju=>rfl
theorem zw:(ps:List DV)->Dp true ps=true
 |[]=>rfl
 |p::ps=>by simp only[Dp,DV.SQ p,zw ps];rfl
end
theorem HV{f}:(t:DT)->(x:t.den)->(r:List DV)->t.free=true->Dp f r=true->Dp f (t.cells x r)=true
 | .int _,_,r,_,h | .bool,_,r,_,h | .str,_,r,_,h=>by simp only[DT.cells,Dp,DV.SO];exact h
 | .slc _,_,_,h,_=>by cases h
 | .set,_,_,h,_=>by cases h
 | .unit,_,r,_,h=>h
 | .pair a b,x,r,j,h=>by simp only[DT.free,aD]at j;exact HV a _ _ j.1 (HV b _ _ j.2 h)
theorem agc{f}:(t:DT)->(x:t.den)->t.free=true->(t.val x).SO f=true
 | .int _,_,_ | .bool,_,_ | .str,_,_ | .unit,_,_=>rfl
 | .slc _,_,h=>by cases h
 | .set,_,h=>by cases h
 | .pair a b,x,j=>by simp only[DT.free,aD]at j;simp only[DT.val,DV.SO];exact HV a _ _ j.1 (HV b _ _ j.2 rfl)
def rU(rw:List DR):Prop:=∀(n:Nat) e t l,rw[n]?=some (.own e t l)->t.free=true
theorem rU.snoc{rw}(h:rU rw){e}{t}(l)(y:t.free=true):rU (rw++[.own e t l]):=by
 intro n F j l' C;rcases kv C with⟨_,g⟩|⟨_,g⟩
 .exact h n F j l' g
 .simp only[DR.own.injEq]at g;obtain⟨_,rfl,_⟩:=g;exact y
mutual
theorem PK.Jx:(p:PK)->(r:DT)->(z:(p.T r).den)->(rw:List DR)->p.free=true->rU rw->(p.mk r z rw).1.SO false=true/\rU (p.mk r z rw).2.2
 | .v t,r,z,rw,h,j=>⟨agc t _ (by simpa only[PK.free]using h),j⟩
 | .row e t,r,z,rw,h,j=>⟨rfl,j.snoc _ (by simpa only[PK.free]using h)⟩
 | .ptr k,r,z,rw,h,j=>⟨rfl,j⟩
 | .fn g l,r,z,rw,h,j=>by simp only[PK.mk,DV.SO];exact QM l r z rw (by simpa only[PK.free]using h) j
 | .agg l,r,z,rw,h,j=>by simp only[PK.mk,DV.SO];exact QM l r z rw (by simpa only[PK.free]using h) j
 | .fns l,r,z,rw,h,j=>by simp only[PK.free]at h;cases h
 | .nil n,r,z,rw,h,j=>⟨rfl,j⟩
theorem QM:(l:List PK)->(r:DT)->(z:(IJ l r).den)->(rw:List DR)->NM l=true->rU rw->Dp false (Gy l r z rw).1=true/\rU (Gy l r z rw).2.2
 |[],r,z,rw,_,j=>⟨rfl,j⟩
 |p::l,r,z,rw,h,j=>by simp only[NM,aD]at h;have⟨G,F⟩:=PK.Jx p (IJ l r) z rw h.1 j;obtain⟨C,y⟩:=QM l r _ _ h.2 F;exact⟨by simp only[Gy,Dp,G,C,Bool.and_self],y⟩
end
theorem agd:(l:List BK)->(r:DT)->(z:(Fk l r).den)->(rw:List DR)->Sp l=true->rU rw->(∀(k:Nat) b,(yM l r z rw).1[k]?=some (some b)->Dp false b.cells=true)/\rU (yM l r z rw).2.2
 |[],r,z,rw,_,y=>⟨λk b h=>by simp[yM]at h,y⟩
 |J::l,r,z,rw,h,y=>by
  simp only[Sp,aD]at h;have⟨H,G⟩:=QM J.cells (Fk l r) z rw h.1 y;obtain⟨F,C⟩:=agd l r _ _ h.2 G;refine⟨λk b j=>?_,C⟩;simp only[yM]at j;cases k with
  |zero=>simp only[gU,ak]at j;subst j;exact H
  |succ k=>exact F k b (by simpa using j)
mutual
theorem QT.Jx:(Q:QT)->(x:Q.den)->(rw:List DR)->Q.free=true->rU rw->(Q.mk x rw).1.SO false=true/\rU (Q.mk x rw).2
 | .v t,x,rw,h,j=>⟨agc t _ h,j⟩
 | .own e t,x,rw,h,j=>⟨rfl,j.snoc _ h⟩
 | .ptr k,x,rw,h,j=>⟨rfl,j⟩
 | .nil n,x,rw,h,j=>⟨rfl,j⟩
 | .unit,x,rw,h,j=>⟨rfl,j⟩
 | .pair a b,x,rw,h,j=>by simp only[QT.free,aD]at h;have⟨G,F⟩:=QT.Jx a x.1 rw h.1 j;have⟨C,y⟩:=QT.age b x.2 _ h.2 F;exact⟨by simp only[QT.mk,DV.SO,Dp,G,C,Bool.and_self],y⟩
theorem QT.age:(Q:QT)->(x:Q.den)->(rw:List DR)->Q.free=true->rU rw->Dp false (Q.mks x rw).1=true/\rU (Q.mks x rw).2
 | .v t,x,rw,h,j=>⟨rfl,j⟩
 | .own e t,x,rw,h,j=>⟨rfl,j⟩
 | .ptr k,x,rw,h,j=>⟨rfl,j⟩
 | .nil n,x,rw,h,j=>⟨rfl,j⟩
 | .unit,x,rw,h,j=>⟨rfl,j⟩
 | .pair a b,x,rw,h,j=>by simp only[QT.free,aD]at h;have⟨G,F⟩:=QT.Jx a x.1 rw h.1 j;have⟨C,y⟩:=QT.age b x.2 _ h.2 F;exact⟨by simp only[QT.mks,Dp,G,C,Bool.and_self],y⟩
end
open Classical in
noncomputable def NW(B B1:Nat->Nat)(Al:hZ)(σ:Nat->Option Nat):Nat->Nat:=λi=>if h:∃k,live Al k/\σ k=some i then B1 (Classical.choose h)else B i
open Classical in
noncomputable def P1(A A1:yu)(js:List Nat):yu:=λj=>if h:∃n:Nat,js[n]?=some j then A1 (Classical.choose h)else A j
theorem LN{B B1}{Al}{σ}(C:∀(k j i:Nat),σ k=some i->σ j=some i->k=j){k i}(hl:live Al k)(y:σ k=some i):NW B B1 Al σ i=B1 k:=by have h:∃k,live Al k/\σ k=some i:=⟨k,hl,y⟩;unfold NW;rw[zo h,C _ _ _ (Classical.choose_spec h).2 y]
theorem agf{B B1}{Al}{σ}{i}(h:¬ ∃k,live Al k/\σ k=some i):NW B B1 Al σ i=B i:=by unfold NW;rw[dif_neg h]
theorem SR{A A1}{js}(hi:∀(n y j:Nat),js[n]?=some j->js[y]?=some j->n=y){n j}(C:js[n]?=some j):P1 A A1 js j=A1 n:=by have h:∃n:Nat,js[n]?=some j:=⟨n,C⟩;unfold P1;rw[zo h,hi _ _ _ (Classical.choose_spec h) C]
theorem LQ{A A1}{js}{j}(h:¬ ∃n:Nat,js[n]?=some j):P1 A A1 js j=A j:=by unfold P1;rw[dif_neg h]
section
variable {V : World} {U0 L : Nat -> Prop} {al : Nat -> Bool} {B B1 : Nat -> Nat} {A A1 : yu} {pb pb0 Al pbF : hZ} {rw rw0 FT rwF base : List DR} {w w' : World} {σ0 σ : Nat -> Option Nat} {rs ρ : List (Option Nat)} {js : List Nat} {bor : Nat -> Prop}
theorem Mem.back(f)(fr)(m:Mem V U0 L B A pb rw w)
 (ayg:∀(n b:Nat),iF (lB B σ0) (lA A rs) pb0 rw0 true n b->∃j:Nat,rs[n]?=some (some j)/\iF B A pb rw true j b)
 (hbx:∀k b,iF (lB B σ0) (lA A rs) pb0 rw0 false k b->∃i,σ0 k=some i/\iF B A pb rw false i b)
 (hal:∀k i,σ0 k=some i->al i=true)
 (m1:Mem w (lU (Us U0 B A pb rw) B A rw (Ow (lB B σ0) (lA A rs) pb0 rw0) bor) (Ow (lB B σ0) (lA A rs) pb0 rw0) B1 A1 Al FT w')
 (amy:∀i,live pb0 i->live Al i/\B1 i=lB B σ0 i)
 (hσ:∀(k k' i:Nat),σ k=some i->σ k'=some i->k=k') (_:∀k i,live pb0 k->σ0 k=some i->σ k=some i) (hσl:∀k i,σ0 k=some i->live pb0 k)
 (hσn:∀k i,live Al k->σ k=some i->σ0 k=some i\/¬live pb i)
 (hpb:∀(i:Nat) (b':DB),pbF[i]?=some (some b')->(∃(k:Nat) (b1:DB),σ k=some i/\Al[k]?=some (some b1)/\b'.ty=b1.ty/\b'.cells=EH σ js b1.cells/\b'.w=true)\/((∀k,σ k=some i->¬live Al k)/\(∀k,σ0 k≠some i)/\∃b,pb[i]?=some (some b)/\b'=⟨b.ty,zb f b.cells,b.w⟩))
 (hpl:∀i,live pb i->live pbF i) (hlF:∀k i,σ k=some i->live Al k->live pbF i) (ro:RO base FT ρ rwF js)
 (hb1:∀j:Nat,(∀n:Nat,rs[n]?≠some (some j))->base[j]?=rw[j]?) (hb2:∀n j:Nat,rs[n]?=some (some j)->base[j]?=some .dead)
 (hf:∀j,f j=none->∀n:Nat,rs[n]?≠some (some j)) (hfj:∀j p,f j=some p->p=.ju)
 (hfr:fr=true->∀j,¬bor j) (hok:∀(k:Nat) b,Al[k]?=some (some b)->Dp fr b.cells=true) (ayh:fr=false->rU FT):
 Mem V U0 L (NW B B1 Al σ) (P1 A A1 js) pbF rwF w'/\Sub f (env U0 B A pb rw w) (env U0 (NW B B1 Al σ) (P1 A A1 js) pbF rwF w')/\Ext al B A pb rw w (NW B B1 Al σ) (P1 A A1 js) pbF rwF w'/\Tr fr σ js (env (lU (Us U0 B A pb rw) B A rw (Ow (lB B σ0) (lA A rs) pb0 rw0) bor) B1 A1 Al FT w') (env U0 (NW B B1 Al σ) (P1 A A1 js) pbF rwF w'):=by
 generalize hL0:Ow (lB B σ0) (lA A rs) pb0 rw0=L0 at*
 have L0s:∀b,L0 b->(∃k i,σ0 k=some i/\iF B A pb rw false i b)\/∃n j:Nat,rs[n]?=some (some j)/\iF B A pb rw true j b:=by
  intro b hb;rw[<-hL0]at hb;have⟨k,i,hb⟩:=hb;cases k with
  |true=>have⟨j,W,G⟩:=ayg i b hb;exact .inr ⟨i,j,W,G⟩
  |false=>have⟨j,W,G⟩:=hbx i b hb;exact .inl ⟨i,j,W,G⟩
 have L0w:∀b,L0 b->Wr al B A pb rw b:=λb hb=>by
  rcases L0s b hb with⟨k,i,W,G⟩|⟨n,j,_,G⟩
  .exact .inl ⟨i,hal k i W,G⟩
  .exact .inr ⟨j,G⟩
 have L0o:∀b,L0 b->∃k i,iF B A pb rw k i b:=λb hb=>by
  rcases L0s b hb with⟨k,i,W,G⟩|⟨n,j,_,G⟩
  .exact⟨_,i,G⟩
  .exact⟨_,j,G⟩
 have amz:∀j:Nat,(¬ ∃n:Nat,js[n]?=some j)->rwF[j]?=base[j]?:=λj h=>ro.old j λn C=>h ⟨n,C⟩
 have as8:∀j r,rw[j]?=some r->r≠.dead->(∀n:Nat,rs[n]?≠some (some j))->¬ ∃n:Nat,js[n]?=some j:=by
  rintro j r W G h3 ⟨n,C⟩;have:=hb1 j h3;rw[W]at this;rcases ro.new n j C with h|h
  .rw[this]at h;simp at h;exact G h
  .rw[this]at h;cases h
 have cl:∀k i b,iF (NW B B1 Al σ) (P1 A A1 js) pbF rwF k i b->(∃i1,iF B1 A1 Al FT k i1 b/\((k=false/\σ i1=some i)\/(k=true/\js[i1]?=some i)))\/(iF B A pb rw k i b/\¬L0 b):=by
  intro k i b h;cases k with
  |false=>
   have⟨⟨b',g1⟩,g2⟩:=h;rcases hpb i b' g1 with⟨k1,b1,W,G,_⟩|⟨h0,W,b0,G,_⟩
   .rw[LN hσ ⟨b1,G⟩ W]at g2;exact .inl ⟨k1,⟨⟨b1,G⟩,g2⟩,.inl ⟨rfl,W⟩⟩
   .rw[agf (by rintro⟨k,hk1,hk2⟩;exact h0 k hk2 hk1)]at g2;have y:iF B A pb rw false i b:=⟨⟨b0,G⟩,g2⟩;refine .inr ⟨y,λhL=>?_⟩;rcases L0s b hL with⟨k,i',e1,Y⟩|⟨n,j,_,Y⟩
    .have:=(m.inj _ _ _ _ _ y Y).2;subst this;exact W k e1
    .have:=(m.inj _ _ _ _ _ y Y).1;cases this
  |true=>
   have⟨r,ad,g1,g2,g3,g4⟩:=h;by_cases hh:∃n:Nat,js[n]?=some i
   .have⟨n,C⟩:=hh;have hl:=(aC.1 C).1;rw[ro.len]at hl;have J:=ay hl;have:=ro.row n i _ C J;rw[g1]at this;simp only[ak]at this;subst this;rw[SR ro.inj C]at g3;exact .inl ⟨n,⟨_,ad,J,g2,g3,g4⟩,.inr ⟨rfl,C⟩⟩
   .rw[amz i hh]at g1;have F:∀n:Nat,rs[n]?≠some (some i):=λn C=>by rw[hb2 n i C]at g1;simp at g1;exact g2 g1.symm
    rw[hb1 i F]at g1;rw[LQ hh]at g3;have y:iF B A pb rw true i b:=⟨r,ad,g1,g2,g3,g4⟩;refine .inr ⟨y,λhL=>?_⟩;rcases L0s b hL with⟨k,i',e1,Y⟩|⟨n,j,e1,Y⟩
    .have:=(m.inj _ _ _ _ _ y Y).1;cases this
    .have:=(m.inj _ _ _ _ _ y Y).2;subst this;exact F n e1
 have agh:∀b,b<w.heap.size->¬L0 b->w'.heap[b]?=w.heap[b]?:=λb hb C=>m1.same b hb C
 have lt:fr=true->kW (Us (lU (Us U0 B A pb rw) B A rw L0 bor) B1 A1 Al FT) (Us U0 (NW B B1 Al σ) (P1 A A1 js) pbF rwF) w' w':=λaqh=>⟨λ_ _ _=>rfl,au _,λb _ hu=>by
  have u1:∀b,Us U0 B A pb rw b->¬L0 b->lU (Us U0 B A pb rw) B A rw L0 bor b:=λb W G=>⟨W,G,λ⟨j,K,_⟩=>hfr aqh j K⟩
  rcases hu with hu|⟨k,i,hu⟩
  .refine .inl (u1 b (.inl hu) λhL=>?_);have⟨k,i,hb⟩:=L0o b hL;have:=m.u0 b hu;rcases(m.low k i b hb).2 with h|h
   .omega
   .exact this.2 h
  .rcases cl k i b hu with⟨i1,h,_⟩|⟨h,C⟩
   .exact .inr ⟨k,i1,h⟩
   .exact .inl (u1 b (.inr ⟨k,i,h⟩) C)⟩
 have tr:Tr fr σ js (env (lU (Us U0 B A pb rw) B A rw L0 bor) B1 A1 Al FT w') (env U0 (NW B B1 Al σ) (P1 A A1 js) pbF rwF w'):=by refine⟨lt,λk i hk hl=>?_,λn j e t l C hr=>⟨ro.row n j _ C hr,SR ro.inj C⟩⟩;exact⟨hlF k i hk hl,LN hσ hl hk⟩
 have ayi:∀i,live pb i->live pbF i/\NW B B1 Al σ i=B i:=λi hl=>by
  refine⟨hpl i hl,?_⟩;by_cases hh:∃k,live Al k/\σ k=some i
  .have⟨k,hk1,hk2⟩:=hh;rw[LN hσ hk1 hk2];rcases hσn k i hk1 hk2 with h|h
   .rw[(amy k (hσl k i h)).2];simp only[lB,h,gE]
   .exact absurd hl h
  .exact agf hh
 have⟨M,S,X⟩:=m.as2 (al:=al) f (w':=w') (B':=NW B B1 Al σ) (A':=P1 A A1 js) (pb':=pbF) (rw':=rwF) ⟨m1.os,m1.tape,m1.output,m1.size⟩ (λb hb C=>agh b hb λhL=>C (L0w b hL))
  (λb hb=>by
   rcases hb with⟨i,ha,hb⟩|⟨j,hb⟩
   .rcases cl _ i b hb with⟨i1,h,_⟩|⟨h,_⟩
    .rcases(m1.low _ _ _ h).2 with H|H
     .exact .inr H
     .exact .inl (L0w b H)
    .exact .inl (.inl ⟨i,ha,h⟩)
   .rcases cl _ j b hb with⟨i1,h,_⟩|⟨h,_⟩
    .rcases(m1.low _ _ _ h).2 with H|H
     .exact .inr H
     .exact .inl (L0w b H)
    .exact .inl (.inr ⟨j,h⟩))
  (λk i b hb=>by
   rcases cl k i b hb with⟨i1,h,_⟩|⟨h,_⟩
   .have hl:=m1.low _ _ _ h;rcases hl.2 with H|H
    .exact .inr ⟨H,hl.1⟩
    .exact .inl (L0o b H)
   .exact .inl ⟨k,i,h⟩)
  (λk i k' i' b hb hb'=>by
   have no:∀k i k1 i1,iF B1 A1 Al FT k1 i1 b->iF B A pb rw k i b->¬L0 b->False:=λk i k1 i1 W G h3=>by
    rcases(m1.low _ _ _ W).2 with H|H
    .have:=(m.low _ _ _ G).1;omega
    .exact h3 H
   rcases cl k i b hb with⟨i1,h,hk⟩|⟨h,C⟩
   .rcases cl k' i' b hb' with⟨i1',H,R⟩|⟨H,hn'⟩
    .have⟨e1,Y⟩:=m1.inj _ _ _ _ _ h H;subst e1 Y;rcases hk with⟨rfl,hk⟩|⟨rfl,hk⟩
     .rcases R with⟨_,R⟩|⟨h0,_⟩
      .rw[hk]at R;simp at R;exact⟨rfl,R⟩
      .cases h0
     .rcases R with⟨h0,_⟩|⟨_,R⟩
      .cases h0
      .rw[hk]at R;simp at R;exact⟨rfl,R⟩
    .exact(no _ _ _ _ h H hn').elim
   .rcases cl k' i' b hb' with⟨i1',H,_⟩|⟨H,_⟩
    .exact(no _ _ _ _ H h C).elim
    .exact m.inj _ _ _ _ _ h H)
  ayi (λj e t l auj K=>by have F:=hf j auj;have hnj:=as8 j _ K (by simp) F;exact⟨l,by rw[amz j hnj,hb1 j F];exact K,rfl,LQ hnj⟩)
  (λj d auj K=>by have F:=hf j auj;have hnj:=as8 j _ K (by simp) F;exact⟨⟨d,by rw[amz j hnj,hb1 j F];exact K,rfl⟩,LQ hnj⟩)
  (λ_ j p e t l hp _=>by rw[hfj j p hp];simp only[DV.h])
  (λ_ j p d ad hp _ _=>by rw[hfj j p hp];simp only[DV.h])
  (λ_ i b' hi=>by
   rcases hpb i b' hi with⟨k,b1,W,G,h3,h4,h5⟩|⟨h0,W,b,G,rfl⟩
   .have⟨cs,g1,g2,_⟩:=m1.box k b1 G;refine .inr ⟨cs,by rw[LN hσ ⟨b1,G⟩ W,h3];exact g1,by rw[h4];exact NV tr _ (hok k b1 G) g2,h5⟩
   .refine .inl ⟨b,G,rfl,rfl,id,?_⟩;have y:iF B A pb rw false i (B i):=⟨⟨b,G⟩,rfl⟩;refine agh _ (m.low _ _ _ y).1 λhL=>?_
    rcases L0s _ hL with⟨k,i',e1,Y⟩|⟨n,j,_,Y⟩
    .have:=(m.inj _ _ _ _ _ y Y).2;subst this;exact W k e1
    .have:=(m.inj _ _ _ _ _ y Y).1;cases this)
  (λ_ j e t l K=>by
   by_cases hh:∃n:Nat,js[n]?=some j
   .have⟨n,C⟩:=hh;have hl:=(aC.1 C).1;rw[ro.len]at hl;have J:=ay hl;have:=ro.row n j _ C J;rw[K]at this;simp only[ak]at this;rw[<-this]at J;have⟨xs,g1,g2⟩:=m1.row n e t l J;refine .inr ⟨xs,by rw[SR ro.inj C];exact g1,?_⟩;cases aqh:fr with
    |true=>exact DT.lr (lt aqh) g2
    |false=>exact⟨g2.1,λi x hx=>t.XX (ayh aqh n e t l J) (g2.2 i x hx)⟩
   .rw[amz j hh]at K;have F:∀n:Nat,rs[n]?≠some (some j):=λn C=>by rw[hb2 n j C]at K;cases K
    rw[hb1 j F]at K;refine .inl ⟨K,LQ hh,λad had=>?_⟩;have y:iF B A pb rw true j ad.block:=⟨_,ad,K,by simp,had,rfl⟩;refine agh _ (m.low _ _ _ y).1 λhL=>?_
    rcases L0s _ hL with⟨k,i',e1,Y⟩|⟨n,j',e1,Y⟩
    .have:=(m.inj _ _ _ _ _ y Y).1;cases this
    .have:=(m.inj _ _ _ _ _ y Y).2;subst this;exact F n e1)
  (λ_ j d K=>by
   by_cases hh:∃n:Nat,js[n]?=some j
   .have⟨n,C⟩:=hh;have hl:=(aC.1 C).1;rw[ro.len]at hl;have J:=ay hl;have:=ro.row n j _ C J;rw[K]at this;simp only[ak]at this;rw[<-this]at J;have⟨_,_,_,H⟩:=ro.own n _ J;cases H
   .rw[amz j hh]at K;have F:∀n:Nat,rs[n]?≠some (some j):=λn C=>by rw[hb2 n j C]at K;cases K
    rw[hb1 j F]at K;refine .inl ⟨K,LQ hh,λad had=>?_⟩;have y:iF B A pb rw true j ad.block:=⟨_,ad,K,by simp,had,rfl⟩;refine agh _ (m.low _ _ _ y).1 λhL=>?_
    rcases L0s _ hL with⟨k,i',e1,Y⟩|⟨n,j',e1,Y⟩
    .have:=(m.inj _ _ _ _ _ y Y).1;cases this
    .have:=(m.inj _ _ _ _ _ y Y).2;subst this;exact F n e1)
 exact⟨M,S,X,tr⟩
end
end Go.Vc






namespace Go.Vc
open Go Go.RowKit
mutual
theorem DV.Wh{f g}(h:∀j,(f j).isSome=(g j).isSome):(p:DV)->(acc:List Nat)->(∀j∈p.rows acc,f j=g j)->p.sub f=p.sub g/\∀j∈acc,f j=g j
 | .row i,acc,y=>by simp only[DV.rows]at y;exact⟨by unfold DV.sub;rw[y i (by simp)],λj G=>y j (by simp[G])⟩
 | .re i a b,acc,y=>by refine⟨?_,y⟩;unfold DV.sub;have:=h i;revert this;cases f i<;>cases g i<;>simp
 | .rt i a,acc,y=>by refine⟨?_,y⟩;unfold DV.sub;have:=h i;revert this;cases f i<;>cases g i<;>simp
 | .ra i,acc,y=>by refine⟨?_,y⟩;unfold DV.sub;have:=h i;revert this;cases f i<;>cases g i<;>simp
 | .rs i a,acc,y=>by refine⟨?_,y⟩;unfold DV.sub;have:=h i;revert this;cases f i<;>cases g i<;>simp
 | .fns cs,acc,y=>by simp only[DV.rows]at y;have⟨F,C⟩:=wF h cs acc y;exact⟨by simp only[DV.sub,F],C⟩
 | .fp cs _,acc,y=>by simp only[DV.rows]at y;have⟨F,C⟩:=wF h cs acc y;exact⟨by simp only[DV.sub,F],C⟩
 | .ob i,acc,y=>by simp only[DV.rows]at y;exact⟨by unfold DV.sub;rw[y i (by simp)],λj G=>y j (by simp[G])⟩
 | .fn _ cs,acc,y=>by simp only[DV.rows]at y;have⟨F,C⟩:=wF h cs acc y;exact⟨by simp only[DV.sub,F],C⟩
 | .agg cs,acc,y=>by simp only[DV.rows]at y;have⟨F,C⟩:=wF h cs acc y;exact⟨by simp only[DV.sub,F],C⟩
 | .HN cs,acc,y=>by simp only[DV.rows]at y;have⟨F,C⟩:=wF h cs acc y;exact⟨by simp only[DV.sub,F],C⟩
 | .int _ _,_,y | .bool _,_,y | .lit _,_,y | .str _,_,y | .v _,_,y | .NI,_,y | .sl _ _,_,y | .cs _ _,_,y | .set _,_,y | .el _ _ _,_,y | .own _ _,_,y | .ju,_,y=>⟨rfl,y⟩
theorem wF{f g}(h:∀j,(f j).isSome=(g j).isSome):(ps:List DV)->(acc:List Nat)->(∀j∈Ah ps acc,f j=g j)->zb f ps=zb g ps/\∀j∈acc,f j=g j
 |[],acc,y=>⟨rfl,y⟩
 |p::ps,acc,y=>by simp only[Ah]at y;have⟨H,G⟩:=DV.Wh h p _ y;have⟨F,C⟩:=wF h ps acc G;exact⟨by simp only[zb,H,F],C⟩
end
theorem Yj{rw}{j}{e}{t}{l}(h:rw[j]?=some (.own e t l)):sr rw j=some (.sl t l):=by unfold sr;rw[gM,h]
mutual
theorem PK.auk{β}{q}{rw}{f:Nat->Option DV}{E J:Env}(s:Sub f E J)(s0:Sub HH E J)(hs:∀j,(f j).isSome=(sr rw j).isSome):(p:PK)->(u:DV)->(acc:List Nat)->(K:DV->Option β)->(∀j∈p.frz u acc,f j=sr rw j)->p.view rw u K=some q->
 (∃R,K R=some q/\∀v,u.h E v->R.h J v)/\∀j∈acc,f j=sr rw j
 | .v t,u,acc,K,y,h=>by simp only[PK.view,DV.X4]at h;simp only[PK.frz]at y;have⟨F,C⟩:=DV.Wh hs u acc y;rw[<-F]at h;exact⟨⟨_,h,λv hv=>DV.alR s u hv⟩,C⟩
 | .row e t,u,acc,K,y,h=>⟨⟨u,by cases u<;>exact h,λv hv=>NU s0 hv⟩,by cases u<;>exact y⟩
 | .ptr k,u,acc,K,y,h=>⟨⟨u,by cases u<;>exact h,λv hv=>NU s0 hv⟩,by cases u<;>exact y⟩
 | .fn g l,u,acc,K,y,h=>by
  cases u with
  |fn W cs=>simp only[PK.view]at h;simp only[PK.frz]at y;have⟨⟨us,F,C,_⟩,G⟩:=LR s s0 hs l cs acc _ y h;refine⟨⟨_,F,λv hv=>?_⟩,G⟩;simp only[DV.h]at hv ⊢;obtain⟨vs,rfl,hv⟩:=hv;exact⟨vs,rfl,C _ hv⟩
  |_=>exact⟨⟨_,h,λv hv=>NU s0 hv⟩,y⟩
 | .agg l,u,acc,K,y,h=>by
  cases u with
  |agg cs=>simp only[PK.view]at h;simp only[PK.frz]at y;have⟨⟨us,F,C,_⟩,G⟩:=LR s s0 hs l cs acc _ y h;refine⟨⟨_,F,λv hv=>?_⟩,G⟩;simp only[DV.h]at hv ⊢;obtain⟨vs,rfl,hv⟩:=hv;exact⟨vs,rfl,C _ hv⟩
  |_=>exact⟨⟨_,h,λv hv=>NU s0 hv⟩,y⟩
 | .fns l,u,acc,K,y,h=>by
  cases u with
  |fns cs=>simp only[PK.view]at h;simp only[PK.frz]at y;have⟨⟨us,F,C,H⟩,G⟩:=LR s s0 hs l cs acc _ y h;refine⟨⟨_,F,λv hv=>?_⟩,G⟩;simp only[DV.h]at hv ⊢;obtain⟨ad,vs,c,rfl,hv,k⟩:=hv;exact⟨ad,vs,c,by rw[H],C _ hv,k.mono s0.Fs⟩
  |_=>exact⟨⟨_,h,λv hv=>NU s0 hv⟩,y⟩
 | .nil n,u,acc,K,y,h=>⟨⟨u,by cases u<;>exact h,λv hv=>NU s0 hv⟩,by cases u<;>exact y⟩
theorem LR{β}{q}{rw}{f:Nat->Option DV}{E F:Env}(s:Sub f E F)(s0:Sub HH E F)(hs:∀j,(f j).isSome=(sr rw j).isSome):(l:List PK)->(us:List DV)->(acc:List Nat)->(K:List DV->Option β)->(∀j∈XZ l us acc,f j=sr rw j)->LD rw l us K=some q->
 (∃us',K us'=some q/\(∀vs,hL E us vs->hL F us' vs)/\us'.length=us.length)/\∀j∈acc,f j=sr rw j
 |[],us,acc,K,y,h=>⟨⟨us,h,λv hv=>nc s0 hv,rfl⟩,y⟩
 |p::l,[],acc,K,y,h=>⟨⟨[],h,λv hv=>nc s0 hv,rfl⟩,y⟩
 |p::l,u::us,acc,K,y,h=>by simp only[LD]at h;simp only[XZ]at y;have⟨⟨u',W,R⟩,J⟩:=PK.auk s s0 hs p u _ _ y h;have⟨⟨us',g1,g2,X⟩,Y⟩:=LR s s0 hs l us acc _ J W;refine⟨⟨_,g1,λvs hv=>?_,by simp only[aJ,X]⟩,Y⟩;simp only[hL]at hv ⊢;obtain⟨v,C,rfl,H,G⟩:=hv;exact⟨v,C,rfl,R v H,g2 C G⟩
end
theorem Yk:∀{am:List (Nat×Nat)} {k i:Nat},Fo am k=some i->(k,i)∈am
 |[],k,i,h=>by simp[Fo]at h
 |(j,y)::am,k,i,h=>by
  simp only[Fo]at h;split at h
  .rename_i hb;simp only[ak]at h;subst h;rw[aE hb];simp
  .exact cH _ (Yk h)
theorem QN : ∀ {am : List (Nat × Nat)}, Gx (PW am) = true -> ∀ {k k' i : Nat}, Fo am k = some i -> Fo am k' = some i -> k = k'
  | [], _, k, k', i, h, _ => by simp [Fo] at h
  | (k0, i0) :: am, hn, k, k', i, h, h' => by
    simp only [PW, Gx, aD, jy] at hn
    have hni : ∀ k, (k, i0) ∉ am := λk hm => by
      have : i0 ∈ PW am := by
        clear h h' hn
        induction am with
        | nil => cases hm
        | cons p am ih => rcases aG.1 hm with rfl | hm
                          · simp [PW]
                          · simp [PW, ih hm]
      rw [<- uE] at this; rw [hn.1] at this; cases this
    simp only [Fo] at h h'
    split at h
    · rename_i hb
      simp only [ak] at h; subst h
      split at h'
      · rename_i hb'; rw [<- aE hb, <- aE hb']
      · exact absurd (Yk h') (hni _)
    · split at h'
      · simp only [ak] at h'; subst h'; exact absurd (Yk h) (hni _)
      · exact QN hn.2 h h'
theorem LU:∀{am:List (Nat×Nat)} {n:Nat},NN am n=true->∀{k i:Nat},Fo am k=some i->k<n
 |[],_,_,k,i,h=>by simp[Fo]at h
 |(y,i0)::am,n,j,k,i,h=>by
  simp only[NN,aD]at j;simp only[Fo]at h;split at h
  .rename_i hb;rw[<-aE hb];exact bS j.1
  .exact LU j.2 h
theorem am0:∀{am:List (Nat×Nat)} {al:Nat->Bool},X0 al (PW am)=true->∀{k i:Nat},Fo am k=some i->al i=true
 |[],_,_,k,i,h=>by simp[Fo]at h
 |(y,i0)::am,al,j,k,i,h=>by
  simp only[PW,X0,aD]at j;simp only[Fo]at h;split at h
  .simp only[ak]at h;subst h;exact j.1
  .exact am0 j.2 h
theorem HW:∀{rs:List (Option Nat)} {j:Nat},j∈Fp rs↔∃n:Nat,rs[n]?=some (some j)
 |[],j=>by simp[Fp]
 |some i::rs,j=>by
  simp only[Fp,aG,HW (rs:=rs)];constructor
  .rintro(rfl|⟨n,y⟩)
   .exact⟨0,rfl⟩
   .exact⟨n+1,by simpa using y⟩
  .rintro⟨n,y⟩;cases n with
   |zero=>simp at y;exact .inl y.symm
   |succ n=>exact .inr ⟨n,by simpa using y⟩
 |none::rs,j=>by
  simp only[Fp,HW (rs:=rs)];constructor
  .rintro⟨n,y⟩;exact⟨n+1,by simpa using y⟩
  .rintro⟨n,y⟩;cases n with
   |zero=>simp at y
   |succ n=>exact⟨n,by simpa using y⟩
theorem agi{y}{j}:(O6 y j=none↔j∉y)/\∀p,O6 y j=some p->p=.ju:=by
 unfold O6;cases h:Ad j y with
 |true=>exact⟨by simp[(uE j y).1 h],λp C=>by simp at C;exact C.symm⟩
 |false=>
  have F:j∉y:=λhm=>by rw[(uE j y).2 hm]at h;cases h
  exact⟨⟨λ_=>F,λ_=>rfl⟩,λp C=>by cases C⟩
theorem am1:∀{l y:List Nat},apM l y=true->∀j∈l,j∉y
 |[],_,_=>by simp
 |n::l,y,h=>by
  simp only[apM,aD,jy]at h;intro j C;rcases aG.1 C with rfl|C
  .intro hm;rw[(uE _ _).2 hm]at h;cases h.1
  .exact am1 h.2 j C
section
variable {P : Program} {V : World} {U0 L : Nat -> Prop} {al : Nat -> Bool} {B : Nat -> Nat} {A : yu} {ts : List DV} {pb : hZ} {rw : List DR} {a : Act} {w : World} {β : Type} {q : β} {o : Oper} {K : DK β} {Q : Exit -> Act -> World -> Prop}
theorem Yl{g}{args}{R:Value->World->Prop}{N:Act->World->Prop}(j:(execOp a.eval o).run P w=(callFunc g args).run P w)(y:oM P g args w R)(C:∀v w',R v w'->N (a.put o.dst v) w'):o.wp P a w N Q:=by
 rcases y.ex with⟨hb,y⟩|⟨v,w',h1,G⟩
 .rw[hb.run]at j;simp only[Oper.wp,j,Oper.upon];refine y.mono λe w' ⟨v,F,hh⟩=>?_
  subst F;exact C v w' hh
 .rw[h1]at j;exact eN j (C v w' G)
theorem ad3{c}{f}{g}{j}(ho:o.op=.call c)(C:c.callee=.value f)(y:a.eval f=.func (.func g) j #[]):
 (execOp a.eval o).run P w=(callFunc g (j++c.args.map a.eval)).run P w:=by
 simp only[execOp,ho,resolve,C,y,Deferred.ofValue,aR,bI,br,invoke,Array.append_empty]
theorem Ym{c}{f}{g}{j}(ho:o.op=.call c)(C:c.callee=.value f)(y:a.eval f=.func (.func g) #[] j):
 (execOp a.eval o).run P w=(callFunc g (c.args.map a.eval++j)).run P w:=by
 simp only[execOp,ho,resolve,C,y,Deferred.ofValue,aR,bI,br,invoke,Array.empty_append]
theorem aw5{g}(h:Nat.ble 1000000 g=true)(vs):fnV g vs=.func (.func (g-1000000)) vs #[]:=by unfold fnV;rw[h,o4]
theorem arU{g}(h:Nat.ble 1000000 g=false)(vs):fnV g vs=.func (.func g) #[] vs:=by unfold fnV;rw[h,pE]
theorem RO.nil(rw):RO rw [] [] rw []:=⟨rfl,λn j r h=>by simp at h,λn y j h=>by simp at h,λa j h=>by simp at h,λa b j h=>by simp at h,λ_ _=>rfl,λn j h=>by simp at h,λn r h=>by simp at h⟩
theorem am2{g}{s}{xs}{vs}(fr:Bool)(bor:Nat->Prop)(hs:alk P g s)(h:esF aj s xs ts pb rw (λr ts pb rw=>jq o.dst r ts pb rw K)=some q)(m:Mem V U0 L B A pb rw w)(IN:hL (env U0 B A pb rw w) ts a.tmps.toList)
 (Y:hL ⟨lU (Us U0 B A pb rw) B A rw (λ_=>False) bor,w,B,A,pb,rw⟩ xs vs) (hfr:fr=true->∀j,¬bor j) (C:fr=false->s.Q.free=true) (J:(execOp a.eval o).run P w=(callFunc g vs.toArray).run P w):o.wp P a w (oq V U0 L al B A pb rw w a K q) Q:=by
 unfold esF at h;split at h
 .rename_i x hx;have⟨y,hy,h⟩:=adw h
  have R:Ow (lB B λ_=>none) (lA A []) [] []=λ_=>False:=by
   funext b;refine propext ⟨?_,False.elim⟩;rintro⟨k,i,hb⟩;cases k with
   |true=>have⟨r,ad,W,_⟩:=hb;simp at W
   |false=>have⟨⟨b0,W⟩,_⟩:=hb;simp at W
  have⟨m0,hU,hr1,hb1⟩:=m.auh (σ:=λ_=>none) (rs:=[]) (bor:=bor) (pb0:=[]) (rw0:=[]) (λk b0 h=>by simp at h) (λk b0 i b h=>by simp at h) (λk k' i h=>by cases h) (λn r h=>by simp at h) (λn n' j h=>by simp at h)
  have G:hL (env (lU (Us U0 B A pb rw) B A rw (Ow (lB B λ_=>none) (lA A []) [] []) bor) (lB B λ_=>none) (lA A []) [] [] w) (yL s.P x) vs:=by
   refine as7 (E:=⟨lU (Us U0 B A pb rw) B A rw (λ_=>False) bor,w,B,A,pb,rw⟩) (E0:=env (lU (Us U0 B A pb rw) B A rw (Ow (lB B λ_=>none) (lA A []) [] []) bor) (lB B λ_=>none) (lA A []) [] [] w) ⟨λ_ _ _=>rfl,au _,λb _ H=>?_⟩ hx Y;rcases H with H|H
   .rw[R]at H;exact H
   .have:Ow (lB B λ_=>none) (lA A []) [] [] b:=H;rw[R]at this;exact this.elim
  refine Yl J (hs x y hy _ _ _ vs w m0 G) ?_;rintro v w' ⟨B1,A1,r,Al,FT,m1,hrv,hlv,rfl,F⟩;have⟨d,ρ',rwC,js,W,h2,_,h3⟩:=QT.o_s s.Q y [] rw _ [] [] h (RO.nil rw);rw[<-F]at h2 h3;have⟨M,S,X,tr⟩:=Mem.back (al:=al) (σ:=λ_=>none) (pbF:=pb) (base:=rw) HH fr m hr1 hb1 (λk i h=>by cases h) m1 hlv (λk k' i h=>by cases h) (λk i _ h=>by cases h) (λk i h=>by cases h) (λk i _ h=>by cases h) (λi b' hi=>.inr ⟨λk h=>(by cases h),λk h=>(by cases h),b',hi,by rw[oy]⟩) (λi h=>h) (λk i h=>by cases h) h2 (λ_ _=>rfl) (λn j h=>by simp at h) (λj _ n h=>by simp at h) (λj p h=>by cases h) hfr (λk b h=>by simp at h) (λhf=>by have:=(QT.Jx s.Q y [] (C hf) λn e t l h=>by simp at h).2;rw[<-F]at this;exact this);refine oq.ret W M (nc S IN) ?_ X;rw[h3 js (HT.refl _)];refine DV.amu tr r ?_ hrv;cases hf:fr with
  |true=>exact DV.SQ r
  |false=>have:=(QT.Jx s.Q y [] (C hf) λn e t l h=>by simp at h).1;rw[<-F]at this;exact this
 .cases h
end
end Go.Vc






namespace Go.Vc
open Go Go.RowKit
theorem aaw:∀{l l':List BK},al8 l l'=true->l.length<=l'.length
 |[],_,_=>bE _
 |_::_,[],h=>by simp[al8]at h
 |_::l,_::l',h=>by simp only[al8,aD]at h;have:=aaw h.2;simp;exact this
theorem Yn:∀(l:List BK) (r:DT) (z:(Fk l r).den) (rw:List DR) (k:Nat),k<l.length->live (yM l r z rw).1 k
 |[],_,_,_,k,h=>by simp at h
 |j::l,r,z,rw,k,h=>by
  cases k with
  |zero=>exact⟨_,rfl⟩
  |succ k=>exact Yn l r _ _ k (by simpa using h)
section
variable {P : Program} {T : List TI} {V : World} {U0 L : Nat -> Prop} {al : Nat -> Bool} {B : Nat -> Nat} {A : yu} {ts : List DV} {pb : hZ} {rw : List DR} {a : Act} {w : World} {β : Type} {q : β} {o : Oper} {K : DK β} {Q : Exit -> Act -> World -> Prop} {C : FR} {av : List (Nat × Nat)}
theorem aax{g}{s}{am}{vw}{xs:List DV}{vs:List Value}(fr:Bool)(hs:acW P g s)(h:afM aj s al am vw xs ts pb rw (λr ts pb rw=>jq o.dst r ts pb rw K)=some q)(m:Mem V U0 L B A pb rw w)(IN:hL (env U0 B A pb rw w) ts a.tmps.toList)
 (κ:∀(bor:Nat->Prop),(fr=true->∀j,¬bor j)->(fr=false->∀j∈vw,bor j)->hL ⟨λb=>Us U0 B A pb rw b/\¬ ∃j,bor j/\iF B A [] rw true j b,w,B,A,pb,rw⟩ xs vs) (as9:fr=false->s.Q.free=true/\Sp s.E=true)
 (hrun:(execOp a.eval o).run P w=(callFunc g vs.toArray).run P w):o.wp P a w (oq V U0 L al B A pb rw w a K q) Q:=by
 unfold afM at h;split at h
 .rename_i z ms hck hX;simp only[aD]at hck;have⟨⟨⟨hnd,hall⟩,hty⟩,hkl⟩:=hck;split at h
  .rename_i ayj;simp only[l9,uI]at h;have⟨y,hy,h⟩:=adw h
   let bor:Nat->Prop:=λj=>fr=false/\∀n:Nat,ms.rs[n]?≠some (some j)
   have hb1:fr=true->∀j,¬bor j:=λhf j ⟨h,_⟩=>by rw[hf]at h;cases h
   have hb2:fr=false->∀j∈vw,bor j:=λhf j hj=>⟨hf,λn W=>am1 ayj j hj (HW.2 ⟨n,W⟩)⟩
   have κ:=κ bor hb1 hb2
   let E:Env:=⟨λb=>Us U0 B A pb rw b/\¬ ∃j,bor j/\iF B A [] rw true j b,w,B,A,pb,rw⟩
   have hlE:kW (Us U0 B A pb rw) E.U w w:=⟨λ_ _ _=>rfl,au _,λb _ hu=>hu.1⟩;have hsE:Sub HH (env U0 B A pb rw w) E:=⟨hlE,λi h=>⟨h,rfl⟩,λj e t l _ h=>⟨l,h,rfl,rfl⟩,λj d _ h=>⟨⟨d,h,rfl⟩,rfl⟩,λj p e t l h=>(by cases h),λj p d ad h=>(by cases h)⟩;have⟨z0,m1,FT,g1,g2,g3,⟨a1,g4⟩,⟨b1,g5⟩,g6,g7,g8⟩:=amv (am:=am) (E:=E) s.B 0 (IJ s.P .unit) ⟨[],rw⟩ _ [] z ms hX (MI.nil E);have⟨u0,R,rw2,k1,k2,k3,⟨a2,k4⟩,⟨b2,k5⟩,k6⟩:=SP (am:=am) (E:=E) s.P .unit xs m1 _ FT z0 ms g1 g3;simp only[ak,bX]at k1;obtain⟨_,rfl⟩:=k1;have e1:yM s.B (IJ s.P .unit) z []=((yM s.B (IJ s.P .unit) z []).1,z0,FT):=by rw[<-g2]
   have e2:Gy s.P .unit z0 FT=((Gy s.P .unit z0 FT).1,u0,rw2):=by rw[<-k2]
   generalize ayk:(yM s.B (IJ s.P .unit) z []).1=pb0 at e1 g6 g7 g8;generalize ayl:(Gy s.P .unit z0 FT).1=ay8 at e2 k6;have aul:=hs z y hy;rw[e1]at aul;simp only[e2]at aul;have hr:=k3.row;have amy:∀k,k<s.B.length->∃i,Fo am k=some i/\live pb i:=λk F=>by have⟨b0,hb0⟩:=g8 k F;have⟨i,b,h1,h2,_⟩:=g7 k b0 hb0;exact⟨i,by simpa using h1,b,h2⟩
   have aw6:∀k,live pb0 k->k<s.B.length:=λk ⟨b,hb⟩=>by rw[<-g6];exact(aC.1 hb).1
   let σ0:Nat->Option Nat:=λk=>match Nat.blt k s.B.length with|true=>Fo am k|false=>none
   have H:∀k i,σ0 k=some i->k<s.B.length/\Fo am k=some i:=λk i h=>by
    simp only[σ0]at h;split at h
    .rename_i hb;exact⟨bS hb,h⟩
    .cases h
   have σ0e:∀k,k<s.B.length->σ0 k=Fo am k:=λk F=>by simp only[σ0];rw[show Nat.blt k s.B.length=true from gJ F]
   have tri:TrI am R.rs E (env (lU (Us U0 B A pb rw) B A rw (Ow (lB B σ0) (lA A R.rs) pb0 rw2) bor) (lB B σ0) (lA A R.rs) pb0 rw2 w):=by
    refine⟨⟨λ_ _ _=>rfl,au _,λb _ hu=>?_⟩,λk i F hl=>?_,λn j e t l W hj=>?_,λn W=>?_⟩
    .rcases hu with hu|⟨k,i,hu⟩
     .exact⟨hu.1,hu.2.2⟩
     .cases k with
      |true=>
       have⟨r,ad,h1,h2,h3,h4⟩:=hu;rcases hr i r h1 with⟨j,e,t,l,c1,c2,c3⟩|⟨c1,_⟩
       .have Qm:iF B A pb rw true j b:=⟨r,ad,c2,h2,by simpa only[lA,c1]using h3,h4⟩;refine⟨.inr ⟨_,_,Qm⟩,?_⟩;rintro⟨j',hj',hb'⟩;have:=(m.inj _ _ _ _ _ Qm (show iF B A pb rw true j' b from hb')).2;subst this;exact hj'.2 i c1
       .simp only[lA,c1]at h3;cases h3
      |false=>have⟨⟨b0,h1⟩,h2⟩:=hu;have F:=aw6 i ⟨b0,h1⟩;have⟨i',b',c1,c2,_⟩:=g7 i b0 h1;rw[cg]at c1;have Qm:iF B A pb rw false i' b:=⟨⟨b',c2⟩,by simpa only[lB,σ0e i F,c1,gE]using h2⟩;refine⟨.inr ⟨_,_,Qm⟩,?_⟩;rintro⟨j',hj',hb'⟩;have:=(m.inj _ _ _ _ _ Qm (show iF B A pb rw true j' b from hb')).1;cases this
    .have hkB:=LU hkl F;have⟨b0,hb0⟩:=g8 k hkB;refine⟨⟨b0,hb0⟩,?_⟩;show lB B σ0 k=B i;simp only[lB,σ0e k hkB,F,gE]
    .obtain⟨n',hn'⟩:∃r,rw2[n]?=some r:=⟨_,ay (by rw[<-k3.len];exact(aC.1 W).1)⟩;rcases hr n n' hn' with⟨j',e',t',l',c1,c2,c3⟩|⟨c1,_⟩
     .rw[W]at c1;simp only[ak]at c1;subst c1;have hj:=hj;rw[hj]at c2;simp only[ak]at c2;refine⟨by rw[c2];exact hn',?_⟩;show lA A R.rs n=A j;simp only[lA,W]
     .rw[W]at c1;cases c1
    .obtain⟨n',hn'⟩:∃r,rw2[n]?=some r:=⟨_,ay (by rw[<-k3.len];exact(aC.1 W).1)⟩;rcases hr n n' hn' with⟨j',e',t',l',c1,c2,c3⟩|⟨_,e,t,c1⟩
     .rw[W]at c1;cases c1
     .refine⟨⟨e,t,by rw[<-c1];exact hn'⟩,?_⟩;show lA A R.rs n=(none,0);simp only[lA,W]
   have hbw:∀(k:Nat) (b0:DB),pb0[k]?=some (some b0)->∃i b,σ0 k=some i/\pb[i]?=some (some b)/\b0.ty=b.ty/\b0.w=true:=λk b0 h=>by have⟨i,b,h1,h2,h3,h4,_⟩:=g7 k b0 h;rw[cg]at h1;exact⟨i,b,by rw[σ0e k (aw6 k ⟨b0,h⟩)];exact h1,h2,h3,h4⟩
   have⟨m0,hU,hr1,aym⟩:=m.auh (σ:=σ0) (rs:=R.rs) (bor:=bor) (pb0:=pb0) (rw0:=rw2) hbw
    (λk b0 i b h1 h2 h3 us hu=>by have⟨i',b',c1,c2,_,_,c5⟩:=g7 k b0 h1;rw[cg]at c1;rw[(H k i h2).2]at c1;simp only[ak]at c1;subst c1;have c2:=c2;rw[h3]at c2;simp only[ak]at c2;subst c2;exact c5 _ ⟨a2,k4⟩ tri us (nc hsE hu))
    (λk k' i h h'=>QN hnd (H k i h).2 (H k' i h').2) (λn r h=>hr n r h) k3.inj
   refine Yl hrun (aul _ _ _ vs w m0 (k6 _ vs ⟨[],by simp⟩ tri κ)) ?_;rintro v w' ⟨B1,A1,r,Al,ayG,m1',hrv,hlv,J,hmk⟩;have hm:=hty;have hEl:=aaw hty
   let σ:=al9 am s.B.length (oe (O6 (Fp R.rs)) pb).length
   have aum:∀k i,k<s.B.length->Fo am k=some i->i<pb.length:=λk i F hi=>by have⟨i',h1,b,hb⟩:=amy k F;rw[hi]at h1;simp only[ak]at h1;subst h1;exact(aC.1 hb).1
   have Y:∀k,k<s.B.length->σ k=Fo am k:=λk F=>by simp only[σ,al9];rw[show Nat.blt k s.B.length=true from gJ F]
   have σhi:∀k,s.B.length<=k->σ k=some (pb.length+(k-s.B.length)):=λk F=>by
    simp only[σ,al9]
    rw[show Nat.blt k s.B.length=false from by
     cases hb:Nat.blt k s.B.length with
     |false=>rfl
     |true=>have:=bS hb;omega]
    simp only[zv]
   have hσ:∀(k k' i:Nat),σ k=some i->σ k'=some i->k=k':=λk k' i h h'=>by
    rcases dI k s.B.length with F|F
    .rw[Y k F]at h;have h3:=aum k i F h;rcases dI k' s.B.length with G|G
     .rw[Y k' G]at h';exact QN hnd h h'
     .rw[σhi k' G]at h';simp only[ak]at h';omega
    .rw[σhi k F]at h;simp only[ak]at h;rcases dI k' s.B.length with G|G
     .rw[Y k' G]at h';have:=aum k' i G h';omega
     .rw[σhi k' G]at h';simp only[ak]at h';omega
   have ro0:RO R.rw [] R.rs R.rw []:=⟨rfl,λn j r h=>(by simp at h),λn n' j h=>(by simp at h),λa j h=>⟨k3.gone a j h,k3.gone a j h,λn h=>(by simp at h)⟩,λa b j h h'=>k3.inj a b j h h',λ_ _=>rfl,λn j h=>(by simp at h),λn r h=>(by simp at h)⟩;have⟨ρ1,pbF,ayn,js1,f1,f2,f3,f4,f5,f6,f7,f8⟩:=amx (σ:=σ) (base:=R.rw) hσ s.E 0 .unit y.2 R.rs _ R.rw _ [] [] h ro0 (λk i F hi=>by rw[zv];exact aum k i F (by rw[<-Y k F];exact hi)) (λk F _=>by rw[σhi k F,zv,Nat.zero_max]);have⟨d,ρ2,rwF,js,q1,q2,q3,q4⟩:=QT.o_s s.Q y.1 ρ1 ayn _ _ js1 f1 f2;rw[<-hmk]at q2 q4;have aw7:fr=false->(∀(k:Nat) b,(yM s.E .unit y.2 []).1[k]?=some (some b)->Dp false b.cells=true)/\rU (yM s.E .unit y.2 []).2.2:=λhf=>agd s.E .unit y.2 [] (as9 hf).2 (λn e t l h=>(by simp at h))
   have aw8:fr=false->(s.Q.mk y.1 (yM s.E .unit y.2 []).2.2).1.SO false=true/\rU (s.Q.mk y.1 (yM s.E .unit y.2 []).2.2).2:=λhf=>QT.Jx s.Q y.1 _ (as9 hf).1 (aw7 hf).2
   have pbl:∀i,live (oe (O6 (Fp R.rs)) pb) i↔live pb i:=λi=>nZ
   have ltl:∀{pb:hZ} {i:Nat},live pb i->i<pb.length:=λ⟨b,hb⟩=>(aC.1 hb).1
   have⟨M,S,X,tr⟩:=Mem.back (al:=al) (σ:=σ) (pbF:=pbF) (base:=R.rw) (O6 (Fp R.rs)) fr m hr1 aym (λk i h=>am0 hall (H k i h).2) m1' hlv hσ (λk i _ h=>by rw[Y k (H k i h).1];exact(H k i h).2)
    (λk i h=>g8 k (H k i h).1)
    (λk i hl F=>by
     rcases dI k s.B.length with G|G
     .exact .inl (by rw[σ0e k G,<-Y k G];exact F)
     .refine .inr λhl'=>?_
      rw[σhi k G]at F;simp only[ak]at F;have:=ltl hl';omega)
    (λi b' hi=>by
     have aw9:(∃k b1,σ k=some i/\Al[k]?=some (some b1))\/¬ ∃k b1,σ k=some i/\Al[k]?=some (some b1):=E9 _;rcases aw9 with⟨k,b1,c1,c2⟩|hno
     .rw[J]at c2;have:=f5 k b1 i c2 (by rw[cg];exact c1) js q3;rw[hi]at this;simp only[ak]at this;subst this;exact .inl ⟨k,b1,c1,by rw[J];exact c2,rfl,rfl,rfl⟩
     .have aun:∀k,σ k=some i->¬live Al k:=λk F ⟨b1,hb1⟩=>hno ⟨k,b1,F,hb1⟩
      have awA:∀k,k<s.B.length->σ k≠some i:=λk F hki=>by refine aun k hki ?_;rw[J];exact Yn s.E .unit y.2 [] k (by omega)
      refine .inr ⟨aun,λk F=>awA k (H k i F).1 (by rw[Y k (H k i F).1];exact(H k i F).2),?_⟩;have hil:=(aC.1 hi).1;rcases f6 i hil with h'|⟨k,c1,c2,c3⟩
      .rw[f4 i h' λk _ F=>awA k F]at hi;exact th.1 hi
      .rw[cg]at c3;exact absurd (by rw[J];exact Yn s.E .unit y.2 [] k c1) (aun k c3))
    (λi hl=>f7 i (by rw[zv];exact ltl hl) ((pbl i).2 hl))
    (λk i F hl=>by have⟨b1,hb1⟩:=hl;rw[J]at hb1;exact⟨_,f5 k b1 i hb1 (by rw[cg];exact F) js q3⟩)
    q2 (λj W=>k3.left j W) (λn j W=>k3.gone n j W)
    (λj hj n W=>(agi.1.1 hj) (HW.2 ⟨n,W⟩)) (λj p hp=>agi.2 p hp) hb1
    (λk b hb=>by
     cases hf:fr with
     |true=>exact zw _
     |false=>rw[J]at hb;exact(aw7 hf).1 k b hb)
    (λhf=>by have:=(aw8 hf).2;rw[<-hmk]at this;exact this)
   refine oq.ret q1 M (kj S _ IN) ?_ X;rw[q4 js (HT.refl _)];refine DV.amu tr r ?_ hrv;cases hf:fr with
   |true=>exact DV.SQ r
   |false=>have:=(aw8 hf).1;rw[<-hmk]at this;exact this
  .cases h
 .cases h
end
end Go.Vc
namespace Go.Vc
open Go Go.RowKit
mutual
theorem PK.aqi(rw):(p:PK)->(u:DV)->∃j,∀{β:Type} (K:DV->Option β),p.view rw u K=K j
 | .v t,u=>⟨u.sub (sr rw),λK=>by simp only[PK.view,DV.X4]⟩
 | .row e t,u=>⟨u,λK=>by cases u<;>rfl⟩
 | .ptr k,u=>⟨u,λK=>by cases u<;>rfl⟩
 | .fn g l,u=>by
  cases u with
  |fn y cs=>have⟨us,h⟩:=GA rw l cs;exact⟨.fn y us,λK=>by simp only[PK.view];rw[h]⟩
  |_=>exact⟨_,λK=>rfl⟩
 | .agg l,u=>by
  cases u with
  |agg cs=>have⟨us,h⟩:=GA rw l cs;exact⟨.agg us,λK=>by simp only[PK.view];rw[h]⟩
  |_=>exact⟨_,λK=>rfl⟩
 | .fns l,u=>by
  cases u with
  |fns cs=>have⟨us,h⟩:=GA rw l cs;exact⟨.fns us,λK=>by simp only[PK.view];rw[h]⟩
  |_=>exact⟨_,λK=>rfl⟩
 | .nil n,u=>⟨u,λK=>by cases u<;>rfl⟩
theorem GA(rw):(l:List PK)->(us:List DV)->∃us',∀{β:Type} (K:List DV->Option β),LD rw l us K=K us'
 |[],us=>⟨us,λK=>rfl⟩
 |_::_,[]=>⟨[],λK=>rfl⟩
 |p::l,u::us=>by have⟨j,F⟩:=PK.aqi rw p u;have⟨us',y⟩:=GA rw l us;exact⟨j::us',λK=>by simp only[LD];rw[F,y]⟩
end
section
variable {P : Program} {T : List TI} {V : World} {U0 L : Nat -> Prop} {al : Nat -> Bool} {B : Nat -> Nat} {A : yu} {ts : List DV} {pb : hZ} {rw : List DR} {a : Act} {w : World} {β : Type} {q : β} {o : Oper} {K : DK β} {Q : Exit -> Act -> World -> Prop} {C : FR} {av : List (Nat × Nat)}
def OD.aqj:OD->Option (List KU)
 | .set ks=>some ks
 |_=>none
theorem Mem.asA(m:Mem V U0 L B A pb rw w){U' h:Nat->Prop}(W:∀b,U' b->Us U0 B A pb rw b)(R:∀j,¬h j->∀b,U' b->¬iF B A pb rw true j b)(f:Nat->Option DV)(H:∀j,(h j/\f j=(sr rw j).map λ_=>.ju)\/(¬h j/\f j=sr rw j)):
 Sub f (env U0 B A pb rw w) ⟨U',w,B,A,pb,rw⟩:=by
 have G:∀j,f j=none->sr rw j=none:=λj F=>by
  rcases H j with⟨_,h⟩|⟨_,h⟩
  .rw[F]at h;simpa using h.symm
  .rw[<-h];exact F
 refine⟨⟨λ_ _ _=>rfl,au _,λb _ h=>W b h⟩,λi h=>⟨h,rfl⟩,λj e t l F y=>?_,λj d _ h=>⟨⟨d,h,rfl⟩,rfl⟩,λj p e t l F y=>?_,λj p d ad F y X=>?_⟩
 .have:=G j F;have y:rw[j]?=some (.own e t l):=y;rw[Yj y]at this;cases this
 .have y:rw[j]?=some (.own e t l):=y;rcases H j with⟨_,h⟩|⟨J,h⟩
  .rw[F,Yj y]at h;simp only[fy,ak]at h;subst h;simp only[DV.h]
  .rw[F,Yj y]at h;simp only[ak]at h;subst h;simp only[DV.h];exact m.afS y W (R j J)
 .have y:rw[j]?=some (.obj d):=y;have hv:sr rw j=match(OD.aqj d)with|some ks=>some (.set ks)|none=>none:=by unfold sr;rw[gM,y];cases d<;>rfl
  cases d with
  |set ks=>
   rcases H j with⟨_,h⟩|⟨J,h⟩
   .rw[F,hv]at h;simp only[OD.aqj,fy,ak]at h;subst h;simp only[DV.h]
   .rw[F,hv]at h;simp only[OD.aqj,ak]at h;subst h;simp only[DV.h];exact m.afT y X (R j J)
  |_=>rcases H j with⟨_,h⟩|⟨J,h⟩<;>(rw[F,hv]at h;simp[OD.aqj]at h)
theorem am3{g}{s}{xs}{vs:List Value}(hs:alt P g s)(h:alA aj s xs ts pb rw (λr ts pb rw=>jq o.dst r ts pb rw K)=some q)(m:Mem V U0 L B A pb rw w)(IN:hL (env U0 B A pb rw w) ts a.tmps.toList)(κ:hL (env U0 B A pb rw w) xs vs)
 (hrun:(execOp a.eval o).run P w=(callFunc g vs.toArray).run P w):o.wp P a w (oq V U0 L al B A pb rw w a K q) Q:=by
 unfold alA at h;split at h
 .rename_i j ys;split at h
  .rename_i e t l R;rw[gM]at R;split at h
   .rename_i hh z ms F as5 hX;split at h
    .rename_i hrs;subst hh;have⟨l',J,h⟩:=adw h;rw[km]at h;simp only[aD]at F;have⟨F,W⟩:=F;have he:=aE F;subst he;have J:=J;have⟨hlen,hc⟩:=hs l z l' J;simp only[hL,DV.h]at κ;obtain⟨v0,vs',rfl,⟨e1,t1,l1,y,rfl⟩,hys⟩:=κ;have y:rw[j]?=some (.own e1 t1 l1):=y;rw[R]at y;simp only[ak,DR.own.injEq]at y;obtain⟨rfl,rfl,hl1⟩:=y;cases hl1
     have⟨m0,hU,hr1,_⟩:=m.auh (σ:=λ_=>none) (rs:=[some j]) (bor:=λ_=>False) (pb0:=[]) (rw0:=[.own s.e s.t l]) (by simp) (by simp) (by simp)
      (λn r hr=>by
       cases n with
       |zero=>simp at hr;subst hr;exact .inl ⟨j,_,_,_,rfl,R,rfl⟩
       |succ n=>simp at hr)
      (λn n' k H Y=>by
       cases n with
       |zero=>cases n' with
        |zero=>rfl
        |succ n'=>simp at Y
       |succ n=>simp at H)
     have⟨z0,m1,FT,k1,_,_,_,_,k6⟩:=SP (am:=[]) (E:=env U0 B A pb rw w) s.P .unit ys ⟨[],rw⟩ _ [] z ms hX (MI.nil (env U0 B A pb rw w));have hA0:lA A [some j] 0=A j:=rfl
     have hLb:∀b,Ow (lB B λ_=>none) (lA A [some j]) [] [.own s.e s.t l] b->iF B A pb rw true j b:=by
      rintro b ⟨k,i,hb⟩;cases k with
      |false=>have⟨⟨_,hb⟩,_⟩:=hb;simp at hb
      |true=>
       have⟨j',H,Y⟩:=hr1 i b hb;cases i with
       |zero=>simp at H;subst H;exact Y
       |succ i=>simp at H
     refine Yl hrun (hc _ _ _ _ w m0 ?_) ?_
     .simp only[hL,DV.h];refine⟨_,_,rfl,⟨_,_,_,rfl,by show _=Value.slice (lA A [some j] 0).1 _ (lA A [some j] 0).2;rw[hA0];rfl⟩,k6 _ _ ?_ ?_ hys⟩
      .simp only[ak,bX]at k1;exact⟨[],by rw[k1.2,cz]⟩
      .refine⟨⟨λ_ _ _=>rfl,au _,λb _ hu=>hU b hu⟩,λk i hk=>(by simp[Fo]at hk),λn j' e t l hn=>(by rw[hrs]at hn;simp at hn),λn hn=>(by rw[hrs]at hn;simp at hn)⟩
     .rintro v w' ⟨rfl,X⟩;have hlt:=(aC.1 R).1
      have⟨m2,s2,e2⟩:=m.putRow (al:=al) (j:=j) (f:=HH) (rw':=rw.set j (.own s.e s.t l')) (e:=s.e) (t:=s.t) (l:=l') (a:=(A j).1) (c:=(A j).2) (w':=w')
       (by rw[bf,ah rfl,ah hlt]) (λk hk=>by rw[bf,ag (ga hk)]) (λ_ _ h=>by cases h)
       (λ_ e4 t4 l4 G=>by rw[R]at G;simp only[ak,DR.own.injEq]at G;obtain⟨rfl,rfl,G⟩:=G;cases G;exact⟨_,by rw[bf,ah rfl,ah hlt],hlen,rfl⟩)
       (λ_ d G=>by rw[R]at G;cases G) ⟨X.os,X.tape,X.output,X.size⟩
       (λb hb hnb=>X.same b hb λh=>hnb (hLb b h))
       (λx hx=>.inl ⟨_,x,R,by simp,hx,rfl⟩)
       (λU' lt=>by have⟨xs,H,Y⟩:=X.row 0 s.e s.t l' rfl;rw[hA0]at H;exact⟨xs,H,Y.1,λi x hi=>s.t.XX W (Y.2 i x hi)⟩)
      rw[show Ea A j ((A j).1,(A j).2)=A from Lr A j]at m2 s2 e2;rw[LF]at m2 s2 e2;exact oq.ret h m2 (nc s2 IN) (by simp only[DV.h,hL];exact⟨#[],rfl,rfl⟩) e2
    .cases h
   .cases h
  .cases h
 .cases h
theorem aay{g}{c:EC}{xs:List DV}{vs:List Value}(hc:alg P g c)(h:aai aj c al xs ts pb rw (λr ts pb rw=>jq o.dst r ts pb rw K)=some q)(m:Mem V U0 L B A pb rw w)(X:hL (env U0 B A pb rw w) ts a.tmps.toList)(W:hL (env U0 B A pb rw w) xs vs)
 (J:(execOp a.eval o).run P w=(callFunc g vs.toArray).run P w):o.wp P a w (oq V U0 L al B A pb rw w a K q) Q:=by
 unfold aai at h;split at h
 .rename_i s;exact am3 (show alt P g s from hc) h m X W J
 .rename_i s;have hs:=hc;split at h
  .rename_i G;rw[l9]at h;have sv:=m.asA (U':=lU (Us U0 B A pb rw) B A rw (λ_=>False) λ_=>True) (h:=λ_=>False) (λb h=>h.1) (λj _ b h hb=>h.2.2 ⟨j,trivial,hb⟩) (sr rw) (λj=>.inr ⟨id,rfl⟩);exact am2 false (λ_=>True) hs h m X (kj sv xs W) (λh=>by cases h) (λ_=>G) J
  .have⟨ts1,F,y,ps,h,m1,H,hps,e1,_⟩:=wE (al:=al) _ h m X W;have s1:Sub HH (env U0 B A F y w) ⟨lU (Us U0 B A F y) B A y (λ_=>False) λ_=>False,w,B,A,F,y⟩:=⟨⟨λ_ _ _=>rfl,au _,λb _ h=>h.1⟩,λi h=>⟨h,rfl⟩,λj e t l _ h=>⟨l,h,rfl,rfl⟩,λj d _ h=>⟨⟨d,h,rfl⟩,rfl⟩,λj p e t l h=>(by cases h),λj p d ad h=>(by cases h)⟩;have:=am2 (al:=al) (Q:=Q) true (λ_=>False) hs h m1 H (nc s1 hps) (λ_ j h=>h) (λh=>by cases h) J;exact Aj this λa' w' hn=>oq.more e1 rfl hn
 .rename_i s;have hs:=hc;dsimp only at h;split at h
  .rename_i G;simp only[aD]at G;have⟨ts1,F,y,xs1,h,m1,H,R,e1,_⟩:=wE (al:=al) _ h m X W;have⟨ys,hys⟩:=GA y s.P xs1;rw[hys]at h
   have:=aax (al:=al) (Q:=Q) false hs h m1 H (λbor _ hb=>by
    classical
    let f:Nat->Option DV:=λj=>if bor j then sr y j else(sr y j).map λ_=>.ju
    have sv:=m1.asA (U':=λb=>Us U0 B A F y b/\¬ ∃j,bor j/\iF B A [] y true j b) (h:=λj=>¬bor j) (λb h=>h.1) (λj hj b h Qm=>h.2 ⟨j,Classical.not_not.1 hj,Qm⟩) f (λj=>by
     by_cases Y:bor j
     .exact .inr ⟨Classical.not_not.2 Y,ah Y⟩
     .exact .inl ⟨Y,ag Y⟩)
    have s0:Sub HH (env U0 B A F y w) ⟨λb=>Us U0 B A F y b/\¬ ∃j,bor j/\iF B A [] y true j b,w,B,A,F,y⟩:=⟨⟨λ_ _ _=>rfl,au _,λb _ h=>h.1⟩,λi h=>⟨h,rfl⟩,λj e t l _ h=>⟨l,h,rfl,rfl⟩,λj d _ h=>⟨⟨d,h,rfl⟩,rfl⟩,λj p e t l h=>(by cases h),λj p d ad h=>(by cases h)⟩
    have⟨⟨us,h1,h2,_⟩,_⟩:=LR (q:=ys) sv s0 (λj=>by
     show(if bor j then sr y j else(sr y j).map λ_=>DV.ju).isSome=_;split
     .rfl
     .simp) s.P xs1 [] (λl=>some l) (λj hj=>ah (hb rfl j hj)) (hys some)
    simp only[ak]at h1;subst h1;exact h2 vs R) (λ_=>G) J
   exact Aj this λa' w' hn=>oq.more e1 rfl hn
  .have⟨ts1,F,y,xs1,h,m1,H,R,e1,_⟩:=wE (al:=al) _ h m X W;have:=aax (al:=al) (Q:=Q) true hs h m1 H (λbor hb _=>by have s1:Sub HH (env U0 B A F y w) ⟨λb=>Us U0 B A F y b/\¬ ∃j,bor j/\iF B A [] y true j b,w,B,A,F,y⟩:=⟨⟨λ_ _ _=>rfl,au _,λb _ h=>h.1⟩,λi h=>⟨h,rfl⟩,λj e t l _ h=>⟨l,h,rfl,rfl⟩,λj d _ h=>⟨⟨d,h,rfl⟩,rfl⟩,λj p e t l h=>(by cases h),λj p d ad h=>(by cases h)⟩;exact nc s1 R) (λh=>by cases h) J;exact Aj this λa' w' hn=>oq.more e1 rfl hn
theorem aaz{g}{xs}{vs:List Value}(F:hL (env U0 B A pb rw w) ts a.tmps.toList)(m:Mem V U0 L B A pb rw w)(y:hL (env U0 B A pb rw w) xs vs)(j:(execOp a.eval o).run P w=(callFunc g vs.toArray).run P w):
 ∀(l:List EC),(∀c∈l,alg P g c)->aaj aj al xs ts pb rw (λr ts pb rw=>jq o.dst r ts pb rw K) l=some q->o.wp P a w (oq V U0 L al B A pb rw w a K q) Q
 |[],_,h=>by cases h
 |c::l,hl,h=>by
  unfold aaj at h;split at h
  .exact aay (hl c (ec ..)) h m F y j
  .rename_i d l';have h:orF (aai aj c al xs ts pb rw λr ts pb rw=>jq o.dst r ts pb rw K) (aaj aj al xs ts pb rw (λr ts pb rw=>jq o.dst r ts pb rw K) (d::l'))=some q:=h;unfold orF at h;split at h
   .rename_i x G;simp only[ak]at h;subst h;exact aay (hl c (ec ..)) G m F y j
   .exact aaz F m y j (d::l') (λc H=>hl c (cH _ H)) h
theorem aa0{g}{xs}{vs:List Value}(H:Di P C)(h:alB aj C al g xs ts pb rw (λr ts pb rw=>jq o.dst r ts pb rw K)=some q)(m:Mem V U0 L B A pb rw w)(F:hL (env U0 B A pb rw w) ts a.tmps.toList)(y:hL (env U0 B A pb rw w) xs vs)
 (j:(execOp a.eval o).run P w=(callFunc g vs.toArray).run P w):o.wp P a w (oq V U0 L al B A pb rw w a K q) Q:=
 aaz F m y j _ (λ_ G=>ams H G) h
theorem aqk{c}(X:dD P T)(hC:Di P C)(ho:o.op=.call c)(h:qf aj T C al av o ts pb rw K=some q)(m:Mem V U0 L B A pb rw w)(y:hL (env U0 B A pb rw w) ts a.tmps.toList):o.wp P a w (oq V U0 L al B A pb rw w a K q) Q:=by
 cases j:c.callee with
 |value f=>
  have Y:=h;simp only[qf,ho,j]at h;split at h
  .rename_i g axL xs W R;have W:=gq W y;have R:=NS R y;simp only[DV.h]at W;have⟨cv,H,J⟩:=W;split at h
   .rename_i hb;refine aa0 hC h m y (adu J R) ?_;rw[ad3 ho j (H.trans (aw5 hb cv))];congr 2;apply fG;simp
   .rename_i hb;refine aa0 hC h m y (adu R J) ?_;rw[Ym ho j (H.trans (arU hb cv))];congr 2;apply fG;simp
  .cases h
 |invoke r s=>simp only[qf,ho,j]at h;cases h
 |builtin b=>
  have Y:=h;simp only[qf,ho,j]at h;split at h
  .rename_i xs F;have G:=NS F y;cases b with
   |append=>exact ait X ho j G Y F m y
   |clear=>exact amn X ho j G Y F m y
   |_=>exact SM (SJ X ho j rfl G h) m y Ext.refl
  .cases h
theorem aql(G:dD P T)(H:Di P C)(h:qf aj T C al av o ts pb rw K=some q)(m:Mem V U0 L B A pb rw w)(j:hL (env U0 B A pb rw w) ts a.tmps.toList):o.wp P a w (oq V U0 L al B A pb rw w a K q) Q:=by
 have F:=h;unfold qf at h;cases ho:o.op with
 |alloc t=>exact ami G ho F m j
 |box t x=>exact aue ho F m j
 |load t x=>exact aqc G ho F m j
 |store t x y=>exact ame G ho F m j
 |call c=>exact aqk G H ho F m j
 |buildSlice t l p=>exact Uz G ho F m j
 |slice t x lo hi J=>exact amj G ho F m j
 |makeSlice t l c=>exact Ye G ho F m j
 |index t x i=>exact amk G ho F m j
 |range t x=>exact amp G ho F m j
 |next x b=>exact aqf ho F m j
 |makeMap t r=>exact ad1 G ho F m j
 |mapUpdate t x y z=>exact Yh G ho F m j
 |entry x=>exact amr ho F m j
 |_=>rw[ho]at h;exact SM (Yc G ho j rfl m.afX h) m j Ext.refl
end
end Go.Vc





