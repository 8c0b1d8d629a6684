import Derived.Test.YthghpahghjppjaaGreatB2
namespace Go.Vc
open Go Go.RowKit
def eY(wr:List Nat)(a a':Act):Prop:=a'.tmps.size=a.tmps.size/\∀i,i∉wr->a'.tmps[i]?=a.tmps[i]?
theorem eY.refl(wr:List Nat)(a:Act):eY wr a a:=⟨rfl,λ_ _=>rfl⟩
theorem eY.trans{wr:List Nat}{a b c:Act}(h:eY wr a b)(k:eY wr b c):eY wr a c:=⟨k.1.trans h.1,λi hi=>(k.2 i hi).trans (h.2 i hi)⟩
theorem eY.mono{wr j:List Nat}{a b:Act}(h:eY wr a b)(hs:∀i∈wr,i∈j):eY j a b:=⟨h.1,λi hi=>h.2 i λhm=>hi (hs i hm)⟩
theorem eY.put(a:Act)(o:Oper)(v:Value):eY (alZ o) a (a.put o.dst v):=by
 unfold alZ;cases o.dst with
 |none=>exact eY.refl _ _
 |some d=>exact⟨by simp[Act.put],λi hi=>by simp only[ay]at hi;simp[Act.put,vX (hZ hi)]⟩
theorem amM{P:Program}{o:Oper}{a:Act}{w:World}{N:Act->World->Prop}{Q:Exit->Act->World->Prop}(j:o.wp P a w N Q):o.wp P a w (λa' w'=>N a' w'/\eY (alZ o) a a') Q:=by
 unfold Oper.wp at *;generalize (execOp a.eval o).run P w=r at *;cases r with
 |ok n w'=>
  cases n<;>simp only[Oper.upon]at j ⊢;case value v=>exact⟨j,eY.put a o v⟩
  case skip=>exact⟨j,eY.put a o _⟩
  case defer d=>exact⟨j,eY.put { a with defers:=d::a.defers } o undef⟩
  case enter f args=>
   refine j.mono λe F y=>?_
   cases e with
   |returned v=>exact⟨y,eY.put a o v⟩
   |panicked c=>exact y
   |outgrown=>exact y
  case row row args=>exact Rows.mono j λv F y=>⟨y,eY.put a o v⟩
 |halt x w'=>cases x<;>simp only[Oper.upon]at j ⊢;case panic u=>exact j
theorem aiz(ops)(j):Za ops j=(ops[j]?).bind (·.dst):=by
 induction ops generalizing j with
 |nil=>rfl
 |cons o ops y=>cases j<;>simp[Za,y]
section
variable {P : Program} {T : List TI} {V : World} {U0 L : Nat -> Prop} {al : Nat -> Bool} {B : Nat -> Nat} {A : yH} {ts : List DV} {pb : im} {rw : List DR} {a : Act} {w : World} {β : Type} [qT β] {q : β} {o : Oper} {K : DK β} {Q : Exit -> Act -> World -> Prop} {C : F9} {av : List (Nat × Nat)}
theorem agk{op}{t ty e2}{x y}{e neg}{W:TI}{j:Option Addr}{n c:Nat}(ho:o.op=.binOp op t x y ty)(hf:ou P t W)(H:W.td=.slice e2)(ev:a.eval x=.slice j n c)(X:a.eval y=.slice none 0 0)
 (R:e=false->j.isNone=false) (J:op=(if neg then BinOp.neq else BinOp.eql)) (h:(aj.qJ e λg=>jx o.dst (.bool (cX neg g)) ts pb rw K)=some q) (m:Mem V U0 L B A pb rw w) (G:hL (env U0 B A pb rw w) ts a.tmps.toList):o.wp P a w (oJ V U0 L al B A pb rw w a K q) Q:=by
 have F:=Tm (P:=P) neg x y j n c w (q8 hf H)
 have Y:jx o.dst (.bool (cX neg j.isNone)) ts pb rw K=some q:=by
  change aiq e (λg=>jx o.dst (.bool (cX neg g)) ts pb rw K)=some q at h;unfold aiq at h;rcases xV h with⟨_,h⟩|⟨he,h⟩
  .have:=JW h;cases j.isNone
   .exact this.2
   .exact this.1
  .rw[R he];exact h
 refine eX (v:=.bool (cX neg j.isNone)) ?_ (oJ.ret Y m G (by simp only[DV.h]) Ext.refl);simp only[execOp,ho,ev,X,J];rw[aR,F];simp
theorem TY(hT:dL P T)(hC:DD P C)(h:Ty aj T C al av o ts pb rw K=some q)(m:Mem V U0 L B A pb rw w)(G:hL (env U0 B A pb rw w) ts a.tmps.toList):o.wp P a w (oJ V U0 L al B A pb rw w a K q) Q:=by
 unfold Ty at h;split at h
 .rename_i e neg F;unfold awh at F;split at F
  .rename_i op t x y ty ho;split at F
   .rename_i d l ht R J;split at F
    .rename_i hd0;have⟨ti,hf,W⟩:=pw hT ht;have R:=gH R G;have J:=gH J G;have⟨aa,c,ev,_,_,hel⟩:=R;simp only[fj,pj]at ev
     have key:=λneg Y h=>agk (P:=P) (B:=B) (A:=A) (V:=V) (U0:=U0) (L:=L) (al:=al) (Q:=Q) (ts:=ts) (pb:=pb) (rw:=rw) (w:=w) (K:=K) (q:=q) (e:=l.isEmpty) (neg:=neg) (op:=op) ho hf W ev J (λhe=>by
      cases l with
      |nil=>simp at he
      |cons z l=>have⟨us,h1,h2⟩:=hel 0 z rfl;have hd:=bP hd0;have hul:=d.Av h1;obtain⟨ad,rfl,_⟩:=h2 0 _ (aw (by omega));rfl) Y h m G
     split at F
     .obtain⟨rfl,rfl⟩:=F;exact key false rfl h
     .obtain⟨rfl,rfl⟩:=F;exact key true rfl h
     .cases F
    .cases F
   .rename_i j ht R J;split at F
    .rename_i e' t' l X;rw[gX]at X;have⟨ti,hf,W⟩:=pw hT ht;have R:=gH R G;have J:=gH J G;have⟨e3,t3,l3,H,ev⟩:=R;have H:rw[j]?=some (.own e3 t3 l3):=H;rw[X]at H;simp only[ak,DR.own.injEq]at H;obtain⟨rfl,rfl,hl3⟩:=H;cases hl3
     have key:=λneg Y h=>agk (P:=P) (B:=B) (A:=A) (V:=V) (U0:=U0) (L:=L) (al:=al) (Q:=Q) (ts:=ts) (pb:=pb) (rw:=rw) (w:=w) (K:=K) (q:=q) (e:=l.isEmpty) (neg:=neg) (op:=op) ho hf W ev J (λhe=>by
      cases hA:((env U0 B A pb rw w).A j).1 with
      |some ad=>rfl
      |none=>
       have:=m.afY j e' t' l X hA;cases l with
       |nil=>simp at he
       |cons z l=>simp at this) Y h m G
     split at F
     .obtain⟨rfl,rfl⟩:=F;exact key false rfl h
     .obtain⟨rfl,rfl⟩:=F;exact key true rfl h
     .cases F
    .cases F
   .cases F
  .cases F
 .split at h
  .rename_i j ks dn hp;exact aqm hp h m G
  .exact aqr hT hC h m G
theorem amN{W:List Oper}(hT:dL P T)(hC:DD P C)(h:alY aj T C al av o W ts pb rw K=some q)(m:Mem V U0 L B A pb rw w)(G:hL (env U0 B A pb rw w) ts a.tmps.toList):o.wp P a w (oJ V U0 L al B A pb rw w a K q) Q:=by
 unfold alY at h;split at h
 .rename_i j i n y;unfold asv at y;split at y
  .split at y
   .rename_i t x lo ho;split at y
    .rename_i e J k X ht hx H;split at y
     .rename_i te e2 t' l Zk hj;rw[gX]at hj;split at y
      .rename_i R;simp only[ak,fc]at y;obtain⟨rfl,rfl,rfl⟩:=y;have R:=aF R;have⟨b1,b2,h⟩:=aml h;have⟨ti,hf,htd⟩:=pw hT ht;have hun:=q8 hf htd;have Zm:=sk hT Zk;have hx:=gH hx G;have H:=gH H G;have⟨e3,t3,l3,Y,ev⟩:=hx;have F:rw[J]?=some (.own e3 t3 l3):=Y;rw[hj]at F;simp only[ak,DR.own.injEq]at F;obtain⟨rfl,rfl,hl3⟩:=F;cases hl3;change a.eval x=Value.slice (A J).1 l.length (A J).2 at ev;refine eX (v:=.slice (if(A J).2=X.toNat then(A J).1 else(A J).1.map (·.add (X.toNat*t'.size))) (l.length-X.toNat) ((A J).2-X.toNat)) ?_ (oJ.ret h m G ?_ Ext.refl)
       .have hr:(execOp a.eval o).run P w=((Instr.sliceAt t (a.eval x) (some (a.eval lo)) none none).run P w).andThen λv w'=>.ok (.value v) w':=by simp only[execOp,ho,aR,bE,fS,lv]
        rw[hr,ev,H];simp only[Instr.sliceAt,Instr.slice,aR,bb hun,bq,Instr.sliceBounds,bE,pX,fv,pn,iu w k X _ .sliceB b1 b2,rJ Zm,R]
       .simp only[DV.h];exact⟨_,_,_,Y,by omega,rfl⟩
      .cases y
     .cases y
    .cases y
   .cases y
  .cases y
 .exact TY hT hC h m G
omit [qT β]in
theorem OG{ops:Array Oper}{E:Env}{j:Nat}{y:Bool}{X no:List DV->Option β}(h:TA aj ops.toList ts j y X no=some q)(F:hL E ts a.tmps.toList):
 ∃J,hL E J a.tmps.toList/\((yielded ops a.tmps j=some y/\X J=some q)\/(yielded ops a.tmps j≠some y/\no J=some q)):=by
 unfold TA at h;rw[aiz]at h;have Y:∀d,(ops[j]?).bind (·.dst)=some d->yielded ops a.tmps j=match a.tmps[d]? with|some (.bool b)=>some b|_=>none:=by intro d hd;unfold yielded;rw[hd];rfl
 split at h
 .cases h
 .rename_i d hd;have Y:=Y d (by simpa using hd)
  have get:∀(c:Bool),((a.tmps.toList[d]?).getD undef)=.bool c->yielded ops a.tmps j=some c/\a.tmps.toList.set d (.bool c)=a.tmps.toList:=by
   intro c W;cases R:a.tmps[d]? with
   |none=>simp only[du,R]at W;simp[undef]at W
   |some v=>
    simp only[du,R,fg]at W;subst W;refine⟨by rw[Y,R],?_⟩;apply eT;intro i;rw[bh];split
    .rename_i hdi;subst hdi;have:=(cy.1 R).1;simp[this];exact(cy.1 R).2.symm
    .rfl
  have keep:∀(c:Bool),((a.tmps.toList[d]?).getD undef)=.bool c->hL E (ts.set d (.lit c)) a.tmps.toList:=by
   intro c W;have:=Zb F d (p:=.lit c) (v:=.bool c) (by simp only[DV.h])
   rwa [(get c W).2]at this
  split at h
  .rename_i G;have hv:=Mp G F;have G:=(get true hv).1;cases y
   .exact⟨ts,F,.inr ⟨by rw[G];simp,h⟩⟩
   .exact⟨ts,F,.inl ⟨G,h⟩⟩
  .rename_i G;have hv:=Mp G F;have G:=(get false hv).1;cases y
   .exact⟨ts,F,.inl ⟨G,h⟩⟩
   .exact⟨ts,F,.inr ⟨by rw[G];simp,h⟩⟩
  .rename_i b G;have hv:=Mp G F;have H:=(get b hv).1;simp only[kF]at h;rcases amm h with⟨rfl,h⟩|⟨rfl,h⟩
   .cases y
    .exact⟨_,keep true hv,.inr ⟨by rw[H];simp,h⟩⟩
    .exact⟨_,keep true hv,.inl ⟨H,h⟩⟩
   .cases y
    .exact⟨_,keep false hv,.inl ⟨H,h⟩⟩
    .exact⟨_,keep false hv,.inr ⟨by rw[H];simp,h⟩⟩
  .rename_i G;have hv:=Mp G F;refine⟨ts,F,.inr ⟨?_,h⟩⟩;rw[Y];cases R:a.tmps[d]? with
   |none=>simp
   |some v=>simp only[du,R,fg]at hv;subst hv;simp[undef]
  .cases h
omit [qT β]in
theorem oJ.mono{G:DK β}{a':Act}{w':World}{y:β}(h:oJ V U0 L al B A pb rw w a K q a' w')(k:∀B' A' j pb' rw',Mem V U0 L B' A' pb' rw' w'->hL (env U0 B' A' pb' rw' w') j a'.tmps.toList->K j pb' rw'=some q->G j pb' rw'=some y):oJ V U0 L al B A pb rw w a G y a' w':=
 let ⟨B',A',j,pb',rw',m,F,R,J,H⟩:=h
 ⟨B',A',j,pb',rw',m,F,k B' A' j pb' rw' m F R,J,H⟩
theorem OH(X:dL P T)(hC:DD P C){ops:Array Oper}:∀(l:List Oper) {B:Nat->Nat} {A:yH} {ts:List DV} {pb:im} {rw:List DR} {a:Act} {w:World},JU aj T C al av ops.toList l ts pb rw K=some q->Mem V U0 L B A pb rw w->hL (env U0 B A pb rw w) ts a.tmps.toList->
 (∀a' w',oJ V U0 L al B A pb rw w a K q a' w'->eY (QM l) a a'->Q .normal a' w')->wpList P ops Q l a w
 |[],B,A,ts,pb,rw,a,w,h,m,F,Y=>wpList_nil (Y a w ⟨B,A,ts,pb,rw,m,F,h,rfl,Ext.refl⟩ (eY.refl _ _))
 |o::rest,B,A,ts,pb,rw,a,w,h,m,F,Y=>by
  have go:∀{K1:DK β},(∀ts pb rw,K1 ts pb rw=some q->JU aj T C al av ops.toList rest ts pb rw K=some q)->o.wp P a w (oJ V U0 L al B A pb rw w a K1 q) Q->o.wp P a w (wpList P ops Q rest) Q:=by
   intro K1 hK1 h1;refine Oper.wp_mono (λa' w' hn=>?_) (amM h1);have⟨⟨B',A',OI,pb',rw',m',h2,h3,h4,e⟩,hso⟩:=hn;refine OH X hC rest (hK1 _ _ _ h3) m' h2 λJ G H y=>Y J G (oJ.more e h4 H) ?_
   exact(hso.mono (by intro i hi;simp[QM,hi])).trans (y.mono (by intro i hi;simp[QM,hi]))
  unfold JU at h;split at h
  .rename_i hg;unfold wpList;rw[ah (by simp[Region.wanted,hg])];exact .inl (go (λ_ _ _ h=>h) (amN X hC h m F))
  .rename_i j R hg;have⟨OI,hr,W⟩:=OG h F;unfold wpList;have hw:Region.wanted o (yielded ops a.tmps)=(yielded ops a.tmps j==some R):=by simp[Region.wanted,hg]
   rcases W with⟨hy,W⟩|⟨hy,W⟩
   .rw[ah (by rw[hw,hy];simp)];exact .inl (go (λ_ _ _ h=>h) (TY X hC W m hr))
   .rw[ag (by rw[hw];simpa using hy)];have⟨ayI,h1,h2,h3⟩:=OB W hr (x:=.On) (v:=undef) (by simp only[DV.h]);refine OH X hC rest h1 m h2 λJ G H y=>Y J G (oJ.more Ext.refl h3 H) ?_
    exact((eY.put a o undef).mono (by intro i hi;simp[QM,hi])).trans (y.mono (by intro i hi;simp[QM,hi]))
end
end Go.Vc
namespace Go.Vc
open Go Go.RowKit
def Still{α:Type}:Sem α->Prop
 | .pure _=>True
 | .load _ _ k=>∀v,Still (k v)
 | .program k=>∀p,Still (k p)
 | .halt _=>True
 |_=>False
theorem Still.run{α}{P}:∀{s:Sem α},Still s->∀{w w':World} {r:α},s.run P w=.ok r w'->w'=w
 | .pure a,_,w,w',r,h=>by simp only[Sem.run,Result.ok.injEq]at h;exact h.2.symm
 | .load m a k,hs,w,w',r,h=>by
  simp only[Sem.run]at h;split at h
  .exact Still.run (hs _) h
  .split at h
   .exact Still.run (hs _) h
   .cases h
 | .program k,hs,w,w',r,h=>by simp only[Sem.run]at h;exact Still.run (hs _) h
 | .halt x,_,w,w',r,h=>by simp only[Sem.run]at h;cases h
 | .store _ _ _ _,hs,_,_,_,_=>hs.elim
 | .new _ _,hs,_,_,_,_=>hs.elim
 | .shape _ _,hs,_,_,_,_=>hs.elim
 | .freeze _ _ _,hs,_,_,_,_=>hs.elim
 | .frozen _ _,hs,_,_,_,_=>hs.elim
 | .getObj _ _,hs,_,_,_,_=>hs.elim
 | .setObj _ _ _,hs,_,_,_,_=>hs.elim
 | .choose _ _,hs,_,_,_,_=>hs.elim
 | .sys _ _,hs,_,_,_,_=>hs.elim
 | .mark _ _,hs,_,_,_,_=>hs.elim
theorem Still.bind{α β}{f:α->Sem β}(j:∀a,Still (f a)):∀{s:Sem α},Still s->Still (s >>= f)
 | .pure a,_=>j a
 | .load _ _ _,hs=>λv=>Still.bind j (hs v)
 | .program _,hs=>λv=>Still.bind j (hs v)
 | .halt _,_=>trivial
 | .store _ _ _ _,hs=>hs.elim
 | .new _ _,hs=>hs.elim
 | .shape _ _,hs=>hs.elim
 | .freeze _ _ _,hs=>hs.elim
 | .frozen _ _,hs=>hs.elim
 | .getObj _ _,hs=>hs.elim
 | .setObj _ _ _,hs=>hs.elim
 | .choose _ _,hs=>hs.elim
 | .sys _ _,hs=>hs.elim
 | .mark _ _,hs=>hs.elim
end Go.Vc
namespace Go.Vc
open Go Go.RowKit
theorem TZ{α}(a):Still (pure a:Sem α):=trivial
theorem Jl:Still program:=λ_=>trivial
theorem T0(a):Still (load a):=λ_=>trivial
theorem FL(a:Addr):∀(n i:Nat) (acc:Array Value),Still (loadCellsFrom a i n acc)
 |0,_,_=>trivial
 |n+1,i,acc=>Still.bind (λv=>FL a n (i+1) (acc.push v)) (T0 _)
theorem OJ(t:TypeId):Still (underlying t):=Still.bind (λp=>by cases p.underlying t<;>trivial) Jl
theorem Zz(t:TypeId):Still (Go.sizeOf t):=Still.bind (λ_=>TZ _) (Still.bind (λp=>by cases p.info? t<;>trivial) Jl)
theorem aa7(t:TypeId):Still (Go.isAgg t):=Still.bind (λd=>by cases d<;>trivial) (OJ t)
theorem VE(t)(a:Addr):Still (loadVar t a):=by
 refine Still.bind (λb=>?_) (aa7 t);cases b with
 |false=>exact T0 a
 |true=>rw[ah rfl];exact Still.bind (λn=>Still.bind (λcs=>TZ _) (FL a n 0 #[])) (Zz t)
theorem ZA(t)(x:Value):Still (Instr.loadAt t x):=by refine Still.bind (λa=>VE t a) ?_;unfold Instr.sureAddr;split<;>trivial
section
variable {P : Program} {ops : Array Oper} {Q : Exit -> Act -> World -> Prop} {S : World -> Prop}
theorem ai0{j}{F}(R:ops[j]?=some F)(hl:Tz F=true){K}{a}{w}(h:wpOp P ops Q j K a w):wpOp P ops Q j (λa' w'=>w'=w/\K a' w') a w:=by
 unfold Tz at hl;split at hl
 .rename_i t x ho;unfold Go.wpOp at *;simp only[R]at *;split
  .rename_i G;simp only[G,sd]at h;rcases h with C|C;case inr=>exact .inr C
   refine .inl ?_;unfold Oper.wp at C ⊢
   have e:∀n w',(execOp a.eval F).run P w=.ok n w'->w'=w/\∃v,n=.value v:=λn w' y=>by
    unfold execOp at y;simp only[ho,aR]at y;cases H:(Instr.loadAt t (a.eval x)).run P w with
    |ok v J=>rw[H]at y;simp only[Result.andThen,bE,Result.ok.injEq]at y;exact⟨y.2▸(ZA t _).run H,v,y.1.symm⟩
    |halt x J=>rw[H]at y;cases y
   generalize (execOp a.eval F).run P w=r at *;cases r with
   |ok n w'=>obtain⟨rfl,v,rfl⟩:=e n w' rfl;exact⟨rfl,C⟩
   |halt x w'=>cases x<;>exact C
  .rename_i G;rw[ag G]at h;exact⟨trivial,h⟩
 .cases hl
theorem ZB{i}{oi}{v}{D:List Nat}{w:World}(hi:ops[i]?=some oi)(hs:Region.noSelect ops=true)(hQ:∀c a w,Q (.panic c) (a.put oi.dst v) w->Q (.panic c) a w)
 (ayn:∀d∈D,apV ops D i d=true) (hS:S w):
 ∀(F:Nat) (y:Array Bool) (a:Act),(∀d∈D,y.getD d true=false)->(∀j J,ops[j]?=some J->j∉D->y.getD j true=false->Tz J=true)->
  (∀j J,ops[j]?=some J->j≠i->y.getD j true=false->(∀e∈J.after,Region.binds .any e=true->e.on≠i)->oi.apart ops J=true)->
  i∈D->i∈Region.ready .any ops y->YieldsIf P ops (λw'=>w'=w) oi v a->
  wpAnyH P .any ops Q S F (y.setIfInBounds i true) (a.put oi.dst v) w->wpAnyH P .any ops Q S (F+1) y a w:=by
 have V:=Region.noSelect_spec hs;intro F;induction F with
 |zero=>
  intro y a _ _ _ _ hr hy H;refine⟨λh=>(by rw[h]at hr;cases hr),λj hj=>?_⟩;by_cases C:j=i
  .subst C;exact hy.wpOp hi rfl ⟨hS,H⟩
  .have:=ready_mono hj C;rw[H.1]at this;cases this
 |succ F ih=>
  intro y a hun hst R hiD hr hy H;refine⟨λh=>(by rw[h]at hr;cases hr),λj hj=>?_⟩;by_cases C:j=i
  .subst C;exact hy.wpOp hi rfl ⟨hS,H⟩
  .have h1:=H.2 j (ready_mono hj C);have⟨K,J,G,Y⟩:=mem_ready.1 hj
   have W:∀k∈D,y.getD k false=false:=λk hk=>by
    have h0:=hun k hk;rcases dO k y.size with h'|h'
    .simp[h']at h0 ⊢;exact h0
    .simp[Array.getElem?_eq_none h']
   have hjD:j∉D:=λhD=>by
    have X:=ayn j hD;unfold apV at X;split at X
    .rename_i hb;exact C (aF hb)
    .rw[G]at X;simp only[Array.any_eq_true',aD,uP]at X;have⟨e,he,hb,hon⟩:=X;have h2:=Y e he hb;rw[W _ hon]at h2;cases h2
   have ayo:∀e∈J.after,Region.binds .any e=true->e.on≠i:=λe he hb heq=>by have h2:=Y e he hb;rw[heq,W _ hiD]at h2;cases h2
   have h2:=wpOp_putIf G (R j J G C K ayo) (λcs b=>V i oi cs b hi) (λcs b=>V j J cs b G) hQ hy h1;have h3:=ai0 G (hst j J G hjD K) h2
   have VB:∀k,(y.setIfInBounds j true).getD k true=false->y.getD k true=false:=λk hk=>by
    by_cases hjk:j=k
    .subst hjk;exact K
    .rwa [getD_set_ne true hjk]at hk
   refine wpOp_mono (λa' w' h4=>?_) h3;obtain⟨rfl,h5,h6,h7⟩:=h4;refine⟨h6,ih (y.setIfInBounds j true) a' (λd X=>?_) (λk ok hk hkD hku=>hst k ok hk hkD (VB k hku)) (λk ok hk hki hku hno=>R k ok hk hki (VB k hku) hno) hiD (ready_mono hr (hZ C)) h5 ?_⟩
   .rw[getD_set_ne (i:=j) (j:=d) true (λe=>hjD (e▸X))];exact hun d X
   .rw[Array.setIfInBounds_comm _ _ C];exact h7
theorem amO{L}{i}{D}(h:Y' ops L i D=true):i∈D/\(∀d∈D,L.getD d true=false)/\(∀d∈D,apV ops D i d=true)/\∀j F,ops[j]?=some F->j∉D->L.getD j true=false->Tz F=true:=by
 unfold Y' at h;simp only[aD,mq,Bs,fQ]at h;have⟨⟨⟨X,W⟩,V⟩,R⟩:=h;refine⟨(uP _ _).1 X,?_,V,λj F G K J=>?_⟩
 .have:∀D:List Nat,apW L D=true->∀d∈D,L.getD d true=false:=by
   intro D;induction D with
   |nil=>intro _ d C;cases C
   |cons x D H=>
    intro h d C;simp only[apW,aD,jH]at h;rcases aB.1 C with rfl|C
    .exact h.1
    .exact H h.2 d C
  exact this D W
 .rcases R j (cy.1 G).1 with(y|y)|y
  .exact absurd ((uP _ _).1 y) K
  .rw[J]at y;cases y
  .rw[G]at y;exact y
end
end Go.Vc








namespace Go.Vc
open Go Go.RowKit
section
variable {P : Program} {T : List TI} {V : World} {U0 L : Nat -> Prop} {al : Nat -> Bool} {B : Nat -> Nat} {A : yH} {ts : List DV} {pb : im} {rw : List DR} {a : Act} {w : World} {β : Type} [qT β] {q : β} {o : Oper} {K : DK β} {Q : Exit -> Act -> World -> Prop} {C : F9} {av : List (Nat × Nat)}
def Nx(V:World)(U0 L:Nat->Prop)(B:Nat->Nat)(pb:im)(a:Act)(K:DK β)(q:β):Act->World->Prop:=λa' w'=>∃B' A' j pb' rw',Mem V U0 L B' A' pb' rw' w'/\hL (env U0 B' A' pb' rw' w') j a'.tmps.toList/\K j pb' rw'=some q/\a'.defers=a.defers/\∀i,live pb i->live pb' i/\B' i=B i
omit [qT β]in
theorem oJ.nx{a'}{w':World}(h:oJ V U0 L al B A pb rw w a K q a' w'):Nx V U0 L B pb a K q a' w':=
 let ⟨B',A',j,pb',rw',m,H,G,F,y⟩:=h
 ⟨B',A',j,pb',rw',m,H,G,F,y.bx⟩
theorem Mem.places(m:Mem V U0 L B A pb rw w){pb':im}(h:∀(i:Nat) (b:DB),pb'[i]?=some (some b)↔pb[i]?=some (some b)):Mem V U0 L B A pb' rw w/\Sub Iq (env U0 B A pb rw w) (env U0 B A pb' rw w)/\∀i,live pb' i↔live pb i:=by
 have hl:∀i,live pb' i↔live pb i:=λi=>⟨λ⟨b,hb⟩=>⟨b,(h i b).1 hb⟩,λ⟨b,hb⟩=>⟨b,(h i b).2 hb⟩⟩
 have hb:∀k i b,iN B A pb' rw k i b->iN B A pb rw k i b:=λk i b hh=>by
  cases k with
  |true=>exact hh
  |false=>exact⟨(hl i).1 hh.1,hh.2⟩
 have⟨F,s,_⟩:=m.step (al:=λ_=>true) Iq (w':=w) (B':=B) (A':=A) (pb':=pb') (rw':=rw) ⟨rfl,rfl,rfl,au _⟩ (λ_ _ _=>rfl) (λk i b hh=>.inl (hb k i b hh)) (λk i J R b H G=>m.inj _ _ _ _ _ (hb _ _ _ H) (hb _ _ _ G)) (λi hh=>⟨(hl i).2 hh,rfl⟩) (λj e t l _ hh=>⟨l,hh,rfl,rfl⟩) (λj d _ h=>⟨⟨d,h,rfl⟩,rfl⟩) (λ_ j p e t l hh=>(by cases hh)) (λ_ j p d ad hh=>(by cases hh)) (λ_ i y hh=>.inl ⟨y,(h i y).1 hh,rfl,by rw[oR],id,rfl⟩) (λ_ j e t l hh=>.inl ⟨hh,rfl,λ_ _=>rfl⟩) λ_ j d hh=>.inl ⟨hh,rfl,λ_ _=>rfl⟩
 exact⟨F,s,hl⟩
omit [qT β]in
theorem OK:∀(os:List Oper) (pb:im) (n:Nat) {K:List (Nat×Nat)->im->Option β},EU os pb n K=some q->∃av pb',K av pb'=some q/\∃l:im,pb'=pb++l/\∀x∈l,x=none
 |[],pb,n,K,h=>⟨[],pb,h,[],by simp,by simp⟩
 |o::os,pb,n,K,h=>by
  have j:∀(G:List (Nat×Nat)->im->Option β),EU os (pb++[none]) (n+1) G=some q->(∃av pb',G av pb'=some q/\∃l:im,pb'=pb++l/\∀x∈l,x=none):=λG R=>by have⟨av,pb',y,l,F,J⟩:=OK os _ _ R;exact⟨av,pb',y,none::l,by rw[F];simp,λx H=>(aB.1 H).elim id (J x)⟩
  simp only[EU]at h;split at h
  .rw[q9]at h;have⟨av,pb',y,F⟩:=j _ h;rw[xw]at y;exact⟨_,pb',y,F⟩
  .rw[q9]at h;have⟨av,pb',y,F⟩:=j _ h;rw[xw]at y;exact⟨_,pb',y,F⟩
  .exact OK os pb n h
theorem J0:∀{ops:List Oper} {i:Nat},I0 ops i=ops[i]?
 |[],i=>by simp[I0]
 |o::os,0=>rfl
 |o::os,i+1=>by simp only[I0,fC];exact J0
theorem My:∀{ops:List Oper} {i:Nat} {o:Oper},ops[i]?=some o->∀d∈alZ o,d∈QM ops
 |[],i,o,h=>by simp at h
 |p::ops,i,o,h=>by
  intro d j;simp only[QM,aQ];cases i with
  |zero=>simp at h;subst h;exact .inl j
  |succ i=>exact .inr (My (by simpa using h) d j)
end
section
variable {P : Program} {T : List TI} {V : World} {U0 L : Nat -> Prop} {al : Nat -> Bool} {β : Type} [qT β] {q : β} {K : DK β} {C : F9} {av : List (Nat × Nat)} {ops : Array Oper} {Ia : List Nat} {sn : Nat -> Bool}
  {B0 : Nat -> Nat} {A0 : yH} {pb0 : im} {rw0 : List DR} {a0 : Act} {w0 : World}
def QD(V:World)(U0 L:Nat->Prop)(al:Nat->Bool)(B0:Nat->Nat)(A0:yH)(pb0:im)(rw0:List DR)(w0:World)(a0:Act)(K:DK β)(q:β)(ops:Array Oper):Exit->Act->World->Prop:=λe a' w'=>match e with
 | .normal=>oJ V U0 L al B0 A0 pb0 rw0 w0 a0 K q a' w'/\eY (QM ops.toList) a0 a'
 |_=>False
def SD(al:Nat->Bool)(B0:Nat->Nat)(A0:yH)(pb0:im)(rw0:List DR)(w0:World):World->Prop:=λw'=>∀b,b<w0.heap.size->¬Wr al B0 A0 pb0 rw0 b->w'.heap[b]?=w0.heap[b]?
structure At0(al:Nat->Bool)(ops:Array Oper)(B0:Nat->Nat)(A0:yH)(pb0:im)(rw0:List DR)(w0:World)(a0:Act)(ph:Bool)(B:Nat->Nat)(A:yH)(pb:im)(rw:List DR)(w:World)(a:Act):Prop where
 ext:Ext al B0 A0 pb0 rw0 w0 B A pb rw w
 out:eY (QM ops.toList) a0 a
 df:a.defers=a0.defers
 ph0:ph=false->B=B0/\A=A0/\pb=pb0/\rw=rw0/\w=w0
omit [qT β]in
theorem aup(hT:dL P T)(hal:∀i,live pb0 i->Aw i Ia=false->al i=false)(hsn:∀i,sn i=true->live pb0 i/\al i=false){ph:Bool}{B:Nat->Nat}{A:yH}{ts:List DV}{pb:im}{rw:List DR}{a:Act}{w:World}{o:Oper}{ret:DV->Option β}
 (h:rdE aj T Ia sn ph o ts pb rw ret=some q) (m0:Mem V U0 L B0 A0 pb0 rw0 w0) (m:Mem V U0 L B A pb rw w) (X:hL (env U0 B A pb rw w) ts a.tmps.toList) (s:At0 al ops B0 A0 pb0 rw0 w0 a0 ph B A pb rw w a):
 ∃r v,ret r=some q/\r.h (env U0 B A pb rw w) v/\∀w',SD al B0 A0 pb0 rw0 w0 w'->(execOp a.eval o).run P w'=.ok (.value v) w':=by
 have H:∀b,b<w0.heap.size->¬Wr al B0 A0 pb0 rw0 b->∀w',SD al B0 A0 pb0 rw0 w0 w'->w'.heap[b]?=w.heap[b]?:=λb hb R w' hs=>by rw[hs b hb R,s.ext.fr b hb R]
 have own:∀i,live pb0 i->al i=false->B i<w0.heap.size/\¬Wr al B0 A0 pb0 rw0 (B i):=λi hl ha=>by
  have hb:=(s.ext.bx i hl).2;have y:iN B0 A0 pb0 rw0 false i (B i):=⟨hl,hb.symm⟩;refine⟨(m0.low _ _ _ y).1,?_⟩;rintro(⟨i',W,J⟩|⟨j,J⟩)
  .have:=(m0.inj _ _ _ _ _ y J).2;subst this;rw[ha]at W;cases W
  .have:=(m0.inj _ _ _ _ _ y J).1;cases this
 unfold rdE at h;split at h
 .rename_i t x ho
  have fin:∀(p:DV),vS ts x=some p->PT aj T t p pb rw ret=some q->(∀ad:Addr,a.eval x=.pointer (some ad)->((∃i off,p=.own i off/\iN B A pb rw false i ad.block)\/(∃t x off,p=.el t x off/\¬Us U0 B A pb rw ad.block/\ad.block<w.heap.size)\/(∃j i off,p=.re j i off)\/∃l k,p=.fp l k)->ad.block<w0.heap.size/\¬Wr al B0 A0 pb0 rw0 ad.block)->
   ∃r v,ret r=some q/\r.h (env U0 B A pb rw w) v/\∀w',SD al B0 A0 pb0 rw0 w0 w'->(execOp a.eval o).run P w'=.ok (.value v) w':=by
   intro p Y hl hbk;have⟨r,u,ad,hv,W,J,h3,h4⟩:=Mr hT m hl (gH Y X);have⟨g1,g2⟩:=hbk ad hv h4;exact⟨r,u,W,J,λw' hs=>by rw[Tp ho,h3 w' (H _ g1 g2 w' hs)];rfl⟩
  split at h
  .have⟨p,Y,h⟩:=wT h;split at h
   .rename_i F;obtain⟨rfl,rfl,rfl,rfl,rfl⟩:=s.ph0 rfl;refine fin p Y h λad hv hc=>?_
    rcases hc with⟨i,off,rfl,y⟩|⟨t',x',off,rfl,R,hlt⟩|⟨j,i,off,rfl⟩|⟨l,k,rfl⟩
    .have hi:Aw i Ia=false:=by
      simp only[afP]at F;split at F
      .assumption
      .cases F
     have:=own i y.1 (hal i y.1 hi);rw[y.2]at this;exact this
    .refine⟨hlt,?_⟩;rintro(⟨i,_,hb⟩|⟨j,hb⟩)
     .exact R (.inr ⟨_,i,hb⟩)
     .exact R (.inr ⟨_,j,hb⟩)
    .simp[afP]at F
    .simp[afP]at F
   .cases h
  .have⟨p,Y,h⟩:=wT h;split at h
   .rename_i G;refine fin p Y h λad hv hc=>?_
    rcases hc with⟨i,off,rfl,y⟩|⟨t',x',off,rfl,R,_⟩|⟨j,i,off,rfl⟩|⟨l,k,rfl⟩
    .have⟨g1,g2⟩:=hsn i G;have:=own i g1 g2;rw[y.2]at this;exact this
    .simp[afQ]at G
    .simp[afQ]at G
    .simp[afQ]at G
   .cases h
 .have⟨r,v,W,J,h3⟩:=Zn hT rfl X rfl m.afY h;exact⟨r,v,W,J,λw' _=>h3 w'⟩
theorem sW(hT:dL P T)(hC:DD P C){i n:Nat}{ph:Bool}{X:Array Bool}{B:Nat->Nat}{A:yH}{ts:List DV}{pb:im}{rw:List DR}{a:Act}{w:World}{o:Oper}{k:DK β}(hi:ops[i]?=some o)
 (h:FJ aj T C al av ops.toList o ts pb rw k=some q) (m:Mem V U0 L B A pb rw w) (F:hL (env U0 B A pb rw w) ts a.tmps.toList) (s:At0 al ops B0 A0 pb0 rw0 w0 a0 ph B A pb rw w a)
 (hk:∀B A ts pb rw a w,k ts pb rw=some q->Mem V U0 L B A pb rw w->hL (env U0 B A pb rw w) ts a.tmps.toList->At0 al ops B0 A0 pb0 rw0 w0 a0 true B A pb rw w a->wpAnyH P .any ops (QD V U0 L al B0 A0 pb0 rw0 w0 a0 K q ops) (SD al B0 A0 pb0 rw0 w0) n (X.setIfInBounds i true) a w):
 wpOp P ops (QD V U0 L al B0 A0 pb0 rw0 w0 a0 K q ops) i (λa' w'=>SD al B0 A0 pb0 rw0 w0 w'/\wpAnyH P .any ops (QD V U0 L al B0 A0 pb0 rw0 w0 a0 K q ops) (SD al B0 A0 pb0 rw0 w0) n (X.setIfInBounds i true) a' w') a w:=by
 have G:=My (ops:=ops.toList) (i:=i) (o:=o) (by simpa using hi)
 have go:∀ts,hL (env U0 B A pb rw w) ts a.tmps.toList->Region.wanted o (yielded ops a.tmps)=true->Ty aj T C al av o ts pb rw k=some q->
  wpOp P ops (QD V U0 L al B0 A0 pb0 rw0 w0 a0 K q ops) i (λa' w'=>SD al B0 A0 pb0 rw0 w0 w'/\wpAnyH P .any ops (QD V U0 L al B0 A0 pb0 rw0 w0 a0 K q ops) (SD al B0 A0 pb0 rw0 w0) n (X.setIfInBounds i true) a' w') a w:=by
  intro ts F H h;unfold Go.wpOp;simp only[hi,H,sd];refine .inl (Oper.wp_mono (λa' w' hn=>?_) (amM (TY (al:=al) hT hC h m F)));have⟨⟨B',A',y,pb',rw',m',h1,h2,h3,e⟩,hso⟩:=hn;have e':=s.ext.trans e;exact⟨λb hb J=>e'.fr b hb J,hk B' A' y pb' rw' a' w' h2 m' h1 ⟨e',s.out.trans (hso.mono G),h3.trans s.df,λh=>by cases h⟩⟩
 have skip:∀ts,hL (env U0 B A pb rw w) ts a.tmps.toList->Region.wanted o (yielded ops a.tmps)=false->jx o.dst .On ts pb rw k=some q->
  wpOp P ops (QD V U0 L al B0 A0 pb0 rw0 w0 a0 K q ops) i (λa' w'=>SD al B0 A0 pb0 rw0 w0 w'/\wpAnyH P .any ops (QD V U0 L al B0 A0 pb0 rw0 w0 a0 K q ops) (SD al B0 A0 pb0 rw0 w0) n (X.setIfInBounds i true) a' w') a w:=by
  intro ts F H h;have⟨y,h1,h2,h3⟩:=OB h F (x:=.On) (v:=undef) (by simp only[DV.h]);unfold Go.wpOp;simp only[hi,H,fv,pn];exact⟨λb hb J=>s.ext.fr b hb J,hk B A y pb rw _ w h1 m h2 ⟨s.ext,s.out.trans ((eY.put a o undef).mono G),h3.trans s.df,λh=>by cases h⟩⟩
 unfold FJ at h;split at h
 .rename_i hg;exact go ts F (by simp[Region.wanted,hg]) h
 .rename_i j R hg;have⟨y,hr,W⟩:=OG h F;have hw:Region.wanted o (yielded ops a.tmps)=(yielded ops a.tmps j==some R):=by simp[Region.wanted,hg]
  rcases W with⟨Y,W⟩|⟨Y,W⟩
  .exact go y hr (by rw[hw,Y];simp) W
  .exact skip y hr (by rw[hw];simpa using Y) W
theorem uU(W:dL P T)(X:DD P C)(G:Region.noSelect ops=true)(R:∀i,live pb0 i->Aw i Ia=false->al i=false)(J:∀i,sn i=true->live pb0 i/\al i=false)(m0:Mem V U0 L B0 A0 pb0 rw0 w0):
 ∀(t:OT) (n:Nat) (Lk:Array Bool) (Y:Bool) (B:Nat->Nat) (A:yH) (ts:List DV) (pb:im) (rw:List DR) (a:Act) (w:World),tu ops n t Lk=true->RE aj T C al av Ia sn ops.toList Y t ts pb rw K=some q->Mem V U0 L B A pb rw w->hL (env U0 B A pb rw w) ts a.tmps.toList->At0 al ops B0 A0 pb0 rw0 w0 a0 Y B A pb rw w a->wpAnyH P .any ops (QD V U0 L al B0 A0 pb0 rw0 w0 a0 K q ops) (SD al B0 A0 pb0 rw0 w0) n Lk a w
 | .nil,n,Lk,Y,B,A,ts,pb,rw,a,w,F,h,m,y,s=>by
  have F:(Region.ready .any ops Lk).isEmpty=true:=by cases n<;>simpa[tu]using F
  simp only[xk]at F;exact wpAnyH_done F ⟨⟨B,A,ts,pb,rw,m,y,h,s.df,s.ext⟩,s.out⟩ _
 | .rd i t,0,Lk,Y,B,A,ts,pb,rw,a,w,F,h,m,y,s=>by simp[tu]at F
 | .er i D t,0,Lk,Y,B,A,ts,pb,rw,a,w,F,h,m,y,s=>by simp[tu]at F
 | .op i t,0,Lk,Y,B,A,ts,pb,rw,a,w,F,h,m,y,s=>by simp[tu]at F
 | .two i j ti tj,0,Lk,Y,B,A,ts,pb,rw,a,w,F,h,m,y,s=>by simp[tu]at F
 | .three i j k ti tj tk,0,Lk,Y,B,A,ts,pb,rw,a,w,F,h,m,y,s=>by simp[tu]at F
 | .four i j k l ti tj tk tl,0,Lk,Y,B,A,ts,pb,rw,a,w,F,h,m,y,s=>by simp[tu]at F
 | .rd i t,n+1,Lk,Y,B,A,ts,pb,rw,a,w,F,h,m,y,s=>by
  simp only[tu,aD]at F;simp only[RE]at h;split at h
  .rename_i o hi;rw[J0]at hi;have hi:ops[i]?=some o:=by simpa using hi
   have aqs:=My (ops:=ops.toList) (i:=i) (o:=o) (by simpa using hi);have hS:SD al B0 A0 pb0 rw0 w0 w:=λb hb hnb=>s.ext.fr b hb hnb
   have go:∀ts,hL (env U0 B A pb rw w) ts a.tmps.toList->Region.wanted o (yielded ops a.tmps)=true->(rdE aj T Ia sn Y o ts pb rw λx=>jx o.dst x ts pb rw λts pb rw=>RE aj T C al av Ia sn ops.toList Y t ts pb rw K)=some q->wpAnyH P .any ops (QD V U0 L al B0 A0 pb0 rw0 w0 a0 K q ops) (SD al B0 A0 pb0 rw0 w0) (n+1) Lk a w:=by intro ts y hwt h;have⟨r,v,h1,h2,h3⟩:=aup W R J h m0 m y s;have⟨OI,g1,g2,g3⟩:=OB h1 y h2;refine wpAnyH_take hi G F.1.1 F.1.2 (λc a w hq=>hq) (.inl ⟨hwt,λw' hs=>h3 w' hs⟩) hS ?_;exact uU W X G R J m0 t n _ Y B A OI pb rw _ w F.2 g1 m g2 ⟨s.ext,s.out.trans ((eY.put a o v).mono aqs),g3.trans s.df,s.ph0⟩
   have skip:∀ts,hL (env U0 B A pb rw w) ts a.tmps.toList->Region.wanted o (yielded ops a.tmps)=false->(jx o.dst .On ts pb rw λts pb rw=>RE aj T C al av Ia sn ops.toList Y t ts pb rw K)=some q->wpAnyH P .any ops (QD V U0 L al B0 A0 pb0 rw0 w0 a0 K q ops) (SD al B0 A0 pb0 rw0 w0) (n+1) Lk a w:=by intro ts y hwt h;have⟨OI,g1,g2,g3⟩:=OB h y (x:=.On) (v:=undef) (by simp only[DV.h]);exact wpAnyH_take hi G F.1.1 F.1.2 (λc a w hq=>hq) (.inr ⟨hwt,rfl⟩) hS (uU W X G R J m0 t n _ Y B A OI pb rw _ w F.2 g1 m g2 ⟨s.ext,s.out.trans ((eY.put a o undef).mono aqs),g3.trans s.df,s.ph0⟩)
   split at h
   .rename_i hg;exact go ts y (by simp[Region.wanted,hg]) h
   .rename_i j want hg;have⟨OI,hr,hc⟩:=OG h y;have hw:Region.wanted o (yielded ops a.tmps)=(yielded ops a.tmps j==some want):=by simp[Region.wanted,hg]
    rcases hc with⟨hy,hc⟩|⟨hy,hc⟩
    .exact go OI hr (by rw[hw,hy];simp) hc
    .exact skip OI hr (by rw[hw];simpa using hy) hc
  .cases h
 | .er i D t,n+1,Lk,Y,B,A,ts,pb,rw,a,w,F,h,m,y,s=>by
  simp only[tu,aD]at F;simp only[RE]at h;split at h
  .rename_i o hi;rw[J0]at hi;have hi:ops[i]?=some o:=by simpa using hi
   have aqs:=My (ops:=ops.toList) (i:=i) (o:=o) (by simpa using hi);have hS:SD al B0 A0 pb0 rw0 w0 w:=λb hb hnb=>s.ext.fr b hb hnb
   split at h
   .rename_i ty x hg ho;have⟨p,hp,h⟩:=wT h;have⟨r,u,ad,hv,h1,h2,h3,_⟩:=Mr W m h (gH hp y);have⟨OI,g1,g2,g3⟩:=OB h1 y h2;have⟨e1,e2,e3,e4⟩:=amO F.1.2;refine ZB hi G (λc a w hq=>hq) e3 hS n Lk a e2 e4 (Region.free_spec hi F.1.1.1) e1 (by simpa using F.1.1.2) (v:=u) (.inl ⟨by simp[Region.wanted,hg],λw' hw=>by rw[hw,Tp ho,h3 w rfl];rfl⟩) ?_;exact uU W X G R J m0 t n _ false B A OI pb rw _ w F.2 g1 m g2 ⟨s.ext,s.out.trans ((eY.put a o u).mono aqs),g3.trans s.df,s.ph0⟩
   .cases h
  .cases h
 | .op i t,n+1,Lk,Y,B,A,ts,pb,rw,a,w,F,h,m,y,s=>by
  simp only[tu,aD,gT]at F;simp only[RE]at h;split at h
  .rename_i o hi;rw[J0]at hi;have hi:ops[i]?=some o:=by simpa using hi
   refine wpAnyH_all F.1 (by simp) λj hj=>?_
   rw[ay.1 hj];exact sW W X hi h m y s λB A ts pb rw a w H m y s=>uU W X G R J m0 t n _ true B A ts pb rw a w F.2 H m y s
  .cases h
 | .two i j ti tj,n+1,Lk,Y,B,A,ts,pb,rw,a,w,F,h,m,y,s=>by
  simp only[tu,aD,gT]at F;simp only[RE]at h;split at h
  .rename_i o o' hi hj;rw[J0]at hi hj;have hi:ops[i]?=some o:=by simpa using hi
   have hj:ops[j]?=some o':=by simpa using hj
   have⟨ha,hb⟩:=JW h;refine wpAnyH_all F.1.1 (by simp) λk H=>?_
   simp only[aB,dD,kO]at H;rcases H with rfl|rfl
   .exact sW W X hi ha m y s λB A ts pb rw a w H m y s=>uU W X G R J m0 ti n _ true B A ts pb rw a w F.1.2 H m y s
   .exact sW W X hj hb m y s λB A ts pb rw a w H m y s=>uU W X G R J m0 tj n _ true B A ts pb rw a w F.2 H m y s
  .cases h
 | .three i j k ti tj tk,n+1,Lk,Y,B,A,ts,pb,rw,a,w,F,h,m,y,s=>by
  simp only[tu,aD,gT]at F;simp only[RE]at h;split at h
  .rename_i o o' o2 hi hj H;rw[J0]at hi hj H;have hi:ops[i]?=some o:=by simpa using hi
   have hj:ops[j]?=some o':=by simpa using hj
   have H:ops[k]?=some o2:=by simpa using H
   have⟨ha,hb⟩:=JW h;have⟨hb,hc⟩:=JW hb;refine wpAnyH_all F.1.1.1 (by simp) λl hl=>?_
   simp only[aB,dD,kO]at hl;rcases hl with rfl|rfl|rfl
   .exact sW W X hi ha m y s λB A ts pb rw a w H m y s=>uU W X G R J m0 ti n _ true B A ts pb rw a w F.1.1.2 H m y s
   .exact sW W X hj hb m y s λB A ts pb rw a w H m y s=>uU W X G R J m0 tj n _ true B A ts pb rw a w F.1.2 H m y s
   .exact sW W X H hc m y s λB A ts pb rw a w H m y s=>uU W X G R J m0 tk n _ true B A ts pb rw a w F.2 H m y s
  .cases h
 | .four i j k l ti tj tk tl,n+1,Lk,Y,B,A,ts,pb,rw,a,w,F,h,m,y,s=>by
  simp only[tu,aD,gT]at F;simp only[RE]at h;split at h
  .rename_i o o' o2 o3 hi hj H hl;rw[J0]at hi hj H hl;have hi:ops[i]?=some o:=by simpa using hi
   have hj:ops[j]?=some o':=by simpa using hj
   have H:ops[k]?=some o2:=by simpa using H
   have hl:ops[l]?=some o3:=by simpa using hl
   have⟨ha,hb⟩:=JW h;have⟨hb,hc⟩:=JW hb;have⟨hc,hd⟩:=JW hc;refine wpAnyH_all F.1.1.1.1 (by simp) λx hx=>?_
   simp only[aB,dD,kO]at hx;rcases hx with rfl|rfl|rfl|rfl
   .exact sW W X hi ha m y s λB A ts pb rw a w H m y s=>uU W X G R J m0 ti n _ true B A ts pb rw a w F.1.1.1.2 H m y s
   .exact sW W X hj hb m y s λB A ts pb rw a w H m y s=>uU W X G R J m0 tj n _ true B A ts pb rw a w F.1.1.2 H m y s
   .exact sW W X H hc m y s λB A ts pb rw a w H m y s=>uU W X G R J m0 tk n _ true B A ts pb rw a w F.1.2 H m y s
   .exact sW W X hl hd m y s λB A ts pb rw a w H m y s=>uU W X G R J m0 tl n _ true B A ts pb rw a w F.2 H m y s
  .cases h
end
section
variable {P : Program} {T : List TI} {V : World} {U0 L : Nat -> Prop} {B : Nat -> Nat} {A : yH} {ts : List DV} {pb : im} {rw : List DR} {a : Act} {w : World} {β : Type} [qT β] {q : β} {K : DK β} {Q : Exit -> Act -> World -> Prop} {C : F9}
theorem amP:∀{pb:im} {i:Nat},adw pb i=true->live pb i
 |[],i,h=>by simp[adw]at h
 |o::pb,0,h=>by
  cases o with
  |none=>simp[adw]at h
  |some b=>exact⟨b,rfl⟩
 |o::pb,i+1,h=>by have⟨b,hb⟩:=amP (pb:=pb) (i:=i) (by simpa[adw]using h);exact⟨b,by simpa using hb⟩
theorem amQ{Ia}{n i}(hi:i<n)(hm:Aw i Ia=false):apX Ia n i=false:=by
 unfold apX;rw[hm];cases h:Nat.ble n i with
 |false=>rfl
 |true=>have:=bP h;omega
theorem agl{pb}{i}(h:live pb i):i<pb.length:=let ⟨_,h⟩:=h;(aC.1 h).1
theorem AJ:∀(L:List Bool) (i:Nat) (K:List Bool->Bool),AB L i K=K (L.set i true)
 |[],_,_=>rfl
 |_::_,0,_=>rfl
 |b::l,i+1,K=>by simp only[AB,AJ l i,Bw]
theorem DL{ops}:∀(t:OT) (n:Nat) (L:List Bool),Ov ops n t L=true->tu ops n t L.toArray=true
 | .nil,n,L,h=>by cases n<;>simpa[tu,Ov]using h
 | .rd i t,0,L,h=>by simp[Ov]at h
 | .er i D t,0,L,h=>by simp[Ov]at h
 | .op i t,0,L,h=>by simp[Ov]at h
 | .two ..,0,L,h=>by simp[Ov]at h
 | .three ..,0,L,h=>by simp[Ov]at h
 | .four ..,0,L,h=>by simp[Ov]at h
 | .rd i t,n+1,L,h=>by simp only[Ov,aD,AJ]at h;simp only[tu,aD,fx];exact⟨h.1,DL t n _ h.2⟩
 | .er i D t,n+1,L,h=>by simp only[Ov,aD,AJ]at h;simp only[tu,aD,fx];exact⟨h.1,DL t n _ h.2⟩
 | .op i t,n+1,L,h=>by simp only[Ov,aD,AJ]at h;simp only[tu,aD,fx];exact⟨h.1,DL t n _ h.2⟩
 | .two i j F y,n+1,L,h=>by simp only[Ov,aD,AJ]at h;simp only[tu,aD,fx];exact⟨⟨h.1.1,DL F n _ h.1.2⟩,DL y n _ h.2⟩
 | .three i j k F y G,n+1,L,h=>by simp only[Ov,aD,AJ]at h;simp only[tu,aD,fx];exact⟨⟨⟨h.1.1.1,DL F n _ h.1.1.2⟩,DL y n _ h.1.2⟩,DL G n _ h.2⟩
 | .four i j k l F y G H,n+1,L,h=>by simp only[Ov,aD,AJ]at h;simp only[tu,aD,fx];exact⟨⟨⟨⟨h.1.1.1.1,DL F n _ h.1.1.1.2⟩,DL y n _ h.1.1.2⟩,DL G n _ h.1.2⟩,DL H n _ h.2⟩
theorem amR(hT:dL P T)(hC:DD P C)(hm:P.follows .mixedOrders=true){O}{id}{ops:Array Oper}(h:ama aj T C O id ops ts pb rw K=some q)(m:Mem V U0 L B A pb rw w)(Jk:hL (env U0 B A pb rw w) ts a.tmps.toList)
 (hQ:∀a' w',Nx V U0 L B pb a K q a' w'->eY (QM ops.toList) a a'->Q .normal a' w'):(Code.region id ops true).wp P Q a w:=by
 unfold ama at h;split at h
 .rename_i Ia t htr;split at h
  .rename_i y;simp only[aD]at y
   have y:Region.noSelect ops=true/\tu ops ops.size t (Array.replicate ops.size false)=true:=⟨y.1,by
    have:=DL t _ _ y.2;have e:(ops.toList.map λ_=>false).toArray=Array.replicate ops.size false:=by apply fY;show ops.toList.map (λ_=>false)=List.replicate ops.size false;rw[List.map_const',fH]
    rwa [e]at this⟩
   rw[xw]at h;have⟨av,pb',h,l,hl,F⟩:=OK _ _ _ h
   have hp:∀(i:Nat) (b:DB),pb'[i]?=some (some b)↔pb[i]?=some (some b):=by
    intro i b;subst hl;rcases dO i pb.length with hi|hi
    .rw[bC hi]
    .rw[dP hi];constructor
     .intro Y;have:=F _ (ir Y);cases this
     .intro Y;have:=(aC.1 Y).1;omega
   have⟨m1,s1,_⟩:=m.world (al:=λ_=>true) (w':={ w with drawn:=w.drawn+1 }) ⟨rfl,rfl,rfl,au _⟩ (λ_ _=>rfl);have⟨m2,s2,j⟩:=m1.places hp;have H:=nD s2 (nD s1 Jk);have J:∀i,live pb' i->i<pb.length:=λi hi=>agl ((j i).1 hi)
   have:=uU (al:=apX Ia pb.length) (Ia:=Ia) (sn:=aua Ia (adw pb)) (K:=K) (q:=q) hT hC y.1 (λi hi G=>amQ (J i hi) G) (λi hi=>by
    unfold aua at hi;split at hi
    .cases hi
    .rename_i G;have R:=(j i).2 (amP hi);exact⟨R,amQ (J i R) G⟩) m2 t _ _ false B A ts pb' rw a _ y.2 h m2 H ⟨Ext.refl,eY.refl _ _,rfl,λ_=>⟨rfl,rfl,rfl,rfl,rfl⟩⟩
   refine se (wp_region_held hm this) λe a' w' hq=>?_
   cases e with
   |normal=>have⟨hn,hso⟩:=hq;have⟨B',A',W,X,rw',m',h1,h2,h3,h4⟩:=hn.nx;exact hQ _ _ ⟨B',A',W,X,rw',m',h1,h2,h3,λi hi=>h4 i ((j i).2 hi)⟩ hso
   |_=>exact hq.elim
  .cases h
 .cases h
end
theorem Ha:∀{pb:im} {i:Nat} {b:DB},(qB pb)[i]?=some (some b)↔∃j,pb[i]?=some (some j)/\b=⟨j.ty,j.cells,false⟩
 |[],i,b=>by simp[qB]
 |some j::pb,0,b=>by simp only[qB,ic,ak];exact⟨λh=>⟨j,rfl,h.symm⟩,λ⟨b1,C,y⟩=>by subst C;exact y.symm⟩
 |none::pb,0,b=>by simp[qB]
 |some j::pb,i+1,b=>by simp only[qB,fC];exact Ha
 |none::pb,i+1,b=>by simp only[qB,fC];exact Ha
theorem DM{pb}{i}:live (qB pb) i↔live pb i:=by
 constructor
 .rintro⟨b,h⟩;have⟨y,j,_⟩:=Ha.1 h;exact⟨y,j⟩
 .rintro⟨b,h⟩;exact⟨_,Ha.2 ⟨b,h,rfl⟩⟩
def flW(ps:im)(i:Nat):Bool:=match ps[i]? with|some (some a)=>a.w|_=>true
theorem Mz:∀{pb ps:im} {i:Nat} {b:DB},(Vo ps pb)[i]?=some (some b)↔∃j,pb[i]?=some (some j)/\b=⟨j.ty,j.cells,j.w||flW ps i⟩
 |[],ps,i,b=>by simp[Vo]
 |none::pb,ps,0,b=>by simp[Vo]
 |some j::pb,ps,0,b=>by
  simp only[Vo,ic,ak];cases ps with
  |nil=>exact⟨λh=>⟨j,rfl,h.symm⟩,λ⟨b1,C,y⟩=>by subst C;exact y.symm⟩
  |cons p ps=>cases p<;>exact⟨λh=>⟨j,rfl,h.symm⟩,λ⟨b1,C,y⟩=>by subst C;exact y.symm⟩
 |none::pb,ps,i+1,b=>by
  simp only[Vo,fC,Mz];have:flW ps.tail i=flW ps (i+1):=by cases ps<;>simp[flW]
  rw[this]
 |some j::pb,ps,i+1,b=>by
  simp only[Vo,fC,Mz];have:flW ps.tail i=flW ps (i+1):=by cases ps<;>simp[flW]
  rw[this]
theorem T1{pb ps}{i}:live (Vo ps pb) i↔live pb i:=by
 constructor
 .rintro⟨b,h⟩;have⟨y,j,_⟩:=Mz.1 h;exact⟨y,j⟩
 .rintro⟨b,h⟩;exact⟨_,Mz.2 ⟨b,h,rfl⟩⟩
section
variable {V : World} {U0 L Lx : Nat -> Prop} {B B' : Nat -> Nat} {A A' : yH} {pb pb' : im} {rw rw' : List DR} {w w' : World}
theorem aa8{E}{pb'}(hl:∀i,live pb' i↔live E.pb i)(y:∀b,Us U0 E.B E.A pb' E.rw b->E.U b):Sub Iq E (env U0 E.B E.A pb' E.rw E.w):=⟨⟨λ_ _ _=>rfl,au _,λb _ h=>y b h⟩,λi h=>⟨(hl i).2 h,rfl⟩,λj e t l _ h=>⟨l,h,rfl,rfl⟩,λj d _ h=>⟨⟨d,h,rfl⟩,rfl⟩,λj q e t l h=>(by cases h),λj q d ad h=>(by cases h)⟩
theorem sX(hl:∀i,live pb' i↔live pb i){k}{i b}:iN B A pb' rw k i b↔iN B A pb rw k i b:=by
 cases k with
 |true=>exact IT
 |false=>exact⟨λh=>⟨(hl i).1 h.1,h.2⟩,λh=>⟨(hl i).2 h.1,h.2⟩⟩
theorem agm(hl:∀i,live pb' i↔live pb i){b}:Us U0 B A pb' rw b↔Us U0 B A pb rw b:=⟨λh=>h.imp id λ⟨k,i,h⟩=>⟨k,i,(sX hl).1 h⟩,λh=>h.imp id λ⟨k,i,h⟩=>⟨k,i,(sX hl).2 h⟩⟩
theorem Mem.anchor(m:Mem V U0 L B A pb rw w):Mem w U0 (Ow B A pb rw) B A (qB pb) rw w/\Sub Iq (env U0 B A pb rw w) (env U0 B A (qB pb) rw w):=by
 have hl:∀i,live (qB pb) i↔live pb i:=λi=>DM
 have s:=aa8 (U0:=U0) (E:=env U0 B A pb rw w) hl λb h=>(agm hl).1 h
 refine⟨⟨rfl,rfl,rfl,au _,λ_ _ _=>rfl,λb hb=>⟨eW (m.u0 b hb).1 m.size,λ⟨k,i,h⟩=>?_⟩,λk i b h=>?_,λk i R W b h G=>m.inj _ _ _ _ _ ((sX hl).1 h) ((sX hl).1 G),λi b h=>?_,λj e t l h=>?_,λj d h=>let ⟨b,o,g1,J,H⟩:=m.IZ j d h;⟨b,o,g1,J,OD.mono s.FK H⟩⟩,s⟩
 .rcases(m.low k i b h).2 with g|g
  .have:=(m.u0 b hb).1;omega
  .exact(m.u0 b hb).2 g
 .have h:=(sX hl).1 h;exact⟨(m.low k i b h).1,.inr ⟨k,i,h⟩⟩
 .obtain⟨K,F,rfl⟩:=Ha.1 h;have⟨cs,y,C,_⟩:=m.box i K F;exact⟨cs,y,nD s C,λ_=>⟨(cy.1 y).1,rfl⟩⟩
 .have⟨xs,y,C⟩:=m.row j e t l h;exact⟨xs,y,DT.lR s.FK C⟩
theorem Mem.aw7(m:Mem V U0 L B A pb rw w)(hL:∀b,Lx b↔Ow B A pb rw b)(j:Mem w U0 Lx B' A' pb' rw' w'):∀k i b,iN B' A' pb' rw' k i b->b<w'.heap.size/\(V.heap.size<=b\/L b):=λk i b h=>⟨(j.low k i b h).1,(j.low k i b h).2.elim (λh=>.inl (cn m.size h)) λh=>let ⟨k,i,h⟩:=(hL b).1 h;(m.low k i b h).2⟩
theorem Mem.as8(m:Mem V U0 L B A pb rw w)(hL:∀b,Lx b↔Ow B A pb rw b)(y:Mem w U0 Lx B' A' pb' rw' w'):∀b,b<V.heap.size->¬L b->w'.heap[b]?=V.heap[b]?:=λb hb j=>by
 rw[y.same b (eW hb m.size) λh=>?_,m.same b hb j];have⟨k,i,h⟩:=(hL b).1 h;rcases(m.low k i b h).2 with h|h
 .omega
 .exact j h
theorem Mem.aw8(m:Mem V U0 L B A pb rw w)(hL:∀b,Lx b↔Ow B A pb rw b)(y:Mem w U0 Lx B' A' pb' rw' w')(hb:∀i,live pb i->B' i=B i):Mem V U0 L B' A' (Vo pb pb') rw' w'/\Sub Iq (env U0 B' A' pb' rw' w') (env U0 B' A' (Vo pb pb') rw' w'):=by
 have hl:∀i,live (Vo pb pb') i↔live pb' i:=λi=>T1
 have s:=aa8 (U0:=U0) (E:=env U0 B' A' pb' rw' w') hl λb h=>(agm hl).1 h
 refine⟨⟨y.os.trans m.os,y.tape.trans m.tape,y.output.trans m.output,cn m.size y.size,m.as8 hL y,m.u0,λk i b h=>m.aw7 hL y k i b ((sX hl).1 h),λk i k' i' b h h'=>y.inj _ _ _ _ _ ((sX hl).1 h) ((sX hl).1 h'),λi b h=>?_,λj e t l h=>?_,λj d h=>let ⟨b,o,g1,G,R⟩:=y.IZ j d h;⟨b,o,g1,G,OD.mono s.FK R⟩⟩,s⟩
 .obtain⟨b0,h0,rfl⟩:=Mz.1 h;have⟨cs,K,J,Y⟩:=y.box i b0 h0;refine⟨cs,K,nD s J,λW=>?_⟩;simp only[nY]at W;have⟨H,C⟩:=W;have⟨g1,G⟩:=Y H;unfold flW at C;split at C
  .rename_i b1 F;have⟨cs1,_,_,X⟩:=m.box i b1 F;have⟨R,g4⟩:=X C;rw[hb i ⟨_,F⟩]at G ⊢;exact⟨R,G.trans g4⟩
  .cases C
 .have⟨xs,K,J⟩:=y.row j e t l h;exact⟨xs,K,DT.lR s.FK J⟩
end
section
variable {β : Type} {q : β}
theorem T2{l}:∀{n:Nat} {pb pb':im},sA l n pb pb'=true->∀i b,pb[i]?=some (some b)->∃j,pb'[i]?=some (some j)/\b.ty=j.ty/\(Aw (n+i) l=true\/j.w=false)
 |_,[],_,_,i,b,hi=>by simp at hi
 |n,none::pb,[],h,i,b,hi=>by simp[sA]at h
 |n,none::pb,J::pb',h,i,b,hi=>by
  cases i with
  |zero=>simp at hi
  |succ i=>simp only[sA]at h;have⟨j,C,y,F⟩:=T2 h i b (by simpa using hi);exact⟨j,by simpa using C,y,by rwa [show n+(i+1)=n+1+i by omega]⟩
 |n,some c::pb,[],h,i,b,hi=>by simp[sA]at h
 |n,some c::pb,none::pb',h,i,b,hi=>by simp[sA]at h
 |n,some c::pb,some H::pb',h,i,b,hi=>by
  simp only[sA,aD,fQ,jH]at h;have⟨⟨C,y⟩,F⟩:=h;cases i with
  |zero=>simp at hi;subst hi;exact⟨H,rfl,aF C,y⟩
  |succ i=>have⟨j,g1,G,K⟩:=T2 F i b (by simpa using hi);exact⟨j,by simpa using g1,G,by rwa [show n+(i+1)=n+1+i by omega]⟩
theorem J1{l}:∀{n:Nat} {pb pb':im},sA l n (qB pb) pb'=sA l n pb pb'
 |_,[],_=>rfl
 |n,none::pb,[]=>by simp only[qB,sA]
 |n,none::pb,j::pb'=>by simp only[qB,sA];exact J1
 |n,some c::pb,[]=>by simp only[qB,sA]
 |n,some c::pb,none::pb'=>by simp only[qB,sA]
 |n,some c::pb,some y::pb'=>by simp only[qB,sA,J1]
theorem aa9{j}{pb pb'}{ts}{rw}{k:j.T.den->Option β}:TG j (qB pb) ts pb' rw k=TG j pb ts pb' rw k:=by unfold TG;rw[J1]
theorem ad8{E}{ts}{us}(j:hL E ts us):∀{y:List Nat} {vs:List DV},amd ts y=some vs->hL E vs (y.map λn=>(us[n]?).getD undef)
 |[],vs,h=>by simp only[amd,ak]at h;subst h;simp[hL]
 |n::y,vs,h=>by
  simp only[amd]at h;split at h
  .rename_i v C G F;simp only[ak]at h;subst h;exact⟨_,_,rfl,Mp G j,ad8 j F⟩
  .cases h
structure RoS(ro:List θ)(rs rw:List DR):Prop where
 own:∀(n:Nat) (e:TypeId) (t:DT) (l:List t.den),rs[n]?=some (DR.own e t l)->rw[n]?=some (DR.own e t l)\/(l=[]/\(rw[n]?=none\/rw[n]?=some DR.dead))
 IZ:∀(n:Nat) (d:OD),rs[n]?=some (DR.obj d)->∃d',rw[n]?=some (DR.obj d')/\d.po=d'.po/\∀U w o,d'.h U w o->d.h U w o
 isO:∀n:Nat,roN ro n=true->∃(e:TypeId) (t:DT) (l:List t.den),rs[n]?=some (DR.own e t l)
 isI:∀n:Nat,roI ro n=true->∃d:OD,rs[n]?=some (DR.obj d)
theorem as9:∀{ro:List θ} {rw:List DR} {y:(roT ro).den},roX ro rw=some y->RoS ro (TB ro y) rw
 |[],rw,y,h=>⟨λn e t l h=>by simp[TB]at h,λn d h=>by simp[TB]at h,λn h=>by simp[roN]at h,λn h=>by simp[roI]at h⟩
 |k::ro,rw,y,h=>by
  have up:∀{r:DR} {H:(roT ro).den},roX ro rw.tail=some H->TB (k::ro) y=r::TB ro H->
   (∀(e:TypeId) (t:DT) (l:List t.den),r=DR.own e t l->rw[0]?=some (DR.own e t l)\/(l=[]/\(rw[0]?=none\/rw[0]?=some DR.dead)))->(∀d:OD,r=DR.obj d->∃J,rw[0]?=some (DR.obj J)/\d.po=J.po/\∀U w o,J.h U w o->d.h U w o)->(roN (k::ro) 0=true->∃(e:TypeId) (t:DT) (l:List t.den),r=DR.own e t l)->(roI (k::ro) 0=true->∃d:OD,r=DR.obj d)->
   RoS (k::ro) (TB (k::ro) y) rw:=by
   intro r H C F h1 h2 h3 Y;have⟨g1,g2,g3,g4⟩:=as9 C;have G:∀n,rw.tail[n]?=rw[n+1]?:=λn=>by cases rw<;>simp
   rw[F];refine⟨λn e t l j=>?_,λn d j=>?_,λn j=>?_,λn j=>?_⟩
   .cases n with
    |zero=>simp at j;exact h1 e t l j
    |succ n=>have:=g1 n e t l (by simpa using j);rwa [G]at this
   .cases n with
    |zero=>simp at j;exact h2 d j
    |succ n=>have:=g2 n d (by simpa using j);rwa [G]at this
   .cases n with
    |zero=>obtain⟨e,t,l,rfl⟩:=h3 j;exact⟨e,t,l,rfl⟩
    |succ n=>have⟨e,t,l,h⟩:=g3 n (by simpa[roN]using j);exact⟨e,t,l,by simpa using h⟩
   .cases n with
    |zero=>obtain⟨d,rfl⟩:=Y j;exact⟨d,rfl⟩
    |succ n=>have⟨d,h⟩:=g4 n (by simpa[roI]using j);exact⟨d,by simpa using h⟩
  cases k with
  |own e t=>
   unfold roX at h;split at h
   .rename_i e' t' xs rw';split at h
    .rename_i G y1 F hq C;have h:=cK h;subst h;subst G;have F:=aF F;subst F;exact up C rfl (λW K R h=>.inl (by rw[<-h];rfl)) (λ_ h=>by cases h) (λ_=>⟨_,_,_,rfl⟩) (λh=>by simp[roI]at h)
    .cases h
   .cases h
   .split at h
    .rename_i C;have h:=cK h;subst h;exact up C rfl (λW K R h=>.inr ⟨by cases h;rfl,.inr rfl⟩) (λ_ h=>by cases h) (λ_=>⟨_,_,_,rfl⟩) (λh=>by simp[roI]at h)
    .cases h
   .split at h
    .rename_i C;have h:=cK h;subst h;exact up C rfl (λW K R h=>.inr ⟨by cases h;rfl,.inl rfl⟩) (λ_ h=>by cases h) (λ_=>⟨_,_,_,rfl⟩) (λh=>by simp[roI]at h)
    .cases h
  |obj k=>
   unfold roX at h;split at h
   .split at h
    .rename_i X C;have h:=cK h;subst h;exact up C rfl (λ_ _ _ h=>by cases h) (λd h=>by cases h;exact⟨_,rfl,OKd.axR X⟩) (λh=>by simp[roN]at h) (λ_=>⟨_,rfl⟩)
    .cases h
   .cases h
  |dead=>unfold roX at h;exact up h rfl (λ_ _ _ h=>by cases h) (λ_ h=>by cases h) (λh=>by simp[roN]at h) (λh=>by simp[roI]at h)
theorem ZD:∀{xs:List DV} {j:List Bool} {K:List DV->Option β},TH xs j K=some q->∃l,K l=some q/\∀(E:Env) (vs:List Value),vs.length=xs.length->(∀(i:Nat) (p:DV) (v:Value),j[i]?=some false->xs[i]?=some p->vs[i]?=some v->p.h E v)->hL E l vs
 |[],[],K,h=>⟨[],h,λE vs hl _=>by simp only[hL];exact dX.1 (by simpa using hl)⟩
 |[],b::j,K,h=>by simp[TH]at h
 |x::xs,[],K,h=>by simp[TH]at h
 |x::xs,b::j,K,h=>by
  simp only[TH]at h;split at h
  .have⟨l,C,y⟩:=ZD h;refine⟨_,C,λE vs hl hh=>?_⟩;cases vs with
   |nil=>simp at hl
   |cons v vs=>simp only[hL];exact⟨v,vs,rfl,by simp only[DV.h],y E vs (by simpa using hl) λi p u g1 G F=>hh (i+1) p u (by simpa using g1) (by simpa using G) (by simpa using F)⟩
  .have⟨l,C,y⟩:=ZD h;refine⟨_,C,λE vs hl hh=>?_⟩;cases vs with
   |nil=>simp at hl
   |cons v vs=>simp only[hL];exact⟨v,vs,rfl,hh 0 x v rfl rfl rfl,y E vs (by simpa using hl) λi p u g1 G F=>hh (i+1) p u (by simpa using g1) (by simpa using G) (by simpa using F)⟩
theorem aaA{ws}:∀{n i k:Nat} {b:Bool},(Ox ws n i)[k]?=some b->b=Aw (i+k) ws
 |0,i,k,b,h=>by simp[Ox]at h
 |n+1,i,0,b,h=>by simp[Ox]at h;exact h.symm
 |n+1,i,k+1,b,h=>by
  have:=aaA (n:=n) (i:=i+1) (k:=k) (b:=b) (by simpa[Ox]using h)
  rwa [show i+(k+1)=i+1+k by omega]
theorem aqt{us:List Value}{n:Nat}:us.set n ((us[n]?).getD undef)=us:=by
 apply eT;intro i;rw[bh];split
 .rename_i h;subst h;split
  .rename_i h;simp[h]
  .rename_i h;rw[bD (by omega)]
 .rfl
def aaB:List DV->List Nat->List DV->List DV
 |ts,n::j,v::vs=>aaB (ts.set n v) j vs
 |ts,_,_=>ts
theorem aaC:∀{j:List Nat} {ts vs:List DV} {K:List DV->Option β},Xd ts j vs K=some q->K (aaB ts j vs)=some q
 |[],ts,[],K,h=>h
 |[],ts,v::vs,K,h=>by simp[Xd]at h
 |n::j,ts,[],K,h=>by simp[Xd]at h
 |n::j,ts,v::vs,K,h=>by simp only[Xd,kF]at h;have y:=aaC h;simpa only[aaB]using y
theorem agn{E:Env}{us:List Value}:∀{C:List Nat} {ts vs:List DV},hL E ts us->hL E vs (C.map λn=>(us[n]?).getD undef)->hL E (aaB ts C vs) us
 |[],ts,[],j,y=>j
 |[],ts,v::vs,j,y=>j
 |n::C,ts,[],j,y=>j
 |n::C,ts,v::vs,j,y=>by simp only[bI,hL]at y;have⟨u,us',e,G,F⟩:=y;obtain⟨rfl,rfl⟩:=e;have:=Zb j n G;rw[aqt]at this;simp only[aaB];exact agn this F
theorem ago:∀{is:List Nat} {pb:im} {cs:List (List DV)} {K:im->Option β},PV pb is cs K=some q->∃pb',K pb'=some q/\(∀i,live pb' i↔live pb i)/\
 ∀i b,pb'[i]?=some (some b)->∃y,pb[i]?=some (some y)/\b.ty=y.ty/\((i∉is/\b=y)\/∃(k:Nat) (c:List DV),is[k]?=some i/\cs[k]?=some c/\b.cells=c/\b.w=true)
 |[],pb,[],K,h=>⟨pb,h,λ_=>IT,λi b hb=>⟨b,hb,rfl,.inl ⟨by simp,rfl⟩⟩⟩
 |[],pb,c::cs,K,h=>by simp[PV]at h
 |i0::is,pb,[],K,h=>by simp[PV]at h
 |i0::is,pb,c::cs,K,h=>by
  simp only[PV]at h;split at h
  .rename_i y j;rw[xX]at j;rw[kF]at h;have⟨pb',h1,Y,X⟩:=ago h;have W:=(aC.1 j).1
   have hl:∀i,live (pb.set i0 (some ⟨y.ty,c,true⟩)) i↔live pb i:=λi=>by
    simp only[live,bh];split
    .rename_i h;subst h;exact⟨λ_=>⟨_,j⟩,λ_=>⟨⟨y.ty,c,true⟩,by simp[]⟩⟩
    .rfl
   refine⟨pb',h1,λi=>(Y i).trans (hl i),λi b hb=>?_⟩;have⟨b1,g1,R,J⟩:=X i b hb;rw[bh]at g1;split at g1
   .rename_i hi;subst hi;simp only[ak]at g1;subst g1;refine⟨y,j,R,.inr ?_⟩;rcases J with⟨_,rfl⟩|⟨k,H,F,C,G⟩
    .exact⟨0,c,rfl,rfl,rfl,rfl⟩
    .exact⟨k+1,H,by simpa using F,by simpa using C,G⟩
   .rename_i hi;refine⟨b1,g1,R,?_⟩;rcases J with⟨F,C⟩|⟨k,H,F,C,G⟩
    .exact .inl ⟨by simp[hZ hi,F],C⟩
    .exact .inr ⟨k+1,H,by simpa using F,by simpa using C,G⟩
  .cases h
end
section
variable {E E2 : Env} {pb : im} {ro : List θ} {rw : List DR}
structure Over(pb:im)(ro:List θ)(rw:List DR)(E E2:Env):Prop where
 data:lE E.U E2.U E.w E2.w
 row:∀j v u,adx ro rw j v=true->v.h E u->(DV.row j).h E2 u
 ob:∀j v u,amb ro rw j v=true->v.h E u->(DV.ob j).h E2 u
 own:∀i,live pb i->live E2.pb i/\E2.B i=E.B i
theorem aqu(O:Over pb ro rw E E2){i o:Nat}{v:DV}{u:Value}(j:TC i o v=true)(ho:(RD pb i).isSome=true)(hv:v.h E u):(DV.own i o).h E2 u:=by
 unfold TC at j;split at j
 .rename_i K J;simp only[aD]at j;have H:=aF j.1;have G:=aF j.2;subst H;subst G;simp only[DV.h]at hv ⊢
  have y:live pb i:=by
   cases C:RD pb i with
   |none=>rw[C]at ho;cases ho
   |some b=>exact⟨b,xX.1 C⟩
  have⟨g1,F⟩:=O.own i y;exact⟨g1,by rw[F];exact hv.2⟩
 .cases j
theorem aaD(O:Over pb ro rw E E2):∀{cs:List (Nat×Nat)} {vs:List DV} {us:List Value},Iy cs vs=true->TE pb cs=true->hL E vs us->hL E2 (aub cs) us
 |[],[],us,_,_,h=>h
 |[],_::_,_,h,_,_=>by simp[Iy]at h
 |(_,_)::_,[],_,h,_,_=>by simp[Iy]at h
 |(i,o)::cs,v::vs,us,h,ho,hv=>by simp only[hL]at hv;obtain⟨u,us',rfl,y,j⟩:=hv;simp only[Iy,aD]at h;simp only[TE,aD]at ho;exact⟨u,us',rfl,aqu O h.1 ho.1 y,aaD O h.2 ho.2 j⟩
theorem MA(O:Over pb ro rw E E2):∀(cs:List DS) (r:DT) {vs:List DV} {us:List Value} {y:r.den} {z:(vsT cs r).den},á ro rw cs r vs y=some z->hL E vs us->PU pb cs=true->(vsV cs r z).2=y/\hL E2 (vsV cs r z).1 us
 |[],r,vs,us,y,z,h,hv,ho=>by
  cases vs with
  |nil=>simp only[á]at h;have h:=cK h;subst h;exact⟨rfl,hv⟩
  |cons v vs=>simp[á]at h
 |c::cs,r,[],us,y,z,h,hv,ho=>by cases c<;>simp[á]at h
 |c::cs,r,v::vs,us,y,z,h,hv,ho=>by
  simp only[hL]at hv;obtain⟨u,us',rfl,F,G⟩:=hv;simp only[PU,aD]at ho;cases c with
  |t t=>
   simp only[á]at h;split at h
   .rename_i x z' C hz;have h:=cK h;subst h;have⟨J,H⟩:=MA O cs r hz G ho.2;refine⟨J,?_⟩;exact⟨u,us',rfl,t.κ (DT.RF O.data (DT.Xe C F)),H⟩
   .cases h
  |row j=>
   simp only[á]at h;split at h
   .rename_i C;have⟨J,H⟩:=MA O cs r h G ho.2;refine⟨J,?_⟩;exact⟨u,us',rfl,O.row _ _ _ C F,H⟩
   .cases h
  |ob j=>
   simp only[á]at h;split at h
   .rename_i C;have⟨J,H⟩:=MA O cs r h G ho.2;refine⟨J,?_⟩;exact⟨u,us',rfl,O.ob _ _ _ C F,H⟩
   .cases h
  |own i o=>
   simp only[á]at h;split at h
   .rename_i C;have⟨J,H⟩:=MA O cs r h G ho.2;refine⟨J,?_⟩;simp only[vsV,hL];refine⟨u,us',rfl,?_,H⟩;unfold TC at C;split at C
    .rename_i i' o';simp only[aD]at C;have R:=aF C.1;have e2:=aF C.2;subst R;subst e2;simp only[DV.h]at F ⊢
     have K:live pb i:=by
      cases W:RD pb i with
      |none=>have X:=ho.1;simp only[W]at X;cases X
      |some b=>exact⟨b,xX.1 W⟩
     have⟨g1,g2⟩:=O.own i K;exact⟨g1,by rw[g2];exact F.2⟩
    .cases C
   .cases h
  |nil=>
   simp only[á]at h;split at h
   .rename_i C;have⟨J,H⟩:=MA O cs r h G ho.2;refine⟨J,?_⟩;simp only[vsV,hL];refine⟨u,us',rfl,?_,H⟩;unfold amc at C;split at C
    .simp only[DV.h]at F ⊢;exact F
    .cases C
   .cases h
  |fn f cs'=>
   simp only[á]at h;split at h
   .rename_i C;have⟨J,H⟩:=MA O cs r h G ho.2;refine⟨J,?_⟩;simp only[vsV,hL];refine⟨u,us',rfl,?_,H⟩;unfold asx at C;split at C
    .rename_i f' Y;simp only[aD]at C;have R:=aF C.1;subst R;simp only[DV.h]at F ⊢;obtain⟨ws,rfl,hw⟩:=F;exact⟨ws,rfl,aaD O C.2 ho.1 hw⟩
    .cases C
   .cases h
theorem amS(O:Over pb ro rw E E2){pb':im}{cs:Nat->List Value->TypeId->Prop}(hb:∀i b,pb'[i]?=some (some b)->∃us,cs i us b.ty/\hL E b.cells us):∀(l:List (Nat×List DS)) (r:DT) {y:r.den} {z:(boT l r).den},boX ro pb' rw l r y=some z->TF pb l=true->
 (boV l r z).2=y/\∀(k i:Nat) (c:List DV),(boN l)[k]?=some i->(boV l r z).1[k]?=some c->∃us t,cs i us t/\hL E2 c us
 |[],r,y,z,h,ho=>by simp only[boX]at h;have h:=cK h;subst h;exact⟨rfl,λk i c h=>by simp[boN]at h⟩
 |(i0,H)::l,r,y,z,h,ho=>by
  simp only[TF,aD]at ho;unfold boX at h;cases j:RD pb' i0 with
  |none=>simp[j]at h
  |some b=>
  cases C:boX ro pb' rw l r y with
  |none=>simp[j,C]at h
  |some J=>
   rw[j,C]at h;rw[xX]at j;have⟨us,R,K⟩:=hb i0 b j;have⟨g1,Y⟩:=amS O hb l r C ho.2;have⟨X,W⟩:=MA O H _ h K ho.1.2;have e:(boV ((i0,H)::l) r z)=((vsV H (boT l r) z).1::(boV l r J).1,(boV l r J).2):=by simp only[boV,X]
   rw[e];refine⟨g1,λk i c F G=>?_⟩;cases k with
   |zero=>simp[boN]at F G;subst F;subst G;exact⟨us,_,R,W⟩
   |succ k=>exact Y k i c (by simpa[boN]using F) (by simpa using G)
end
section
variable {V : World} {U0 L Lx : Nat -> Prop} {B B' : Nat -> Nat} {A A' : yH} {pb pb' : im} {rw rw' : List DR} {w w' : World} {ts OI : List DV} {a a' : Act} {β : Type}
def rK(A:yH)(rw:List DR):yH:=λn=>match rw[n]? with
 |some (.own _ _ _)=>A n
 |some (.obj _)=>A n
 |_=>(none,0)
theorem amT{e}{k}:w.ownsRow 0 e k (.slice none 0 0) 0 []:=⟨by simp,.inl ⟨rfl,rfl⟩⟩
theorem ZE{j}{x:Code}(m:Mem V U0 L B A pb rw w)(Jk:hL (env U0 B A pb rw w) ts a.tmps.toList)(hok:okJ j x ts pb=true)(hLx:∀b,Lx b↔Ow B A pb rw b)(mx:Mem w U0 Lx B' A' pb' rw' w')(hx:hL (env U0 B' A' pb' rw' w') OI a'.tmps.toList)(hso:eY (writes x) a a')
 (hbx:∀i,live pb i->live pb' i/\B' i=B i) {k:j.T.den->Option β} {q:β} (h:TG j pb OI pb' rw' k=some q):
 ∃z,k z=some q/\∀{γ:Type} {K:DK γ} {q:γ},headD j x ts pb z K=some q->∃A2 ts1 C F',Mem V U0 L B' A2 C F' w'/\hL (env U0 B' A2 C F' w') ts1 a'.tmps.toList/\K ts1 C F'=some q/\(∀i,live C i↔live pb i)/\∀i,live pb i->B' i=B i:=by
 unfold TG at h;split at h
 .rename_i hcl;have⟨ts2,Zt,F,ps,h,m2,ai1,_,e2,_⟩:=wU (al:=λ_=>true) (ps:=[]) (us:=[]) _ h mx hx (by simp[hL]);split at h
  .rename_i vs y hvs hy;split at h
   .rename_i y2 hy2;split at h
    .rename_i z hz;refine⟨z,h,λ{γ K q} hd=>?_⟩;simp only[okJ,aD]at hok;obtain⟨⟨⟨⟨_,ho1⟩,ho2⟩,_⟩,_⟩:=hok;have R:=as9 hy
     have hU:∀(H:im),(∀i,live H i↔live pb i)->∀Y i b,iN B' (rK A' F) H (TB j.ro y) Y i b->iN B' A' Zt F Y i b/\(Y=true->(rK A' F) i=A' i):=by
      intro H hl Y i b hb;cases Y with
      |false=>exact⟨⟨(e2.bx i (hbx i ((hl i).1 hb.1)).1).1,hb.2⟩,λh=>by cases h⟩
      |true=>
       have⟨r,ad,h1,h2,h3,W⟩:=hb;cases r with
       |dead=>exact absurd rfl h2
       |own e t l=>
        rcases R.own i e t l h1 with g|⟨_,g⟩
        .have e3:rK A' F i=A' i:=by unfold rK;rw[g]
         exact⟨⟨_,ad,g,by simp,by rw[<-e3];exact h3,W⟩,λ_=>e3⟩
        .have e3:rK A' F i=(none,0):=by unfold rK;rcases g with g|g<;>rw[g]
         rw[e3]at h3;cases h3
       |obj d=>
        have⟨d',g,_⟩:=R.IZ i d h1;have e3:rK A' F i=A' i:=by unfold rK;rw[g]
        exact⟨⟨_,ad,g,by simp,by rw[<-e3];exact h3,W⟩,λ_=>e3⟩
     have hUs:∀(H:im),(∀i,live H i↔live pb i)->∀b,Us U0 B' (rK A' F) H (TB j.ro y) b->Us U0 B' A' Zt F b:=λH hl b hb=>hb.imp id λ⟨Y,i,hb⟩=>⟨Y,i,(hU H hl Y i b hb).1⟩
     have ad9:∀(H:im),(∀i,live H i↔live pb i)->Over pb j.ro F (env U0 B' A' Zt F w') (env U0 B' (rK A' F) H (TB j.ro y) w'):=by
      intro H hl;refine⟨⟨λ_ _ _=>rfl,au _,λb _ hb=>hUs H hl b hb⟩,λn v u hr hv=>?_,λn v u hr hv=>?_,λi hi=>⟨(hl i).2 hi,rfl⟩⟩
      .unfold adx at hr;simp only[aD]at hr;have⟨hr1,J⟩:=hr;have⟨e,t,l,G⟩:=R.isO n hr1;refine⟨e,t,l,G,?_⟩;split at J
       .rename_i j';split at J
        .rename_i e3 t3 l3 hj hd;rw[gX]at hd;have hj:=aF hj;subst hj;simp only[DV.h]at hv;obtain⟨e4,t4,l4,W,rfl⟩:=hv;have W:F[n]?=some (.own e4 t4 l4):=W;rcases R.own n e t l G with g|⟨_,g⟩
         .rw[W]at g;simp only[ak,DR.own.injEq]at g;obtain⟨rfl,rfl,g⟩:=g;cases g;change Value.slice (A' n).1 _ (A' n).2=Value.slice (rK A' F n).1 _ (rK A' F n).2;rw[show rK A' F n=A' n by unfold rK;rw[W]]
         .rw[W]at g;simp at g
        .cases J
       .simp only[DV.h]at hv;split at J
        .cases J
        .rename_i hno;rw[gX]at hno;rcases R.own n e t l G with g|⟨rfl,g⟩
         .exact absurd g (hno e t l)
         .change u=Value.slice (rK A' F n).1 0 (rK A' F n).2;rw[show rK A' F n=(none,0)by unfold rK;rcases g with g|g<;>rw[g]];exact hv
       .cases J
      .unfold amb at hr;simp only[aD]at hr;have⟨hr1,J⟩:=hr;have⟨d,G⟩:=R.isI n hr1;split at J
       .rename_i j';split at J
        .rename_i d3 hj hd;have hj:=aF hj;subst hj;simp only[DV.h]at hv ⊢;obtain⟨d4,ad,W,h5,rfl⟩:=hv;have⟨d',g,gm,_⟩:=R.IZ n d G;have W:F[n]?=some (.obj d4):=W;rw[g]at W;simp only[ak,DR.obj.injEq]at W;subst W;refine⟨d,ad,G,?_,by simp only[OD.at,gm]⟩;change (rK A' F n).1=some ad;rw[show rK A' F n=A' n by unfold rK;rw[g]];exact h5
        .cases J
       .cases J
     unfold headD at hd;generalize hzz:vsV (dsS j.sl) (boT j.bo (roT j.ro)) z=zz at hd;have⟨vs3,y3⟩:=zz;dsimp only at hd;generalize hyy:boV j.bo (roT j.ro) y3=yy at hd;have⟨vss,y4⟩:=yy;dsimp only at hd;rw[my]at hd;have⟨ts3,hd,hj3⟩:=ZD hd;have hy3:y3=y2:=by have:=(MA (ad9 pb λ_=>IT) _ _ hz (ad8 ai1 hvs) ho1).1;rw[hzz]at this;exact this
     subst hy3;have hy4:y4=y:=by have:=(amS (ad9 pb λ_=>IT) (pb':=Zt) (cs:=λ_ _ _=>True) (λi b hb=>let ⟨cs,_,h2,_⟩:=m2.box i b hb;⟨cs,trivial,h2⟩) _ _ hy2 ho2).1;rw[hyy]at this;exact this
     subst hy4
     have VB:∀(X:List DV),BX Oo pb (λpb=>PV pb (boN j.bo) vss λpb=>K X pb (TB j.ro y4))=some q->
      ∃C,K X C (TB j.ro y4)=some q/\(∀i,live C i↔live pb i)/\Mem V U0 L B' (rK A' F) C (TB j.ro y4) w':=by
      intro X W;rw[uT]at W;have⟨C,W,hl,hbs⟩:=ago W;have hl:∀i,live C i↔live pb i:=λi=>(hl i).trans ov
      have O:=ad9 C hl;refine⟨C,W,hl,?_⟩
      have auq:lE (Us U0 B A pb rw) (Us U0 B' (rK A' F) C (TB j.ro y4)) w w':=by
       refine⟨λb hb G=>mx.same b hb λh=>G (.inr ((hLx b).1 h)),mx.size,λb hb hu=>?_⟩;rcases hUs C hl b hu with g|⟨Y,i,g⟩
       .exact .inl g
       .rcases(m2.low _ _ _ g).2 with g|g
        .omega
        .exact .inr ((hLx b).1 g)
      have BE:Sub Oo (env U0 B A pb rw w) (env U0 B' (rK A' F) C (TB j.ro y4) w'):=⟨auq,λi hi=>⟨(hl i).2 hi,(hbx i hi).2⟩,λn e t l G=>(by cases G),λn d G=>(by cases G),λn p e t l G _=>(by cases G;simp only[DV.h]),λn p d ad G _ _=>(by cases G;simp only[DV.h])⟩;refine⟨mx.os.trans m.os,mx.tape.trans m.tape,mx.output.trans m.output,cn m.size mx.size,m.as8 hLx mx,m.u0,λY i b hb=>m.aw7 hLx m2 Y i b (hU C hl Y i b hb).1,λY i kd' i' b h1 h2=>m2.inj _ _ _ _ _ (hU C hl Y i b h1).1 (hU C hl kd' i' b h2).1,λi b hb=>?_,λn e t l G=>?_,λn d G=>?_⟩
      .have⟨b0,g1,g2,g3⟩:=hbs i b hb;obtain⟨b00,g4,rfl⟩:=tQ.1 g1;have⟨b',g5,g6,g7⟩:=T2 hcl i b00 g4;have hBi:=(hbx i ⟨b00,g4⟩).2;rcases g3 with⟨g8,rfl⟩|⟨kk,c,g8,g9,rfl,g10⟩
       .have⟨cs,k1,k2,k3⟩:=m.box i b00 g4
        have hw:b'.w=false:=by
         rcases g7 with g7|g7
         .rw[cq]at g7;exact absurd ((uP _ _).1 g7) g8
         .exact g7
        have⟨_,_,_,k6⟩:=mx.box i b' g5;have⟨k7,k8⟩:=k6 hw;refine⟨cs,by rw[k8,hBi];exact k1,kE BE _ k2,λhw2=>?_⟩;have⟨k9,k10⟩:=k3 hw2;exact⟨by rw[hBi];exact k9,by rw[k8,hBi];exact k10⟩
       .have⟨us,t,k1,k2⟩:=(amS O (pb':=Zt) (cs:=λi us t=>w'.heap[B' i]?=some (.cells us.toArray t (0,0))) (λi b hb=>let ⟨cs,h1,h2,_⟩:=m2.box i b hb;⟨cs,h1,h2⟩) _ _ hy2 ho2).2 kk i b.cells g8 (by rw[hyy];exact g9);have⟨us',k3,k4,_⟩:=mx.box i b' g5;rw[k1]at k3;simp only[ak,Obj.cells.injEq]at k3;refine⟨us,by rw[k1,k3.2.1,<-g6,<-g2],k2,λhf=>by rw[g10]at hf;cases hf⟩
      .rcases R.own n e t l G with g|⟨rfl,g⟩
       .have⟨xs,k1,k2⟩:=m2.row n e t l g;refine⟨xs,?_,DT.lR O.data k2⟩;rw[show rK A' F n=A' n by unfold rK;rw[g]];exact k1
       .refine⟨[],?_,DT.EQ⟩;rw[show rK A' F n=(none,0)by unfold rK;rcases g with g|g<;>rw[g]];exact amT
      .have⟨d',g,_,gh⟩:=R.IZ n d G;have⟨b,o,k1,k2,k3⟩:=m2.IZ n d' g;exact⟨b,o,by rw[show rK A' F n=A' n by unfold rK;rw[g]];exact k1,k2,OD.mono O.data (gh _ _ _ k3)⟩
     have aur:∃X,BX Oo pb (λpb=>PV pb (boN j.bo) vss λpb=>K X pb (TB j.ro y4))=some q/\∀C,(∀i,live C i↔live pb i)->hL (env U0 B' (rK A' F) C (TB j.ro y4) w') X a'.tmps.toList:=by
      have hsl:∀C,(∀i,live C i↔live pb i)->hL (env U0 B' (rK A' F) C (TB j.ro y4) w') ts3 a'.tmps.toList:=by
       intro C hl;have O:=ad9 C hl
       have auq:lE (Us U0 B A pb rw) (Us U0 B' (rK A' F) C (TB j.ro y4)) w w':=by
        refine⟨λb hb G=>mx.same b hb λh=>G (.inr ((hLx b).1 h)),mx.size,λb hb hu=>?_⟩;rcases hUs C hl b hu with g|⟨Y,i,g⟩
        .exact .inl g
        .rcases(m2.low _ _ _ g).2 with g|g
         .omega
         .exact .inr ((hLx b).1 g)
       have BE:Sub Oo (env U0 B A pb rw w) (env U0 B' (rK A' F) C (TB j.ro y4) w'):=⟨auq,λi hi=>⟨(hl i).2 hi,(hbx i hi).2⟩,λn e t l G=>(by cases G),λn d G=>(by cases G),λn p e t l G _=>(by cases G;simp only[DV.h]),λn p d ad G _ _=>(by cases G;simp only[DV.h])⟩;have hold:=kE BE ts Jk;refine hj3 _ _ ?_ λi p v hi hp hv=>?_
       .rw[<-pI hold];simp[hso.1]
       .have hm:=aaA hi;rw[cq]at hm;have G:i∉writes x:=λh=>by rw[(uP _ _).2 h]at hm;cases hm
        have hs:=hso.2 i G;have⟨v',g1,g2⟩:=JV hold i p hp;simp only[du]at g1 hv;rw[hs,g1]at hv;cases hv;exact g2
      exact⟨_,aaC hd,λC hl=>agn (hsl C hl) (by have:=(MA (ad9 C hl) _ _ hz (ad8 ai1 hvs) ho1).2;rw[hzz]at this;exact this)⟩
     have⟨X,W,ayp⟩:=aur;have⟨C,h5,hl,m5⟩:=VB X W;exact⟨_,X,C,_,m5,ayp C hl,h5,hl,λi hi=>(hbx i hi).2⟩
    .cases h
   .cases h
  .cases h
 .cases h
end
theorem MB:∀{pb:im} {i:Nat},(RD (qB pb) i).isSome=(RD pb i).isSome
 |[],_=>rfl
 |some b::pb,0=>rfl
 |none::pb,0=>rfl
 |some b::pb,i+1=>by simp only[qB,RD];exact MB
 |none::pb,i+1=>by simp only[qB,RD];exact MB
theorem Xm{pb}:∀{l:List (Nat×Nat)},TE (qB pb) l=TE pb l
 |[]=>rfl
 |(i,o)::l=>by simp only[TE,Xm,MB]
theorem OL{pb}:∀{l:List DS},PU (qB pb) l=PU pb l
 |[]=>rfl
 |d::l=>by simp only[PU,OL];cases d<;>simp only[MB,Xm]
theorem Xn{pb}:∀{l:List (Nat×List DS)},TF (qB pb) l=TF pb l
 |[]=>rfl
 |(i,cs)::l=>by simp only[TF,Xn,OL,MB]
theorem aqv{j:DJ}{x:Code}{ts:List DV}{pb:im}:okJ j x ts (qB pb)=okJ j x ts pb:=by unfold okJ;rw[OL,Xn]
def ayq:Exit->Prop
 | .normal=>True
 | .exit _=>True
 | .ret=>True
 |_=>False
section
variable {P : Program} {T : List TI} {C : F9} {O : DTs} {JC JL : List (Nat × DJ)} {β : Type} [qT β] {q : β}
omit [qT β]in
theorem Nx.more{V:World}{U0 L:Nat->Prop}{B G:Nat->Nat}{pb j:im}{a F a':Act}{w':World}{K:DK β}(hl:∀i,live pb i->live j i/\G i=B i)(H:F.defers=a.defers)(h:Nx V U0 L G j F K q a' w'):Nx V U0 L B pb a K q a' w':=
 let ⟨B',A',y,pb',rw',m,X,W,R,J⟩:=h
 ⟨B',A',y,pb',rw',m,X,W,R.trans H,λi hi=>let ⟨g1,g2⟩:=hl i hi;let ⟨g3,Y⟩:=J i g1;⟨g3,Y.trans g2⟩⟩
theorem DN(hT:dL P T)(hC:DD P C)(hm:P.follows .mixedOrders=true):∀(c:Code) {JC:List (Nat×DJ)} {Q:Exit->DK β} {V:World} {U0 L:Nat->Prop} {B:Nat->Nat} {A:yH} {ts:List DV} {pb:im} {rw:List DR} {a:Act} {w:World},
 ev aj T C O JC JL c Q ts pb rw=some q->Mem V U0 L B A pb rw w->hL (env U0 B A pb rw w) ts a.tmps.toList->c.wp P (λe a' w'=>ayq e/\Nx V U0 L B pb a (Q e) q a' w'/\eY (writes c) a a') a w
 | .skip,JC,Q,V,U0,L,B,A,ts,pb,rw,a,w,h,m,F=>by simp only[ev]at h;exact wp_skip ⟨trivial,⟨B,A,ts,pb,rw,m,F,h,rfl,λi hi=>⟨hi,rfl⟩⟩,eY.refl _ _⟩
 | .label _,JC,Q,V,U0,L,B,A,ts,pb,rw,a,w,h,m,F=>by simp only[ev]at h;exact wp_label ⟨trivial,⟨B,A,ts,pb,rw,m,F,h,rfl,λi hi=>⟨hi,rfl⟩⟩,eY.refl _ _⟩
 | .exit id,JC,Q,V,U0,L,B,A,ts,pb,rw,a,w,h,m,F=>by simp only[ev]at h;exact wp_exit ⟨trivial,⟨B,A,ts,pb,rw,m,F,h,rfl,λi hi=>⟨hi,rfl⟩⟩,eY.refl _ _⟩
 | .ret,JC,Q,V,U0,L,B,A,ts,pb,rw,a,w,h,m,F=>by simp only[ev]at h;exact wp_ret ⟨trivial,⟨B,A,ts,pb,rw,m,F,h,rfl,λi hi=>⟨hi,rfl⟩⟩,eY.refl _ _⟩
 | .seq x y,JC,Q,V,U0,L,B,A,ts,pb,rw,a,w,h,m,F=>by
  have hwx:∀i∈writes x,i∈writes (.seq x y):=λi hi=>by simp[writes,hi]
  have hwy:∀i∈writes y,i∈writes (.seq x y):=λi hi=>by simp[writes,hi]
  unfold ev at h;split at h
  .refine wp_seq (se (DN hT hC hm x h m F) λe a1 w1 R=>?_);have⟨he,hn,G⟩:=R;cases e with
   |normal=>
    have⟨B1,A1,W,H,J,m1,X,h1,hd,hl⟩:=hn;refine se (DN hT hC hm y h1 m1 X) λe a2 w2 R=>?_
    exact⟨R.1,R.2.1.more hl hd,(G.mono hwx).trans (R.2.2.mono hwy)⟩
   |exit i=>exact⟨he,hn,G.mono hwx⟩
   |ret=>exact⟨he,hn,G.mono hwx⟩
   |_=>exact he.elim
  .rename_i j hj;split at h
   .rename_i hok;have⟨ma,sa⟩:=m.anchor
    have h:=h
    refine wp_seq (se (DN hT hC hm x h ma (nD sa F)) λe a1 w1 R=>?_);have⟨he,⟨B1,A1,W,H,J,mx,hx,h1,hd,hl⟩,G⟩:=R;have hl:∀i,live pb i->live H i/\B1 i=B i:=λi hi=>hl i (DM.2 hi)
    have out:∀{K:DK β},K W (Vo pb H) J=some q->Nx V U0 L B pb a K q a1 w1:=by
     intro K hK;have⟨mo,so⟩:=m.aw8 (λ_=>IT) mx λi hi=>(hl i hi).2
     exact⟨B1,A1,W,_,J,mo,nD so hx,hK,hd,λi hi=>⟨T1.2 (hl i hi).1,(hl i hi).2⟩⟩
    cases e with
    |normal=>
     have⟨z,hk,hh⟩:=ZE m F hok (λ_=>IT) mx hx G hl h1;have⟨A2,ts2,Zt,rw2,m2,ai1,h2,g1,g2⟩:=hh hk;refine se (DN hT hC hm y h2 m2 ai1) λe a2 w2 R=>?_
     exact⟨R.1,R.2.1.more (λi hi=>⟨(g1 i).2 hi,g2 i hi⟩) hd,(G.mono hwx).trans (R.2.2.mono hwy)⟩
    |exit i=>exact⟨he,out h1,G.mono hwx⟩
    |ret=>exact⟨he,out h1,G.mono hwx⟩
    |_=>exact he.elim
   .cases h
 | .cond c x y,JC,Q,V,U0,L,B,A,ts,pb,rw,a,w,h,m,F=>by
  have hwx:∀i∈writes x,i∈writes (.cond c x y):=λi hi=>by simp[writes,hi]
  have hwy:∀i∈writes y,i∈writes (.cond c x y):=λi hi=>by simp[writes,hi]
  unfold ev at h;split at h
  .rename_i hc;have hc:=gH hc F;exact wp_cond_true hc (se (DN hT hC hm x h m F) λe a1 w1 R=>⟨R.1,R.2.1,R.2.2.mono hwx⟩)
  .rename_i hc;have hc:=gH hc F;exact wp_cond_false hc (se (DN hT hC hm y h m F) λe a1 w1 R=>⟨R.1,R.2.1,R.2.2.mono hwy⟩)
  .rename_i b hc;have hc:=gH hc F;rcases amm h with⟨rfl,h⟩|⟨rfl,h⟩
   .exact wp_cond_true hc (se (DN hT hC hm x h m F) λe a1 w1 R=>⟨R.1,R.2.1,R.2.2.mono hwx⟩)
   .exact wp_cond_false hc (se (DN hT hC hm y h m F) λe a1 w1 R=>⟨R.1,R.2.1,R.2.2.mono hwy⟩)
  .cases h
 | .block id x,JC,Q,V,U0,L,B,A,ts,pb,rw,a,w,h,m,F=>by
  simp only[ev]at h;refine wp_block (se (DN hT hC hm x h m F) λe a1 w1 R=>?_);have⟨he,hn,G⟩:=R;cases e with
  |normal=>exact⟨he,hn,G⟩
  |ret=>exact⟨he,hn,G⟩
  |exit i=>
   unfold Exit.inBlock;have⟨B1,A1,W,H,J,m1,X,h1,hd,hl⟩:=hn;by_cases hi:i=id
   .subst hi;simp only[sd];simp only[show Nat.beq i i=true from Nat.beq_refl i]at h1;exact⟨trivial,⟨B1,A1,W,H,J,m1,X,h1,hd,hl⟩,G⟩
   .simp only[hi,pn];simp only[show Nat.beq i id=false from by cases hb:Nat.beq i id with|false=>rfl|true=>exact absurd (aF hb) hi]at h1;exact⟨trivial,⟨B1,A1,W,H,J,m1,X,h1,hd,hl⟩,G⟩
  |_=>exact he.elim
 | .scope x,JC,Q,V,U0,L,B,A,ts,pb,rw,a,w,h,m,F=>by
  simp only[ev]at h;refine wp_scope_straight (se (DN hT hC hm x h m F) λe a1 w1 R=>?_);cases e with
  |normal=>exact R
  |ret=>exact R
  |exit i=>exact R
  |_=>exact R.1.elim
 | .region id ops draw,JC,Q,V,U0,L,B,A,ts,pb,rw,a,w,h,m,F=>by
  unfold ev at h;cases draw with
  |false=>exact wp_region_list (OH (al:=λ_=>true) hT (aaz hC) ops.toList h m F λa' w' hn G=>⟨trivial,hn.nx,G⟩)
  |true=>exact amR hT (aaz hC) hm h m F λa' w' hn G=>⟨trivial,hn,G⟩
 | .loop x,JC,Q,V,U0,L,B,A,ts,pb,rw,a,w,h,m,F=>by
  unfold ev at h;split at h
  .generalize 5=N at h
   refine wp_loop_ghost (λn a1 w1=>∃B1 A1 W H J,unr (λn again ts pb rw=>ev aj T C O (asy JC n) JL x (λe ts pb rw=>match e with
    | .normal=>again ts pb rw
    | .exit i=>Q (.exit i) ts pb rw
    | .ret=>Q .ret ts pb rw
    |_=>none) ts pb rw) n W H J=some q/\Mem V U0 L B1 A1 H J w1/\hL (env U0 B1 A1 H J w1) W a1.tmps.toList/\eY (writes x) a a1/\a1.defers=a.defers/\∀i,live pb i->live H i/\B1 i=B i) N ⟨B,A,ts,pb,rw,h,m,F,eY.refl _ _,rfl,λi hi=>⟨hi,rfl⟩⟩ ?_
   rintro n a1 w1 ⟨B1,A1,W,H,J,hn,m1,X,G,hd,hl⟩;cases n with
   |zero=>cases hn
   |succ n=>
    simp only[unr]at hn;refine se (DN hT hC hm x hn m1 X) λe a2 w2 R=>?_
    have⟨he,hx,Y⟩:=R;cases e with
    |normal=>have⟨B2,A2,ts2,Zt,rw2,m2,ai1,h2,hd2,hl2⟩:=hx;exact⟨n,Nat.lt_succ_self n,B2,A2,ts2,Zt,rw2,h2,m2,ai1,G.trans Y,hd2.trans hd,λi hi=>let ⟨g1,g2⟩:=hl i hi;let ⟨g3,g4⟩:=hl2 i g1;⟨g3,g4.trans g2⟩⟩
    |exit i=>exact⟨he,hx.more hl hd,G.trans Y⟩
    |ret=>exact⟨he,hx.more hl hd,G.trans Y⟩
    |_=>exact he.elim
  .rename_i j hj;split at h
   .rename_i hok;have⟨ma,sa⟩:=m.anchor;have aw9:okJ j x ts (qB pb)=true:=by rw[aqv];exact hok
    have hLx:∀b,Ow B A pb rw b↔Ow B A (qB pb) rw b:=λb=>⟨λ⟨k,i,h⟩=>⟨k,i,(sX λi=>DM).2 h⟩,λ⟨k,i,h⟩=>⟨k,i,(sX λi=>DM).1 h⟩⟩
    have aus:=nD sa F;rw[<-aa9]at h;have⟨z0,h,hh0⟩:=ZE ma aus aw9 hLx ma aus (eY.refl _ _) (λi hi=>⟨hi,rfl⟩) h
    have h:xW FU (λz again=>headD j x ts (qB pb) z λW H J=>
     ev aj T C O JC JL x (λe OI pb' rw'=>match e with
      | .normal=>TG j pb OI pb' rw' again
      | .exit i=>Q (.exit i) OI (Vo pb pb') rw'
      | .ret=>Q .ret OI (Vo pb pb') rw'
      |_=>none) W H J) z0=some q:=h
    generalize FU=N at h
    refine wp_loop_ghost (λn a1 w1=>∃z B1,xW n (λz again=>headD j x ts (qB pb) z λW H J=>
     ev aj T C O JC JL x (λe OI pb' rw'=>match e with
      | .normal=>TG j pb OI pb' rw' again
      | .exit i=>Q (.exit i) OI (Vo pb pb') rw'
      | .ret=>Q .ret OI (Vo pb pb') rw'
      |_=>none) W H J) z=some q/\eY (writes x) a a1/\a1.defers=a.defers/\
     ∀{K:DK β},headD j x ts (qB pb) z K=some q->∃A2 W H J,Mem w U0 (Ow B A pb rw) B1 A2 H J w1/\hL (env U0 B1 A2 H J w1) W a1.tmps.toList/\K W H J=some q/\(∀i,live H i↔live (qB pb) i)/\∀i,live (qB pb) i->B1 i=B i) N ⟨z0,B,h,eY.refl _ _,rfl,λh=>hh0 h⟩ ?_
    rintro n a1 w1 ⟨z,B1,hn,G,hd,hh⟩;cases n with
    |zero=>cases hn
    |succ n=>
     simp only[xW]at hn;have⟨A2,W,H,J,m1,X,h1,hl1,hB1⟩:=hh hn;refine se (DN hT hC hm x h1 m1 X) λe a2 w2 R=>?_
     have⟨he,⟨B2,A3,ts2,Zt,rw2,mx,hx,h2,hd2,hl2⟩,Y⟩:=R;have hl:∀i,live (qB pb) i->live Zt i/\B2 i=B i:=λi hi=>let ⟨g1,g2⟩:=hl2 i ((hl1 i).2 hi);⟨g1,g2.trans (hB1 i hi)⟩
     have hl':∀i,live pb i->live Zt i/\B2 i=B i:=λi hi=>hl i (DM.2 hi)
     have out:∀{K:DK β},K ts2 (Vo pb Zt) rw2=some q->Nx V U0 L B pb a K q a2 w2:=by
      intro K hK;have⟨mo,so⟩:=m.aw8 (λ_=>IT) mx λi hi=>(hl' i hi).2
      exact⟨B2,A3,ts2,_,rw2,mo,nD so hx,hK,hd2.trans hd,λi hi=>⟨T1.2 (hl' i hi).1,(hl' i hi).2⟩⟩
     cases e with
     |normal=>have h2:TG j pb ts2 Zt rw2 _=some q:=h2;rw[<-aa9]at h2;have⟨z2,hk,hh2⟩:=ZE ma aus aw9 hLx mx hx (G.trans Y) hl h2;exact⟨n,Nat.lt_succ_self n,z2,B2,hk,G.trans Y,hd2.trans hd,λh=>hh2 h⟩
     |exit i=>exact⟨he,out h2,G.trans Y⟩
     |ret=>exact⟨he,out h2,G.trans Y⟩
     |_=>exact he.elim
   .cases h
 | .goto _,JC,Q,V,U0,L,B,A,ts,pb,rw,a,w,h,m,F=>by simp only[ev]at h;cases h
end
end Go.Vc
namespace Go.Vc
open Go Go.RowKit
section
variable {β : Type} {q : β}
mutual
theorem QT.x_s{am}{E}:(Q:QT)->(p:DV)->(m:MS)->(rw0:List DR)->(y:Q.den)->(G:MS)->Q.x am p m=some (y,G)->MI E m rw0->
 MI E G (Q.mk y rw0).2/\(∃a,G.rs=m.rs++a)/\∀E0 v C,(∃a,C=G.rs++a)->TrI am C E E0->p.h E v->(Q.mk y rw0).1.h E0 v
 | .v t,p,m,rw0,y,G,h,hm=>by
  simp only[QT.x]at h;split at h
  .rename_i x K;obtain⟨rfl,rfl⟩:=h;exact⟨hm,⟨[],by simp⟩,λE0 v C _ s F=>t.κ (DT.RF s.sl (DT.Xe K F))⟩
  .cases h
 | .own e t,p,m,rw0,y,G,h,hm=>by
  simp only[QT.x]at h;split at h
  .rename_i j;split at h
   .rename_i e' t' xs hj;rw[gX]at hj;split at h
    .rename_i hh he hs;obtain⟨rfl,rfl⟩:=h;have he:=aF he;subst he hh;have⟨X,hE⟩:=hm.take hj;refine⟨X,⟨_,rfl⟩,λE0 v C ⟨a,ha⟩ s F=>?_⟩;have W:C[rw0.length]?=some (some j):=by rw[ha];simp[<-hm.len]
     have⟨g1,J⟩:=s.row _ _ _ _ _ W hE;obtain⟨e2,t2,l2,H,rfl⟩:=F;rw[hE]at H;simp only[ak,DR.own.injEq]at H;obtain⟨rfl,rfl,Y⟩:=H;cases Y;simp only[QT.mk,DV.h];exact⟨_,_,_,g1,by rw[J]⟩
    .cases h
   .cases h
  .simp only[ak,fc]at h;obtain⟨rfl,rfl⟩:=h;refine⟨hm.emp e t,⟨_,rfl⟩,λE0 v C ⟨a,ha⟩ s F=>?_⟩;have W:C[rw0.length]?=some none:=by rw[ha];simp[<-hm.len]
   have⟨⟨e1,t1,g1⟩,J⟩:=s.nil _ W;simp only[DV.h]at F;subst F;simp only[QT.mk,DV.h];exact⟨_,_,_,g1,by rw[J];rfl⟩
  .cases h
 | .ptr n,p,m,rw0,y,G,h,hm=>by
  simp only[QT.x]at h;split at h
  .rename_i i o;split at h
   .rename_i i' hl;split at h
    .rename_i hb;have hb:=aF hb;subst hb;simp only[ak,fc]at h;obtain⟨_,rfl⟩:=h;refine⟨hm,⟨[],by simp⟩,λE0 v C _ s F=>?_⟩;simp only[DV.h]at F;obtain⟨g1,rfl⟩:=F;have⟨J,g3⟩:=s.bx _ _ hl g1;simp only[QT.mk,DV.h];exact⟨J,by rw[g3]⟩
    .cases h
   .cases h
  .cases h
 | .nil n,p,m,rw0,y,G,h,hm=>by
  simp only[QT.x]at h;split at h
  .rename_i z;split at h
   .rename_i hb;simp only[ak,fc]at h;obtain⟨_,rfl⟩:=h;refine⟨hm,⟨[],by simp⟩,λE0 v C _ s F=>?_⟩;simp only[DV.h]at F;subst F;simp only[QT.mk,DV.h];exact NK.awy hb
   .cases h
  .cases h
 | .unit,p,m,rw0,y,G,h,hm=>by
  simp only[QT.x]at h;split at h
  .simp only[ak,fc]at h;obtain⟨_,rfl⟩:=h;refine⟨hm,⟨[],by simp⟩,λE0 v C _ s F=>?_⟩;simp only[DV.h,hL]at F;obtain⟨vs,rfl,F⟩:=F;simp only[QT.mk,DV.h,hL];exact⟨vs,rfl,F⟩
  .cases h
 | .pair a b,p,m,rw0,y,G,h,hm=>by
  simp only[QT.x]at h;split at h
  .rename_i p ps;split at h
   .rename_i x m1 K;split at h
    .rename_i y2 m2 hy;simp only[ak,fc]at h;obtain⟨rfl,rfl⟩:=h;have⟨h1,⟨a1,h2⟩,h3⟩:=QT.x_s a p m rw0 x m1 K hm;have⟨k1,⟨a2,k2⟩,k3⟩:=QT.awA b ps m1 _ y2 m2 hy h1;refine⟨k1,⟨a1++a2,by rw[k2,h2,bn]⟩,λE0 v C ⟨c,hc⟩ s F=>?_⟩;simp only[DV.h,hL]at F;obtain⟨vs,rfl,u,us,hv,V,R⟩:=F;simp only[QT.mk,DV.h,hL];exact⟨vs,rfl,u,us,hv,h3 E0 u C ⟨a2++c,by rw[hc,k2,bn]⟩ s V,k3 E0 us C ⟨c,hc⟩ s R⟩
    .cases h
   .cases h
  .cases h
theorem QT.awA{am}{E}:(Q:QT)->(ps:List DV)->(m:MS)->(rw0:List DR)->(y:Q.den)->(C:MS)->Q.xs am ps m=some (y,C)->MI E m rw0->
 MI E C (Q.mks y rw0).2/\(∃a,C.rs=m.rs++a)/\∀E0 vs j,(∃a,j=C.rs++a)->TrI am j E E0->hL E ps vs->hL E0 (Q.mks y rw0).1 vs
 | .unit,ps,m,rw0,y,C,h,hm=>by
  simp only[QT.xs]at h;split at h
  .obtain⟨_,rfl⟩:=h;exact⟨hm,⟨[],by simp⟩,λE0 vs j _ s F=>by simpa only[QT.mks,hL]using F⟩
  .cases h
 | .pair a b,ps,m,rw0,y,C,h,hm=>by
  simp only[QT.xs]at h;split at h
  .rename_i p ps;split at h
   .rename_i x J hx;split at h
    .rename_i V W hy;simp only[ak,fc]at h;obtain⟨rfl,rfl⟩:=h;have⟨h1,⟨a1,h2⟩,h3⟩:=QT.x_s a p m rw0 x J hx hm;have⟨Y,⟨a2,K⟩,X⟩:=QT.awA b ps J _ V W hy h1;refine⟨Y,⟨a1++a2,by rw[K,h2,bn]⟩,λE0 v j ⟨c,R⟩ s F=>?_⟩;have⟨u,us,hv,H,G⟩:=F;exact⟨u,us,hv,h3 E0 u j ⟨a2++c,by rw[R,K,bn]⟩ s H,X E0 us j ⟨c,R⟩ s G⟩
    .cases h
   .cases h
  .cases h
 | .v _,ps,m,rw0,y,C,h,_=>by simp[QT.xs]at h
 | .own _ _,ps,m,rw0,y,C,h,_=>by simp[QT.xs]at h
 | .ptr _,ps,m,rw0,y,C,h,_=>by simp[QT.xs]at h
 | .nil _,ps,m,rw0,y,C,h,_=>by simp[QT.xs]at h
end
theorem agp{am}:∀{n:Nat},afS am n=true->∀{k:Nat},k<n->FG am k=some k
 |0,_,k,hk=>by omega
 |n+1,h,k,hk=>by
  simp only[afS,aD]at h;by_cases j:k=n
  .subst j;have y:=h.1;split at y
   .rename_i i hi;rw[hi,aF y]
   .cases y
  .exact agp h.2 (by omega)
end
end Go.Vc








namespace Go.Vc
open Go Go.RowKit
theorem agq:∀(l:List BK) (r:DT) (z:(FC l r).den) (rw:List DR),(y0 l r z rw).1.length=l.length
 |[],_,_,_=>rfl
 |j::l,r,z,rw=>by simp only[y0,aJ,agq l r]
section
variable {V : World} {U0 L : Nat -> Prop} {B : Nat -> Nat} {A : yH} {pb : im} {rw : List DR} {w : World}
theorem aaE{σ}{rs}{pb0}{rw0}(hb:∀(k:Nat) (F:DB),pb0[k]?=some (some F)->∃i b,σ k=some i/\pb[i]?=some (some b)/\F.ty=b.ty/\F.w=true)
 (K:∀(n:Nat) (r:DR),rw0[n]?=some r->(∃j e t l,rs[n]?=some (some j)/\rw[j]?=some r/\r=.own e t l)\/(rs[n]?=some none/\∃e t,r=.own e t [])):
 (∀n b,iN (lB B σ) (lA A rs) pb0 rw0 true n b->∃j,rs[n]?=some (some j)/\iN B A pb rw true j b)/\(∀k b,iN (lB B σ) (lA A rs) pb0 rw0 false k b->∃i,σ k=some i/\iN B A pb rw false i b):=by
 constructor
 .rintro n b ⟨r,ad,g1,J,H,R⟩;rcases K n r g1 with⟨j,e,t,l,y,G,W⟩|⟨y,_⟩
  .refine⟨j,y,r,ad,G,J,?_,R⟩;simpa only[lA,y]using H
  .simp only[lA,y]at H;cases H
 .rintro k b ⟨⟨F,g1⟩,J⟩;have⟨i,b1,y,G,_⟩:=hb k F g1;exact⟨i,y,⟨b1,G⟩,by simpa only[lB,y,fg]using J⟩
theorem Mem.leave(m:Mem V U0 L B A pb rw w){σ:Nat->Option Nat}{rs:List (Option Nat)}{pb0:im}{rw0:List DR}
 (hb:∀(k:Nat) (H:DB),pb0[k]?=some (some H)->∃i b,σ k=some i/\pb[i]?=some (some b)/\H.ty=b.ty/\H.w=true)
 (hc:∀(k:Nat) (H:DB) (i:Nat) (b:DB),pb0[k]?=some (some H)->σ k=some i->pb[i]?=some (some b)->∀vs,hL (env U0 B A pb rw w) b.cells vs->hL (env U0 (lB B σ) (lA A rs) pb0 rw0 w) H.cells vs)
 (hσ:∀(k W i:Nat),σ k=some i->σ W=some i->k=W)
 (hr:∀(n:Nat) (r:DR),rw0[n]?=some r->(∃j e t l,rs[n]?=some (some j)/\rw[j]?=some r/\r=.own e t l)\/(rs[n]?=some none/\∃e t,r=.own e t []))
 (hρ:∀(n n' j:Nat),rs[n]?=some (some j)->rs[n']?=some (some j)->n=n'):Mem V U0 L (lB B σ) (lA A rs) pb0 rw0 w:=by
 have⟨h1,Y⟩:=aaE (B:=B) (A:=A) hb hr
 have h3:∀k i b,iN (lB B σ) (lA A rs) pb0 rw0 k i b->∃y,iN B A pb rw k y b:=by
  intro k i b h;cases k with
  |true=>have⟨j,_,h⟩:=h1 i b h;exact⟨j,h⟩
  |false=>have⟨j,_,h⟩:=Y i b h;exact⟨j,h⟩
 have hU:∀b,Us U0 (lB B σ) (lA A rs) pb0 rw0 b->Us U0 B A pb rw b:=by
  rintro b (h|⟨k,i,h⟩)
  .exact .inl h
  .have⟨y,h⟩:=h3 k i b h;exact .inr ⟨k,y,h⟩
 refine⟨m.os,m.tape,m.output,m.size,m.same,m.u0,λk i b h=>?_,λk i W y b h h'=>?_,λk H h=>?_,λn e t l h=>?_,λn d h=>?_⟩
 .have⟨y,g⟩:=h3 k i b h;exact m.low k y b g
 .cases k with
  |true=>
   have⟨j,g1,F⟩:=h1 i b h;cases W with
   |true=>have⟨j',R,G⟩:=h1 y b h';have:=(m.inj _ _ _ _ _ F G).2;subst this;exact⟨rfl,hρ _ _ _ g1 R⟩
   |false=>have⟨j',R,G⟩:=Y y b h';have:=(m.inj _ _ _ _ _ F G).1;cases this
  |false=>
   have⟨j,g1,F⟩:=Y i b h;cases W with
   |true=>have⟨j',R,G⟩:=h1 y b h';have:=(m.inj _ _ _ _ _ F G).1;cases this
   |false=>have⟨j',R,G⟩:=Y y b h';have:=(m.inj _ _ _ _ _ F G).2;subst this;exact⟨rfl,hσ _ _ _ g1 R⟩
 .have⟨i,b,g1,F,R,G⟩:=hb k H h;have⟨cs,K,X,_⟩:=m.box i b F;exact⟨cs,by simp only[lB,g1,fg,R];exact K,hc k H i b h g1 F cs X,λhw=>by rw[G]at hw;cases hw⟩
 .rcases hr n _ h with⟨j,e',t',l',K,X,J⟩|⟨K,e',t',J⟩
  .have⟨xs,g1,F⟩:=m.row j e t l X;refine⟨xs,by simp only[lA,K];exact g1,DT.lR ⟨λ_ _ _=>rfl,au _,λb _ h=>hU b h⟩ F⟩
  .simp only[DR.own.injEq]at J;obtain⟨rfl,rfl,J⟩:=J;cases J;exact⟨[],by simp only[lA,K];exact vM w 0 e t.size,DT.EQ⟩
 .rcases hr n _ h with⟨j,e',t',l',K,X,J⟩|⟨K,e',t',J⟩<;>cases J
theorem amU(m:Mem V U0 L B A pb rw w){El:List BK}{Q:QT}{am:List (Nat×Nat)}{e:(FC El .unit).den}{y:Q.den}{p:DV}{v:Value}{ms F:MS}(hp:p.h (env U0 B A pb rw w) v)
 (hnd:G6 (QL am)=true) (hkl:Ou am El.length=true) (hX:bkX am pb El 0 .unit ⟨[],rw⟩ (λm=>some ((),m))=some (e,ms)) (hQ:Q.x am p ms=some (y,F)):
 ∃A',Mem V U0 L (lB B (FG am)) A' (y0 El .unit e []).1 (Q.mk y (y0 El .unit e []).2.2).2 w/\(Q.mk y (y0 El .unit e []).2.2).1.h (env U0 (lB B (FG am)) A' (y0 El .unit e []).1 (Q.mk y (y0 El .unit e []).2.2).2 w) v/\(y0 El .unit e []).1.length=El.length/\∀k,k<El.length->live (y0 El .unit e []).1 k:=by
 have⟨z0,m1,X,g1,g2,g3,⟨a1,g4⟩,⟨b1,g5⟩,g6,g7,g8⟩:=amD (am:=am) (E:=env U0 B A pb rw w) El 0 .unit ⟨[],rw⟩ _ [] e ms hX (MI.nil (env U0 B A pb rw w));simp only[ak,fc]at g1;obtain⟨_,rfl⟩:=g1;have⟨k1,⟨a2,k2⟩,k3⟩:=QT.x_s (am:=am) (E:=env U0 B A pb rw w) Q p m1 X y F hQ g3;have e1:(y0 El .unit e []).2.2=X:=by rw[g2]
 rw[e1];generalize ayj:(y0 El .unit e []).1=pb0 at g6 g7 g8;generalize ayJ:(Q.mk y X).2=W at k1;have hbw:∀(k:Nat) (K:DB),pb0[k]?=some (some K)->∃i b,FG am k=some i/\pb[i]?=some (some b)/\K.ty=b.ty/\K.w=true:=λk K h=>by have⟨i,b,h1,h2,h3,h4,_⟩:=g7 k K h;rw[cq]at h1;exact⟨i,b,h1,h2,h3,h4⟩
 have hr:=k1.row;have⟨h1,h2⟩:=aaE (B:=B) (A:=A) hbw hr
 have H:TrI am F.rs (env U0 B A pb rw w) (env U0 (lB B (FG am)) (lA A F.rs) pb0 W w):=by
  refine⟨⟨λ_ _ _=>rfl,au _,λb _ R=>?_⟩,λk i hk hl=>?_,λn j e t l G hj=>?_,λn G=>?_⟩
  .rcases R with R|⟨k,i,R⟩
   .exact .inl R
   .cases k with
    |true=>have⟨j,_,h⟩:=h1 i b R;exact .inr ⟨_,j,h⟩
    |false=>have⟨j,_,h⟩:=h2 i b R;exact .inr ⟨_,j,h⟩
  .have⟨K,hb0⟩:=g8 k (Mx hkl hk);refine⟨⟨K,hb0⟩,?_⟩;show lB B (FG am) k=B i;simp only[lB,hk,fg]
  .obtain⟨n',J⟩:∃r,W[n]?=some r:=⟨_,aw (by rw[<-k1.len];exact(aC.1 G).1)⟩;rcases hr n n' J with⟨j',e',t',l',c1,c2,c3⟩|⟨c1,_⟩
   .rw[G]at c1;simp only[ak]at c1;subst c1;rw[hj]at c2;refine⟨by rw[c2];exact J,?_⟩;show lA A F.rs n=A j;simp only[lA,G]
   .rw[G]at c1;cases c1
  .obtain⟨n',J⟩:∃r,W[n]?=some r:=⟨_,aw (by rw[<-k1.len];exact(aC.1 G).1)⟩;rcases hr n n' J with⟨j',e',t',l',c1,c2,c3⟩|⟨_,e,t,c1⟩
   .rw[G]at c1;cases c1
   .refine⟨⟨e,t,by rw[<-c1];exact J⟩,?_⟩;show lA A F.rs n=(none,0);simp only[lA,G]
 refine⟨lA A F.rs,m.leave hbw (λk K i b c1 c2 c3 us R=>?_) (λk k' i h h'=>RH hnd h h') hr k1.inj,k3 _ v F.rs ⟨[],by simp⟩ H hp,g6,g8⟩;have⟨i',b',d1,d2,_,_,d5⟩:=g7 k K c1;rw[cq,c2]at d1;simp only[ak]at d1;subst d1;have d2:pb[i]?=some (some b'):=d2;rw[c3]at d2;simp only[ak]at d2;subst d2;have Y:∀(n:Nat) (x:Option Nat),m1.rs[n]?=some x->F.rs[n]?=some x:=λn x G=>by rw[k2,bC (aC.1 G).1];exact G
 exact d5 _ ⟨[],by simp⟩ ⟨H.sl,H.bx,λn j e t l G hj=>H.row n j e t l (Y n _ G) hj,λn G=>H.nil n (Y n _ G)⟩ us R
end
section
variable {P : Program} {T : List TI} {V : World} {U0 L : Nat -> Prop} {B : Nat -> Nat} {A : yH} {ts : List DV} {pb : im} {rw : List DR} {a : Act} {w : World} {β : Type} {q : β} {C : F9} {O : DTs} {JC JL : List (Nat × DJ)}
def T3(j:Array Value):ResultVar->Sem Value
 | .tmp t=>pure (j.getD t undef)
 | .cell c t=>do loadVar t (<-asAddr (j.getD c undef))
theorem adA(G:dL P T)(m:Mem V U0 L B A pb rw w)(j:hL (env U0 B A pb rw w) ts a.tmps.toList):∀(rs:List ResultVar) {K:List DV->Option β},QN aj T rs ts pb rw K=some q->
 ∃xs vs,K xs=some q/\hL (env U0 B A pb rw w) xs vs/\(rs.mapM (T3 a.tmps)).run P w=.ok vs w
 |[],K,h=>⟨[],[],h,by simp[hL],by simp⟩
 | .tmp t::rs,K,h=>by
  simp only[QN]at h;split at h
  .rename_i x y;have⟨xs,vs,R,J,H⟩:=adA G m j rs h;have hv:=Mp y j;refine⟨x::xs,((a.tmps.toList[t]?).getD undef)::vs,R,?_,?_⟩
   .exact⟨_,_,rfl,hv,J⟩
   .have e:a.tmps.getD t undef=(a.tmps.toList[t]?).getD undef:=by simp
    simp only[List.mapM_cons,T3,aR,bE,bq,H,e]
  .cases h
 | .cell c t::rs,K,h=>by
  simp only[QN]at h;split at h
  .rename_i x y;have hv:=Mp y j;have⟨r,u,ad,W,g1,Y,X,_⟩:=Mr (P:=P) G m h hv;have⟨xs,vs,R,J,H⟩:=adA G m j rs g1;refine⟨r::xs,u::vs,R,?_,?_⟩
   .exact⟨_,_,rfl,Y,J⟩
   .have F:=X w rfl;have e:a.tmps.getD c undef=.pointer (some ad):=by rw[<-W];simp
    rw[W]at F;simp only[Instr.loadAt,Instr.sureAddr,aR,bE,bq]at F;simp only[List.mapM_cons,T3,aR,e,asAddr,bE,bq,F,H]
  .cases h
def aqw(vs:List Value):Value:=match vs with|[v]=>v|vs=>.tuple vs.toArray
theorem Xo(R:dL P T)(m:Mem V U0 L B A pb rw w)(H:hL (env U0 B A pb rw w) ts a.tmps.toList){fn:Func}{K:List DV->Option β}(h:QN aj T fn.results.toList ts pb rw K=some q):
 ∃xs v,K xs=some q/\(VA xs).h (env U0 B A pb rw w) v/\(results fn a.tmps).run P w=.ok v w:=by
 have⟨xs,vs,X,j,W⟩:=adA R m H _ h;refine⟨xs,aqw vs,X,?_,?_⟩
 .cases xs with
  |nil=>simp only[hL]at j;subst j;exact⟨#[],rfl,by simp[hL]⟩
  |cons x xs=>
   cases xs with
   |nil=>simp only[hL]at j;obtain⟨v,G,rfl,F,rfl⟩:=j;exact F
   |cons y xs=>have F:=j;obtain⟨v,G,rfl,_,v2,J,rfl,_⟩:=F;exact⟨_,rfl,j⟩
 .unfold results;rw[aR,Array.mapM_eq_mapM_toList,Sem.run_map];have e:∀f:ResultVar->Sem Value,f=T3 a.tmps->(fn.results.toList.mapM f).run P w=(fn.results.toList.mapM (T3 a.tmps)).run P w:=λf h=>by rw[h]
  rw[e _ (by funext x;cases x<;>rfl),W];simp only[bq]
  match vs with
  |[]=>simp[aqw]
  |[x]=>simp[aqw]
  |x::y::Y=>simp[aqw]
theorem agr:∀(xs:List DV) (n:Nat) {K:List DV->Option β},TJ xs n K=some q->K (xs++List.replicate (n-xs.length) .On)=some q/\xs.length<=n
 |[],n,K,h=>⟨by simpa[TJ]using h,by simp⟩
 |x::xs,n+1,K,h=>by have:=agr xs n h;simpa using this
 |_::_,0,_,h=>by simp[TJ]at h
theorem amV{E}:∀n,hL E (List.replicate n .On) (List.replicate n undef)
 |0=>by simp[hL]
 |n+1=>by simp only[oV,hL,DV.h];exact⟨_,_,rfl,rfl,amV n⟩
theorem ags[qT β](hT:dL P T)(hC:DD P C)(hm:P.follows .mixedOrders=true){f}{fn}{c}(Y:P.funcs[f]?=some fn)(hb:fn.body=some c)(hn:(fn.name== "runtime.NumGoroutine")=false)
 {args} {R:Exit->DK β} {G:Value->World->Prop} {vs:List Value} (h:TJ args fn.ntmps (λts=>ev aj T C O JC JL c R ts pb rw)=some q) (m:Mem V U0 L B A pb rw w) (j:hL (env U0 B A pb rw w) args vs)
 (hR:∀(e:Exit),¬(e=.normal\/e=.ret)->∀ts pb rw,R e ts pb rw≠some q)
 (hG:∀(e:Exit),(e=.normal\/e=.ret)->∀(B':Nat->Nat) (A':yH) (y:List DV) (pb':im) (rw':List DR) (a':Act) (w':World),Mem V U0 L B' A' pb' rw' w'->hL (env U0 B' A' pb' rw' w') y a'.tmps.toList->(∀i,live pb i->live pb' i/\B' i=B i)->R e y pb' rw'=some q->∃v,(results fn a'.tmps).run P w'=.ok v w'/\G v w'):pG P f vs.toArray w G:=by
 refine⟨.inl ⟨⟨fn,Y,hn,by simp[hb]⟩,?_⟩⟩;have⟨h,X⟩:=agr _ _ h;have e:({ tmps:=vs.toArray++Array.replicate (fn.ntmps - vs.toArray.size) undef,defers:=[] }:Act).tmps.toList=vs++List.replicate (fn.ntmps - args.length) undef:=by simp[pI j]
 have J:hL (env U0 B A pb rw w) (args++List.replicate (fn.ntmps - args.length) .On) ({ tmps:=vs.toArray++Array.replicate (fn.ntmps - vs.toArray.size) undef,defers:=[] }:Act).tmps.toList:=by rw[e]; exact ady j (amV _)
 refine calls_of_wp Y hb (se (DN hT hC hm c h m J) λe a' w' hq=>?_);have⟨he,⟨B',A',y,pb',rw',W,h1,K,h3,h4⟩,_⟩:=hq;cases e with
 |normal=>have⟨v,H,F⟩:=hG _ (.inl rfl) _ _ _ _ _ _ _ W h1 h4 K;exact⟨h3,v,H,v,rfl,F⟩
 |ret=>have⟨v,H,F⟩:=hG _ (.inr rfl) _ _ _ _ _ _ _ W h1 h4 K;exact⟨h3,v,H,v,rfl,F⟩
 |exit i=>exact absurd K (hR _ (by simp) _ _ _)
 |_=>exact he.elim
theorem ap9(hT:dL P T)(hC:DD P C)(hm:P.follows .mixedOrders=true){f:FuncId}{fn:Func}{c:Code}(hf:P.funcs[f]?=some fn)(hb:fn.body=some c)(hn:(fn.name== "runtime.NumGoroutine")=false) {s:LS}
 (h:∀z o,s.fn z=some o->al0 aj T C O JC JL fn s z=some o):ada P f s:=by
 intro z o hz U0 B A vs w m hargs;have h:=h z o hz;unfold al0 at h;rw[hb]at h;have hlen:(y0 s.B (Jh s.P .unit) z []).1.length=s.B.length:=agq _ _ _ _;generalize y0 s.B (Jh s.P .unit) z []=bm at h m hargs hlen ⊢;have⟨pb,y,rw0⟩:=bm;dsimp only at h m hargs hlen ⊢;generalize G7 s.P .unit y rw0=pm at h m hargs ⊢;have⟨args,u,rw⟩:=pm;have hB:∀i,live pb i->i<s.B.length:=λi hi=>by rw[<-hlen]; exact agl hi
 letI:=s.Q.eqb
 letI:=(FC s.E .unit).eqb
 have h:=h;refine ags hT hC hm hf hb hn h m hargs (λe he ts pb rw hh=>?_) λe he B' A' OI pb' rw' a' w' m' Jk hl hh=>?_
 .cases e<;>first|exact he (.inl rfl)|exact he (.inr rfl)|(simp only[awp]at hh; cases hh)
 .have hh:QN aj T fn.results.toList OI pb' rw' (λxs=>apY s OI pb' rw' (VA xs))=some o:=by rcases he with rfl|rfl<;>exact hh
  have⟨xs,v,h1,h2,h3⟩:=Xo (P:=P) hT m' Jk hh;refine⟨v,h3,?_⟩;unfold apY at h1;generalize apQ s.E 0 pb' (s.Q.ids (VA xs) (idA s.B.length))=am at h1;have⟨ts2,Zt,rw2,ps,h4,m2,_,h5,e2,_⟩:=wU (al:=λ_=>true) _ h1 m' Jk (ps:=[VA xs]) (us:=[v]) (by simp only[hL]; exact⟨_,_,rfl,h2,rfl⟩);split at h4
  .rename_i p;obtain⟨v',vs',e5,h5,rfl⟩:=h5;simp only[fj,pj]at e5; subst e5;split at h4
   .rename_i ee ms hck hX;simp only[aD]at hck;split at h4
    .rename_i y2 ms' hQ;simp only[ak]at h4; subst h4;have⟨A3,m3,k1,k2,k3⟩:=amU m2 h5 hck.1.1 hck.1.2 hX hQ;refine⟨_,A3,_,_,_,m3,k1,λi hi=>?_,rfl,rfl⟩;have hi2:=hB i hi;have hlk:=agp hck.2 hi2;refine⟨k3 i (Mx hck.1.2 hlk),?_⟩;simp only[lB,hlk,fg];exact(hl i hi).2
    .cases h4
   .cases h4
  .cases h4
theorem atK(hT:dL P T)(hC:DD P C)(hm:P.follows .mixedOrders=true){f:FuncId}{fn:Func}{c:Code}(hf:P.funcs[f]?=some fn)(hb:fn.body=some c)(hn:(fn.name== "runtime.NumGoroutine")=false) {s:ES}
 (h:∀x q,s.fn x=some q->evF aj T C O JC JL fn s.P s.Q x=some q):al2 P f s:=by
 intro x o hx U0 B A vs w m hargs;have h:=h x o hx;unfold evF at h;rw[hb]at h
 letI:=s.Q.eqb
 have h:=h;refine ags hT hC hm hf hb hn h m hargs (λe he ts pb rw hh=>?_) λe he B' A' OI pb' rw' a' w' m' Jk hl hh=>?_
 .cases e<;>first|exact he (.inl rfl)|exact he (.inr rfl)|(simp only[awq]at hh; cases hh)
 .have hh:QN aj T fn.results.toList OI pb' rw' (λxs=>apZ s.Q OI pb' rw' (VA xs))=some o:=by rcases he with rfl|rfl<;>exact hh
  have⟨xs,v,h1,h2,h3⟩:=Xo (P:=P) hT m' Jk hh;refine⟨v,h3,?_⟩;unfold apZ at h1;have⟨ts2,Zt,rw2,ps,h4,m2,_,h5,e2,_⟩:=wU (al:=λ_=>true) _ h1 m' Jk (ps:=[VA xs]) (us:=[v]) (by simp only[hL]; exact⟨_,_,rfl,h2,rfl⟩);split at h4
  .rename_i p;obtain⟨v',vs',e5,h5,rfl⟩:=h5;simp only[fj,pj]at e5; subst e5;split at h4
   .rename_i y2 ms' hQ;simp only[ak]at h4; subst h4;have⟨A3,m3,k1,k2,k3⟩:=amU (El:=[]) (am:=[]) (e:=()) m2 h5 rfl rfl rfl hQ;exact⟨_,A3,_,_,_,m3,k1,λi hi=>(by have⟨b,hb⟩:=hi; simp at hb),rfl,rfl⟩
   .cases h4
  .cases h4
end
def ofL:List (Nat×Bool)->OT
 |[]=>.nil
 |(i,true)::l=>.rd i (ofL l)
 |(i,false)::l=>.op i (ofL l)
def oX(n:Nat)(f:List Nat):OT:=ofL ((List.range n).map λi=>(i,!Aw i f))
def oI(n:Nat):OT:=oX n []
def oN(l:List Nat):OT:=ofL (l.map λn=>(n / 2,Nat.beq (n % 2) 1))
abbrev DS.i:DS:=.t (.int .i64)
abbrev DS.b:DS:=.t .bool
abbrev PK.i:PK:=.v (.int .i64)
abbrev PK.b:PK:=.v .bool
abbrev QT.i:QT:=.v (.int .i64)
abbrev QT.b:QT:=.v .bool
abbrev DT.p1(a:DT):DT:=.pair a .unit
abbrev DT.p2(a b:DT):DT:=.pair a (.pair b .unit)
abbrev DT.p3(a b c:DT):DT:=.pair a (.pair b (.pair c .unit))
abbrev DT.p4(a b c d:DT):DT:=.pair a (.pair b (.pair c (.pair d .unit)))
abbrev DT.p5(a b c d e:DT):DT:=.pair a (.pair b (.pair c (.pair d (.pair e .unit))))
abbrev DT.p6(a b c d e f:DT):DT:=.pair a (.pair b (.pair c (.pair d (.pair e (.pair f .unit)))))
abbrev QT.p1(a:QT):QT:=.pair a .unit
abbrev QT.p2(a b:QT):QT:=.pair a (.pair b .unit)
abbrev QT.p3(a b c:QT):QT:=.pair a (.pair b (.pair c .unit))
abbrev QT.p4(a b c d:QT):QT:=.pair a (.pair b (.pair c (.pair d .unit)))
abbrev QT.p5(a b c d e:QT):QT:=.pair a (.pair b (.pair c (.pair d (.pair e .unit))))
abbrev QT.p6(a b c d e f:QT):QT:=.pair a (.pair b (.pair c (.pair d (.pair e (.pair f .unit)))))
structure KC(P:Program) where
 n:Nat
 c:Wd->EC
 ok:aly P n (c aj)
def kcs{P:Program}:List (KC P)->Wd->F9
 |[],_=>[]
 |k::l,W=>(k.n,k.c W)::kcs l W
theorem adf{P}:∀l:List (KC P),DD P (kcs l aj)
 |[]=>trivial
 |k::l=>⟨k.ok,adf l⟩
def arM{P:Program}:KC P:=⟨2000000,λ_=>.es ⟨.unit,.unit,λ_=>none⟩,λ_ _ h=>by cases h⟩
structure alz(P:Program)(T:List TI):Prop where
 tab:dL P T
 mixed:P.follows .mixedOrders=true
def kes{P:Program}{T:List TI}(kp:alz P T)(n:Nat)(A:DT)(Q:QT)(F:Wd->A.den->Option Q.den)(l:List (KC P))(O:DTs)(H G:List (Nat×DJ)){fn:Func}{c:Code}(C:P.funcs[n]?=some fn)(hb:fn.body=some c)(y:(fn.name== "runtime.NumGoroutine")=false:=by decide +kernel)
 (h:∀W x,evF W T (kcs l W) O H G fn A Q x=F W x):KC P:=
 ⟨n,λW=>.es ⟨A,Q,F W⟩,atK kp.tab (adf l) kp.mixed C hb y λx _ j=>(h aj x).trans j⟩
def kls{P:Program}{T:List TI}(kp:alz P T)(n:Nat)(B:List BK)(A:List PK)(E:List BK)(Q:QT)(F:Wd->(FC B (Jh A .unit)).den->Option (Q.den×(FC E .unit).den))(l:List (KC P))(O:DTs)(H G:List (Nat×DJ)){fn:Func}{c:Code}(C:P.funcs[n]?=some fn)(hb:fn.body=some c)(y:(fn.name== "runtime.NumGoroutine")=false:=by decide +kernel)
 (h:∀W z,al0 W T (kcs l W) O H G fn ⟨B,A,E,Q,F W⟩ z=F W z):KC P:=
 ⟨n,λW=>.ls ⟨B,A,E,Q,F W⟩,ap9 kp.tab (adf l) kp.mixed C hb y λz _ j=>(h aj z).trans j⟩
section
variable {β : Type} {r : β}
theorem agH{X:Type}{f:X->(X->Option β)->Option β}(μ:X->Nat)(R:X->Prop)(g:X->Option β)
 (h:∀z,R z->∀j:X->Option β,(∀y,R y->μ y<μ z->j y=g y)->f z j=g z):∀(n:Nat) (z:X),R z->μ z<n->xW n f z=g z
 |0,z,_,hm=>by omega
 |n+1,z,F,hm=>h z F _ λy C G=>agH μ R g h n y C (by omega)
theorem iI{X:Type}{f:X->(X->Option β)->Option β}(μ:X->Nat)(R:X->Prop)(g:X->Option β){z:X}(C:R z)(hm:μ z<18446744073709551616)
 (h:∀z,R z->∀j:X->Option β,(∀y,R y->μ y<μ z->j y=g y)->f z j=g z):aj.aV f z=g z:=
 agH μ R g h FU z C (by rw[PQ];exact hm)
theorem RK[qT β](a:Option β):FF a a=a:=by
 unfold FF;cases a with
 |none=>rfl
 |some x=>show(bif qT.eq x x then some x else none)=some x;rw[(qT.iff x x).2 rfl];rfl
theorem idx_eq{α:Type}{l:List α}{i:Nat}(h:i<l.length)(K:α->Option β):aah l (i:Int) K=K l[i]:=by unfold aah;rw[aX,aw h];simp
theorem awY{b:Int}(h:b≠0)(K:Option β):nzF b K=K:=by unfold nzF;simp[h]
theorem axh{b:Int}(h:0<=b)(K:Option β):nnF b K=K:=by unfold nnF;simp[h]
theorem aqV{n b:Nat}(h:n<=281474976710656)(j:n*b<=140737488355328)(K:Option β):aai n b K=K:=by unfold aai;simp[h,j]
theorem auX{i:Int}{n:Nat}(h:0<=i)(j:i<=n)(K:Nat->Option β):ads i n K=K i.toNat:=by unfold ads;simp[h,j]
theorem xx[qT β]{e:Bool}{f:Bool->Option β}{b:Option β}(h0:f false=b)(h1:e=true->f true=b):aiq e f=b:=by
 unfold aiq;cases e
 .exact h0
 .simp only[cond_true];rw[h0,h1 rfl,RK]
end
open Go.IntKind (i64 u64)
theorem adY{α:Type}(l:List α)(i:Nat)(h:i<l.length):l.drop i=l[i]::l.drop (i+1):=cu h
def bitsOf(n:Nat):List Int:=if h:n=0 then[]else((n % 2:Nat):Int)::bitsOf (n / 2)
termination_by n
decreasing_by omega
theorem axi:bitsOf 0=[]:=by rw[bitsOf];rfl
theorem axj{n:Nat}(h:n≠0):bitsOf n=((n % 2:Nat):Int)::bitsOf (n / 2):=by rw[bitsOf];simp[h]
def axk:List Int->Nat
 |[]=>0
 |x::l=>x.toNat+2*axk l
def axl(l:List Int):Prop:=∀x∈l,x=0\/x=1
def Nrm(l:List Int):Prop:=bitsOf (axk l)=l
theorem aiK(n:Nat):axl (bitsOf n):=by
 induction n using Nat.strongRecOn with
 |ind n y=>
  by_cases h:n=0
  .subst h;rw[axi];intro x j;cases j
  .rw[axj h];intro x j;rcases aB.1 j with rfl|j
   .omega
   .exact y (n / 2) (by omega) x j
theorem Nrm.bits{l:List Int}(h:Nrm l):axl l:=h▸aiK _
theorem Hb(i:Nat)(h:0<i)(j:i<=maxLen):i64.wrap ((i:Int)-(1))=((i-1:Nat):Int):=by rw[iE]at j;rw[bG _ (by omega)];omega
theorem R'(z:Int)(h:0<=z/\z<18446744073709551616):u64.wrap z=z:=by simp only[IntKind.wrap,IntKind.signed,IntKind.bits];simp;omega
theorem an9(i:Nat)(h:i<9223372036854775807):IntKind.i64.wrap ((i:Int)+1)=((i+1:Nat):Int):=by rw[bG _ (by omega)];omega
end Go.Vc
namespace Go.Vc
open Go Go.RowKit
variable {β : Type}
theorem gQ{α S:Type}{l:List α}(hl:l.length<=9223372036854775807){f:Int×S->(Int×S->Option β)->Option β}(y:Nat->S->Prop)(g:List α->S->Option β){s0:S}(K:y 0 s0)
 (F:∀s (j:Int×S->Option β),y l.length s->f ((l.length:Int),s) j=g [] s)
 (C:∀i (h:i<l.length) s,y i s->∀j:Int×S->Option β,(∀s',y (i+1) s'->j (((i+1:Nat):Int),s')=g (l.drop (i+1)) s')->f ((i:Int),s) j=g (l[i]::l.drop (i+1)) s):
 aj.aV f (0,s0)=g l s0:=by
 refine(iI (λz=>(l.length+1)-z.1.toNat) (λz=>∃i:Nat,z.1=(i:Int)/\i<=l.length/\y i z.2) (λz=>g (l.drop z.1.toNat) z.2) ⟨0,rfl,by omega,K⟩ (by show l.length+1-0<_;omega) ?_).trans ?_
 .rintro⟨z,s⟩ ⟨i,hi,H,hs⟩ j J;dsimp only at hi hs;subst hi;simp only[aX];by_cases h:i<l.length
  .rw[adY l i h];refine C i h s hs j λs' G=>?_
   have:=J (((i+1:Nat):Int),s') ⟨i+1,rfl,by omega,G⟩ (by simp only[aX];omega);simpa only[aX]using this
  .obtain rfl:i=l.length:=by omega
   rw[fP];exact F s j hs
 .simp
theorem dx{i n:Nat}(h:i<n)(a b:Option β):aj.af (decide ((i:Int)<(n:Int))) a b=a:=by rw[ap (by omega)];rfl
theorem dV{n:Nat}(a b:Option β):aj.af (decide ((n:Int)<(n:Int))) a b=b:=by rw[an (by omega)];rfl
theorem axa{p:Prop}[Decidable p](a b:Option β):aj.af (decide p) a b=if p then a else b:=by by_cases h:p<;>simp[h]
theorem aT{c:Bool}(h:c=true)(a b:Option β):aj.af c a b=a:=by subst h;rfl
theorem az{c:Bool}(h:c=false)(a b:Option β):aj.af c a b=b:=by subst h;rfl
theorem bO{α:Type}{l:List α}{i:Nat}(h:i<l.length:=by omega)(K:α->Option β):aj.aH l (i:Int) K=K l[i]:=idx_eq h K
theorem ij{α:Type}{l:List α}{i:Nat}(h:i<l.length:=by omega)(K:α->Option β):aj.cr l (Int.toNat (i:Int)) K=K l[i]:=by show alI l _ K=_;unfold alI;rw[aX,aw h]
theorem da{n b:Nat}(h:n<=281474976710656:=by omega)(j:n*b<=140737488355328:=by omega)(K:Option β):aj.bc n b K=K:=aqV h j K
theorem uz{b:Int}(h:0<=b:=by omega)(K:Option β):aj.jb b K=K:=axh h K
theorem ajI[qT β](a:Option β):aj.gP a a=a:=RK a
theorem jc[qT β](a:Option β):aj.two a=a:=RK a
theorem wA{X:Type}(k:X->Option β)(f:(X->Option β)->Option β):aj.aG k f=f k:=rfl
theorem Jd{i:Int}{n:Nat}(h:0<=i:=by omega)(j:i<=n:=by omega)(K:Nat->Option β):aj.j5 i n K=K i.toNat:=auX h j K
theorem cP(i:Nat)(h:i<9223372036854775807:=by omega):IntKind.i64.wrap ((i:Int)+1)=((i+1:Nat):Int):=an9 i h
end Go.Vc
namespace Go.Vc
variable {β : Type}
theorem GU{S:Type}{N:Nat}(R:N<9223372036854775807){f:Int×S->(Int×S->Option β)->Option β}(y:Nat->S->Prop)(r:Option β){s0:S}(K:y 0 s0)
 (F:∀s (j:Int×S->Option β),y N s->f (((N:Nat):Int),s) j=r)
 (C:∀i,i<N->∀s,y i s->∀j:Int×S->Option β,(∀s',y (i+1) s'->j (((i+1:Nat):Int),s')=r)->f ((i:Int),s) j=r):
 aj.aV f (0,s0)=r:=by
 refine(iI (λz=>(N+1)-z.1.toNat) (λz=>∃i:Nat,z.1=(i:Int)/\i<=N/\y i z.2) (λ_=>r) ⟨0,rfl,by omega,K⟩ (by show N+1-0<_;omega) ?_);rintro⟨z,s⟩ ⟨i,hi,H,hs⟩ j J;dsimp only at hi hs;subst hi;by_cases h:i<N
 .refine C i h s hs j λs' G=>?_
  exact J (((i+1:Nat):Int),s') ⟨i+1,rfl,by omega,G⟩ (by simp only[aX];omega)
 .obtain rfl:i=N:=by omega
  exact F s j hs
def cI{α:Type}(f:α->Int)(l:List α):Int:=(l.map f).sum
theorem qp{α:Type}(f:α->Int):cI f []=0:=rfl
theorem cx{α:Type}(f:α->Int)(x:α)(l:List α):cI f (x::l)=f x+cI f l:=by simp[cI]
theorem kR{α:Type}(f:α->Int)(a b:List α):cI f (a++b)=cI f a+cI f b:=by simp[cI]
theorem L8{α:Type}{f:α->Int}{B:Int}:∀{l:List α},(∀x∈l,-B<=f x/\f x<=B) -> -(B*(l.length:Int))<=cI f l/\cI f l<=B*(l.length:Int)
 |[],_=>by simp[cI]
 |x::l,h=>by
  have C:=h x (by simp);have y:=L8 (l:=l) λw j=>h w (by simp[j])
  rw[cx,aJ,FW,nZ];omega
theorem P1{α:Type}(p:α->Bool)(l:List α)(i:Nat)(h:i<l.length):(l.take (i+1)).filter p=(l.take i).filter p++(if p l[i]=true then[l[i]]else[]):=by rw[show l.take (i+1)=l.take i++[l[i]]by simp,eU];congr 1;by_cases j:p l[i]=true<;>simp[j]
theorem dT{α β:Type}{o:Option α}{a:α}(h:o=some a)(K:α->Option β):aj.ae o K=K a:=by subst h;rfl
end Go.Vc




namespace Go.Vc
open Go Go.RowKit
section
variable {β : Type}
theorem eG{p:Prop}[Decidable p](h:p)(a b:Option β):aj.af (decide p) a b=a:=aT (ap h) a b
theorem cV{p:Prop}[Decidable p](h:¬p)(a b:Option β):aj.af (decide p) a b=b:=az (an h) a b
theorem pF{α:Type}[BEq α][LawfulBEq α]{x y:α}(h:x=y)(a b:Option β):aj.af (x==y) a b=a:=aT (by simpa using h) a b
theorem qy{α:Type}[BEq α][LawfulBEq α]{x y:α}(h:¬x=y)(a b:Option β):aj.af (x==y) a b=b:=az (by simpa using h) a b
theorem fT{α:Type}[BEq α][LawfulBEq α]{x y:α}(h:¬x=y)(a b:Option β):aj.af (x != y) a b=a:=aT (by simpa using h) a b
theorem iD{α:Type}[BEq α][LawfulBEq α]{x y:α}(h:x=y)(a b:Option β):aj.af (x != y) a b=b:=az (by simpa using h) a b
theorem de{p:Prop}[Decidable p]{a b r:Option β}(h:p->a=r)(k:¬p->b=r):aj.af (decide p) a b=r:=(Fs p).elim (λq=>(eG q a b).trans (h q)) λq=>(cV q a b).trans (k q)
theorem dM{α:Type}[BEq α][LawfulBEq α]{x y:α}{a b r:Option β}(h:x=y->a=r)(k:¬x=y->b=r):aj.af (x==y) a b=r:=(Fs _).elim (λq=>(pF q a b).trans (h q)) λq=>(qy q a b).trans (k q)
theorem i7{α:Type}[BEq α][LawfulBEq α]{x y:α}{a b r:Option β}(h:x=y->b=r)(k:¬x=y->a=r):aj.af (x != y) a b=r:=(Fs _).elim (λq=>(iD q a b).trans (h q)) λq=>(fT q a b).trans (k q)
theorem Vq{c:Bool}{a b r:Option β}(h:c=true)(k:a=r):aj.af c a b=r:=(aT h a b).trans k
theorem zG{c:Bool}{a b r:Option β}(h:c=false)(k:b=r):aj.af c a b=r:=(az h a b).trans k
theorem tdy{p:Prop}[Decidable p]{a b r:Option β}(h:p)(k:a=r):aj.af (decide p) a b=r:=(eG h a b).trans k
theorem tdn{p:Prop}[Decidable p]{a b r:Option β}(h:¬p)(k:b=r):aj.af (decide p) a b=r:=(cV h a b).trans k
theorem tqy{α:Type}[BEq α][LawfulBEq α]{x y:α}{a b r:Option β}(h:x=y)(k:a=r):aj.af (x==y) a b=r:=(pF h a b).trans k
theorem tqn{α:Type}[BEq α][LawfulBEq α]{x y:α}{a b r:Option β}(h:¬x=y)(k:b=r):aj.af (x==y) a b=r:=(qy h a b).trans k
theorem tby{α:Type}[BEq α][LawfulBEq α]{x y:α}{a b r:Option β}(h:¬x=y)(k:a=r):aj.af (x != y) a b=r:=(fT h a b).trans k
theorem tbn{α:Type}[BEq α][LawfulBEq α]{x y:α}{a b r:Option β}(h:x=y)(k:b=r):aj.af (x != y) a b=r:=(iD h a b).trans k
theorem tix{α:Type}{l:List α}{i:Nat}{K:α->Option β}{r:Option β}(h:i<l.length)(k:K l[i]=r):aj.aH l (i:Int) K=r:=(bO h K).trans k
theorem tnt{α:Type}{l:List α}{i:Nat}{K:α->Option β}{r:Option β}(h:i<l.length)(k:K l[i]=r):aj.cr l (Int.toNat (i:Int)) K=r:=(ij h K).trans k
theorem vY{α:Type}{o:Option α}{a:α}{K:α->Option β}{r:Option β}(h:o=some a)(k:K a=r):aj.ae o K=r:=by subst h;exact k
theorem F8{n:Nat}{a b r:Option β}(k:b=r):aj.af (decide ((n:Int)<(n:Int))) a b=r:=(dV a b).trans k
theorem HX{i n:Nat}{a b r:Option β}(h:i<n)(k:a=r):aj.af (decide ((i:Int)<(n:Int))) a b=r:=(dx h a b).trans k
end
theorem mS{α X S β}{l}(W:l.length<9223372036854775808){f:X->(X->Option β)->Option β}(st:Nat->S->X)(y:Nat->S->Prop)(G:List α->S->Option β){z0:X}{s0:S}(K:z0=st 0 s0)(R:y 0 s0)
 (F:∀s,y l.length s->∀j:X->Option β,f (st l.length s) j=G [] s)
 (C:∀(i:Nat) (hi:i<l.length) (s:S),y i s->∀j:X->Option β,(∀s',y (i+1) s'->j (st (i+1) s')=G (l.drop (i+1)) s')->f (st i s) j=G (l[i]::l.drop (i+1)) s):aj.aV f z0=G l s0:=by
 subst K
 have key:∀n i s,i<=l.length->l.length-i<n->y i s->xW n f (st i s)=G (l.drop i) s:=by
  intro n;induction n with
  |zero=>intro i s _ h;omega
  |succ n J=>
   intro i s hi V hv;by_cases h:i<l.length
   .rw[cu h];exact C i h s hv _ λs' H=>J (i+1) s' (by omega) (by omega) H
   .have:i=l.length:=by omega
    subst this;rw[fP];exact F s hv _
 have:=key FU 0 s0 (br _) (by rw[PQ];omega) R
 rwa [ry]at this
section
variable {β : Type}
def zb{α:Type}(p:α->Bool)(s:List α):Int:=match s.findIdx? p with|some k=>((k:Nat):Int)|none => -1
theorem uu{α C}{s}(hl:s.length<=1000000)(p)(fn:α->C->Option (Bool×C))(c:C)(h:∀x∈s,fn x c=some (p x,c)):
 aj.aV (λz (y:Int×C->Option (Int×C))=>aj.af (decide (z.1<(s.length:Int))) (aj.aH s z.1 λx=>aj.ae (fn x z.2) λv=>aj.af v.1 (some (z.1,v.2)) (y (IntKind.i64.wrap (z.1+1),v.2))) (some ((-1:Int),z.2))) (0,c)=some (zb p s,c):=by
 refine mS (l:=s) (s0:=()) (by omega) (λi (_:Unit)=>((i:Int),c)) (λi _=>∀j,∀h:j<s.length,j<i->p s[j]=false) (λ_ _=>some (zb p s,c)) rfl (λj _ h=>by omega) ?_ ?_
 .intro _ F y;refine F8 ?_;have:s.findIdx? p=none:=by rw[gC];intro x K;obtain⟨j,H,rfl⟩:=dC.1 K;exact F j H H
  unfold zb;rw[this]
 .intro i hi _ F y V;refine HX hi ?_;rw[bO hi,dT (h _ (aE hi))];by_cases G:p s[i]=true
  .rw[G,aT rfl];have:s.findIdx? p=some i:=by rw[eF];exact⟨hi,G,λj H=>by rw[F j (by omega) H];simp⟩
   unfold zb;rw[this]
  .have G:p s[i]=false:=by simpa using G
   rw[G,az rfl,cP i]
   exact V () λj H R=>by
    by_cases J:j=i
    .subst J;exact G
    .exact F j H (by omega)
theorem aeL{α}(p)(s:List α):decide (0<=zb p s)=s.any p:=by
 unfold zb;cases h:s.findIdx? p with
 |none=>
  rw[gC]at h;have:s.any p=false:=by rw[kZ];intro x j;simp[h x j]
  rw[this];rfl
 |some k=>have⟨C,y,_⟩:=eF.1 h;have:=jt.2 ⟨_,aE C,y⟩;rw[this];simp
theorem lx{α}(p)(s:List α):(zb p s = -1/\s.find? p=none)\/∃k:Nat,∃h:k<s.length,zb p s=(k:Int)/\s.find? p=some s[k]/\p s[k]=true:=by
 unfold zb;cases h:s.findIdx? p with
 |none=>refine .inl ⟨rfl,?_⟩;rw[gC]at h;rw[kv];intro x F;simp[h x F]
 |some k=>have⟨C,y,H⟩:=eF.1 h;refine .inr ⟨k,C,rfl,?_,y⟩;rw[xm];exact⟨y,k,C,rfl,λj G=>by simpa using H j G⟩
theorem yC{j}{f}{r}(c)(h:∀k:Bool×Unit->Option β,f k=k (c,()))(y:j (c,())=r):aj.aG j f=r:=by show f j=r;rw[h];exact y
end
end Go.Vc
namespace Go.Proofs.YthghpahghjppjaaGreat
open Go Go.Vc Go.RowKit
@[reducible] def tU0:DT:=(.pair (.int .i64) (.pair (.int .i64) .unit))
@[reducible] def tF0:DT:=(.pair tU0 (.pair (.int .i64) .unit))
@[reducible] def tP0:DT:=(.pair tU0 (.pair (.slc tU0) .unit))
abbrev U0':=Int×Int×Unit
abbrev F0':=U0'×Int×Unit
def IY(x:U0'):List U0'->List U0'
 |[]=>[x]
 |y::l=>bif decide (x.1<y.1)||(x.1==y.1&&decide (x.2.1<y.2.1))then x::y::l else bif x.1==y.1&&x.2.1==y.2.1 then y::l else y::IY x l
def lS(l:List F0'):List U0':=l.foldl (λs x=>IY x.1 s) []
def Vr{α:Type}(l:List α)(i j:Int):Option (List α×Unit):=bif decide (0<=i)&&decide (i<j)&&decide (j<=l.length)then some (l.take i.toNat++l.drop j.toNat,())else none
def JF{α:Type}(bytes:Nat)(l:List α)(i:Int)(v:List α):Option (List α×Unit):=bif decide (0<=i)&&decide (i<=l.length)&&Nat.ble ((l.length+1)*bytes) 140737488355328 then(match v with|[x]=>some (l.take i.toNat++x::l.drop i.toNat,())|_=>none)else none
def Io(l:List tP0.den)(i j:Int):Option (List tP0.den×Unit):=Vr l i j
def Ip(l:List tP0.den)(i:Int)(v:List tP0.den):Option (List tP0.den×Unit):=JF 40 l i v
def Jj(x y c:Int):Option (Int×Int×Unit):=if 0<=x/\0<=y/\0<=c/\c<=1 then some ((x+y+c) % 18446744073709551616,(x+y+c) / 18446744073709551616,())else none
def G0(x y b:Int):Option (Int×Int×Unit):=if 0<=x/\0<=y/\y<18446744073709551616/\0<=b/\b<=1 then some ((x-y-b) % 18446744073709551616,if x<y+b then 1 else 0,())else none
abbrev à:=Int×Int×Unit
def ω(x y:à):Bool:=decide (x.1<y.1)||(x.1==y.1&&decide (x.2.1<=y.2.1))
def adm(x:à):List à->List à
 |[]=>[x]
 |y::l=>bif ω x y then x::y::l else y::adm x l
def Y0:List à->List à
 |[]=>[]
 |x::l=>adm x (Y0 l)
def Az(l:List à):Option (List à):=bif Nat.blt l.length 4611686018427387904 then some (Y0 l)else none
def PI(l:List F0')(n:Int):Option (List F0'×Unit):=bif decide (0<=n)&&decide ((l.length+n)*24<=140737488355328)then some (l,())else none
theorem Ol(x:à):∀l,(adm x l).Perm (x::l)
 |[]=>.refl _
 |y::l=>by
  unfold adm;cases ω x y with
  |true=>exact .refl _
  |false=>exact((Ol x l).cons y).trans (.swap x y l)
theorem DE:∀l,(Y0 l).Perm l
 |[]=>.refl _
 |x::l=>(Ol x _).trans ((DE l).cons x)
theorem alB{x y z:à}(C:ω x y=true)(j:ω y z=true):ω x z=true:=by simp only[ω,fQ,aD,bg,gT]at *;omega
theorem afD{x y:à}(h:ω x y=false):ω y x=true:=by simp only[ω,nY,Bool.and_eq_false_imp,pk,gT,fQ,aD,bg]at *;omega
theorem aab(x:à):∀{l:List à},l.Pairwise (λa b=>ω a b=true)->(adm x l).Pairwise λa b=>ω a b=true
 |[],_=>by simp[adm]
 |y::l,h=>by
  have⟨F,G⟩:=bw.1 h;unfold adm;cases j:ω x y with
  |true=>exact bw.2 ⟨λz C=>(aB.1 C).elim (λe=>e▸j) λC=>alB j (F z C),h⟩
  |false=>exact bw.2 ⟨λz C=>(aB.1 ((Ol x l).mem_iff.1 C)).elim (λe=>e▸afD j) (F z),aab x G⟩
theorem Tj:∀l,(Y0 l).Pairwise λa b=>ω a b=true
 |[]=>.nil
 |x::l=>aab x (Tj l)
namespace rA
@[reducible] def tL0:DT:=(.pair (.int .i64) (.pair (.int .i64) (.pair (.int .i64) .unit)))
def H8(l:List tL0.den)(i j:Int):Option (List tL0.den×Unit):=Vr l i j
def NX(l:List tL0.den)(i:Int)(v:List tL0.den):Option (List tL0.den×Unit):=JF 24 l i v
end rA
theorem atF{α:Type}{l:List α}{i j:Int}{o:List α×Unit}(h:Vr l i j=some o):∃a b:Nat,i=a/\j=b/\a<b/\b<=l.length/\o=(l.take a++l.drop b,()):=by
 unfold Vr at h;rcases xV h with⟨hc,h⟩|⟨_,h⟩
 .simp only[aD,bg]at hc;have⟨⟨h0,h1⟩,h2⟩:=hc;obtain⟨a,rfl⟩:=cR h0;obtain⟨b,rfl⟩:=cR (by omega:0<=j);have h:=cK h;exact⟨a,b,rfl,rfl,by omega,by omega,by rw[<-h];rfl⟩
 .cases h
end Go.Proofs.YthghpahghjppjaaGreat
namespace Go.Vc
open Go
def Jg(x:Int):List Int->List Int
 |[]=>[x]
 |y::l=>bif decide (x<=y)then x::y::l else y::Jg x l
def xO:List Int->List Int
 |[]=>[]
 |x::l=>Jg x (xO l)
def ahF(p:Option Int)(x:Int):Bool:=match p with|some y=>x==y|none=>false
def xP:Option Int->List Int->List Int
 |_,[]=>[]
 |p,x::l=>bif ahF p x then xP (some x) l else x::xP (some x) l
def uJ(l:List Int):List Int:=xP none l
def Tf(l:List Int):Option (List Int):=bif Nat.blt l.length 4611686018427387904 then some (xO l)else none
def PM(l:List Int):Option (List Int×Unit):=some (uJ l,())
end Go.Vc
namespace Go.Proofs.YthghpahghjppjaaGreat.sK
open Go Go.Vc Go.RowKit Go.Proofs.YthghpahghjppjaaGreat
@[reducible] def EN:DT:=(.pair (.int .i64) (.pair (.int .i64) (.pair (.int .i64) (.pair (.int .i64) (.pair (.slc (.int .i64)) .unit)))))
def EO(l:List EN.den)(i:Int)(v:List EN.den):Option (List EN.den×Unit):=JF 56 l i v
end Go.Proofs.YthghpahghjppjaaGreat.sK
namespace Go.Proofs.YthghpahghjppjaaGreat.sM
open Go Go.Vc Go.RowKit Go.Proofs.YthghpahghjppjaaGreat
@[reducible] def EN:DT:=(.pair (.int .i64) (.pair (.int .i64) (.pair (.int .i64) .unit)))
def GY(l:List EN.den)(i:Int)(v:List EN.den):Option (List EN.den×Unit):=JF 24 l i v
end Go.Proofs.YthghpahghjppjaaGreat.sM
namespace Go.Proofs.YthghpahghjppjaaGreat.sN
open Go Go.Vc Go.RowKit Go.Proofs.YthghpahghjppjaaGreat
@[reducible] def EN:DT:=(.pair (.int .i64) (.pair (.int .i64) (.pair (.int .i64) (.pair (.slc (.int .i64)) .unit))))
def CS(l:List EN.den)(i:Int)(v:List EN.den):Option (List EN.den×Unit):=JF 48 l i v
end Go.Proofs.YthghpahghjppjaaGreat.sN
namespace Go.Proofs.YthghpahghjppjaaGreat.sO
open Go Go.Vc Go.RowKit Go.Proofs.YthghpahghjppjaaGreat
@[reducible] def EN:DT:=(.pair (.pair (.int .i64) (.pair (.int .i64) .unit)) (.pair (.pair (.int .i64) (.pair (.int .i64) .unit)) (.pair .bool .unit)))
def EP(l:List EN.den)(i:Int)(v:List EN.den):Option (List EN.den×Unit):=JF 40 l i v
end Go.Proofs.YthghpahghjppjaaGreat.sO
namespace Go.Proofs.YthghpahghjppjaaGreat.sP
open Go Go.Vc Go.RowKit Go.Proofs.YthghpahghjppjaaGreat
@[reducible] def EN:DT:=(.int .i64)
def Oi(l:List EN.den)(i:Int)(v:List EN.den):Option (List EN.den×Unit):=JF 8 l i v
end Go.Proofs.YthghpahghjppjaaGreat.sP
namespace Go.Proofs.YthghpahghjppjaaGreat
open Go Go.Vc Go.RowKit
def YD(l:List Int):Option (List Int):=Tf l
def Th(l:List Int):Option (List Int×Unit):=PM l
end Go.Proofs.YthghpahghjppjaaGreat







namespace Go.Proofs.YthghpahghjppjaaGreat
open Go Go.Vc Go.RowKit
abbrev CM:=Int×Int×Int×Unit
@[reducible] def tQ0:DT:=.pair (.int .i64) (.pair (.int .i64) (.pair (.int .i64) .unit))
def leQ(x y:CM):Bool:=decide (y.2.2.1<x.2.2.1)||(x.2.2.1==y.2.2.1&&decide (x.1<=y.1))
def adn(x:CM):List CM->List CM
 |[]=>[x]
 |y::l=>bif leQ x y then x::y::l else y::adn x l
def tA:List CM->List CM
 |[]=>[]
 |x::l=>adn x (tA l)
def ado:List CM->Bool
 |[]=>true
 |x::l=>l.all (λy=>decide (x.1<y.1))&&ado l
def tO(l:List CM):Option (List CM):=bif Nat.blt l.length 4611686018427387904&&ado l then some (tA l)else none
theorem Om(x:CM):∀l,(adn x l).Perm (x::l)
 |[]=>.refl _
 |y::l=>by
  unfold adn;cases leQ x y with
  |true=>exact .refl _
  |false=>exact((Om x l).cons y).trans (.swap x y l)
theorem rG:∀l,(tA l).Perm l
 |[]=>.refl _
 |x::l=>(Om x _).trans ((rG l).cons x)
theorem Ir(x y:CM):leQ x y=true↔y.2.2.1<x.2.2.1\/(x.2.2.1=y.2.2.1/\x.1<=y.1):=by simp only[leQ,fQ,aD,bg,gT]
theorem atS{x y z:CM}(C:leQ x y=true)(j:leQ y z=true):leQ x z=true:=by rw[Ir]at *;omega
theorem apI{x y:CM}(h:leQ x y=false):leQ y x=true:=by rw[Ir];rw[<-xi,Ir]at h;omega
theorem aac(x:CM):∀{l:List CM},l.Pairwise (λa b=>leQ a b=true)->(adn x l).Pairwise λa b=>leQ a b=true
 |[],_=>by simp[adn]
 |y::l,h=>by
  have⟨F,G⟩:=bw.1 h;unfold adn;cases j:leQ x y with
  |true=>exact bw.2 ⟨λz C=>(aB.1 C).elim (λe=>e▸j) λC=>atS j (F z C),h⟩
  |false=>exact bw.2 ⟨λz C=>(aB.1 ((Om x l).mem_iff.1 C)).elim (λe=>e▸apI j) (F z),aac x G⟩
theorem Tl:∀l,(tA l).Pairwise λa b=>leQ a b=true
 |[]=>.nil
 |x::l=>aac x (Tl l)
theorem Td:∀l,ado l=true↔l.Pairwise λa b:CM=>a.1<b.1
 |[]=>by simp[ado]
 |x::l=>by rw[ado,aD,mq,bw,Td l];simp
theorem afG:∀{l:List CM},l.Pairwise (λa b:CM=>a.1<b.1)->∀a∈l,∀b∈l,a.1=b.1->a=b
 |[],_,a,C,_,_,_=>by cases C
 |x::l,h,a,C,b,hb,e=>by
  have⟨G,J⟩:=bw.1 h;rcases aB.1 C with H|y
  .rcases aB.1 hb with F|j
   .rw[H,F]
   .have:=G b j;rw[H]at e;omega
  .rcases aB.1 hb with F|j
   .have:=G a y;rw[F]at e;omega
   .exact afG J a y b j e
theorem PL{l l':List CM}(h:tO l=some l'):l.length<4611686018427387904/\ado l=true/\l'=tA l:=by
 unfold tO at h;cases hb:Nat.blt l.length 4611686018427387904&&ado l with
 |false=>rw[hb]at h;cases h
 |true=>rw[hb]at h;have⟨y,j⟩:=(aD _ _).mp hb;exact⟨bP y,j,(cK h).symm⟩
theorem apD{l l':List CM}(hi:l.Pairwise λa b:CM=>a.1<b.1)(j:l'.Perm l)(hs:l'.Pairwise λa b=>leQ a b=true):l'=tA l:=s9 (le:=λa b=>leQ a b=true) (λa b y hb F C=>by rw[Ir]at F C;exact afG hi a (j.mem_iff.1 y) b ((rG l).mem_iff.1 hb) (by omega)) hs (Tl l) (j.trans (rG l).symm)
end Go.Proofs.YthghpahghjppjaaGreat
namespace Go.Vc
abbrev U17{A0 A1 A2 A3 A4 Y X W V K J H G F C y j R T:Type}(e:A0×A1×A2×A3×A4×Y×X×W×V×K×J×H×G×F×C×y×j×R)(t:T):A0×A1×A2×A3×A4×Y×X×W×V×K×J×H×G×F×C×y×j×T:=(e.1,U16 e.2 t)
abbrev U18{A0 A1 A2 A3 A4 A5 Y X W V K J H G F C y j R T:Type}(e:A0×A1×A2×A3×A4×A5×Y×X×W×V×K×J×H×G×F×C×y×j×R)(t:T):A0×A1×A2×A3×A4×A5×Y×X×W×V×K×J×H×G×F×C×y×j×T:=(e.1,e.2.1,U16 e.2.2 t)
abbrev U19{A0 A1 A2 A3 A4 A5 A6 Y X W V K J H G F C y j R T:Type}(e:A0×A1×A2×A3×A4×A5×A6×Y×X×W×V×K×J×H×G×F×C×y×j×R)(t:T):A0×A1×A2×A3×A4×A5×A6×Y×X×W×V×K×J×H×G×F×C×y×j×T:=(e.1,e.2.1,e.2.2.1,U16 e.2.2.2 t)
abbrev U22{A0 A1 A2 A3 A4 A5 A6 A7 A8 A9 Y X W V K J H G F C y j R T:Type}(e:A0×A1×A2×A3×A4×A5×A6×A7×A8×A9×Y×X×W×V×K×J×H×G×F×C×y×j×R)(t:T):A0×A1×A2×A3×A4×A5×A6×A7×A8×A9×Y×X×W×V×K×J×H×G×F×C×y×j×T:=(e.1,e.2.1,e.2.2.1,e.2.2.2.1,e.2.2.2.2.1,e.2.2.2.2.2.1,U16 e.2.2.2.2.2.2 t)
abbrev U24{A0 A1 A2 A3 A4 A5 A6 A7 A8 A9 A10 A11 Y X W V K J H G F C y j R T:Type}(e:A0×A1×A2×A3×A4×A5×A6×A7×A8×A9×A10×A11×Y×X×W×V×K×J×H×G×F×C×y×j×R)(t:T):A0×A1×A2×A3×A4×A5×A6×A7×A8×A9×A10×A11×Y×X×W×V×K×J×H×G×F×C×y×j×T:=(e.1,e.2.1,e.2.2.1,e.2.2.2.1,e.2.2.2.2.1,e.2.2.2.2.2.1,e.2.2.2.2.2.2.1,e.2.2.2.2.2.2.2.1,U16 e.2.2.2.2.2.2.2.2 t)
abbrev U27{A0 A1 A2 A3 A4 A5 A6 A7 A8 A9 A10 A11 A12 A13 A14 Y X W V K J H G F C y j R T:Type}(e:A0×A1×A2×A3×A4×A5×A6×A7×A8×A9×A10×A11×A12×A13×A14×Y×X×W×V×K×J×H×G×F×C×y×j×R)(t:T):A0×A1×A2×A3×A4×A5×A6×A7×A8×A9×A10×A11×A12×A13×A14×Y×X×W×V×K×J×H×G×F×C×y×j×T:=(e.1,e.2.1,e.2.2.1,e.2.2.2.1,e.2.2.2.2.1,e.2.2.2.2.2.1,e.2.2.2.2.2.2.1,e.2.2.2.2.2.2.2.1,e.2.2.2.2.2.2.2.2.1,e.2.2.2.2.2.2.2.2.2.1,e.2.2.2.2.2.2.2.2.2.2.1,U16 e.2.2.2.2.2.2.2.2.2.2.2 t)
abbrev xv{A0 A1 A2 A3 A4 A5 A6 A7 A8 A9 A10 A11 A12 A13 A14 A15 A16 A17 Y X W V K J H G F C y j R T:Type}(e:A0×A1×A2×A3×A4×A5×A6×A7×A8×A9×A10×A11×A12×A13×A14×A15×A16×A17×Y×X×W×V×K×J×H×G×F×C×y×j×R)(t:T):A0×A1×A2×A3×A4×A5×A6×A7×A8×A9×A10×A11×A12×A13×A14×A15×A16×A17×Y×X×W×V×K×J×H×G×F×C×y×j×T:=(e.1,e.2.1,e.2.2.1,e.2.2.2.1,e.2.2.2.2.1,e.2.2.2.2.2.1,e.2.2.2.2.2.2.1,e.2.2.2.2.2.2.2.1,e.2.2.2.2.2.2.2.2.1,e.2.2.2.2.2.2.2.2.2.1,e.2.2.2.2.2.2.2.2.2.2.1,e.2.2.2.2.2.2.2.2.2.2.2.1,e.2.2.2.2.2.2.2.2.2.2.2.2.1,e.2.2.2.2.2.2.2.2.2.2.2.2.2.1,U16 e.2.2.2.2.2.2.2.2.2.2.2.2.2.2 t)
end Go.Vc