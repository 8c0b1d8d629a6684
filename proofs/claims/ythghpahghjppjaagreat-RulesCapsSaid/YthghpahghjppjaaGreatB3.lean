import Derived.Test.YthghpahghjppjaaGreatB2
namespace Go.Vc
open Go Go.RowKit
def eO(wr:List Nat)(a a':Act):Prop:=a'.tmps.size=a.tmps.size/\∀i,i∉wr->a'.tmps[i]?=a.tmps[i]?
theorem eO.refl(wr:List Nat)(a:Act):eO wr a a:=⟨rfl,λ_ _=>rfl⟩
theorem eO.trans{wr:List Nat}{a b c:Act}(h:eO wr a b)(k:eO wr b c):eO wr a c:=⟨k.1.trans h.1,λi hi=>(k.2 i hi).trans (h.2 i hi)⟩
theorem eO.mono{wr j:List Nat}{a b:Act}(h:eO wr a b)(hs:∀i∈wr,i∈j):eO j a b:=⟨h.1,λi hi=>h.2 i λhm=>hi (hs i hm)⟩
theorem eO.put(a:Act)(o:Oper)(v:Value):eO (alH o) a (a.put o.dst v):=by
 unfold alH;cases o.dst with
 |none=>exact eO.refl _ _
 |some d=>exact⟨by simp[Act.put],λi hi=>by simp only[ax]at hi;simp[Act.put,vM (ga hi)]⟩
theorem am4{P:Program}{o:Oper}{a:Act}{w:World}{N:Act->World->Prop}{Q:Exit->Act->World->Prop}(j:o.wp P a w N Q):o.wp P a w (λa' w'=>N a' w'/\eO (alH o) a a') Q:=by
 unfold Oper.wp at *;generalize (execOp a.eval o).run P w=r at *;cases r with
 |ok n w'=>
  cases n<;>simp only[Oper.upon]at j ⊢;case value v=>exact⟨j,eO.put a o v⟩
  case skip=>exact⟨j,eO.put a o _⟩
  case defer d=>exact⟨j,eO.put { a with defers:=d::a.defers } o undef⟩
  case enter f args=>
   refine j.mono λe F y=>?_
   cases e with
   |returned v=>exact⟨y,eO.put a o v⟩
   |panicked c=>exact y
   |outgrown=>exact y
  case row row args=>exact Rows.mono j λv F y=>⟨y,eO.put a o v⟩
 |halt x w'=>cases x<;>simp only[Oper.upon]at j ⊢;case panic u=>exact j
theorem aiv(ops)(j):X2 ops j=(ops[j]?).bind (·.dst):=by
 induction ops generalizing j with
 |nil=>rfl
 |cons o ops y=>cases j<;>simp[X2,y]
section
variable {P : Program} {T : List TI} {V : World} {U0 L : Nat -> Prop} {al : Nat -> Bool} {B : Nat -> Nat} {A : yu} {ts : List DV} {pb : hZ} {rw : List DR} {a : Act} {w : World} {β : Type} [qL β] {q : β} {o : Oper} {K : DK β} {Q : Exit -> Act -> World -> Prop} {C : FR} {av : List (Nat × Nat)}
theorem agj{op}{t ty e2}{x y}{e neg}{W:TI}{j:Option Addr}{n c:Nat}(ho:o.op=.binOp op t x y ty)(hf:nY P t W)(H:W.td=.slice e2)(ev:a.eval x=.slice j n c)(X:a.eval y=.slice none 0 0)
 (R:e=false->j.isNone=false) (J:op=(if neg then BinOp.neq else BinOp.eql)) (h:(aj.qq e λg=>jq o.dst (.bool (cY neg g)) ts pb rw K)=some q) (m:Mem V U0 L B A pb rw w) (G:hL (env U0 B A pb rw w) ts a.tmps.toList):o.wp P a w (oq V U0 L al B A pb rw w a K q) Q:=by
 have F:=Sg (P:=P) neg x y j n c w (qK hf H)
 have Y:jq o.dst (.bool (cY neg j.isNone)) ts pb rw K=some q:=by
  change aim e (λg=>jq o.dst (.bool (cY neg g)) ts pb rw K)=some q at h;unfold aim at h;rcases xI h with⟨_,h⟩|⟨he,h⟩
  .have:=Ju h;cases j.isNone
   .exact this.2
   .exact this.1
  .rw[R he];exact h
 refine eN (v:=.bool (cY neg j.isNone)) ?_ (oq.ret Y m G (by simp only[DV.h]) Ext.refl);simp only[execOp,ho,ev,X,J];rw[aR,F];simp
theorem SS(hT:dD P T)(hC:Di P C)(h:Sr aj T C al av o ts pb rw K=some q)(m:Mem V U0 L B A pb rw w)(G:hL (env U0 B A pb rw w) ts a.tmps.toList):o.wp P a w (oq V U0 L al B A pb rw w a K q) Q:=by
 unfold Sr at h;split at h
 .rename_i e neg F;unfold awl at F;split at F
  .rename_i op t x y ty ho;split at F
   .rename_i d l ht R J;split at F
    .rename_i hd0;have⟨ti,hf,W⟩:=pc hT ht;have R:=gq R G;have J:=gq J G;simp only[DV.h]at R J;have⟨aa,c,ev,_,_,hel⟩:=R;simp only[dC,nJ]at ev
     have key:=λneg Y h=>agj (P:=P) (B:=B) (A:=A) (V:=V) (U0:=U0) (L:=L) (al:=al) (Q:=Q) (ts:=ts) (pb:=pb) (rw:=rw) (w:=w) (K:=K) (q:=q) (e:=l.isEmpty) (neg:=neg) (op:=op) ho hf W ev J (λhe=>by
      cases l with
      |nil=>simp at he
      |cons z l=>have⟨us,h1,h2⟩:=hel 0 z rfl;have hd:=bS hd0;have hul:=d.Ac h1;obtain⟨ad,rfl,_⟩:=h2 0 _ (ay (by omega));rfl) Y h m G
     split at F
     .simp only[ak,bX]at F;obtain⟨rfl,rfl⟩:=F;exact key false rfl h
     .simp only[ak,bX]at F;obtain⟨rfl,rfl⟩:=F;exact key true rfl h
     .cases F
    .cases F
   .rename_i j ht R J;split at F
    .rename_i e' t' l X;rw[gM]at X;have⟨ti,hf,W⟩:=pc hT ht;have R:=gq R G;have J:=gq J G;simp only[DV.h]at R J;have⟨e3,t3,l3,H,ev⟩:=R;have H:rw[j]?=some (.own e3 t3 l3):=H;rw[X]at H;simp only[ak,DR.own.injEq]at H;obtain⟨rfl,rfl,hl3⟩:=H;cases hl3
     have key:=λneg Y h=>agj (P:=P) (B:=B) (A:=A) (V:=V) (U0:=U0) (L:=L) (al:=al) (Q:=Q) (ts:=ts) (pb:=pb) (rw:=rw) (w:=w) (K:=K) (q:=q) (e:=l.isEmpty) (neg:=neg) (op:=op) ho hf W ev J (λhe=>by
      cases hA:((env U0 B A pb rw w).A j).1 with
      |some ad=>rfl
      |none=>
       have:=m.afX j e' t' l X hA;cases l with
       |nil=>simp at he
       |cons z l=>simp at this) Y h m G
     split at F
     .simp only[ak,bX]at F;obtain⟨rfl,rfl⟩:=F;exact key false rfl h
     .simp only[ak,bX]at F;obtain⟨rfl,rfl⟩:=F;exact key true rfl h
     .cases F
    .cases F
   .cases F
  .cases F
 .split at h
  .rename_i j ks dn hp;exact aqg hp h m G
  .exact aql hT hC h m G
theorem am5{W:List Oper}(hT:dD P T)(hC:Di P C)(h:alG aj T C al av o W ts pb rw K=some q)(m:Mem V U0 L B A pb rw w)(G:hL (env U0 B A pb rw w) ts a.tmps.toList):o.wp P a w (oq V U0 L al B A pb rw w a K q) Q:=by
 unfold alG at h;split at h
 .rename_i j i n y;unfold asy at y;split at y
  .split at y
   .rename_i t x lo ho;split at y
    .rename_i e J k X ht hx H;split at y
     .rename_i te e2 t' l X' hj;rw[gM]at hj;split at y
      .rename_i R;simp only[ak,bX]at y;obtain⟨rfl,rfl,rfl⟩:=y;have R:=aE R;have⟨b1,b2,h⟩:=alT h;have⟨ti,hf,htd⟩:=pc hT ht;have hun:=qK hf htd;have Yb:=rL hT X';have hx:=gq hx G;have H:=gq H G;simp only[DV.h]at hx H;have⟨e3,t3,l3,Y,ev⟩:=hx;have F:rw[J]?=some (.own e3 t3 l3):=Y;rw[hj]at F;simp only[ak,DR.own.injEq]at F;obtain⟨rfl,rfl,hl3⟩:=F;cases hl3;change a.eval x=Value.slice (A J).1 l.length (A J).2 at ev;refine eN (v:=.slice (if(A J).2=X.toNat then(A J).1 else(A J).1.map (·.add (X.toNat*t'.size))) (l.length-X.toNat) ((A J).2-X.toNat)) ?_ (oq.ret h m G ?_ Ext.refl)
       .have hr:(execOp a.eval o).run P w=((Instr.sliceAt t (a.eval x) (some (a.eval lo)) none none).run P w).andThen λv w'=>.ok (.value v) w':=by simp only[execOp,ho,aR,bI,fy,kR]
        rw[hr,ev,H];simp only[Instr.sliceAt,Instr.slice,aR,bb hun,br,Instr.sliceBounds,bI,pJ,eM,nS,ie w k X _ .sliceB b1 b2,ri Yb,R]
       .simp only[DV.h];exact⟨_,_,_,Y,by omega,rfl⟩
      .cases y
     .cases y
    .cases y
   .cases y
  .cases y
 .exact SS hT hC h m G
omit [qL β]in
theorem NX{ops:Array Oper}{E:Env}{j:Nat}{y:Bool}{X no:List DV->Option β}(h:Su aj ops.toList ts j y X no=some q)(F:hL E ts a.tmps.toList):
 ∃J,hL E J a.tmps.toList/\((yielded ops a.tmps j=some y/\X J=some q)\/(yielded ops a.tmps j≠some y/\no J=some q)):=by
 unfold Su at h;rw[aiv]at h;have Y:∀d,(ops[j]?).bind (·.dst)=some d->yielded ops a.tmps j=match a.tmps[d]? with|some (.bool b)=>some b|_=>none:=by intro d hd;unfold yielded;rw[hd];rfl
 split at h
 .cases h
 .rename_i d hd;have Y:=Y d (by simpa using hd)
  have get:∀(c:Bool),((a.tmps.toList[d]?).getD undef)=.bool c->yielded ops a.tmps j=some c/\a.tmps.toList.set d (.bool c)=a.tmps.toList:=by
   intro c W;cases R:a.tmps[d]? with
   |none=>simp only[dg,R]at W;simp[undef]at W
   |some v=>
    simp only[dg,R,gE]at W;subst W;refine⟨by rw[Y,R],?_⟩;apply eK;intro i;rw[bf];split
    .rename_i hdi;subst hdi;have:=(cq.1 R).1;simp[this];exact(cq.1 R).2.symm
    .rfl
  have keep:∀(c:Bool),((a.tmps.toList[d]?).getD undef)=.bool c->hL E (ts.set d (.lit c)) a.tmps.toList:=by
   intro c W;have:=X3 F d (p:=.lit c) (v:=.bool c) (by simp only[DV.h])
   rwa [(get c W).2]at this
  split at h
  .rename_i G;have hv:=LH G F;simp only[DV.h]at hv;have G:=(get true hv).1;cases y
   .exact⟨ts,F,.inr ⟨by rw[G];simp,h⟩⟩
   .exact⟨ts,F,.inl ⟨G,h⟩⟩
  .rename_i G;have hv:=LH G F;simp only[DV.h]at hv;have G:=(get false hv).1;cases y
   .exact⟨ts,F,.inl ⟨G,h⟩⟩
   .exact⟨ts,F,.inr ⟨by rw[G];simp,h⟩⟩
  .rename_i b G;have hv:=LH G F;simp only[DV.h]at hv;have H:=(get b hv).1;simp only[km]at h;rcases alU h with⟨rfl,h⟩|⟨rfl,h⟩
   .cases y
    .exact⟨_,keep true hv,.inr ⟨by rw[H];simp,h⟩⟩
    .exact⟨_,keep true hv,.inl ⟨H,h⟩⟩
   .cases y
    .exact⟨_,keep false hv,.inl ⟨H,h⟩⟩
    .exact⟨_,keep false hv,.inr ⟨by rw[H];simp,h⟩⟩
  .rename_i G;have hv:=LH G F;simp only[DV.h]at hv;refine⟨ts,F,.inr ⟨?_,h⟩⟩;rw[Y];cases R:a.tmps[d]? with
   |none=>simp
   |some v=>simp only[dg,R,gE]at hv;subst hv;simp[undef]
  .cases h
omit [qL β]in
theorem oq.mono{G:DK β}{a':Act}{w':World}{y:β}(h:oq V U0 L al B A pb rw w a K q a' w')(k:∀B' A' j pb' rw',Mem V U0 L B' A' pb' rw' w'->hL (env U0 B' A' pb' rw' w') j a'.tmps.toList->K j pb' rw'=some q->G j pb' rw'=some y):oq V U0 L al B A pb rw w a G y a' w':=
 let ⟨B',A',j,pb',rw',m,F,R,J,H⟩:=h
 ⟨B',A',j,pb',rw',m,F,k B' A' j pb' rw' m F R,J,H⟩
theorem NY(X:dD P T)(hC:Di P C){ops:Array Oper}:∀(l:List Oper) {B:Nat->Nat} {A:yu} {ts:List DV} {pb:hZ} {rw:List DR} {a:Act} {w:World},Js aj T C al av ops.toList l ts pb rw K=some q->Mem V U0 L B A pb rw w->hL (env U0 B A pb rw w) ts a.tmps.toList->
 (∀a' w',oq V U0 L al B A pb rw w a K q a' w'->eO (PX l) a a'->Q .normal a' w')->wpList P ops Q l a w
 |[],B,A,ts,pb,rw,a,w,h,m,F,Y=>wpList_nil (Y a w ⟨B,A,ts,pb,rw,m,F,h,rfl,Ext.refl⟩ (eO.refl _ _))
 |o::rest,B,A,ts,pb,rw,a,w,h,m,F,Y=>by
  have go:∀{K1:DK β},(∀ts pb rw,K1 ts pb rw=some q->Js aj T C al av ops.toList rest ts pb rw K=some q)->o.wp P a w (oq V U0 L al B A pb rw w a K1 q) Q->o.wp P a w (wpList P ops Q rest) Q:=by
   intro K1 hK1 h1;refine Oper.wp_mono (λa' w' hn=>?_) (am4 h1);have⟨⟨B',A',NZ,pb',rw',m',h2,h3,h4,e⟩,hso⟩:=hn;refine NY X hC rest (hK1 _ _ _ h3) m' h2 λJ G H y=>Y J G (oq.more e h4 H) ?_
   exact(hso.mono (by intro i hi;simp[PX,hi])).trans (y.mono (by intro i hi;simp[PX,hi]))
  unfold Js at h;split at h
  .rename_i hg;unfold wpList;rw[ah (by simp[Region.wanted,hg])];exact .inl (go (λ_ _ _ h=>h) (am5 X hC h m F))
  .rename_i j R hg;have⟨NZ,hr,W⟩:=NX h F;unfold wpList;have hw:Region.wanted o (yielded ops a.tmps)=(yielded ops a.tmps j==some R):=by simp[Region.wanted,hg]
   rcases W with⟨hy,W⟩|⟨hy,W⟩
   .rw[ah (by rw[hw,hy];simp)];exact .inl (go (λ_ _ _ h=>h) (SS X hC W m hr))
   .rw[ag (by rw[hw];simpa using hy)];have⟨ayH,h1,h2,h3⟩:=NT W hr (x:=.NI) (v:=undef) (by simp only[DV.h]);refine NY X hC rest h1 m h2 λJ G H y=>Y J G (oq.more Ext.refl h3 H) ?_
    exact((eO.put a o undef).mono (by intro i hi;simp[PX,hi])).trans (y.mono (by intro i hi;simp[PX,hi]))
end
end Go.Vc
namespace Go.Vc
open Go Go.RowKit
def Still{α:Type}:Sem α->Prop
 | .pure _=>True
 | .load _ _ k=>∀v,Still (k v)
 | .program k=>∀p,Still (k p)
 | .halt _=>True
 |_=>False
theorem Still.run{α}{P}:∀{s:Sem α},Still s->∀{w w':World} {r:α},s.run P w=.ok r w'->w'=w
 | .pure a,_,w,w',r,h=>by simp only[Sem.run,Result.ok.injEq]at h;exact h.2.symm
 | .load m a k,hs,w,w',r,h=>by
  simp only[Sem.run]at h;split at h
  .exact Still.run (hs _) h
  .split at h
   .exact Still.run (hs _) h
   .cases h
 | .program k,hs,w,w',r,h=>by simp only[Sem.run]at h;exact Still.run (hs _) h
 | .halt x,_,w,w',r,h=>by simp only[Sem.run]at h;cases h
 | .store _ _ _ _,hs,_,_,_,_=>hs.elim
 | .new _ _,hs,_,_,_,_=>hs.elim
 | .shape _ _,hs,_,_,_,_=>hs.elim
 | .freeze _ _ _,hs,_,_,_,_=>hs.elim
 | .frozen _ _,hs,_,_,_,_=>hs.elim
 | .getObj _ _,hs,_,_,_,_=>hs.elim
 | .setObj _ _ _,hs,_,_,_,_=>hs.elim
 | .choose _ _,hs,_,_,_,_=>hs.elim
 | .sys _ _,hs,_,_,_,_=>hs.elim
 | .mark _ _,hs,_,_,_,_=>hs.elim
theorem Still.bind{α β}{f:α->Sem β}(j:∀a,Still (f a)):∀{s:Sem α},Still s->Still (s >>= f)
 | .pure a,_=>j a
 | .load m a k,hs=>λv=>Still.bind j (hs v)
 | .program k,hs=>λv=>Still.bind j (hs v)
 | .halt x,_=>trivial
 | .store _ _ _ _,hs=>hs.elim
 | .new _ _,hs=>hs.elim
 | .shape _ _,hs=>hs.elim
 | .freeze _ _ _,hs=>hs.elim
 | .frozen _ _,hs=>hs.elim
 | .getObj _ _,hs=>hs.elim
 | .setObj _ _ _,hs=>hs.elim
 | .choose _ _,hs=>hs.elim
 | .sys _ _,hs=>hs.elim
 | .mark _ _,hs=>hs.elim
end Go.Vc
namespace Go.Vc
open Go Go.RowKit
theorem SU{α}(a):Still (pure a:Sem α):=trivial
theorem IP:Still program:=λ_=>trivial
theorem SV(a):Still (load a):=λ_=>trivial
theorem Ft(a:Addr):∀(n i:Nat) (acc:Array Value),Still (loadCellsFrom a i n acc)
 |0,_,_=>trivial
 |n+1,i,acc=>Still.bind (λv=>Ft a n (i+1) (acc.push v)) (SV _)
theorem N0(t:TypeId):Still (underlying t):=Still.bind (λp=>by cases p.underlying t<;>trivial) IP
theorem Yo(t:TypeId):Still (Go.sizeOf t):=Still.bind (λ_=>SU _) (Still.bind (λp=>by cases p.info? t<;>trivial) IP)
theorem aa1(t:TypeId):Still (Go.isAgg t):=Still.bind (λd=>by cases d<;>trivial) (N0 t)
theorem UB(t)(a:Addr):Still (loadVar t a):=by
 refine Still.bind (λb=>?_) (aa1 t);cases b with
 |false=>exact SV a
 |true=>rw[ah rfl];exact Still.bind (λn=>Still.bind (λcs=>SU _) (Ft a n 0 #[])) (Yo t)
theorem Yp(t)(x:Value):Still (Instr.loadAt t x):=by refine Still.bind (λa=>UB t a) ?_;unfold Instr.sureAddr;split<;>trivial
section
variable {P : Program} {ops : Array Oper} {Q : Exit -> Act -> World -> Prop} {S : World -> Prop}
theorem aiw{j}{F}(R:ops[j]?=some F)(hl:Ss F=true){K}{a}{w}(h:wpOp P ops Q j K a w):wpOp P ops Q j (λa' w'=>w'=w/\K a' w') a w:=by
 unfold Ss at hl;split at hl
 .rename_i t x ho;unfold Go.wpOp at *;simp only[R]at *;split
  .rename_i G;simp only[G,rH]at h;rcases h with C|C;case inr=>exact .inr C
   refine .inl ?_;unfold Oper.wp at C ⊢
   have e:∀n w',(execOp a.eval F).run P w=.ok n w'->w'=w/\∃v,n=.value v:=λn w' y=>by
    unfold execOp at y;simp only[ho,aR]at y;cases H:(Instr.loadAt t (a.eval x)).run P w with
    |ok v J=>rw[H]at y;simp only[Result.andThen,bI,Result.ok.injEq]at y;exact⟨y.2▸(Yp t _).run H,v,y.1.symm⟩
    |halt x J=>rw[H]at y;cases y
   generalize (execOp a.eval F).run P w=r at *;cases r with
   |ok n w'=>obtain⟨rfl,v,rfl⟩:=e n w' rfl;exact⟨rfl,C⟩
   |halt x w'=>cases x<;>exact C
  .rename_i G;rw[ag G]at h;exact⟨trivial,h⟩
 .cases hl
theorem Yq{i}{oi}{v}{D:List Nat}{w:World}(hi:ops[i]?=some oi)(hs:Region.noSelect ops=true)(hQ:∀c a w,Q (.panic c) (a.put oi.dst v) w->Q (.panic c) a w)
 (ayo:∀d∈D,apO ops D i d=true) (hS:S w):
 ∀(F:Nat) (y:Array Bool) (a:Act),(∀d∈D,y.getD d true=false)->(∀j J,ops[j]?=some J->j∉D->y.getD j true=false->Ss J=true)->
  (∀j J,ops[j]?=some J->j≠i->y.getD j true=false->(∀e∈J.after,Region.binds .any e=true->e.on≠i)->oi.apart ops J=true)->
  i∈D->i∈Region.ready .any ops y->YieldsIf P ops (λw'=>w'=w) oi v a->
  wpAnyH P .any ops Q S F (y.setIfInBounds i true) (a.put oi.dst v) w->wpAnyH P .any ops Q S (F+1) y a w:=by
 have V:=Region.noSelect_spec hs;intro F;induction F with
 |zero=>
  intro y a _ _ _ _ hr hy H;refine⟨λh=>(by rw[h]at hr;cases hr),λj hj=>?_⟩;by_cases C:j=i
  .subst C;exact hy.wpOp hi rfl ⟨hS,H⟩
  .have:=ready_mono hj C;rw[H.1]at this;cases this
 |succ F ih=>
  intro y a hun hst R hiD hr hy H;refine⟨λh=>(by rw[h]at hr;cases hr),λj hj=>?_⟩;by_cases C:j=i
  .subst C;exact hy.wpOp hi rfl ⟨hS,H⟩
  .have h1:=H.2 j (ready_mono hj C);have⟨K,J,G,Y⟩:=mem_ready.1 hj
   have W:∀k∈D,y.getD k false=false:=λk hk=>by
    have h0:=hun k hk;rcases dI k y.size with h'|h'
    .simp[h']at h0 ⊢;exact h0
    .simp[Array.getElem?_eq_none h']
   have hjD:j∉D:=λhD=>by
    have X:=ayo j hD;unfold apO at X;split at X
    .rename_i hb;exact C (aE hb)
    .rw[G]at X;simp only[Array.any_eq_true',aD,uE]at X;have⟨e,he,hb,hon⟩:=X;have h2:=Y e he hb;rw[W _ hon]at h2;cases h2
   have ayp:∀e∈J.after,Region.binds .any e=true->e.on≠i:=λe he hb heq=>by have h2:=Y e he hb;rw[heq,W _ hiD]at h2;cases h2
   have h2:=wpOp_putIf G (R j J G C K ayp) (λcs b=>V i oi cs b hi) (λcs b=>V j J cs b G) hQ hy h1;have h3:=aiw G (hst j J G hjD K) h2
   have Ux:∀k,(y.setIfInBounds j true).getD k true=false->y.getD k true=false:=λk hk=>by
    by_cases hjk:j=k
    .subst hjk;exact K
    .rwa [getD_set_ne true hjk]at hk
   refine wpOp_mono (λa' w' h4=>?_) h3;obtain⟨rfl,h5,h6,h7⟩:=h4;refine⟨h6,ih (y.setIfInBounds j true) a' (λd X=>?_) (λk ok hk hkD hku=>hst k ok hk hkD (Ux k hku)) (λk ok hk hki hku hno=>R k ok hk hki (Ux k hku) hno) hiD (ready_mono hr (ga C)) h5 ?_⟩
   .rw[getD_set_ne (i:=j) (j:=d) true (λe=>hjD (e▸X))];exact hun d X
   .rw[Array.setIfInBounds_comm _ _ C];exact h7
theorem am6{L}{i}{D}(h:X1 ops L i D=true):i∈D/\(∀d∈D,L.getD d true=false)/\(∀d∈D,apO ops D i d=true)/\∀j F,ops[j]?=some F->j∉D->L.getD j true=false->Ss F=true:=by
 unfold X1 at h;simp only[aD,lZ,Bg,fv]at h;have⟨⟨⟨X,W⟩,V⟩,R⟩:=h;refine⟨(uE _ _).1 X,?_,V,λj F G K J=>?_⟩
 .have:∀D:List Nat,apP L D=true->∀d∈D,L.getD d true=false:=by
   intro D;induction D with
   |nil=>intro _ d C;cases C
   |cons x D H=>
    intro h d C;simp only[apP,aD,jy]at h;rcases aG.1 C with rfl|C
    .exact h.1
    .exact H h.2 d C
  exact this D W
 .rcases R j (cq.1 G).1 with(y|y)|y
  .exact absurd ((uE _ _).1 y) K
  .rw[J]at y;cases y
  .rw[G]at y;exact y
end
end Go.Vc






namespace Go.Vc
open Go Go.RowKit
section
variable {P : Program} {T : List TI} {V : World} {U0 L : Nat -> Prop} {al : Nat -> Bool} {B : Nat -> Nat} {A : yu} {ts : List DV} {pb : hZ} {rw : List DR} {a : Act} {w : World} {β : Type} [qL β] {q : β} {o : Oper} {K : DK β} {Q : Exit -> Act -> World -> Prop} {C : FR} {av : List (Nat × Nat)}
def Nx(V:World)(U0 L:Nat->Prop)(B:Nat->Nat)(pb:hZ)(a:Act)(K:DK β)(q:β):Act->World->Prop:=λa' w'=>∃B' A' j pb' rw',Mem V U0 L B' A' pb' rw' w'/\hL (env U0 B' A' pb' rw' w') j a'.tmps.toList/\K j pb' rw'=some q/\a'.defers=a.defers/\∀i,live pb i->live pb' i/\B' i=B i
omit [qL β]in
theorem oq.nx{a'}{w':World}(h:oq V U0 L al B A pb rw w a K q a' w'):Nx V U0 L B pb a K q a' w':=
 let ⟨B',A',j,pb',rw',m,H,G,F,y⟩:=h
 ⟨B',A',j,pb',rw',m,H,G,F,y.bx⟩
theorem Mem.places(m:Mem V U0 L B A pb rw w){pb':hZ}(h:∀(i:Nat) (b:DB),pb'[i]?=some (some b)↔pb[i]?=some (some b)):Mem V U0 L B A pb' rw w/\Sub HH (env U0 B A pb rw w) (env U0 B A pb' rw w)/\∀i,live pb' i↔live pb i:=by
 have hl:∀i,live pb' i↔live pb i:=λi=>⟨λ⟨b,hb⟩=>⟨b,(h i b).1 hb⟩,λ⟨b,hb⟩=>⟨b,(h i b).2 hb⟩⟩
 have hb:∀k i b,iF B A pb' rw k i b->iF B A pb rw k i b:=λk i b hh=>by
  cases k with
  |true=>exact hh
  |false=>exact⟨(hl i).1 hh.1,hh.2⟩
 have⟨F,s,_⟩:=m.step (al:=λ_=>true) HH (w':=w) (B':=B) (A':=A) (pb':=pb') (rw':=rw) ⟨rfl,rfl,rfl,au _⟩ (λ_ _ _=>rfl) (λk i b hh=>.inl (hb k i b hh)) (λk i J R b H G=>m.inj _ _ _ _ _ (hb _ _ _ H) (hb _ _ _ G)) (λi hh=>⟨(hl i).2 hh,rfl⟩) (λj e t l _ hh=>⟨l,hh,rfl,rfl⟩) (λj d _ h=>⟨⟨d,h,rfl⟩,rfl⟩) (λ_ j p e t l hh=>(by cases hh)) (λ_ j p d ad hh=>(by cases hh)) (λ_ i y hh=>.inl ⟨y,(h i y).1 hh,rfl,by rw[oy],id,rfl⟩) (λ_ j e t l hh=>.inl ⟨hh,rfl,λ_ _=>rfl⟩) λ_ j d hh=>.inl ⟨hh,rfl,λ_ _=>rfl⟩
 exact⟨F,s,hl⟩
omit [qL β]in
theorem N1:∀(os:List Oper) (pb:hZ) (n:Nat) {K:List (Nat×Nat)->hZ->Option β},EF os pb n K=some q->∃av pb',K av pb'=some q/\∃l:hZ,pb'=pb++l/\∀x∈l,x=none
 |[],pb,n,K,h=>⟨[],pb,h,[],by simp,by simp⟩
 |o::os,pb,n,K,h=>by
  have j:∀(G:List (Nat×Nat)->hZ->Option β),EF os (pb++[none]) (n+1) G=some q->(∃av pb',G av pb'=some q/\∃l:hZ,pb'=pb++l/\∀x∈l,x=none):=λG R=>by have⟨av,pb',y,l,F,J⟩:=N1 os _ _ R;exact⟨av,pb',y,none::l,by rw[F];simp,λx H=>(aG.1 H).elim id (J x)⟩
  simp only[EF]at h;split at h
  .rw[qM]at h;have⟨av,pb',y,F⟩:=j _ h;rw[xi]at y;exact⟨_,pb',y,F⟩
  .rw[qM]at h;have⟨av,pb',y,F⟩:=j _ h;rw[xi]at y;exact⟨_,pb',y,F⟩
  .exact N1 os pb n h
theorem Jy:∀{ops:List Oper} {i:Nat},Ir ops i=ops[i]?
 |[],i=>by simp[Ir]
 |o::os,0=>rfl
 |o::os,i+1=>by simp only[Ir,fg];exact Jy
theorem LV:∀{ops:List Oper} {i:Nat} {o:Oper},ops[i]?=some o->∀d∈alH o,d∈PX ops
 |[],i,o,h=>by simp at h
 |p::ops,i,o,h=>by
  intro d j;simp only[PX,aX];cases i with
  |zero=>simp at h;subst h;exact .inl j
  |succ i=>exact .inr (LV (by simpa using h) d j)
end
section
variable {P : Program} {T : List TI} {V : World} {U0 L : Nat -> Prop} {al : Nat -> Bool} {β : Type} [qL β] {q : β} {K : DK β} {C : FR} {av : List (Nat × Nat)} {ops : Array Oper} {Ia : List Nat} {sn : Nat -> Bool}
  {B0 : Nat -> Nat} {A0 : yu} {pb0 : hZ} {rw0 : List DR} {a0 : Act} {w0 : World}
def QD(V:World)(U0 L:Nat->Prop)(al:Nat->Bool)(B0:Nat->Nat)(A0:yu)(pb0:hZ)(rw0:List DR)(w0:World)(a0:Act)(K:DK β)(q:β)(ops:Array Oper):Exit->Act->World->Prop:=λe a' w'=>match e with
 | .normal=>oq V U0 L al B0 A0 pb0 rw0 w0 a0 K q a' w'/\eO (PX ops.toList) a0 a'
 |_=>False
def SD(al:Nat->Bool)(B0:Nat->Nat)(A0:yu)(pb0:hZ)(rw0:List DR)(w0:World):World->Prop:=λw'=>∀b,b<w0.heap.size->¬Wr al B0 A0 pb0 rw0 b->w'.heap[b]?=w0.heap[b]?
structure At0(al:Nat->Bool)(ops:Array Oper)(B0:Nat->Nat)(A0:yu)(pb0:hZ)(rw0:List DR)(w0:World)(a0:Act)(ph:Bool)(B:Nat->Nat)(A:yu)(pb:hZ)(rw:List DR)(w:World)(a:Act):Prop where
 ext:Ext al B0 A0 pb0 rw0 w0 B A pb rw w
 out:eO (PX ops.toList) a0 a
 df:a.defers=a0.defers
 ph0:ph=false->B=B0/\A=A0/\pb=pb0/\rw=rw0/\w=w0
omit [qL β]in
theorem auo(hT:dD P T)(hal:∀i,live pb0 i->Ad i Ia=false->al i=false)(hsn:∀i,sn i=true->live pb0 i/\al i=false){ph:Bool}{B:Nat->Nat}{A:yu}{ts:List DV}{pb:hZ}{rw:List DR}{a:Act}{w:World}{o:Oper}{ret:DV->Option β}
 (h:rdE aj T Ia sn ph o ts pb rw ret=some q) (m0:Mem V U0 L B0 A0 pb0 rw0 w0) (m:Mem V U0 L B A pb rw w) (X:hL (env U0 B A pb rw w) ts a.tmps.toList) (s:At0 al ops B0 A0 pb0 rw0 w0 a0 ph B A pb rw w a):
 ∃r v,ret r=some q/\r.h (env U0 B A pb rw w) v/\∀w',SD al B0 A0 pb0 rw0 w0 w'->(execOp a.eval o).run P w'=.ok (.value v) w':=by
 have H:∀b,b<w0.heap.size->¬Wr al B0 A0 pb0 rw0 b->∀w',SD al B0 A0 pb0 rw0 w0 w'->w'.heap[b]?=w.heap[b]?:=λb hb R w' hs=>by rw[hs b hb R,s.ext.fr b hb R]
 have own:∀i,live pb0 i->al i=false->B i<w0.heap.size/\¬Wr al B0 A0 pb0 rw0 (B i):=λi hl ha=>by
  have hb:=(s.ext.bx i hl).2;have y:iF B0 A0 pb0 rw0 false i (B i):=⟨hl,hb.symm⟩;refine⟨(m0.low _ _ _ y).1,?_⟩;rintro(⟨i',W,J⟩|⟨j,J⟩)
  .have:=(m0.inj _ _ _ _ _ y J).2;subst this;rw[ha]at W;cases W
  .have:=(m0.inj _ _ _ _ _ y J).1;cases this
 unfold rdE at h;split at h
 .rename_i t x ho
  have fin:∀(p:DV),vF ts x=some p->O7 aj T t p pb rw ret=some q->(∀ad:Addr,a.eval x=.pointer (some ad)->((∃i off,p=.own i off/\iF B A pb rw false i ad.block)\/(∃t x off,p=.el t x off/\¬Us U0 B A pb rw ad.block/\ad.block<w.heap.size)\/(∃j i off,p=.re j i off)\/∃l k,p=.fp l k)->ad.block<w0.heap.size/\¬Wr al B0 A0 pb0 rw0 ad.block)->
   ∃r v,ret r=some q/\r.h (env U0 B A pb rw w) v/\∀w',SD al B0 A0 pb0 rw0 w0 w'->(execOp a.eval o).run P w'=.ok (.value v) w':=by
   intro p Y hl hbk;have⟨r,u,ad,hv,W,J,h3,h4⟩:=LJ hT m hl (gq Y X);have⟨g1,g2⟩:=hbk ad hv h4;exact⟨r,u,W,J,λw' hs=>by rw[Sj ho,h3 w' (H _ g1 g2 w' hs)];rfl⟩
  split at h
  .have⟨p,Y,h⟩:=wD h;split at h
   .rename_i F;obtain⟨rfl,rfl,rfl,rfl,rfl⟩:=s.ph0 rfl;refine fin p Y h λad hv hc=>?_
    rcases hc with⟨i,off,rfl,y⟩|⟨t',x',off,rfl,R,hlt⟩|⟨j,i,off,rfl⟩|⟨l,k,rfl⟩
    .have hi:Ad i Ia=false:=by
      simp only[afO]at F;split at F
      .assumption
      .cases F
     have:=own i y.1 (hal i y.1 hi);rw[y.2]at this;exact this
    .refine⟨hlt,?_⟩;rintro(⟨i,_,hb⟩|⟨j,hb⟩)
     .exact R (.inr ⟨_,i,hb⟩)
     .exact R (.inr ⟨_,j,hb⟩)
    .simp[afO]at F
    .simp[afO]at F
   .cases h
  .have⟨p,Y,h⟩:=wD h;split at h
   .rename_i G;refine fin p Y h λad hv hc=>?_
    rcases hc with⟨i,off,rfl,y⟩|⟨t',x',off,rfl,R,_⟩|⟨j,i,off,rfl⟩|⟨l,k,rfl⟩
    .have⟨g1,g2⟩:=hsn i G;have:=own i g1 g2;rw[y.2]at this;exact this
    .simp[afP]at G
    .simp[afP]at G
    .simp[afP]at G
   .cases h
 .have⟨r,v,W,J,h3⟩:=Yc hT rfl X rfl m.afX h;exact⟨r,v,W,J,λw' _=>h3 w'⟩
theorem su(hT:dD P T)(hC:Di P C){i n:Nat}{ph:Bool}{X:Array Bool}{B:Nat->Nat}{A:yu}{ts:List DV}{pb:hZ}{rw:List DR}{a:Act}{w:World}{o:Oper}{k:DK β}(hi:ops[i]?=some o)
 (h:Fq aj T C al av ops.toList o ts pb rw k=some q) (m:Mem V U0 L B A pb rw w) (F:hL (env U0 B A pb rw w) ts a.tmps.toList) (s:At0 al ops B0 A0 pb0 rw0 w0 a0 ph B A pb rw w a)
 (hk:∀B A ts pb rw a w,k ts pb rw=some q->Mem V U0 L B A pb rw w->hL (env U0 B A pb rw w) ts a.tmps.toList->At0 al ops B0 A0 pb0 rw0 w0 a0 true B A pb rw w a->wpAnyH P .any ops (QD V U0 L al B0 A0 pb0 rw0 w0 a0 K q ops) (SD al B0 A0 pb0 rw0 w0) n (X.setIfInBounds i true) a w):
 wpOp P ops (QD V U0 L al B0 A0 pb0 rw0 w0 a0 K q ops) i (λa' w'=>SD al B0 A0 pb0 rw0 w0 w'/\wpAnyH P .any ops (QD V U0 L al B0 A0 pb0 rw0 w0 a0 K q ops) (SD al B0 A0 pb0 rw0 w0) n (X.setIfInBounds i true) a' w') a w:=by
 have G:=LV (ops:=ops.toList) (i:=i) (o:=o) (by simpa using hi)
 have go:∀ts,hL (env U0 B A pb rw w) ts a.tmps.toList->Region.wanted o (yielded ops a.tmps)=true->Sr aj T C al av o ts pb rw k=some q->
  wpOp P ops (QD V U0 L al B0 A0 pb0 rw0 w0 a0 K q ops) i (λa' w'=>SD al B0 A0 pb0 rw0 w0 w'/\wpAnyH P .any ops (QD V U0 L al B0 A0 pb0 rw0 w0 a0 K q ops) (SD al B0 A0 pb0 rw0 w0) n (X.setIfInBounds i true) a' w') a w:=by
  intro ts F H h;unfold Go.wpOp;simp only[hi,H,rH];refine .inl (Oper.wp_mono (λa' w' hn=>?_) (am4 (SS (al:=al) hT hC h m F)));have⟨⟨B',A',y,pb',rw',m',h1,h2,h3,e⟩,hso⟩:=hn;have e':=s.ext.trans e;exact⟨λb hb J=>e'.fr b hb J,hk B' A' y pb' rw' a' w' h2 m' h1 ⟨e',s.out.trans (hso.mono G),h3.trans s.df,λh=>by cases h⟩⟩
 have skip:∀ts,hL (env U0 B A pb rw w) ts a.tmps.toList->Region.wanted o (yielded ops a.tmps)=false->jq o.dst .NI ts pb rw k=some q->
  wpOp P ops (QD V U0 L al B0 A0 pb0 rw0 w0 a0 K q ops) i (λa' w'=>SD al B0 A0 pb0 rw0 w0 w'/\wpAnyH P .any ops (QD V U0 L al B0 A0 pb0 rw0 w0 a0 K q ops) (SD al B0 A0 pb0 rw0 w0) n (X.setIfInBounds i true) a' w') a w:=by
  intro ts F H h;have⟨y,h1,h2,h3⟩:=NT h F (x:=.NI) (v:=undef) (by simp only[DV.h]);unfold Go.wpOp;simp only[hi,H,eM,nS];exact⟨λb hb J=>s.ext.fr b hb J,hk B A y pb rw _ w h1 m h2 ⟨s.ext,s.out.trans ((eO.put a o undef).mono G),h3.trans s.df,λh=>by cases h⟩⟩
 unfold Fq at h;split at h
 .rename_i hg;exact go ts F (by simp[Region.wanted,hg]) h
 .rename_i j R hg;have⟨y,hr,W⟩:=NX h F;have hw:Region.wanted o (yielded ops a.tmps)=(yielded ops a.tmps j==some R):=by simp[Region.wanted,hg]
  rcases W with⟨Y,W⟩|⟨Y,W⟩
  .exact go y hr (by rw[hw,Y];simp) W
  .exact skip y hr (by rw[hw];simpa using Y) W
theorem uJ(W:dD P T)(X:Di P C)(G:Region.noSelect ops=true)(R:∀i,live pb0 i->Ad i Ia=false->al i=false)(J:∀i,sn i=true->live pb0 i/\al i=false)(m0:Mem V U0 L B0 A0 pb0 rw0 w0):
 ∀(t:OT) (n:Nat) (Lk:Array Bool) (Y:Bool) (B:Nat->Nat) (A:yu) (ts:List DV) (pb:hZ) (rw:List DR) (a:Act) (w:World),tM ops n t Lk=true->PY aj T C al av Ia sn ops.toList Y t ts pb rw K=some q->Mem V U0 L B A pb rw w->hL (env U0 B A pb rw w) ts a.tmps.toList->At0 al ops B0 A0 pb0 rw0 w0 a0 Y B A pb rw w a->wpAnyH P .any ops (QD V U0 L al B0 A0 pb0 rw0 w0 a0 K q ops) (SD al B0 A0 pb0 rw0 w0) n Lk a w
 | .nil,n,Lk,Y,B,A,ts,pb,rw,a,w,F,h,m,y,s=>by
  have F:(Region.ready .any ops Lk).isEmpty=true:=by cases n<;>simpa[tM]using F
  simp only[wY]at F;simp only[PY]at h;exact wpAnyH_done F ⟨⟨B,A,ts,pb,rw,m,y,h,s.df,s.ext⟩,s.out⟩ _
 | .rd i t,0,Lk,Y,B,A,ts,pb,rw,a,w,F,h,m,y,s=>by simp[tM]at F
 | .er i D t,0,Lk,Y,B,A,ts,pb,rw,a,w,F,h,m,y,s=>by simp[tM]at F
 | .op i t,0,Lk,Y,B,A,ts,pb,rw,a,w,F,h,m,y,s=>by simp[tM]at F
 | .two i j ti tj,0,Lk,Y,B,A,ts,pb,rw,a,w,F,h,m,y,s=>by simp[tM]at F
 | .three i j k ti tj tk,0,Lk,Y,B,A,ts,pb,rw,a,w,F,h,m,y,s=>by simp[tM]at F
 | .four i j k l ti tj tk tl,0,Lk,Y,B,A,ts,pb,rw,a,w,F,h,m,y,s=>by simp[tM]at F
 | .rd i t,n+1,Lk,Y,B,A,ts,pb,rw,a,w,F,h,m,y,s=>by
  simp only[tM,aD]at F;simp only[PY]at h;split at h
  .rename_i o hi;rw[Jy]at hi;have hi:ops[i]?=some o:=by simpa using hi
   have aqm:=LV (ops:=ops.toList) (i:=i) (o:=o) (by simpa using hi);have hS:SD al B0 A0 pb0 rw0 w0 w:=λb hb hnb=>s.ext.fr b hb hnb
   have go:∀ts,hL (env U0 B A pb rw w) ts a.tmps.toList->Region.wanted o (yielded ops a.tmps)=true->(rdE aj T Ia sn Y o ts pb rw λx=>jq o.dst x ts pb rw λts pb rw=>PY aj T C al av Ia sn ops.toList Y t ts pb rw K)=some q->wpAnyH P .any ops (QD V U0 L al B0 A0 pb0 rw0 w0 a0 K q ops) (SD al B0 A0 pb0 rw0 w0) (n+1) Lk a w:=by intro ts y hwt h;have⟨r,v,h1,h2,h3⟩:=auo W R J h m0 m y s;have⟨NZ,g1,g2,g3⟩:=NT h1 y h2;refine wpAnyH_take hi G F.1.1 F.1.2 (λc a w hq=>hq) (.inl ⟨hwt,λw' hs=>h3 w' hs⟩) hS ?_;exact uJ W X G R J m0 t n _ Y B A NZ pb rw _ w F.2 g1 m g2 ⟨s.ext,s.out.trans ((eO.put a o v).mono aqm),g3.trans s.df,s.ph0⟩
   have skip:∀ts,hL (env U0 B A pb rw w) ts a.tmps.toList->Region.wanted o (yielded ops a.tmps)=false->(jq o.dst .NI ts pb rw λts pb rw=>PY aj T C al av Ia sn ops.toList Y t ts pb rw K)=some q->wpAnyH P .any ops (QD V U0 L al B0 A0 pb0 rw0 w0 a0 K q ops) (SD al B0 A0 pb0 rw0 w0) (n+1) Lk a w:=by intro ts y hwt h;have⟨NZ,g1,g2,g3⟩:=NT h y (x:=.NI) (v:=undef) (by simp only[DV.h]);exact wpAnyH_take hi G F.1.1 F.1.2 (λc a w hq=>hq) (.inr ⟨hwt,rfl⟩) hS (uJ W X G R J m0 t n _ Y B A NZ pb rw _ w F.2 g1 m g2 ⟨s.ext,s.out.trans ((eO.put a o undef).mono aqm),g3.trans s.df,s.ph0⟩)
   split at h
   .rename_i hg;exact go ts y (by simp[Region.wanted,hg]) h
   .rename_i j want hg;have⟨NZ,hr,hc⟩:=NX h y;have hw:Region.wanted o (yielded ops a.tmps)=(yielded ops a.tmps j==some want):=by simp[Region.wanted,hg]
    rcases hc with⟨hy,hc⟩|⟨hy,hc⟩
    .exact go NZ hr (by rw[hw,hy];simp) hc
    .exact skip NZ hr (by rw[hw];simpa using hy) hc
  .cases h
 | .er i D t,n+1,Lk,Y,B,A,ts,pb,rw,a,w,F,h,m,y,s=>by
  simp only[tM,aD]at F;simp only[PY]at h;split at h
  .rename_i o hi;rw[Jy]at hi;have hi:ops[i]?=some o:=by simpa using hi
   have aqm:=LV (ops:=ops.toList) (i:=i) (o:=o) (by simpa using hi);have hS:SD al B0 A0 pb0 rw0 w0 w:=λb hb hnb=>s.ext.fr b hb hnb
   split at h
   .rename_i ty x hg ho;have⟨p,hp,h⟩:=wD h;have⟨r,u,ad,hv,h1,h2,h3,_⟩:=LJ W m h (gq hp y);have⟨NZ,g1,g2,g3⟩:=NT h1 y h2;have⟨e1,e2,e3,e4⟩:=am6 F.1.2;refine Yq hi G (λc a w hq=>hq) e3 hS n Lk a e2 e4 (Region.free_spec hi F.1.1.1) e1 (by simpa using F.1.1.2) (v:=u) (.inl ⟨by simp[Region.wanted,hg],λw' hw=>by rw[hw,Sj ho,h3 w rfl];rfl⟩) ?_;exact uJ W X G R J m0 t n _ false B A NZ pb rw _ w F.2 g1 m g2 ⟨s.ext,s.out.trans ((eO.put a o u).mono aqm),g3.trans s.df,s.ph0⟩
   .cases h
  .cases h
 | .op i t,n+1,Lk,Y,B,A,ts,pb,rw,a,w,F,h,m,y,s=>by
  simp only[tM,aD,fW]at F;simp only[PY]at h;split at h
  .rename_i o hi;rw[Jy]at hi;have hi:ops[i]?=some o:=by simpa using hi
   refine wpAnyH_all F.1 (by simp) λj hj=>?_
   rw[ax.1 hj];exact su W X hi h m y s λB A ts pb rw a w H m y s=>uJ W X G R J m0 t n _ true B A ts pb rw a w F.2 H m y s
  .cases h
 | .two i j ti tj,n+1,Lk,Y,B,A,ts,pb,rw,a,w,F,h,m,y,s=>by
  simp only[tM,aD,fW]at F;simp only[PY]at h;split at h
  .rename_i o o' hi hj;rw[Jy]at hi hj;have hi:ops[i]?=some o:=by simpa using hi
   have hj:ops[j]?=some o':=by simpa using hj
   have⟨ha,hb⟩:=Ju h;refine wpAnyH_all F.1.1 (by simp) λk H=>?_
   simp only[aG,dN,lk]at H;rcases H with rfl|rfl
   .exact su W X hi ha m y s λB A ts pb rw a w H m y s=>uJ W X G R J m0 ti n _ true B A ts pb rw a w F.1.2 H m y s
   .exact su W X hj hb m y s λB A ts pb rw a w H m y s=>uJ W X G R J m0 tj n _ true B A ts pb rw a w F.2 H m y s
  .cases h
 | .three i j k ti tj tk,n+1,Lk,Y,B,A,ts,pb,rw,a,w,F,h,m,y,s=>by
  simp only[tM,aD,fW]at F;simp only[PY]at h;split at h
  .rename_i o o' o2 hi hj H;rw[Jy]at hi hj H;have hi:ops[i]?=some o:=by simpa using hi
   have hj:ops[j]?=some o':=by simpa using hj
   have H:ops[k]?=some o2:=by simpa using H
   have⟨ha,hb⟩:=Ju h;have⟨hb,hc⟩:=Ju hb;refine wpAnyH_all F.1.1.1 (by simp) λl hl=>?_
   simp only[aG,dN,lk]at hl;rcases hl with rfl|rfl|rfl
   .exact su W X hi ha m y s λB A ts pb rw a w H m y s=>uJ W X G R J m0 ti n _ true B A ts pb rw a w F.1.1.2 H m y s
   .exact su W X hj hb m y s λB A ts pb rw a w H m y s=>uJ W X G R J m0 tj n _ true B A ts pb rw a w F.1.2 H m y s
   .exact su W X H hc m y s λB A ts pb rw a w H m y s=>uJ W X G R J m0 tk n _ true B A ts pb rw a w F.2 H m y s
  .cases h
 | .four i j k l ti tj tk tl,n+1,Lk,Y,B,A,ts,pb,rw,a,w,F,h,m,y,s=>by
  simp only[tM,aD,fW]at F;simp only[PY]at h;split at h
  .rename_i o o' o2 o3 hi hj H hl;rw[Jy]at hi hj H hl;have hi:ops[i]?=some o:=by simpa using hi
   have hj:ops[j]?=some o':=by simpa using hj
   have H:ops[k]?=some o2:=by simpa using H
   have hl:ops[l]?=some o3:=by simpa using hl
   have⟨ha,hb⟩:=Ju h;have⟨hb,hc⟩:=Ju hb;have⟨hc,hd⟩:=Ju hc;refine wpAnyH_all F.1.1.1.1 (by simp) λx hx=>?_
   simp only[aG,dN,lk]at hx;rcases hx with rfl|rfl|rfl|rfl
   .exact su W X hi ha m y s λB A ts pb rw a w H m y s=>uJ W X G R J m0 ti n _ true B A ts pb rw a w F.1.1.1.2 H m y s
   .exact su W X hj hb m y s λB A ts pb rw a w H m y s=>uJ W X G R J m0 tj n _ true B A ts pb rw a w F.1.1.2 H m y s
   .exact su W X H hc m y s λB A ts pb rw a w H m y s=>uJ W X G R J m0 tk n _ true B A ts pb rw a w F.1.2 H m y s
   .exact su W X hl hd m y s λB A ts pb rw a w H m y s=>uJ W X G R J m0 tl n _ true B A ts pb rw a w F.2 H m y s
  .cases h
end
section
variable {P : Program} {T : List TI} {V : World} {U0 L : Nat -> Prop} {B : Nat -> Nat} {A : yu} {ts : List DV} {pb : hZ} {rw : List DR} {a : Act} {w : World} {β : Type} [qL β] {q : β} {K : DK β} {Q : Exit -> Act -> World -> Prop} {C : FR}
theorem am7:∀{pb:hZ} {i:Nat},ads pb i=true->live pb i
 |[],i,h=>by simp[ads]at h
 |o::pb,0,h=>by
  cases o with
  |none=>simp[ads]at h
  |some b=>exact⟨b,rfl⟩
 |o::pb,i+1,h=>by have⟨b,hb⟩:=am7 (pb:=pb) (i:=i) (by simpa[ads]using h);exact⟨b,by simpa using hb⟩
theorem am8{Ia}{n i}(hi:i<n)(hm:Ad i Ia=false):apQ Ia n i=false:=by
 unfold apQ;rw[hm];cases h:Nat.ble n i with
 |false=>rfl
 |true=>have:=bS h;omega
theorem agk{pb}{i}(h:live pb i):i<pb.length:=let ⟨_,h⟩:=h;(aC.1 h).1
theorem Ap:∀(L:List Bool) (i:Nat) (K:List Bool->Bool),Ai L i K=K (L.set i true)
 |[],_,_=>rfl
 |_::_,0,_=>rfl
 |b::l,i+1,K=>by simp only[Ai,Ap l i,Bi]
theorem Dq{ops}:∀(t:OT) (n:Nat) (L:List Bool),NO ops n t L=true->tM ops n t L.toArray=true
 | .nil,n,L,h=>by cases n<;>simpa[tM,NO]using h
 | .rd i t,0,L,h=>by simp[NO]at h
 | .er i D t,0,L,h=>by simp[NO]at h
 | .op i t,0,L,h=>by simp[NO]at h
 | .two ..,0,L,h=>by simp[NO]at h
 | .three ..,0,L,h=>by simp[NO]at h
 | .four ..,0,L,h=>by simp[NO]at h
 | .rd i t,n+1,L,h=>by simp only[NO,aD,Ap]at h;simp only[tM,aD,fc];exact⟨h.1,Dq t n _ h.2⟩
 | .er i D t,n+1,L,h=>by simp only[NO,aD,Ap]at h;simp only[tM,aD,fc];exact⟨h.1,Dq t n _ h.2⟩
 | .op i t,n+1,L,h=>by simp only[NO,aD,Ap]at h;simp only[tM,aD,fc];exact⟨h.1,Dq t n _ h.2⟩
 | .two i j F y,n+1,L,h=>by simp only[NO,aD,Ap]at h;simp only[tM,aD,fc];exact⟨⟨h.1.1,Dq F n _ h.1.2⟩,Dq y n _ h.2⟩
 | .three i j k F y G,n+1,L,h=>by simp only[NO,aD,Ap]at h;simp only[tM,aD,fc];exact⟨⟨⟨h.1.1.1,Dq F n _ h.1.1.2⟩,Dq y n _ h.1.2⟩,Dq G n _ h.2⟩
 | .four i j k l F y G H,n+1,L,h=>by simp only[NO,aD,Ap]at h;simp only[tM,aD,fc];exact⟨⟨⟨⟨h.1.1.1.1,Dq F n _ h.1.1.1.2⟩,Dq y n _ h.1.1.2⟩,Dq G n _ h.1.2⟩,Dq H n _ h.2⟩
theorem am9(hT:dD P T)(hC:Di P C)(hm:P.follows .mixedOrders=true){O}{id}{ops:Array Oper}(h:alI aj T C O id ops ts pb rw K=some q)(m:Mem V U0 L B A pb rw w)(IN:hL (env U0 B A pb rw w) ts a.tmps.toList)
 (hQ:∀a' w',Nx V U0 L B pb a K q a' w'->eO (PX ops.toList) a a'->Q .normal a' w'):(Code.region id ops true).wp P Q a w:=by
 unfold alI at h;split at h
 .rename_i Ia t htr;split at h
  .rename_i y;simp only[aD]at y
   have y:Region.noSelect ops=true/\tM ops ops.size t (Array.replicate ops.size false)=true:=⟨y.1,by
    have:=Dq t _ _ y.2;have e:(ops.toList.map λ_=>false).toArray=Array.replicate ops.size false:=by apply fG;show ops.toList.map (λ_=>false)=List.replicate ops.size false;rw[List.map_const',fi]
    rwa [e]at this⟩
   rw[xi]at h;have⟨av,pb',h,l,hl,F⟩:=N1 _ _ _ h
   have hp:∀(i:Nat) (b:DB),pb'[i]?=some (some b)↔pb[i]?=some (some b):=by
    intro i b;subst hl;rcases dI i pb.length with hi|hi
    .rw[bG hi]
    .rw[dJ hi];constructor
     .intro Y;have:=F _ (kB Y);cases this
     .intro Y;have:=(aC.1 Y).1;omega
   have⟨m1,s1,_⟩:=m.world (al:=λ_=>true) (w':={ w with drawn:=w.drawn+1 }) ⟨rfl,rfl,rfl,au _⟩ (λ_ _=>rfl);have⟨m2,s2,j⟩:=m1.places hp;have H:=nc s2 (nc s1 IN);have J:∀i,live pb' i->i<pb.length:=λi hi=>agk ((j i).1 hi)
   have:=uJ (al:=apQ Ia pb.length) (Ia:=Ia) (sn:=aua Ia (ads pb)) (K:=K) (q:=q) hT hC y.1 (λi hi G=>am8 (J i hi) G) (λi hi=>by
    unfold aua at hi;split at hi
    .cases hi
    .rename_i G;have R:=(j i).2 (am7 hi);exact⟨R,am8 (J i R) G⟩) m2 t _ _ false B A ts pb' rw a _ y.2 h m2 H ⟨Ext.refl,eO.refl _ _,rfl,λ_=>⟨rfl,rfl,rfl,rfl,rfl⟩⟩
   refine rI (wp_region_held hm this) λe a' w' hq=>?_
   cases e with
   |normal=>have⟨hn,hso⟩:=hq;have⟨B',A',W,X,rw',m',h1,h2,h3,h4⟩:=hn.nx;exact hQ _ _ ⟨B',A',W,X,rw',m',h1,h2,h3,λi hi=>h4 i ((j i).2 hi)⟩ hso
   |_=>exact hq.elim
  .cases h
 .cases h
end
theorem GB:∀{pb:hZ} {i:Nat} {b:DB},(qg pb)[i]?=some (some b)↔∃j,pb[i]?=some (some j)/\b=⟨j.ty,j.cells,false⟩
 |[],i,b=>by simp[qg]
 |some j::pb,0,b=>by simp only[qg,gU,ak];exact⟨λh=>⟨j,rfl,h.symm⟩,λ⟨b1,C,y⟩=>by subst C;exact y.symm⟩
 |none::pb,0,b=>by simp[qg]
 |some j::pb,i+1,b=>by simp only[qg,fg];exact GB
 |none::pb,i+1,b=>by simp only[qg,fg];exact GB
theorem Dr{pb}{i}:live (qg pb) i↔live pb i:=by
 constructor
 .rintro⟨b,h⟩;have⟨y,j,_⟩:=GB.1 h;exact⟨y,j⟩
 .rintro⟨b,h⟩;exact⟨_,GB.2 ⟨b,h,rfl⟩⟩
def flW(ps:hZ)(i:Nat):Bool:=match ps[i]? with|some (some a)=>a.w|_=>true
theorem LW:∀{pb ps:hZ} {i:Nat} {b:DB},(Uk ps pb)[i]?=some (some b)↔∃j,pb[i]?=some (some j)/\b=⟨j.ty,j.cells,j.w||flW ps i⟩
 |[],ps,i,b=>by simp[Uk]
 |none::pb,ps,0,b=>by simp[Uk]
 |some j::pb,ps,0,b=>by
  simp only[Uk,gU,ak];cases ps with
  |nil=>exact⟨λh=>⟨j,rfl,h.symm⟩,λ⟨b1,C,y⟩=>by subst C;exact y.symm⟩
  |cons p ps=>cases p<;>exact⟨λh=>⟨j,rfl,h.symm⟩,λ⟨b1,C,y⟩=>by subst C;exact y.symm⟩
 |none::pb,ps,i+1,b=>by
  simp only[Uk,fg];rw[LW];have:flW ps.tail i=flW ps (i+1):=by cases ps<;>simp[flW]
  rw[this]
 |some j::pb,ps,i+1,b=>by
  simp only[Uk,fg];rw[LW];have:flW ps.tail i=flW ps (i+1):=by cases ps<;>simp[flW]
  rw[this]
theorem SX{pb ps}{i}:live (Uk ps pb) i↔live pb i:=by
 constructor
 .rintro⟨b,h⟩;have⟨y,j,_⟩:=LW.1 h;exact⟨y,j⟩
 .rintro⟨b,h⟩;exact⟨_,LW.2 ⟨b,h,rfl⟩⟩
section
variable {V : World} {U0 L Lx : Nat -> Prop} {B B' : Nat -> Nat} {A A' : yu} {pb pb' : hZ} {rw rw' : List DR} {w w' : World}
theorem aa2{E}{pb'}(hl:∀i,live pb' i↔live E.pb i)(y:∀b,Us U0 E.B E.A pb' E.rw b->E.U b):Sub HH E (env U0 E.B E.A pb' E.rw E.w):=⟨⟨λ_ _ _=>rfl,au _,λb _ h=>y b h⟩,λi h=>⟨(hl i).2 h,rfl⟩,λj e t l _ h=>⟨l,h,rfl,rfl⟩,λj d _ h=>⟨⟨d,h,rfl⟩,rfl⟩,λj q e t l h=>(by cases h),λj q d ad h=>(by cases h)⟩
theorem sw(hl:∀i,live pb' i↔live pb i){k}{i b}:iF B A pb' rw k i b↔iF B A pb rw k i b:=by
 cases k with
 |true=>exact Ih
 |false=>exact⟨λh=>⟨(hl i).1 h.1,h.2⟩,λh=>⟨(hl i).2 h.1,h.2⟩⟩
theorem agl(hl:∀i,live pb' i↔live pb i){b}:Us U0 B A pb' rw b↔Us U0 B A pb rw b:=⟨λh=>h.imp id λ⟨k,i,h⟩=>⟨k,i,(sw hl).1 h⟩,λh=>h.imp id λ⟨k,i,h⟩=>⟨k,i,(sw hl).2 h⟩⟩
theorem Mem.anchor(m:Mem V U0 L B A pb rw w):Mem w U0 (Ow B A pb rw) B A (qg pb) rw w/\Sub HH (env U0 B A pb rw w) (env U0 B A (qg pb) rw w):=by
 have hl:∀i,live (qg pb) i↔live pb i:=λi=>Dr
 have s:=aa2 (U0:=U0) (E:=env U0 B A pb rw w) hl λb h=>(agl hl).1 h
 refine⟨⟨rfl,rfl,rfl,au _,λ_ _ _=>rfl,λb hb=>⟨dZ (m.u0 b hb).1 m.size,λ⟨k,i,h⟩=>?_⟩,λk i b h=>?_,λk i R W b h G=>m.inj _ _ _ _ _ ((sw hl).1 h) ((sw hl).1 G),λi b h=>?_,λj e t l h=>?_,λj d h=>let ⟨b,o,g1,J,H⟩:=m.Iq j d h;⟨b,o,g1,J,OD.mono s.Fs H⟩⟩,s⟩
 .rcases(m.low k i b h).2 with g|g
  .have:=(m.u0 b hb).1;omega
  .exact(m.u0 b hb).2 g
 .have h:=(sw hl).1 h;exact⟨(m.low k i b h).1,.inr ⟨k,i,h⟩⟩
 .obtain⟨K,F,rfl⟩:=GB.1 h;have⟨cs,y,C,_⟩:=m.box i K F;exact⟨cs,y,nc s C,λ_=>⟨(cq.1 y).1,rfl⟩⟩
 .have⟨xs,y,C⟩:=m.row j e t l h;exact⟨xs,y,DT.lr s.Fs C⟩
theorem Mem.awB(m:Mem V U0 L B A pb rw w)(hL:∀b,Lx b↔Ow B A pb rw b)(j:Mem w U0 Lx B' A' pb' rw' w'):∀k i b,iF B' A' pb' rw' k i b->b<w'.heap.size/\(V.heap.size<=b\/L b):=λk i b h=>⟨(j.low k i b h).1,(j.low k i b h).2.elim (λh=>.inl (bU m.size h)) λh=>let ⟨k,i,h⟩:=(hL b).1 h;(m.low k i b h).2⟩
theorem Mem.asB(m:Mem V U0 L B A pb rw w)(hL:∀b,Lx b↔Ow B A pb rw b)(y:Mem w U0 Lx B' A' pb' rw' w'):∀b,b<V.heap.size->¬L b->w'.heap[b]?=V.heap[b]?:=λb hb j=>by
 rw[y.same b (dZ hb m.size) λh=>?_,m.same b hb j];have⟨k,i,h⟩:=(hL b).1 h;rcases(m.low k i b h).2 with h|h
 .omega
 .exact j h
theorem Mem.awC(m:Mem V U0 L B A pb rw w)(hL:∀b,Lx b↔Ow B A pb rw b)(y:Mem w U0 Lx B' A' pb' rw' w')(hb:∀i,live pb i->B' i=B i):Mem V U0 L B' A' (Uk pb pb') rw' w'/\Sub HH (env U0 B' A' pb' rw' w') (env U0 B' A' (Uk pb pb') rw' w'):=by
 have hl:∀i,live (Uk pb pb') i↔live pb' i:=λi=>SX
 have s:=aa2 (U0:=U0) (E:=env U0 B' A' pb' rw' w') hl λb h=>(agl hl).1 h
 refine⟨⟨y.os.trans m.os,y.tape.trans m.tape,y.output.trans m.output,bU m.size y.size,m.asB hL y,m.u0,λk i b h=>m.awB hL y k i b ((sw hl).1 h),λk i k' i' b h h'=>y.inj _ _ _ _ _ ((sw hl).1 h) ((sw hl).1 h'),λi b h=>?_,λj e t l h=>?_,λj d h=>let ⟨b,o,g1,G,R⟩:=y.Iq j d h;⟨b,o,g1,G,OD.mono s.Fs R⟩⟩,s⟩
 .obtain⟨b0,h0,rfl⟩:=LW.1 h;have⟨cs,K,J,Y⟩:=y.box i b0 h0;refine⟨cs,K,nc s J,λW=>?_⟩;simp only[nK]at W;have⟨H,C⟩:=W;have⟨g1,G⟩:=Y H;unfold flW at C;split at C
  .rename_i b1 F;have⟨cs1,_,_,X⟩:=m.box i b1 F;have⟨R,g4⟩:=X C;rw[hb i ⟨_,F⟩]at G ⊢;exact⟨R,G.trans g4⟩
  .cases C
 .have⟨xs,K,J⟩:=y.row j e t l h;exact⟨xs,K,DT.lr s.Fs J⟩
end
section
variable {β : Type} {q : β}
theorem SY{l}:∀{n:Nat} {pb pb':hZ},rT l n pb pb'=true->∀i b,pb[i]?=some (some b)->∃j,pb'[i]?=some (some j)/\b.ty=j.ty/\(Ad (n+i) l=true\/j.w=false)
 |_,[],_,_,i,b,hi=>by simp at hi
 |n,none::pb,[],h,i,b,hi=>by simp[rT]at h
 |n,none::pb,J::pb',h,i,b,hi=>by
  cases i with
  |zero=>simp at hi
  |succ i=>simp only[rT]at h;have⟨j,C,y,F⟩:=SY h i b (by simpa using hi);exact⟨j,by simpa using C,y,by rwa [show n+(i+1)=n+1+i by omega]⟩
 |n,some c::pb,[],h,i,b,hi=>by simp[rT]at h
 |n,some c::pb,none::pb',h,i,b,hi=>by simp[rT]at h
 |n,some c::pb,some H::pb',h,i,b,hi=>by
  simp only[rT,aD,fv,jy]at h;have⟨⟨C,y⟩,F⟩:=h;cases i with
  |zero=>simp at hi;subst hi;exact⟨H,rfl,aE C,y⟩
  |succ i=>have⟨j,g1,G,K⟩:=SY F i b (by simpa using hi);exact⟨j,by simpa using g1,G,by rwa [show n+(i+1)=n+1+i by omega]⟩
theorem Jz{l}:∀{n:Nat} {pb pb':hZ},rT l n (qg pb) pb'=rT l n pb pb'
 |_,[],_=>rfl
 |n,none::pb,[]=>by simp only[qg,rT]
 |n,none::pb,j::pb'=>by simp only[qg,rT];exact Jz
 |n,some c::pb,[]=>by simp only[qg,rT]
 |n,some c::pb,none::pb'=>by simp only[qg,rT]
 |n,some c::pb,some y::pb'=>by simp only[qg,rT];rw[Jz]
theorem aa3{j}{pb pb'}{ts}{rw}{k:j.T.den->Option β}:Sz j (qg pb) ts pb' rw k=Sz j pb ts pb' rw k:=by unfold Sz;rw[Jz]
theorem ad4{E}{ts}{us}(j:hL E ts us):∀{y:List Nat} {vs:List DV},alL ts y=some vs->hL E vs (y.map λn=>(us[n]?).getD undef)
 |[],vs,h=>by simp only[alL,ak]at h;subst h;simp[hL]
 |n::y,vs,h=>by
  simp only[alL]at h;split at h
  .rename_i v C G F;simp only[ak]at h;subst h;simp only[bK,hL];exact⟨_,_,rfl,LH G j,ad4 j F⟩
  .cases h
structure RoS(ro:List X_)(rs rw:List DR):Prop where
 own:∀(n:Nat) (e:TypeId) (t:DT) (l:List t.den),rs[n]?=some (DR.own e t l)->rw[n]?=some (DR.own e t l)\/(l=[]/\(rw[n]?=none\/rw[n]?=some DR.dead))
 Iq:∀(n:Nat) (d:OD),rs[n]?=some (DR.obj d)->∃d',rw[n]?=some (DR.obj d')/\d.p9=d'.p9/\∀U w o,d'.h U w o->d.h U w o
 isO:∀n:Nat,roN ro n=true->∃(e:TypeId) (t:DT) (l:List t.den),rs[n]?=some (DR.own e t l)
 isI:∀n:Nat,roI ro n=true->∃d:OD,rs[n]?=some (DR.obj d)
theorem asC:∀{ro:List X_} {rw:List DR} {y:(roT ro).den},roX ro rw=some y->RoS ro (Sv ro y) rw
 |[],rw,y,h=>⟨λn e t l h=>by simp[Sv]at h,λn d h=>by simp[Sv]at h,λn h=>by simp[roN]at h,λn h=>by simp[roI]at h⟩
 |k::ro,rw,y,h=>by
  have up:∀{r:DR} {H:(roT ro).den},roX ro rw.tail=some H->Sv (k::ro) y=r::Sv ro H->
   (∀(e:TypeId) (t:DT) (l:List t.den),r=DR.own e t l->rw[0]?=some (DR.own e t l)\/(l=[]/\(rw[0]?=none\/rw[0]?=some DR.dead)))->(∀d:OD,r=DR.obj d->∃J,rw[0]?=some (DR.obj J)/\d.p9=J.p9/\∀U w o,J.h U w o->d.h U w o)->(roN (k::ro) 0=true->∃(e:TypeId) (t:DT) (l:List t.den),r=DR.own e t l)->(roI (k::ro) 0=true->∃d:OD,r=DR.obj d)->
   RoS (k::ro) (Sv (k::ro) y) rw:=by
   intro r H C F h1 h2 h3 Y;have⟨g1,g2,g3,g4⟩:=asC C;have G:∀n,rw.tail[n]?=rw[n+1]?:=λn=>by cases rw<;>simp
   rw[F];refine⟨λn e t l j=>?_,λn d j=>?_,λn j=>?_,λn j=>?_⟩
   .cases n with
    |zero=>simp at j;exact h1 e t l j
    |succ n=>have:=g1 n e t l (by simpa using j);rwa [G]at this
   .cases n with
    |zero=>simp at j;exact h2 d j
    |succ n=>have:=g2 n d (by simpa using j);rwa [G]at this
   .cases n with
    |zero=>obtain⟨e,t,l,rfl⟩:=h3 j;exact⟨e,t,l,rfl⟩
    |succ n=>have⟨e,t,l,h⟩:=g3 n (by simpa[roN]using j);exact⟨e,t,l,by simpa using h⟩
   .cases n with
    |zero=>obtain⟨d,rfl⟩:=Y j;exact⟨d,rfl⟩
    |succ n=>have⟨d,h⟩:=g4 n (by simpa[roI]using j);exact⟨d,by simpa using h⟩
  cases k with
  |own e t=>
   unfold roX at h;split at h
   .rename_i e' t' xs rw';split at h
    .rename_i G y1 F hq C;have h:=cG h;subst h;subst G;have F:=aE F;subst F;exact up C rfl (λW K R h=>.inl (by rw[<-h];rfl)) (λ_ h=>by cases h) (λ_=>⟨_,_,_,rfl⟩) (λh=>by simp[roI]at h)
    .cases h
   .cases h
   .split at h
    .rename_i C;have h:=cG h;subst h;exact up C rfl (λW K R h=>.inr ⟨by cases h;rfl,.inr rfl⟩) (λ_ h=>by cases h) (λ_=>⟨_,_,_,rfl⟩) (λh=>by simp[roI]at h)
    .cases h
   .split at h
    .rename_i C;have h:=cG h;subst h;exact up C rfl (λW K R h=>.inr ⟨by cases h;rfl,.inl rfl⟩) (λ_ h=>by cases h) (λ_=>⟨_,_,_,rfl⟩) (λh=>by simp[roI]at h)
    .cases h
  |obj k=>
   unfold roX at h;split at h
   .split at h
    .rename_i X C;have h:=cG h;subst h;exact up C rfl (λ_ _ _ h=>by cases h) (λd h=>by cases h;exact⟨_,rfl,OKd.axS X⟩) (λh=>by simp[roN]at h) (λ_=>⟨_,rfl⟩)
    .cases h
   .cases h
  |dead=>unfold roX at h;exact up h rfl (λ_ _ _ h=>by cases h) (λ_ h=>by cases h) (λh=>by simp[roN]at h) (λh=>by simp[roI]at h)
theorem Yr:∀{xs:List DV} {j:List Bool} {K:List DV->Option β},SA xs j K=some q->∃l,K l=some q/\∀(E:Env) (vs:List Value),vs.length=xs.length->(∀(i:Nat) (p:DV) (v:Value),j[i]?=some false->xs[i]?=some p->vs[i]?=some v->p.h E v)->hL E l vs
 |[],[],K,h=>⟨[],h,λE vs hl _=>by simp only[hL];exact dt.1 (by simpa using hl)⟩
 |[],b::j,K,h=>by simp[SA]at h
 |x::xs,[],K,h=>by simp[SA]at h
 |x::xs,b::j,K,h=>by
  simp only[SA]at h;split at h
  .have⟨l,C,y⟩:=Yr h;refine⟨_,C,λE vs hl hh=>?_⟩;cases vs with
   |nil=>simp at hl
   |cons v vs=>simp only[hL];exact⟨v,vs,rfl,by simp only[DV.h],y E vs (by simpa using hl) λi p u g1 G F=>hh (i+1) p u (by simpa using g1) (by simpa using G) (by simpa using F)⟩
  .have⟨l,C,y⟩:=Yr h;refine⟨_,C,λE vs hl hh=>?_⟩;cases vs with
   |nil=>simp at hl
   |cons v vs=>simp only[hL];exact⟨v,vs,rfl,hh 0 x v rfl rfl rfl,y E vs (by simpa using hl) λi p u g1 G F=>hh (i+1) p u (by simpa using g1) (by simpa using G) (by simpa using F)⟩
theorem aa4{ws}:∀{n i k:Nat} {b:Bool},(NP ws n i)[k]?=some b->b=Ad (i+k) ws
 |0,i,k,b,h=>by simp[NP]at h
 |n+1,i,0,b,h=>by simp[NP]at h;exact h.symm
 |n+1,i,k+1,b,h=>by
  have:=aa4 (n:=n) (i:=i+1) (k:=k) (b:=b) (by simpa[NP]using h)
  rwa [show i+(k+1)=i+1+k by omega]
theorem aqn{us:List Value}{n:Nat}:us.set n ((us[n]?).getD undef)=us:=by
 apply eK;intro i;rw[bf];split
 .rename_i h;subst h;split
  .rename_i h;simp[h]
  .rename_i h;rw[bJ (by omega)]
 .rfl
def aa5:List DV->List Nat->List DV->List DV
 |ts,n::j,v::vs=>aa5 (ts.set n v) j vs
 |ts,_,_=>ts
theorem aa6:∀{j:List Nat} {ts vs:List DV} {K:List DV->Option β},V9 ts j vs K=some q->K (aa5 ts j vs)=some q
 |[],ts,[],K,h=>h
 |[],ts,v::vs,K,h=>by simp[V9]at h
 |n::j,ts,[],K,h=>by simp[V9]at h
 |n::j,ts,v::vs,K,h=>by simp only[V9,km]at h;have y:=aa6 h;simpa only[aa5]using y
theorem agm{E:Env}{us:List Value}:∀{C:List Nat} {ts vs:List DV},hL E ts us->hL E vs (C.map λn=>(us[n]?).getD undef)->hL E (aa5 ts C vs) us
 |[],ts,[],j,y=>j
 |[],ts,v::vs,j,y=>j
 |n::C,ts,[],j,y=>j
 |n::C,ts,v::vs,j,y=>by simp only[bK,hL]at y;have⟨u,us',e,G,F⟩:=y;simp only[dC]at e;obtain⟨rfl,rfl⟩:=e;have:=X3 j n G;rw[aqn]at this;simp only[aa5];exact agm this F
theorem agn:∀{is:List Nat} {pb:hZ} {cs:List (List DV)} {K:hZ->Option β},O9 pb is cs K=some q->∃pb',K pb'=some q/\(∀i,live pb' i↔live pb i)/\
 ∀i b,pb'[i]?=some (some b)->∃y,pb[i]?=some (some y)/\b.ty=y.ty/\((i∉is/\b=y)\/∃(k:Nat) (c:List DV),is[k]?=some i/\cs[k]?=some c/\b.cells=c/\b.w=true)
 |[],pb,[],K,h=>⟨pb,h,λ_=>Ih,λi b hb=>⟨b,hb,rfl,.inl ⟨by simp,rfl⟩⟩⟩
 |[],pb,c::cs,K,h=>by simp[O9]at h
 |i0::is,pb,[],K,h=>by simp[O9]at h
 |i0::is,pb,c::cs,K,h=>by
  simp only[O9]at h;split at h
  .rename_i y j;rw[xK]at j;rw[km]at h;have⟨pb',h1,Y,X⟩:=agn h;have W:=(aC.1 j).1
   have hl:∀i,live (pb.set i0 (some ⟨y.ty,c,true⟩)) i↔live pb i:=λi=>by
    simp only[live,bf];split
    .rename_i h;subst h;exact⟨λ_=>⟨_,j⟩,λ_=>⟨⟨y.ty,c,true⟩,by simp[]⟩⟩
    .rfl
   refine⟨pb',h1,λi=>(Y i).trans (hl i),λi b hb=>?_⟩;have⟨b1,g1,R,J⟩:=X i b hb;rw[bf]at g1;split at g1
   .rename_i hi;subst hi;simp only[ak]at g1;subst g1;refine⟨y,j,R,.inr ?_⟩;rcases J with⟨_,rfl⟩|⟨k,H,F,C,G⟩
    .exact⟨0,c,rfl,rfl,rfl,rfl⟩
    .exact⟨k+1,H,by simpa using F,by simpa using C,G⟩
   .rename_i hi;refine⟨b1,g1,R,?_⟩;rcases J with⟨F,C⟩|⟨k,H,F,C,G⟩
    .exact .inl ⟨by simp[ga hi,F],C⟩
    .exact .inr ⟨k+1,H,by simpa using F,by simpa using C,G⟩
  .cases h
end
section
variable {E E2 : Env} {pb : hZ} {ro : List X_} {rw : List DR}
structure Over(pb:hZ)(ro:List X_)(rw:List DR)(E E2:Env):Prop where
 data:kW E.U E2.U E.w E2.w
 row:∀j v u,adt ro rw j v=true->v.h E u->(DV.row j).h E2 u
 ob:∀j v u,alJ ro rw j v=true->v.h E u->(DV.ob j).h E2 u
 own:∀i,live pb i->live E2.pb i/\E2.B i=E.B i
theorem aqo(O:Over pb ro rw E E2){i o:Nat}{v:DV}{u:Value}(j:Sw i o v=true)(ho:(QK pb i).isSome=true)(hv:v.h E u):(DV.own i o).h E2 u:=by
 unfold Sw at j;split at j
 .rename_i K J;simp only[aD]at j;have H:=aE j.1;have G:=aE j.2;subst H;subst G;simp only[DV.h]at hv ⊢
  have y:live pb i:=by
   cases C:QK pb i with
   |none=>rw[C]at ho;cases ho
   |some b=>exact⟨b,xK.1 C⟩
  have⟨g1,F⟩:=O.own i y;exact⟨g1,by rw[F];exact hv.2⟩
 .cases j
theorem aa7(O:Over pb ro rw E E2):∀{cs:List (Nat×Nat)} {vs:List DV} {us:List Value},HR cs vs=true->Sx pb cs=true->hL E vs us->hL E2 (apR cs) us
 |[],[],us,_,_,h=>h
 |[],_::_,_,h,_,_=>by simp[HR]at h
 |(_,_)::_,[],_,h,_,_=>by simp[HR]at h
 |(i,o)::cs,v::vs,us,h,ho,hv=>by simp only[hL]at hv;obtain⟨u,us',rfl,y,j⟩:=hv;simp only[HR,aD]at h;simp only[Sx,aD]at ho;simp only[apR,hL];exact⟨u,us',rfl,aqo O h.1 ho.1 y,aa7 O h.2 ho.2 j⟩
theorem LX(O:Over pb ro rw E E2):∀(cs:List DS) (r:DT) {vs:List DV} {us:List Value} {y:r.den} {z:(vsT cs r).den},ZE ro rw cs r vs y=some z->hL E vs us->O8 pb cs=true->(ZD cs r z).2=y/\hL E2 (ZD cs r z).1 us
 |[],r,vs,us,y,z,h,hv,ho=>by
  cases vs with
  |nil=>simp only[ZE]at h;have h:=cG h;subst h;exact⟨rfl,hv⟩
  |cons v vs=>simp[ZE]at h
 |c::cs,r,[],us,y,z,h,hv,ho=>by cases c<;>simp[ZE]at h
 |c::cs,r,v::vs,us,y,z,h,hv,ho=>by
  simp only[hL]at hv;obtain⟨u,us',rfl,F,G⟩:=hv;simp only[O8,aD]at ho;cases c with
  |t t=>
   simp only[ZE]at h;split at h
   .rename_i x z' C hz;have h:=cG h;subst h;have⟨J,H⟩:=LX O cs r hz G ho.2;refine⟨J,?_⟩;simp only[ZD,hL];exact⟨u,us',rfl,t.Z_ (DT.QL O.data (DT.V' C F)),H⟩
   .cases h
  |row j=>
   simp only[ZE]at h;split at h
   .rename_i C;have⟨J,H⟩:=LX O cs r h G ho.2;refine⟨J,?_⟩;simp only[ZD,hL];exact⟨u,us',rfl,O.row _ _ _ C F,H⟩
   .cases h
  |ob j=>
   simp only[ZE]at h;split at h
   .rename_i C;have⟨J,H⟩:=LX O cs r h G ho.2;refine⟨J,?_⟩;simp only[ZD,hL];exact⟨u,us',rfl,O.ob _ _ _ C F,H⟩
   .cases h
  |own i o=>
   simp only[ZE]at h;split at h
   .rename_i C;have⟨J,H⟩:=LX O cs r h G ho.2;refine⟨J,?_⟩;simp only[ZD,hL];refine⟨u,us',rfl,?_,H⟩;unfold Sw at C;split at C
    .rename_i i' o';simp only[aD]at C;have R:=aE C.1;have e2:=aE C.2;subst R;subst e2;simp only[DV.h]at F ⊢
     have K:live pb i:=by
      cases W:QK pb i with
      |none=>have X:=ho.1;simp only[W]at X;cases X
      |some b=>exact⟨b,xK.1 W⟩
     have⟨g1,g2⟩:=O.own i K;exact⟨g1,by rw[g2];exact F.2⟩
    .cases C
   .cases h
  |nil=>
   simp only[ZE]at h;split at h
   .rename_i C;have⟨J,H⟩:=LX O cs r h G ho.2;refine⟨J,?_⟩;simp only[ZD,hL];refine⟨u,us',rfl,?_,H⟩;unfold alK at C;split at C
    .simp only[DV.h]at F ⊢;exact F
    .cases C
   .cases h
  |fn f cs'=>
   simp only[ZE]at h;split at h
   .rename_i C;have⟨J,H⟩:=LX O cs r h G ho.2;refine⟨J,?_⟩;simp only[ZD,hL];refine⟨u,us',rfl,?_,H⟩;unfold as0 at C;split at C
    .rename_i f' Y;simp only[aD]at C;have R:=aE C.1;subst R;simp only[DV.h]at F ⊢;obtain⟨ws,rfl,hw⟩:=F;exact⟨ws,rfl,aa7 O C.2 ho.1 hw⟩
    .cases C
   .cases h
theorem amA(O:Over pb ro rw E E2){pb':hZ}{cs:Nat->List Value->TypeId->Prop}(hb:∀i b,pb'[i]?=some (some b)->∃us,cs i us b.ty/\hL E b.cells us):∀(l:List (Nat×List DS)) (r:DT) {y:r.den} {z:(boT l r).den},boX ro pb' rw l r y=some z->Sy pb l=true->
 (boV l r z).2=y/\∀(k i:Nat) (c:List DV),(boN l)[k]?=some i->(boV l r z).1[k]?=some c->∃us t,cs i us t/\hL E2 c us
 |[],r,y,z,h,ho=>by simp only[boX]at h;have h:=cG h;subst h;exact⟨rfl,λk i c h=>by simp[boN]at h⟩
 |(i0,H)::l,r,y,z,h,ho=>by
  simp only[Sy,aD]at ho;unfold boX at h;cases j:QK pb' i0 with
  |none=>simp[j]at h
  |some b=>
  cases C:boX ro pb' rw l r y with
  |none=>simp[j,C]at h
  |some J=>
   rw[j,C]at h;rw[xK]at j;have⟨us,R,K⟩:=hb i0 b j;have⟨g1,Y⟩:=amA O hb l r C ho.2;have⟨X,W⟩:=LX O H _ h K ho.1.2;have e:(boV ((i0,H)::l) r z)=((ZD H (boT l r) z).1::(boV l r J).1,(boV l r J).2):=by simp only[boV,X]
   rw[e];refine⟨g1,λk i c F G=>?_⟩;cases k with
   |zero=>simp[boN]at F G;subst F;subst G;exact⟨us,_,R,W⟩
   |succ k=>exact Y k i c (by simpa[boN]using F) (by simpa using G)
end
section
variable {V : World} {U0 L Lx : Nat -> Prop} {B B' : Nat -> Nat} {A A' : yu} {pb pb' : hZ} {rw rw' : List DR} {w w' : World} {ts NZ : List DV} {a a' : Act} {β : Type}
def rj(A:yu)(rw:List DR):yu:=λn=>match rw[n]? with
 |some (.own _ _ _)=>A n
 |some (.obj _)=>A n
 |_=>(none,0)
theorem amB{e}{k}:w.ownsRow 0 e k (.slice none 0 0) 0 []:=⟨by simp,.inl ⟨rfl,rfl⟩⟩
theorem Ys{j}{x:Code}(m:Mem V U0 L B A pb rw w)(IN:hL (env U0 B A pb rw w) ts a.tmps.toList)(hok:okJ j x ts pb=true)(hLx:∀b,Lx b↔Ow B A pb rw b)(mx:Mem w U0 Lx B' A' pb' rw' w')(hx:hL (env U0 B' A' pb' rw' w') NZ a'.tmps.toList)(hso:eO (writes x) a a')
 (hbx:∀i,live pb i->live pb' i/\B' i=B i) {k:j.T.den->Option β} {q:β} (h:Sz j pb NZ pb' rw' k=some q):
 ∃z,k z=some q/\∀{γ:Type} {K:DK γ} {q:γ},headD j x ts pb z K=some q->∃A2 ts1 C FT,Mem V U0 L B' A2 C FT w'/\hL (env U0 B' A2 C FT w') ts1 a'.tmps.toList/\K ts1 C FT=some q/\(∀i,live C i↔live pb i)/\∀i,live pb i->B' i=B i:=by
 unfold Sz at h;split at h
 .rename_i hcl;have⟨ts2,Yi,F,ps,h,m2,aix,_,e2,_⟩:=wE (al:=λ_=>true) (ps:=[]) (us:=[]) _ h mx hx (by simp[hL]);split at h
  .rename_i vs y hvs hy;split at h
   .rename_i y2 hy2;split at h
    .rename_i z hz;refine⟨z,h,λ{γ K q} hd=>?_⟩;simp only[okJ,aD]at hok;obtain⟨⟨⟨⟨_,ho1⟩,ho2⟩,_⟩,_⟩:=hok;have R:=asC hy
     have hU:∀(H:hZ),(∀i,live H i↔live pb i)->∀Y i b,iF B' (rj A' F) H (Sv j.ro y) Y i b->iF B' A' Yi F Y i b/\(Y=true->(rj A' F) i=A' i):=by
      intro H hl Y i b hb;cases Y with
      |false=>exact⟨⟨(e2.bx i (hbx i ((hl i).1 hb.1)).1).1,hb.2⟩,λh=>by cases h⟩
      |true=>
       have⟨r,ad,h1,h2,h3,W⟩:=hb;cases r with
       |dead=>exact absurd rfl h2
       |own e t l=>
        rcases R.own i e t l h1 with g|⟨_,g⟩
        .have e3:rj A' F i=A' i:=by unfold rj;rw[g]
         exact⟨⟨_,ad,g,by simp,by rw[<-e3];exact h3,W⟩,λ_=>e3⟩
        .have e3:rj A' F i=(none,0):=by unfold rj;rcases g with g|g<;>rw[g]
         rw[e3]at h3;cases h3
       |obj d=>
        have⟨d',g,_⟩:=R.Iq i d h1;have e3:rj A' F i=A' i:=by unfold rj;rw[g]
        exact⟨⟨_,ad,g,by simp,by rw[<-e3];exact h3,W⟩,λ_=>e3⟩
     have hUs:∀(H:hZ),(∀i,live H i↔live pb i)->∀b,Us U0 B' (rj A' F) H (Sv j.ro y) b->Us U0 B' A' Yi F b:=λH hl b hb=>hb.imp id λ⟨Y,i,hb⟩=>⟨Y,i,(hU H hl Y i b hb).1⟩
     have ad5:∀(H:hZ),(∀i,live H i↔live pb i)->Over pb j.ro F (env U0 B' A' Yi F w') (env U0 B' (rj A' F) H (Sv j.ro y) w'):=by
      intro H hl;refine⟨⟨λ_ _ _=>rfl,au _,λb _ hb=>hUs H hl b hb⟩,λn v u hr hv=>?_,λn v u hr hv=>?_,λi hi=>⟨(hl i).2 hi,rfl⟩⟩
      .unfold adt at hr;simp only[aD]at hr;have⟨hr1,J⟩:=hr;have⟨e,t,l,G⟩:=R.isO n hr1;simp only[DV.h];refine⟨e,t,l,G,?_⟩;split at J
       .rename_i j';split at J
        .rename_i e3 t3 l3 hj hd;rw[gM]at hd;have hj:=aE hj;subst hj;simp only[DV.h]at hv;obtain⟨e4,t4,l4,W,rfl⟩:=hv;have W:F[n]?=some (.own e4 t4 l4):=W;rcases R.own n e t l G with g|⟨_,g⟩
         .rw[W]at g;simp only[ak,DR.own.injEq]at g;obtain⟨rfl,rfl,g⟩:=g;cases g;change Value.slice (A' n).1 _ (A' n).2=Value.slice (rj A' F n).1 _ (rj A' F n).2;rw[show rj A' F n=A' n by unfold rj;rw[W]]
         .rw[W]at g;simp at g
        .cases J
       .simp only[DV.h]at hv;split at J
        .cases J
        .rename_i hno;rw[gM]at hno;rcases R.own n e t l G with g|⟨rfl,g⟩
         .exact absurd g (hno e t l)
         .change u=Value.slice (rj A' F n).1 0 (rj A' F n).2;rw[show rj A' F n=(none,0)by unfold rj;rcases g with g|g<;>rw[g]];exact hv
       .cases J
      .unfold alJ at hr;simp only[aD]at hr;have⟨hr1,J⟩:=hr;have⟨d,G⟩:=R.isI n hr1;split at J
       .rename_i j';split at J
        .rename_i d3 hj hd;have hj:=aE hj;subst hj;simp only[DV.h]at hv ⊢;obtain⟨d4,ad,W,h5,rfl⟩:=hv;have⟨d',g,gm,_⟩:=R.Iq n d G;have W:F[n]?=some (.obj d4):=W;rw[g]at W;simp only[ak,DR.obj.injEq]at W;subst W;refine⟨d,ad,G,?_,by simp only[OD.at,gm]⟩;change (rj A' F n).1=some ad;rw[show rj A' F n=A' n by unfold rj;rw[g]];exact h5
        .cases J
       .cases J
     unfold headD at hd;generalize hzz:ZD (dsS j.sl) (boT j.bo (roT j.ro)) z=zz at hd;have⟨vs3,y3⟩:=zz;dsimp only at hd;generalize hyy:boV j.bo (roT j.ro) y3=yy at hd;have⟨vss,y4⟩:=yy;dsimp only at hd;rw[l9]at hd;have⟨ts3,hd,hj3⟩:=Yr hd;have hy3:y3=y2:=by have:=(LX (ad5 pb λ_=>Ih) _ _ hz (ad4 aix hvs) ho1).1;rw[hzz]at this;exact this
     subst hy3;have hy4:y4=y:=by have:=(amA (ad5 pb λ_=>Ih) (pb':=Yi) (cs:=λ_ _ _=>True) (λi b hb=>let ⟨cs,_,h2,_⟩:=m2.box i b hb;⟨cs,trivial,h2⟩) _ _ hy2 ho2).1;rw[hyy]at this;exact this
     subst hy4
     have Ux:∀(X:List DV),BF NJ pb (λpb=>O9 pb (boN j.bo) vss λpb=>K X pb (Sv j.ro y4))=some q->
      ∃C,K X C (Sv j.ro y4)=some q/\(∀i,live C i↔live pb i)/\Mem V U0 L B' (rj A' F) C (Sv j.ro y4) w':=by
      intro X W;rw[uI]at W;have⟨C,W,hl,hbs⟩:=agn W;have hl:∀i,live C i↔live pb i:=λi=>(hl i).trans nZ
      have O:=ad5 C hl;refine⟨C,W,hl,?_⟩
      have aup:kW (Us U0 B A pb rw) (Us U0 B' (rj A' F) C (Sv j.ro y4)) w w':=by
       refine⟨λb hb G=>mx.same b hb λh=>G (.inr ((hLx b).1 h)),mx.size,λb hb hu=>?_⟩;rcases hUs C hl b hu with g|⟨Y,i,g⟩
       .exact .inl g
       .rcases(m2.low _ _ _ g).2 with g|g
        .omega
        .exact .inr ((hLx b).1 g)
      have Bn:Sub NJ (env U0 B A pb rw w) (env U0 B' (rj A' F) C (Sv j.ro y4) w'):=⟨aup,λi hi=>⟨(hl i).2 hi,(hbx i hi).2⟩,λn e t l G=>(by cases G),λn d G=>(by cases G),λn p e t l G _=>(by cases G;simp only[DV.h]),λn p d ad G _ _=>(by cases G;simp only[DV.h])⟩;refine⟨mx.os.trans m.os,mx.tape.trans m.tape,mx.output.trans m.output,bU m.size mx.size,m.asB hLx mx,m.u0,λY i b hb=>m.awB hLx m2 Y i b (hU C hl Y i b hb).1,λY i kd' i' b h1 h2=>m2.inj _ _ _ _ _ (hU C hl Y i b h1).1 (hU C hl kd' i' b h2).1,λi b hb=>?_,λn e t l G=>?_,λn d G=>?_⟩
      .have⟨b0,g1,g2,g3⟩:=hbs i b hb;obtain⟨b00,g4,rfl⟩:=th.1 g1;have⟨b',g5,g6,g7⟩:=SY hcl i b00 g4;have hBi:=(hbx i ⟨b00,g4⟩).2;rcases g3 with⟨g8,rfl⟩|⟨kk,c,g8,g9,rfl,g10⟩
       .have⟨cs,k1,k2,k3⟩:=m.box i b00 g4
        have hw:b'.w=false:=by
         rcases g7 with g7|g7
         .rw[cg]at g7;exact absurd ((uE _ _).1 g7) g8
         .exact g7
        have⟨_,_,_,k6⟩:=mx.box i b' g5;have⟨k7,k8⟩:=k6 hw;refine⟨cs,by rw[k8,hBi];exact k1,kj Bn _ k2,λhw2=>?_⟩;have⟨k9,k10⟩:=k3 hw2;exact⟨by rw[hBi];exact k9,by rw[k8,hBi];exact k10⟩
       .have⟨us,t,k1,k2⟩:=(amA O (pb':=Yi) (cs:=λi us t=>w'.heap[B' i]?=some (.cells us.toArray t (0,0))) (λi b hb=>let ⟨cs,h1,h2,_⟩:=m2.box i b hb;⟨cs,h1,h2⟩) _ _ hy2 ho2).2 kk i b.cells g8 (by rw[hyy];exact g9);have⟨us',k3,k4,_⟩:=mx.box i b' g5;rw[k1]at k3;simp only[ak,Obj.cells.injEq]at k3;refine⟨us,by rw[k1,k3.2.1,<-g6,<-g2],k2,λhf=>by rw[g10]at hf;cases hf⟩
      .rcases R.own n e t l G with g|⟨rfl,g⟩
       .have⟨xs,k1,k2⟩:=m2.row n e t l g;refine⟨xs,?_,DT.lr O.data k2⟩;rw[show rj A' F n=A' n by unfold rj;rw[g]];exact k1
       .refine⟨[],?_,DT.EB⟩;rw[show rj A' F n=(none,0)by unfold rj;rcases g with g|g<;>rw[g]];exact amB
      .have⟨d',g,_,gh⟩:=R.Iq n d G;have⟨b,o,k1,k2,k3⟩:=m2.Iq n d' g;exact⟨b,o,by rw[show rj A' F n=A' n by unfold rj;rw[g]];exact k1,k2,OD.mono O.data (gh _ _ _ k3)⟩
     have auq:∃X,BF NJ pb (λpb=>O9 pb (boN j.bo) vss λpb=>K X pb (Sv j.ro y4))=some q/\∀C,(∀i,live C i↔live pb i)->hL (env U0 B' (rj A' F) C (Sv j.ro y4) w') X a'.tmps.toList:=by
      have hsl:∀C,(∀i,live C i↔live pb i)->hL (env U0 B' (rj A' F) C (Sv j.ro y4) w') ts3 a'.tmps.toList:=by
       intro C hl;have O:=ad5 C hl
       have aup:kW (Us U0 B A pb rw) (Us U0 B' (rj A' F) C (Sv j.ro y4)) w w':=by
        refine⟨λb hb G=>mx.same b hb λh=>G (.inr ((hLx b).1 h)),mx.size,λb hb hu=>?_⟩;rcases hUs C hl b hu with g|⟨Y,i,g⟩
        .exact .inl g
        .rcases(m2.low _ _ _ g).2 with g|g
         .omega
         .exact .inr ((hLx b).1 g)
       have Bn:Sub NJ (env U0 B A pb rw w) (env U0 B' (rj A' F) C (Sv j.ro y4) w'):=⟨aup,λi hi=>⟨(hl i).2 hi,(hbx i hi).2⟩,λn e t l G=>(by cases G),λn d G=>(by cases G),λn p e t l G _=>(by cases G;simp only[DV.h]),λn p d ad G _ _=>(by cases G;simp only[DV.h])⟩;have hold:=kj Bn ts IN;refine hj3 _ _ ?_ λi p v hi hp hv=>?_
       .rw[<-pt hold];simp[hso.1]
       .have hm:=aa4 hi;rw[cg]at hm;have G:i∉writes x:=λh=>by rw[(uE _ _).2 h]at hm;cases hm
        have hs:=hso.2 i G;have⟨v',g1,g2⟩:=Jt hold i p hp;simp only[dg]at g1 hv;rw[hs,g1]at hv;cases hv;exact g2
      exact⟨_,aa6 hd,λC hl=>agm (hsl C hl) (by have:=(LX (ad5 C hl) _ _ hz (ad4 aix hvs) ho1).2;rw[hzz]at this;exact this)⟩
     have⟨X,W,ayq⟩:=auq;have⟨C,h5,hl,m5⟩:=Ux X W;exact⟨_,X,C,_,m5,ayq C hl,h5,hl,λi hi=>(hbx i hi).2⟩
    .cases h
   .cases h
  .cases h
 .cases h
end
theorem LY:∀{pb:hZ} {i:Nat},(QK (qg pb) i).isSome=(QK pb i).isSome
 |[],_=>rfl
 |some b::pb,0=>rfl
 |none::pb,0=>rfl
 |some b::pb,i+1=>by simp only[qg,QK];exact LY
 |none::pb,i+1=>by simp only[qg,QK];exact LY
theorem Wi{pb}:∀{l:List (Nat×Nat)},Sx (qg pb) l=Sx pb l
 |[]=>rfl
 |(i,o)::l=>by simp only[Sx];rw[Wi,LY]
theorem N2{pb}:∀{l:List DS},O8 (qg pb) l=O8 pb l
 |[]=>rfl
 |d::l=>by simp only[O8];rw[N2];cases d<;>simp only[LY,Wi]
theorem Wj{pb}:∀{l:List (Nat×List DS)},Sy (qg pb) l=Sy pb l
 |[]=>rfl
 |(i,cs)::l=>by simp only[Sy];rw[Wj,N2,LY]
theorem aqp{j:DJ}{x:Code}{ts:List DV}{pb:hZ}:okJ j x ts (qg pb)=okJ j x ts pb:=by unfold okJ;rw[N2,Wj]
def ayr:Exit->Prop
 | .normal=>True
 | .exit _=>True
 | .ret=>True
 |_=>False
section
variable {P : Program} {T : List TI} {C : FR} {O : DTs} {JC JL : List (Nat × DJ)} {β : Type} [qL β] {q : β}
omit [qL β]in
theorem Nx.more{V:World}{U0 L:Nat->Prop}{B G:Nat->Nat}{pb j:hZ}{a F a':Act}{w':World}{K:DK β}(hl:∀i,live pb i->live j i/\G i=B i)(H:F.defers=a.defers)(h:Nx V U0 L G j F K q a' w'):Nx V U0 L B pb a K q a' w':=
 let ⟨B',A',y,pb',rw',m,X,W,R,J⟩:=h
 ⟨B',A',y,pb',rw',m,X,W,R.trans H,λi hi=>let ⟨g1,g2⟩:=hl i hi;let ⟨g3,Y⟩:=J i g1;⟨g3,Y.trans g2⟩⟩
theorem Ds(hT:dD P T)(hC:Di P C)(hm:P.follows .mixedOrders=true):∀(c:Code) {JC:List (Nat×DJ)} {Q:Exit->DK β} {V:World} {U0 L:Nat->Prop} {B:Nat->Nat} {A:yu} {ts:List DV} {pb:hZ} {rw:List DR} {a:Act} {w:World},
 ev aj T C O JC JL c Q ts pb rw=some q->Mem V U0 L B A pb rw w->hL (env U0 B A pb rw w) ts a.tmps.toList->c.wp P (λe a' w'=>ayr e/\Nx V U0 L B pb a (Q e) q a' w'/\eO (writes c) a a') a w
 | .skip,JC,Q,V,U0,L,B,A,ts,pb,rw,a,w,h,m,F=>by simp only[ev]at h;exact wp_skip ⟨trivial,⟨B,A,ts,pb,rw,m,F,h,rfl,λi hi=>⟨hi,rfl⟩⟩,eO.refl _ _⟩
 | .label _,JC,Q,V,U0,L,B,A,ts,pb,rw,a,w,h,m,F=>by simp only[ev]at h;exact wp_label ⟨trivial,⟨B,A,ts,pb,rw,m,F,h,rfl,λi hi=>⟨hi,rfl⟩⟩,eO.refl _ _⟩
 | .exit id,JC,Q,V,U0,L,B,A,ts,pb,rw,a,w,h,m,F=>by simp only[ev]at h;exact wp_exit ⟨trivial,⟨B,A,ts,pb,rw,m,F,h,rfl,λi hi=>⟨hi,rfl⟩⟩,eO.refl _ _⟩
 | .ret,JC,Q,V,U0,L,B,A,ts,pb,rw,a,w,h,m,F=>by simp only[ev]at h;exact wp_ret ⟨trivial,⟨B,A,ts,pb,rw,m,F,h,rfl,λi hi=>⟨hi,rfl⟩⟩,eO.refl _ _⟩
 | .seq x y,JC,Q,V,U0,L,B,A,ts,pb,rw,a,w,h,m,F=>by
  have hwx:∀i∈writes x,i∈writes (.seq x y):=λi hi=>by simp[writes,hi]
  have hwy:∀i∈writes y,i∈writes (.seq x y):=λi hi=>by simp[writes,hi]
  unfold ev at h;split at h
  .refine wp_seq (rI (Ds hT hC hm x h m F) λe a1 w1 R=>?_);have⟨he,hn,G⟩:=R;cases e with
   |normal=>
    have⟨B1,A1,W,H,J,m1,X,h1,hd,hl⟩:=hn;refine rI (Ds hT hC hm y h1 m1 X) λe a2 w2 R=>?_
    exact⟨R.1,R.2.1.more hl hd,(G.mono hwx).trans (R.2.2.mono hwy)⟩
   |exit i=>exact⟨he,hn,G.mono hwx⟩
   |ret=>exact⟨he,hn,G.mono hwx⟩
   |_=>exact he.elim
  .rename_i j hj;split at h
   .rename_i hok;have⟨ma,sa⟩:=m.anchor
    have h:=h
    refine wp_seq (rI (Ds hT hC hm x h ma (nc sa F)) λe a1 w1 R=>?_);have⟨he,⟨B1,A1,W,H,J,mx,hx,h1,hd,hl⟩,G⟩:=R;have hl:∀i,live pb i->live H i/\B1 i=B i:=λi hi=>hl i (Dr.2 hi)
    have out:∀{K:DK β},K W (Uk pb H) J=some q->Nx V U0 L B pb a K q a1 w1:=by
     intro K hK;have⟨mo,so⟩:=m.awC (λ_=>Ih) mx λi hi=>(hl i hi).2
     exact⟨B1,A1,W,_,J,mo,nc so hx,hK,hd,λi hi=>⟨SX.2 (hl i hi).1,(hl i hi).2⟩⟩
    cases e with
    |normal=>
     have⟨z,hk,hh⟩:=Ys m F hok (λ_=>Ih) mx hx G hl h1;have⟨A2,ts2,Yi,rw2,m2,aix,h2,g1,g2⟩:=hh hk;refine rI (Ds hT hC hm y h2 m2 aix) λe a2 w2 R=>?_
     exact⟨R.1,R.2.1.more (λi hi=>⟨(g1 i).2 hi,g2 i hi⟩) hd,(G.mono hwx).trans (R.2.2.mono hwy)⟩
    |exit i=>exact⟨he,out h1,G.mono hwx⟩
    |ret=>exact⟨he,out h1,G.mono hwx⟩
    |_=>exact he.elim
   .cases h
 | .cond c x y,JC,Q,V,U0,L,B,A,ts,pb,rw,a,w,h,m,F=>by
  have hwx:∀i∈writes x,i∈writes (.cond c x y):=λi hi=>by simp[writes,hi]
  have hwy:∀i∈writes y,i∈writes (.cond c x y):=λi hi=>by simp[writes,hi]
  unfold ev at h;split at h
  .rename_i hc;have hc:=gq hc F;simp only[DV.h]at hc;exact wp_cond_true hc (rI (Ds hT hC hm x h m F) λe a1 w1 R=>⟨R.1,R.2.1,R.2.2.mono hwx⟩)
  .rename_i hc;have hc:=gq hc F;simp only[DV.h]at hc;exact wp_cond_false hc (rI (Ds hT hC hm y h m F) λe a1 w1 R=>⟨R.1,R.2.1,R.2.2.mono hwy⟩)
  .rename_i b hc;have hc:=gq hc F;simp only[DV.h]at hc;rcases alU h with⟨rfl,h⟩|⟨rfl,h⟩
   .exact wp_cond_true hc (rI (Ds hT hC hm x h m F) λe a1 w1 R=>⟨R.1,R.2.1,R.2.2.mono hwx⟩)
   .exact wp_cond_false hc (rI (Ds hT hC hm y h m F) λe a1 w1 R=>⟨R.1,R.2.1,R.2.2.mono hwy⟩)
  .cases h
 | .block id x,JC,Q,V,U0,L,B,A,ts,pb,rw,a,w,h,m,F=>by
  simp only[ev]at h;refine wp_block (rI (Ds hT hC hm x h m F) λe a1 w1 R=>?_);have⟨he,hn,G⟩:=R;cases e with
  |normal=>exact⟨he,hn,G⟩
  |ret=>exact⟨he,hn,G⟩
  |exit i=>
   unfold Exit.inBlock;have⟨B1,A1,W,H,J,m1,X,h1,hd,hl⟩:=hn;by_cases hi:i=id
   .subst hi;simp only[rH];simp only[show Nat.beq i i=true from Nat.beq_refl i]at h1;exact⟨trivial,⟨B1,A1,W,H,J,m1,X,h1,hd,hl⟩,G⟩
   .simp only[hi,nS];simp only[show Nat.beq i id=false from by cases hb:Nat.beq i id with|false=>rfl|true=>exact absurd (aE hb) hi]at h1;exact⟨trivial,⟨B1,A1,W,H,J,m1,X,h1,hd,hl⟩,G⟩
  |_=>exact he.elim
 | .scope x,JC,Q,V,U0,L,B,A,ts,pb,rw,a,w,h,m,F=>by
  simp only[ev]at h;refine wp_scope_straight (rI (Ds hT hC hm x h m F) λe a1 w1 R=>?_);cases e with
  |normal=>exact R
  |ret=>exact R
  |exit i=>exact R
  |_=>exact R.1.elim
 | .region id ops draw,JC,Q,V,U0,L,B,A,ts,pb,rw,a,w,h,m,F=>by
  unfold ev at h;cases draw with
  |false=>exact wp_region_list (NY (al:=λ_=>true) hT (aat hC) ops.toList h m F λa' w' hn G=>⟨trivial,hn.nx,G⟩)
  |true=>exact am9 hT (aat hC) hm h m F λa' w' hn G=>⟨trivial,hn,G⟩
 | .loop x,JC,Q,V,U0,L,B,A,ts,pb,rw,a,w,h,m,F=>by
  unfold ev at h;split at h
  .generalize 5=N at h
   refine wp_loop_ghost (λn a1 w1=>∃B1 A1 W H J,unr (λn again ts pb rw=>ev aj T C O (as1 JC n) JL x (λe ts pb rw=>match e with
    | .normal=>again ts pb rw
    | .exit i=>Q (.exit i) ts pb rw
    | .ret=>Q .ret ts pb rw
    |_=>none) ts pb rw) n W H J=some q/\Mem V U0 L B1 A1 H J w1/\hL (env U0 B1 A1 H J w1) W a1.tmps.toList/\eO (writes x) a a1/\a1.defers=a.defers/\∀i,live pb i->live H i/\B1 i=B i) N ⟨B,A,ts,pb,rw,h,m,F,eO.refl _ _,rfl,λi hi=>⟨hi,rfl⟩⟩ ?_
   rintro n a1 w1 ⟨B1,A1,W,H,J,hn,m1,X,G,hd,hl⟩;cases n with
   |zero=>cases hn
   |succ n=>
    simp only[unr]at hn;refine rI (Ds hT hC hm x hn m1 X) λe a2 w2 R=>?_
    have⟨he,hx,Y⟩:=R;cases e with
    |normal=>have⟨B2,A2,ts2,Yi,rw2,m2,aix,h2,hd2,hl2⟩:=hx;exact⟨n,Nat.lt_succ_self n,B2,A2,ts2,Yi,rw2,h2,m2,aix,G.trans Y,hd2.trans hd,λi hi=>let ⟨g1,g2⟩:=hl i hi;let ⟨g3,g4⟩:=hl2 i g1;⟨g3,g4.trans g2⟩⟩
    |exit i=>exact⟨he,hx.more hl hd,G.trans Y⟩
    |ret=>exact⟨he,hx.more hl hd,G.trans Y⟩
    |_=>exact he.elim
  .rename_i j hj;split at h
   .rename_i hok;have⟨ma,sa⟩:=m.anchor;have awD:okJ j x ts (qg pb)=true:=by rw[aqp];exact hok
    have hLx:∀b,Ow B A pb rw b↔Ow B A (qg pb) rw b:=λb=>⟨λ⟨k,i,h⟩=>⟨k,i,(sw λi=>Dr).2 h⟩,λ⟨k,i,h⟩=>⟨k,i,(sw λi=>Dr).1 h⟩⟩
    have aur:=nc sa F;rw[<-aa3]at h;have⟨z0,h,hh0⟩:=Ys ma aur awD hLx ma aur (eO.refl _ _) (λi hi=>⟨hi,rfl⟩) h
    have h:xJ FU (λz again=>headD j x ts (qg pb) z λW H J=>
     ev aj T C O JC JL x (λe NZ pb' rw'=>match e with
      | .normal=>Sz j pb NZ pb' rw' again
      | .exit i=>Q (.exit i) NZ (Uk pb pb') rw'
      | .ret=>Q .ret NZ (Uk pb pb') rw'
      |_=>none) W H J) z0=some q:=h
    generalize FU=N at h
    refine wp_loop_ghost (λn a1 w1=>∃z B1,xJ n (λz again=>headD j x ts (qg pb) z λW H J=>
     ev aj T C O JC JL x (λe NZ pb' rw'=>match e with
      | .normal=>Sz j pb NZ pb' rw' again
      | .exit i=>Q (.exit i) NZ (Uk pb pb') rw'
      | .ret=>Q .ret NZ (Uk pb pb') rw'
      |_=>none) W H J) z=some q/\eO (writes x) a a1/\a1.defers=a.defers/\
     ∀{K:DK β},headD j x ts (qg pb) z K=some q->∃A2 W H J,Mem w U0 (Ow B A pb rw) B1 A2 H J w1/\hL (env U0 B1 A2 H J w1) W a1.tmps.toList/\K W H J=some q/\(∀i,live H i↔live (qg pb) i)/\∀i,live (qg pb) i->B1 i=B i) N ⟨z0,B,h,eO.refl _ _,rfl,λh=>hh0 h⟩ ?_
    rintro n a1 w1 ⟨z,B1,hn,G,hd,hh⟩;cases n with
    |zero=>cases hn
    |succ n=>
     simp only[xJ]at hn;have⟨A2,W,H,J,m1,X,h1,hl1,hB1⟩:=hh hn;refine rI (Ds hT hC hm x h1 m1 X) λe a2 w2 R=>?_
     have⟨he,⟨B2,A3,ts2,Yi,rw2,mx,hx,h2,hd2,hl2⟩,Y⟩:=R;have hl:∀i,live (qg pb) i->live Yi i/\B2 i=B i:=λi hi=>let ⟨g1,g2⟩:=hl2 i ((hl1 i).2 hi);⟨g1,g2.trans (hB1 i hi)⟩
     have hl':∀i,live pb i->live Yi i/\B2 i=B i:=λi hi=>hl i (Dr.2 hi)
     have out:∀{K:DK β},K ts2 (Uk pb Yi) rw2=some q->Nx V U0 L B pb a K q a2 w2:=by
      intro K hK;have⟨mo,so⟩:=m.awC (λ_=>Ih) mx λi hi=>(hl' i hi).2
      exact⟨B2,A3,ts2,_,rw2,mo,nc so hx,hK,hd2.trans hd,λi hi=>⟨SX.2 (hl' i hi).1,(hl' i hi).2⟩⟩
     cases e with
     |normal=>have h2:Sz j pb ts2 Yi rw2 _=some q:=h2;rw[<-aa3]at h2;have⟨z2,hk,hh2⟩:=Ys ma aur awD hLx mx hx (G.trans Y) hl h2;exact⟨n,Nat.lt_succ_self n,z2,B2,hk,G.trans Y,hd2.trans hd,λh=>hh2 h⟩
     |exit i=>exact⟨he,out h2,G.trans Y⟩
     |ret=>exact⟨he,out h2,G.trans Y⟩
     |_=>exact he.elim
   .cases h
 | .goto _,JC,Q,V,U0,L,B,A,ts,pb,rw,a,w,h,m,F=>by simp only[ev]at h;cases h
end
end Go.Vc
namespace Go.Vc
open Go Go.RowKit
section
variable {β : Type} {q : β}
mutual
theorem QT.x_s{am}{E}:(Q:QT)->(p:DV)->(m:MS)->(rw0:List DR)->(y:Q.den)->(G:MS)->Q.x am p m=some (y,G)->MI E m rw0->
 MI E G (Q.mk y rw0).2/\(∃a,G.rs=m.rs++a)/\∀E0 v C,(∃a,C=G.rs++a)->TrI am C E E0->p.h E v->(Q.mk y rw0).1.h E0 v
 | .v t,p,m,rw0,y,G,h,hm=>by
  simp only[QT.x]at h;split at h
  .rename_i x K;simp only[ak,bX]at h;obtain⟨rfl,rfl⟩:=h;exact⟨hm,⟨[],by simp⟩,λE0 v C _ s F=>t.Z_ (DT.QL s.sl (DT.V' K F))⟩
  .cases h
 | .own e t,p,m,rw0,y,G,h,hm=>by
  simp only[QT.x]at h;split at h
  .rename_i j;split at h
   .rename_i e' t' xs hj;rw[gM]at hj;split at h
    .rename_i hh he hs;simp only[ak,bX]at h;obtain⟨rfl,rfl⟩:=h;have he:=aE he;subst he hh;have⟨X,hE⟩:=hm.take hj;refine⟨X,⟨_,rfl⟩,λE0 v C ⟨a,ha⟩ s F=>?_⟩;have W:C[rw0.length]?=some (some j):=by rw[ha];simp[<-hm.len]
     have⟨g1,J⟩:=s.row _ _ _ _ _ W hE;simp only[DV.h]at F;obtain⟨e2,t2,l2,H,rfl⟩:=F;rw[hE]at H;simp only[ak,DR.own.injEq]at H;obtain⟨rfl,rfl,Y⟩:=H;cases Y;simp only[QT.mk,DV.h];exact⟨_,_,_,g1,by rw[J]⟩
    .cases h
   .cases h
  .simp only[ak,bX]at h;obtain⟨rfl,rfl⟩:=h;refine⟨hm.emp e t,⟨_,rfl⟩,λE0 v C ⟨a,ha⟩ s F=>?_⟩;have W:C[rw0.length]?=some none:=by rw[ha];simp[<-hm.len]
   have⟨⟨e1,t1,g1⟩,J⟩:=s.nil _ W;simp only[DV.h]at F;subst F;simp only[QT.mk,DV.h];exact⟨_,_,_,g1,by rw[J];rfl⟩
  .cases h
 | .ptr n,p,m,rw0,y,G,h,hm=>by
  simp only[QT.x]at h;split at h
  .rename_i i o;split at h
   .rename_i i' hl;split at h
    .rename_i hb;have hb:=aE hb;subst hb;simp only[ak,bX]at h;obtain⟨_,rfl⟩:=h;refine⟨hm,⟨[],by simp⟩,λE0 v C _ s F=>?_⟩;simp only[DV.h]at F;obtain⟨g1,rfl⟩:=F;have⟨J,g3⟩:=s.bx _ _ hl g1;simp only[QT.mk,DV.h];exact⟨J,by rw[g3]⟩
    .cases h
   .cases h
  .cases h
 | .nil n,p,m,rw0,y,G,h,hm=>by
  simp only[QT.x]at h;split at h
  .rename_i z;split at h
   .rename_i hb;simp only[ak,bX]at h;obtain⟨_,rfl⟩:=h;refine⟨hm,⟨[],by simp⟩,λE0 v C _ s F=>?_⟩;simp only[DV.h]at F;subst F;simp only[QT.mk,DV.h];exact NK.aw2 hb
   .cases h
  .cases h
 | .unit,p,m,rw0,y,G,h,hm=>by
  simp only[QT.x]at h;split at h
  .simp only[ak,bX]at h;obtain⟨_,rfl⟩:=h;refine⟨hm,⟨[],by simp⟩,λE0 v C _ s F=>?_⟩;simp only[DV.h,hL]at F;obtain⟨vs,rfl,F⟩:=F;simp only[QT.mk,DV.h,hL];exact⟨vs,rfl,F⟩
  .cases h
 | .pair a b,p,m,rw0,y,G,h,hm=>by
  simp only[QT.x]at h;split at h
  .rename_i p ps;split at h
   .rename_i x m1 K;split at h
    .rename_i y2 m2 hy;simp only[ak,bX]at h;obtain⟨rfl,rfl⟩:=h;have⟨h1,⟨a1,h2⟩,h3⟩:=QT.x_s a p m rw0 x m1 K hm;have⟨k1,⟨a2,k2⟩,k3⟩:=QT.awE b ps m1 _ y2 m2 hy h1;refine⟨k1,⟨a1++a2,by rw[k2,h2,bn]⟩,λE0 v C ⟨c,hc⟩ s F=>?_⟩;simp only[DV.h,hL]at F;obtain⟨vs,rfl,u,us,hv,V,R⟩:=F;simp only[QT.mk,DV.h,hL];exact⟨vs,rfl,u,us,hv,h3 E0 u C ⟨a2++c,by rw[hc,k2,bn]⟩ s V,k3 E0 us C ⟨c,hc⟩ s R⟩
    .cases h
   .cases h
  .cases h
theorem QT.awE{am}{E}:(Q:QT)->(ps:List DV)->(m:MS)->(rw0:List DR)->(y:Q.den)->(C:MS)->Q.xs am ps m=some (y,C)->MI E m rw0->
 MI E C (Q.mks y rw0).2/\(∃a,C.rs=m.rs++a)/\∀E0 vs j,(∃a,j=C.rs++a)->TrI am j E E0->hL E ps vs->hL E0 (Q.mks y rw0).1 vs
 | .unit,ps,m,rw0,y,C,h,hm=>by
  simp only[QT.xs]at h;split at h
  .simp only[ak,bX]at h;obtain⟨_,rfl⟩:=h;exact⟨hm,⟨[],by simp⟩,λE0 vs j _ s F=>by simpa only[QT.mks,hL]using F⟩
  .cases h
 | .pair a b,ps,m,rw0,y,C,h,hm=>by
  simp only[QT.xs]at h;split at h
  .rename_i p ps;split at h
   .rename_i x J hx;split at h
    .rename_i V W hy;simp only[ak,bX]at h;obtain⟨rfl,rfl⟩:=h;have⟨h1,⟨a1,h2⟩,h3⟩:=QT.x_s a p m rw0 x J hx hm;have⟨Y,⟨a2,K⟩,X⟩:=QT.awE b ps J _ V W hy h1;refine⟨Y,⟨a1++a2,by rw[K,h2,bn]⟩,λE0 v j ⟨c,R⟩ s F=>?_⟩;simp only[hL]at F;have⟨u,us,hv,H,G⟩:=F;simp only[QT.mks,hL];exact⟨u,us,hv,h3 E0 u j ⟨a2++c,by rw[R,K,bn]⟩ s H,X E0 us j ⟨c,R⟩ s G⟩
    .cases h
   .cases h
  .cases h
 | .v _,ps,m,rw0,y,C,h,_=>by simp[QT.xs]at h
 | .own _ _,ps,m,rw0,y,C,h,_=>by simp[QT.xs]at h
 | .ptr _,ps,m,rw0,y,C,h,_=>by simp[QT.xs]at h
 | .nil _,ps,m,rw0,y,C,h,_=>by simp[QT.xs]at h
end
theorem ago{am}:∀{n:Nat},afR am n=true->∀{k:Nat},k<n->Fo am k=some k
 |0,_,k,hk=>by omega
 |n+1,h,k,hk=>by
  simp only[afR,aD]at h;by_cases j:k=n
  .subst j;have y:=h.1;split at y
   .rename_i i hi;rw[hi,aE y]
   .cases y
  .exact ago h.2 (by omega)
end
end Go.Vc






namespace Go.Vc
open Go Go.RowKit
theorem agp:∀(l:List BK) (r:DT) (z:(Fk l r).den) (rw:List DR),(yM l r z rw).1.length=l.length
 |[],_,_,_=>rfl
 |j::l,r,z,rw=>by simp only[yM,aJ];rw[agp l r]
section
variable {V : World} {U0 L : Nat -> Prop} {B : Nat -> Nat} {A : yu} {pb : hZ} {rw : List DR} {w : World}
theorem aa8{σ}{rs}{pb0}{rw0}(hb:∀(k:Nat) (F:DB),pb0[k]?=some (some F)->∃i b,σ k=some i/\pb[i]?=some (some b)/\F.ty=b.ty/\F.w=true)
 (K:∀(n:Nat) (r:DR),rw0[n]?=some r->(∃j e t l,rs[n]?=some (some j)/\rw[j]?=some r/\r=.own e t l)\/(rs[n]?=some none/\∃e t,r=.own e t [])):
 (∀n b,iF (lB B σ) (lA A rs) pb0 rw0 true n b->∃j,rs[n]?=some (some j)/\iF B A pb rw true j b)/\(∀k b,iF (lB B σ) (lA A rs) pb0 rw0 false k b->∃i,σ k=some i/\iF B A pb rw false i b):=by
 constructor
 .rintro n b ⟨r,ad,g1,J,H,R⟩;rcases K n r g1 with⟨j,e,t,l,y,G,W⟩|⟨y,_⟩
  .refine⟨j,y,r,ad,G,J,?_,R⟩;simpa only[lA,y]using H
  .simp only[lA,y]at H;cases H
 .rintro k b ⟨⟨F,g1⟩,J⟩;have⟨i,b1,y,G,_⟩:=hb k F g1;exact⟨i,y,⟨b1,G⟩,by simpa only[lB,y,gE]using J⟩
theorem Mem.leave(m:Mem V U0 L B A pb rw w){σ:Nat->Option Nat}{rs:List (Option Nat)}{pb0:hZ}{rw0:List DR}
 (hb:∀(k:Nat) (H:DB),pb0[k]?=some (some H)->∃i b,σ k=some i/\pb[i]?=some (some b)/\H.ty=b.ty/\H.w=true)
 (hc:∀(k:Nat) (H:DB) (i:Nat) (b:DB),pb0[k]?=some (some H)->σ k=some i->pb[i]?=some (some b)->∀vs,hL (env U0 B A pb rw w) b.cells vs->hL (env U0 (lB B σ) (lA A rs) pb0 rw0 w) H.cells vs)
 (hσ:∀(k W i:Nat),σ k=some i->σ W=some i->k=W)
 (hr:∀(n:Nat) (r:DR),rw0[n]?=some r->(∃j e t l,rs[n]?=some (some j)/\rw[j]?=some r/\r=.own e t l)\/(rs[n]?=some none/\∃e t,r=.own e t []))
 (hρ:∀(n n' j:Nat),rs[n]?=some (some j)->rs[n']?=some (some j)->n=n'):Mem V U0 L (lB B σ) (lA A rs) pb0 rw0 w:=by
 have⟨h1,Y⟩:=aa8 (B:=B) (A:=A) hb hr
 have h3:∀k i b,iF (lB B σ) (lA A rs) pb0 rw0 k i b->∃y,iF B A pb rw k y b:=by
  intro k i b h;cases k with
  |true=>have⟨j,_,h⟩:=h1 i b h;exact⟨j,h⟩
  |false=>have⟨j,_,h⟩:=Y i b h;exact⟨j,h⟩
 have hU:∀b,Us U0 (lB B σ) (lA A rs) pb0 rw0 b->Us U0 B A pb rw b:=by
  rintro b (h|⟨k,i,h⟩)
  .exact .inl h
  .have⟨y,h⟩:=h3 k i b h;exact .inr ⟨k,y,h⟩
 refine⟨m.os,m.tape,m.output,m.size,m.same,m.u0,λk i b h=>?_,λk i W y b h h'=>?_,λk H h=>?_,λn e t l h=>?_,λn d h=>?_⟩
 .have⟨y,g⟩:=h3 k i b h;exact m.low k y b g
 .cases k with
  |true=>
   have⟨j,g1,F⟩:=h1 i b h;cases W with
   |true=>have⟨j',R,G⟩:=h1 y b h';have:=(m.inj _ _ _ _ _ F G).2;subst this;exact⟨rfl,hρ _ _ _ g1 R⟩
   |false=>have⟨j',R,G⟩:=Y y b h';have:=(m.inj _ _ _ _ _ F G).1;cases this
  |false=>
   have⟨j,g1,F⟩:=Y i b h;cases W with
   |true=>have⟨j',R,G⟩:=h1 y b h';have:=(m.inj _ _ _ _ _ F G).1;cases this
   |false=>have⟨j',R,G⟩:=Y y b h';have:=(m.inj _ _ _ _ _ F G).2;subst this;exact⟨rfl,hσ _ _ _ g1 R⟩
 .have⟨i,b,g1,F,R,G⟩:=hb k H h;have⟨cs,K,X,_⟩:=m.box i b F;exact⟨cs,by simp only[lB,g1,gE,R];exact K,hc k H i b h g1 F cs X,λhw=>by rw[G]at hw;cases hw⟩
 .rcases hr n _ h with⟨j,e',t',l',K,X,J⟩|⟨K,e',t',J⟩
  .have⟨xs,g1,F⟩:=m.row j e t l X;refine⟨xs,by simp only[lA,K];exact g1,DT.lr ⟨λ_ _ _=>rfl,au _,λb _ h=>hU b h⟩ F⟩
  .simp only[DR.own.injEq]at J;obtain⟨rfl,rfl,J⟩:=J;cases J;exact⟨[],by simp only[lA,K];exact vz w 0 e t.size,DT.EB⟩
 .rcases hr n _ h with⟨j,e',t',l',K,X,J⟩|⟨K,e',t',J⟩<;>cases J
theorem amC(m:Mem V U0 L B A pb rw w){El:List BK}{Q:QT}{am:List (Nat×Nat)}{e:(Fk El .unit).den}{y:Q.den}{p:DV}{v:Value}{ms F:MS}(hp:p.h (env U0 B A pb rw w) v)
 (hnd:Gx (PW am)=true) (hkl:NN am El.length=true) (hX:bkX am pb El 0 .unit ⟨[],rw⟩ (λm=>some ((),m))=some (e,ms)) (hQ:Q.x am p ms=some (y,F)):
 ∃A',Mem V U0 L (lB B (Fo am)) A' (yM El .unit e []).1 (Q.mk y (yM El .unit e []).2.2).2 w/\(Q.mk y (yM El .unit e []).2.2).1.h (env U0 (lB B (Fo am)) A' (yM El .unit e []).1 (Q.mk y (yM El .unit e []).2.2).2 w) v/\(yM El .unit e []).1.length=El.length/\∀k,k<El.length->live (yM El .unit e []).1 k:=by
 have⟨z0,m1,X,g1,g2,g3,⟨a1,g4⟩,⟨b1,g5⟩,g6,g7,g8⟩:=amv (am:=am) (E:=env U0 B A pb rw w) El 0 .unit ⟨[],rw⟩ _ [] e ms hX (MI.nil (env U0 B A pb rw w));simp only[ak,bX]at g1;obtain⟨_,rfl⟩:=g1;have⟨k1,⟨a2,k2⟩,k3⟩:=QT.x_s (am:=am) (E:=env U0 B A pb rw w) Q p m1 X y F hQ g3;have e1:(yM El .unit e []).2.2=X:=by rw[g2]
 rw[e1];generalize ayk:(yM El .unit e []).1=pb0 at g6 g7 g8;generalize ayI:(Q.mk y X).2=W at k1;have hbw:∀(k:Nat) (K:DB),pb0[k]?=some (some K)->∃i b,Fo am k=some i/\pb[i]?=some (some b)/\K.ty=b.ty/\K.w=true:=λk K h=>by have⟨i,b,h1,h2,h3,h4,_⟩:=g7 k K h;rw[cg]at h1;exact⟨i,b,h1,h2,h3,h4⟩
 have hr:=k1.row;have⟨h1,h2⟩:=aa8 (B:=B) (A:=A) hbw hr
 have H:TrI am F.rs (env U0 B A pb rw w) (env U0 (lB B (Fo am)) (lA A F.rs) pb0 W w):=by
  refine⟨⟨λ_ _ _=>rfl,au _,λb _ R=>?_⟩,λk i hk hl=>?_,λn j e t l G hj=>?_,λn G=>?_⟩
  .rcases R with R|⟨k,i,R⟩
   .exact .inl R
   .cases k with
    |true=>have⟨j,_,h⟩:=h1 i b R;exact .inr ⟨_,j,h⟩
    |false=>have⟨j,_,h⟩:=h2 i b R;exact .inr ⟨_,j,h⟩
  .have⟨K,hb0⟩:=g8 k (LU hkl hk);refine⟨⟨K,hb0⟩,?_⟩;show lB B (Fo am) k=B i;simp only[lB,hk,gE]
  .obtain⟨n',J⟩:∃r,W[n]?=some r:=⟨_,ay (by rw[<-k1.len];exact(aC.1 G).1)⟩;rcases hr n n' J with⟨j',e',t',l',c1,c2,c3⟩|⟨c1,_⟩
   .rw[G]at c1;simp only[ak]at c1;subst c1;rw[hj]at c2;simp only[ak]at c2;refine⟨by rw[c2];exact J,?_⟩;show lA A F.rs n=A j;simp only[lA,G]
   .rw[G]at c1;cases c1
  .obtain⟨n',J⟩:∃r,W[n]?=some r:=⟨_,ay (by rw[<-k1.len];exact(aC.1 G).1)⟩;rcases hr n n' J with⟨j',e',t',l',c1,c2,c3⟩|⟨_,e,t,c1⟩
   .rw[G]at c1;cases c1
   .refine⟨⟨e,t,by rw[<-c1];exact J⟩,?_⟩;show lA A F.rs n=(none,0);simp only[lA,G]
 refine⟨lA A F.rs,m.leave hbw (λk K i b c1 c2 c3 us R=>?_) (λk k' i h h'=>QN hnd h h') hr k1.inj,k3 _ v F.rs ⟨[],by simp⟩ H hp,g6,g8⟩;have⟨i',b',d1,d2,_,_,d5⟩:=g7 k K c1;rw[cg,c2]at d1;simp only[ak]at d1;subst d1;have d2:pb[i]?=some (some b'):=d2;rw[c3]at d2;simp only[ak]at d2;subst d2;have Y:∀(n:Nat) (x:Option Nat),m1.rs[n]?=some x->F.rs[n]?=some x:=λn x G=>by rw[k2,bG (aC.1 G).1];exact G
 exact d5 _ ⟨[],by simp⟩ ⟨H.sl,H.bx,λn j e t l G hj=>H.row n j e t l (Y n _ G) hj,λn G=>H.nil n (Y n _ G)⟩ us R
end
section
variable {P : Program} {T : List TI} {V : World} {U0 L : Nat -> Prop} {B : Nat -> Nat} {A : yu} {ts : List DV} {pb : hZ} {rw : List DR} {a : Act} {w : World} {β : Type} {q : β} {C : FR} {O : DTs} {JC JL : List (Nat × DJ)}
def SZ(j:Array Value):ResultVar->Sem Value
 | .tmp t=>pure (j.getD t undef)
 | .cell c t=>do loadVar t (<-asAddr (j.getD c undef))
theorem ad6(G:dD P T)(m:Mem V U0 L B A pb rw w)(j:hL (env U0 B A pb rw w) ts a.tmps.toList):∀(rs:List ResultVar) {K:List DV->Option β},PZ aj T rs ts pb rw K=some q->
 ∃xs vs,K xs=some q/\hL (env U0 B A pb rw w) xs vs/\(rs.mapM (SZ a.tmps)).run P w=.ok vs w
 |[],K,h=>⟨[],[],h,by simp[hL],by simp⟩
 | .tmp t::rs,K,h=>by
  simp only[PZ]at h;split at h
  .rename_i x y;have⟨xs,vs,R,J,H⟩:=ad6 G m j rs h;have hv:=LH y j;refine⟨x::xs,((a.tmps.toList[t]?).getD undef)::vs,R,?_,?_⟩
   .simp only[hL];exact⟨_,_,rfl,hv,J⟩
   .have e:a.tmps.getD t undef=(a.tmps.toList[t]?).getD undef:=by simp
    simp only[List.mapM_cons,SZ,aR,bI,br,H,e]
  .cases h
 | .cell c t::rs,K,h=>by
  simp only[PZ]at h;split at h
  .rename_i x y;have hv:=LH y j;have⟨r,u,ad,W,g1,Y,X,_⟩:=LJ (P:=P) G m h hv;have⟨xs,vs,R,J,H⟩:=ad6 G m j rs g1;refine⟨r::xs,u::vs,R,?_,?_⟩
   .simp only[hL];exact⟨_,_,rfl,Y,J⟩
   .have F:=X w rfl;have e:a.tmps.getD c undef=.pointer (some ad):=by rw[<-W];simp
    rw[W]at F;simp only[Instr.loadAt,Instr.sureAddr,aR,bI,br]at F;simp only[List.mapM_cons,SZ,aR,e,asAddr,bI,br,F,H]
  .cases h
def aqq(vs:List Value):Value:=match vs with|[v]=>v|vs=>.tuple vs.toArray
theorem Wk(R:dD P T)(m:Mem V U0 L B A pb rw w)(H:hL (env U0 B A pb rw w) ts a.tmps.toList){fn:Func}{K:List DV->Option β}(h:PZ aj T fn.results.toList ts pb rw K=some q):
 ∃xs v,K xs=some q/\(P0 xs).h (env U0 B A pb rw w) v/\(results fn a.tmps).run P w=.ok v w:=by
 have⟨xs,vs,X,j,W⟩:=ad6 R m H _ h;refine⟨xs,aqq vs,X,?_,?_⟩
 .cases xs with
  |nil=>simp only[hL]at j;subst j;simp only[P0,DV.h];exact⟨#[],rfl,by simp[hL]⟩
  |cons x xs=>
   cases xs with
   |nil=>simp only[hL]at j;obtain⟨v,G,rfl,F,rfl⟩:=j;exact F
   |cons y xs=>have F:=j;simp only[hL]at F;obtain⟨v,G,rfl,_,v2,J,rfl,_⟩:=F;simp only[P0,DV.h];exact⟨_,rfl,j⟩
 .unfold results;rw[aR,Array.mapM_eq_mapM_toList,Sem.run_map];have e:∀f:ResultVar->Sem Value,f=SZ a.tmps->(fn.results.toList.mapM f).run P w=(fn.results.toList.mapM (SZ a.tmps)).run P w:=λf h=>by rw[h]
  rw[e _ (by funext x;cases x<;>rfl),W];simp only[br]
  match vs with
  |[]=>simp[aqq]
  |[x]=>simp[aqq]
  |x::y::Y=>simp[aqq]
theorem agq:∀(xs:List DV) (n:Nat) {K:List DV->Option β},SB xs n K=some q->K (xs++List.replicate (n-xs.length) .NI)=some q/\xs.length<=n
 |[],n,K,h=>⟨by simpa[SB]using h,by simp⟩
 |x::xs,n+1,K,h=>by have:=agq xs n h;simpa using this
 |_::_,0,_,h=>by simp[SB]at h
theorem amD{E}:∀n,hL E (List.replicate n .NI) (List.replicate n undef)
 |0=>by simp[hL]
 |n+1=>by simp only[oC,hL,DV.h];exact⟨_,_,rfl,rfl,amD n⟩
theorem agr[qL β](hT:dD P T)(hC:Di P C)(hm:P.follows .mixedOrders=true){f}{fn}{c}(Y:P.funcs[f]?=some fn)(hb:fn.body=some c)(hn:(fn.name== "runtime.NumGoroutine")=false)
 {args} {R:Exit->DK β} {G:Value->World->Prop} {vs:List Value} (h:SB args fn.ntmps (λts=>ev aj T C O JC JL c R ts pb rw)=some q) (m:Mem V U0 L B A pb rw w) (j:hL (env U0 B A pb rw w) args vs)
 (hR:∀(e:Exit),¬(e=.normal\/e=.ret)->∀ts pb rw,R e ts pb rw≠some q)
 (hG:∀(e:Exit),(e=.normal\/e=.ret)->∀(B':Nat->Nat) (A':yu) (y:List DV) (pb':hZ) (rw':List DR) (a':Act) (w':World),Mem V U0 L B' A' pb' rw' w'->hL (env U0 B' A' pb' rw' w') y a'.tmps.toList->(∀i,live pb i->live pb' i/\B' i=B i)->R e y pb' rw'=some q->∃v,(results fn a'.tmps).run P w'=.ok v w'/\G v w'):oM P f vs.toArray w G:=by
 refine⟨.inl ⟨⟨fn,Y,hn,by simp[hb]⟩,?_⟩⟩;have⟨h,X⟩:=agq _ _ h;have e:({ tmps:=vs.toArray++Array.replicate (fn.ntmps - vs.toArray.size) undef,defers:=[] }:Act).tmps.toList=vs++List.replicate (fn.ntmps - args.length) undef:=by simp[pt j]
 have J:hL (env U0 B A pb rw w) (args++List.replicate (fn.ntmps - args.length) .NI) ({ tmps:=vs.toArray++Array.replicate (fn.ntmps - vs.toArray.size) undef,defers:=[] }:Act).tmps.toList:=by rw[e]; exact adu j (amD _)
 refine calls_of_wp Y hb (rI (Ds hT hC hm c h m J) λe a' w' hq=>?_);have⟨he,⟨B',A',y,pb',rw',W,h1,K,h3,h4⟩,_⟩:=hq;cases e with
 |normal=>have⟨v,H,F⟩:=hG _ (.inl rfl) _ _ _ _ _ _ _ W h1 h4 K;exact⟨h3,v,H,v,rfl,F⟩
 |ret=>have⟨v,H,F⟩:=hG _ (.inr rfl) _ _ _ _ _ _ _ W h1 h4 K;exact⟨h3,v,H,v,rfl,F⟩
 |exit i=>exact absurd K (hR _ (by simp) _ _ _)
 |_=>exact he.elim
theorem ap1(hT:dD P T)(hC:Di P C)(hm:P.follows .mixedOrders=true){f:FuncId}{fn:Func}{c:Code}(hf:P.funcs[f]?=some fn)(hb:fn.body=some c)(hn:(fn.name== "runtime.NumGoroutine")=false) {s:LS}
 (h:∀z o,s.fn z=some o->ali aj T C O JC JL fn s z=some o):acW P f s:=by
 intro z o hz U0 B A vs w m hargs;have h:=h z o hz;unfold ali at h;rw[hb]at h;have hlen:(yM s.B (IJ s.P .unit) z []).1.length=s.B.length:=agp _ _ _ _;generalize yM s.B (IJ s.P .unit) z []=bm at h m hargs hlen ⊢;have⟨pb,y,rw0⟩:=bm;dsimp only at h m hargs hlen ⊢;generalize Gy s.P .unit y rw0=pm at h m hargs ⊢;have⟨args,u,rw⟩:=pm;dsimp only at h m hargs ⊢;have hB:∀i,live pb i->i<s.B.length:=λi hi=>by rw[<-hlen]; exact agk hi
 letI:=s.Q.eqb
 letI:=(Fk s.E .unit).eqb
 have h:=h;refine agr hT hC hm hf hb hn h m hargs (λe he ts pb rw hh=>?_) λe he B' A' NZ pb' rw' a' w' m' IN hl hh=>?_
 .cases e<;>first|exact he (.inl rfl)|exact he (.inr rfl)|(simp only[awt]at hh; cases hh)
 .have hh:PZ aj T fn.results.toList NZ pb' rw' (λxs=>apS s NZ pb' rw' (P0 xs))=some o:=by rcases he with rfl|rfl<;>exact hh
  have⟨xs,v,h1,h2,h3⟩:=Wk (P:=P) hT m' IN hh;refine⟨v,h3,?_⟩;unfold apS at h1;generalize apJ s.E 0 pb' (s.Q.ids (P0 xs) (idA s.B.length))=am at h1;dsimp only at h1;have⟨ts2,Yi,rw2,ps,h4,m2,_,h5,e2,_⟩:=wE (al:=λ_=>true) _ h1 m' IN (ps:=[P0 xs]) (us:=[v]) (by simp only[hL]; exact⟨_,_,rfl,h2,rfl⟩);split at h4
  .rename_i p;simp only[hL]at h5;obtain⟨v',vs',e5,h5,rfl⟩:=h5;simp only[dC,nJ]at e5; subst e5;split at h4
   .rename_i ee ms hck hX;simp only[aD]at hck;split at h4
    .rename_i y2 ms' hQ;simp only[ak]at h4; subst h4;have⟨A3,m3,k1,k2,k3⟩:=amC m2 h5 hck.1.1 hck.1.2 hX hQ;refine⟨_,A3,_,_,_,m3,k1,λi hi=>?_,rfl,rfl⟩;have hi2:=hB i hi;have hlk:=ago hck.2 hi2;refine⟨k3 i (LU hck.1.2 hlk),?_⟩;simp only[lB,hlk,gE];exact(hl i hi).2
    .cases h4
   .cases h4
  .cases h4
theorem atK(hT:dD P T)(hC:Di P C)(hm:P.follows .mixedOrders=true){f:FuncId}{fn:Func}{c:Code}(hf:P.funcs[f]?=some fn)(hb:fn.body=some c)(hn:(fn.name== "runtime.NumGoroutine")=false) {s:ES}
 (h:∀x q,s.fn x=some q->evF aj T C O JC JL fn s.P s.Q x=some q):alk P f s:=by
 intro x o hx U0 B A vs w m hargs;have h:=h x o hx;unfold evF at h;rw[hb]at h
 letI:=s.Q.eqb
 have h:=h;refine agr hT hC hm hf hb hn h m hargs (λe he ts pb rw hh=>?_) λe he B' A' NZ pb' rw' a' w' m' IN hl hh=>?_
 .cases e<;>first|exact he (.inl rfl)|exact he (.inr rfl)|(simp only[awu]at hh; cases hh)
 .have hh:PZ aj T fn.results.toList NZ pb' rw' (λxs=>apT s.Q NZ pb' rw' (P0 xs))=some o:=by rcases he with rfl|rfl<;>exact hh
  have⟨xs,v,h1,h2,h3⟩:=Wk (P:=P) hT m' IN hh;refine⟨v,h3,?_⟩;unfold apT at h1;have⟨ts2,Yi,rw2,ps,h4,m2,_,h5,e2,_⟩:=wE (al:=λ_=>true) _ h1 m' IN (ps:=[P0 xs]) (us:=[v]) (by simp only[hL]; exact⟨_,_,rfl,h2,rfl⟩);split at h4
  .rename_i p;simp only[hL]at h5;obtain⟨v',vs',e5,h5,rfl⟩:=h5;simp only[dC,nJ]at e5; subst e5;split at h4
   .rename_i y2 ms' hQ;simp only[ak]at h4; subst h4;have⟨A3,m3,k1,k2,k3⟩:=amC (El:=[]) (am:=[]) (e:=()) m2 h5 rfl rfl rfl hQ;exact⟨_,A3,_,_,_,m3,k1,λi hi=>(by have⟨b,hb⟩:=hi; simp at hb),rfl,rfl⟩
   .cases h4
  .cases h4
end
def ofL:List (Nat×Bool)->OT
 |[]=>.nil
 |(i,true)::l=>.rd i (ofL l)
 |(i,false)::l=>.op i (ofL l)
def oX(n:Nat)(f:List Nat):OT:=ofL ((List.range n).map λi=>(i,!Ad i f))
def oI(n:Nat):OT:=oX n []
def oN(l:List Nat):OT:=ofL (l.map λn=>(n / 2,Nat.beq (n % 2) 1))
abbrev DS.i:DS:=.t (.int .i64)
abbrev DS.b:DS:=.t .bool
abbrev PK.i:PK:=.v (.int .i64)
abbrev PK.b:PK:=.v .bool
abbrev QT.i:QT:=.v (.int .i64)
abbrev QT.b:QT:=.v .bool
abbrev DT.p1(a:DT):DT:=.pair a .unit
abbrev DT.p2(a b:DT):DT:=.pair a (.pair b .unit)
abbrev DT.p3(a b c:DT):DT:=.pair a (.pair b (.pair c .unit))
abbrev DT.p4(a b c d:DT):DT:=.pair a (.pair b (.pair c (.pair d .unit)))
abbrev DT.p5(a b c d e:DT):DT:=.pair a (.pair b (.pair c (.pair d (.pair e .unit))))
abbrev DT.p6(a b c d e f:DT):DT:=.pair a (.pair b (.pair c (.pair d (.pair e (.pair f .unit)))))
abbrev QT.p1(a:QT):QT:=.pair a .unit
abbrev QT.p2(a b:QT):QT:=.pair a (.pair b .unit)
abbrev QT.p3(a b c:QT):QT:=.pair a (.pair b (.pair c .unit))
abbrev QT.p4(a b c d:QT):QT:=.pair a (.pair b (.pair c (.pair d .unit)))
abbrev QT.p5(a b c d e:QT):QT:=.pair a (.pair b (.pair c (.pair d (.pair e .unit))))
abbrev QT.p6(a b c d e f:QT):QT:=.pair a (.pair b (.pair c (.pair d (.pair e (.pair f .unit)))))
structure KC(P:Program) where
 n:Nat
 c:Wd->EC
 ok:alg P n (c aj)
def kcs{P:Program}:List (KC P)->Wd->FR
 |[],_=>[]
 |k::l,W=>(k.n,k.c W)::kcs l W
theorem acZ{P}:∀l:List (KC P),Di P (kcs l aj)
 |[]=>trivial
 |k::l=>⟨k.ok,acZ l⟩
def arP{P:Program}:KC P:=⟨2000000,λ_=>.es ⟨.unit,.unit,λ_=>none⟩,λ_ _ h=>by cases h⟩
structure alh(P:Program)(T:List TI):Prop where
 tab:dD P T
 mixed:P.follows .mixedOrders=true
def kes{P:Program}{T:List TI}(kp:alh P T)(n:Nat)(A:DT)(Q:QT)(F:Wd->A.den->Option Q.den)(l:List (KC P))(O:DTs)(H G:List (Nat×DJ)){fn:Func}{c:Code}(C:P.funcs[n]?=some fn)(hb:fn.body=some c)(y:(fn.name== "runtime.NumGoroutine")=false:=by decide +kernel)
 (h:∀W x,evF W T (kcs l W) O H G fn A Q x=F W x):KC P:=
 ⟨n,λW=>.es ⟨A,Q,F W⟩,atK kp.tab (acZ l) kp.mixed C hb y λx _ j=>(h aj x).trans j⟩
def kls{P:Program}{T:List TI}(kp:alh P T)(n:Nat)(B:List BK)(A:List PK)(E:List BK)(Q:QT)(F:Wd->(Fk B (IJ A .unit)).den->Option (Q.den×(Fk E .unit).den))(l:List (KC P))(O:DTs)(H G:List (Nat×DJ)){fn:Func}{c:Code}(C:P.funcs[n]?=some fn)(hb:fn.body=some c)(y:(fn.name== "runtime.NumGoroutine")=false:=by decide +kernel)
 (h:∀W z,ali W T (kcs l W) O H G fn ⟨B,A,E,Q,F W⟩ z=F W z):KC P:=
 ⟨n,λW=>.ls ⟨B,A,E,Q,F W⟩,ap1 kp.tab (acZ l) kp.mixed C hb y λz _ j=>(h aj z).trans j⟩
section
variable {β : Type} {r : β}
theorem agD{X:Type}{f:X->(X->Option β)->Option β}(μ:X->Nat)(R:X->Prop)(g:X->Option β)
 (h:∀z,R z->∀j:X->Option β,(∀y,R y->μ y<μ z->j y=g y)->f z j=g z):∀(n:Nat) (z:X),R z->μ z<n->xJ n f z=g z
 |0,z,_,hm=>by omega
 |n+1,z,F,hm=>h z F _ λy C G=>agD μ R g h n y C (by omega)
theorem fR{X:Type}{f:X->(X->Option β)->Option β}(μ:X->Nat)(R:X->Prop)(g:X->Option β){z:X}(C:R z)(hm:μ z<18446744073709551616)
 (h:∀z,R z->∀j:X->Option β,(∀y,R y->μ y<μ z->j y=g y)->f z j=g z):aj.aZ f z=g z:=
 agD μ R g h FU z C (by rw[O4];exact hm)
theorem QQ[qL β](a:Option β):Fm a a=a:=by
 unfold Fm;cases a with
 |none=>rfl
 |some x=>dsimp only;rw[(qL.iff x x).2 rfl];rfl
theorem idx_eq{α:Type}{l:List α}{i:Nat}(h:i<l.length)(K:α->Option β):XV l (i:Int) K=K l[i]:=by unfold XV;rw[aP,ay h];simp
theorem Wq{b:Int}(h:b≠0)(K:Option β):nzF b K=K:=by unfold nzF;simp[h]
theorem axj{b:Int}(h:0<=b)(K:Option β):nnF b K=K:=by unfold nnF;simp[h]
theorem Mb{n b:Nat}(h:n<=281474976710656)(j:n*b<=140737488355328)(K:Option β):Lw n b K=K:=by unfold Lw;simp[h,j]
theorem auW{i:Int}{n:Nat}(h:0<=i)(j:i<=n)(K:Nat->Option β):ado i n K=K i.toNat:=by unfold ado;simp[h,j]
theorem join_eq{X:Type}(k:X->Option β)(f:(X->Option β)->Option β):aj7 k f=f k:=rfl
theorem xj[qL β]{e:Bool}{f:Bool->Option β}{b:Option β}(h0:f false=b)(h1:e=true->f true=b):aim e f=b:=by
 unfold aim;cases e
 .exact h0
 .simp only[o4];rw[h0,h1 rfl,QQ]
end
open Go.IntKind (i64 u64)
abbrev wJ:=Bool×List Int×Unit
theorem EL{α:Type}(l:List α)(i:Nat)(h:i<l.length):l.drop i=l[i]::l.drop (i+1):=cn h
def bitsOf(n:Nat):List Int:=if h:n=0 then[]else((n % 2:Nat):Int)::bitsOf (n / 2)
termination_by n
decreasing_by omega
theorem yN:bitsOf 0=[]:=by rw[bitsOf];rfl
theorem Fu{n:Nat}(h:n≠0):bitsOf n=((n % 2:Nat):Int)::bitsOf (n / 2):=by rw[bitsOf];simp[h]
def dL:List Int->Nat
 |[]=>0
 |x::l=>x.toNat+2*dL l
def Of(l:List Int):Prop:=∀x∈l,x=0\/x=1
def H4(l:List Int):Prop:=bitsOf (dL l)=l
theorem DA(n:Nat):dL (bitsOf n)=n:=by
 induction n using Nat.strongRecOn with
 |ind n j=>
  by_cases h:n=0
  .subst h;rw[yN];rfl
  .rw[Fu h,dL,j (n / 2) (by omega)];omega
theorem abk(n:Nat):H4 (bitsOf n):=by unfold H4;rw[DA]
theorem WC(n:Nat):Of (bitsOf n):=by
 induction n using Nat.strongRecOn with
 |ind n y=>
  by_cases h:n=0
  .subst h;rw[yN];intro x j;cases j
  .rw[Fu h];intro x j;rcases aG.1 j with rfl|j
   .omega
   .exact y (n / 2) (by omega) x j
theorem H4.bits{l:List Int}(h:H4 l):Of l:=h▸WC _
theorem Tu (k : Nat) : ∀ n, n < 2 ^ k -> (bitsOf n).length <= k := by
  induction k with
  | zero => intro n h; have : n = 0 := by simp at h; exact h
            subst this; rw [yN]; simp
  | succ k ih => intro n h; by_cases h0 : n = 0
                 · subst h0; rw [yN]; simp
                 · rw [Fu h0]; have := ih (n / 2) (by rw [pF] at h; omega); simp; omega
theorem tu{xs:List Int}{i x:Nat}(h:xs.drop i=bitsOf x)(hi:i<xs.length):xs[i]=((x % 2:Nat):Int)/\xs.drop (i+1)=bitsOf (x / 2)/\x≠0:=by
 have j:x≠0:=by rintro rfl;rw[yN]at h;have:=bQ List.length h;simp at this;omega
 rw[EL xs i hi,Fu j]at h;exact⟨(List.cons.inj h).1,(List.cons.inj h).2,j⟩
theorem DC{xs:List Int}{i x:Nat}(h:xs.drop i=bitsOf x)(hi:¬i<xs.length):x=0:=by
 by_cases j:x=0
 .exact j
 .rw[Fu j,iy (by omega)]at h;cases h
theorem Mc{xs:List Int}{i x:Nat}(h:xs.drop i=bitsOf x):xs.drop (i+1)=bitsOf (x / 2):=by
 by_cases hi:i<xs.length
 .exact(tu h hi).2.1
 .rw[DC h hi,iy (by omega)];exact yN.symm
theorem Tv:∀(a b:List Int),dL (a++b)=dL a+2 ^ a.length*dL b
 |[],b=>by simp[dL]
 |x::a,b=>by simp only[jk,dL,Tv a b,aJ,pF,Nat.mul_add];rw[<-xq 2,jz 2 (2 ^ a.length)];omega
theorem H5:∀(a:List Int),Of a->dL a<2 ^ a.length
 |[],_=>by simp[dL]
 |x::a,h=>by
  have C:=H5 a λy j=>h y (by simp[j])
  have:=h x (by simp);simp only[dL,aJ,pF];omega
theorem anq:∀(l:List Int),Of l->(∀h:l≠[],l.getLast h=1)->H4 l/\(l≠[]->dL l≠0)
 |[],_,_=>⟨yN,λh=>absurd rfl h⟩
 |x::l,h,hl=>by
  have J:=h x (by simp);have C:=anq l (λy F=>h y (by simp[F])) (λj=>by have:=hl (by simp);rwa [List.getLast_cons j]at this)
  have hv:dL (x::l)≠0:=by
   by_cases j:l=[]
   .subst j;have:=hl (by simp);simp at this;subst this;simp[dL]
   .have:=C.2 j;simp only[dL];omega
  refine⟨?_,λ_=>hv⟩;unfold H4;rw[Fu hv];have H:dL (x::l) / 2=dL l:=by simp only[dL];omega
  have G:((dL (x::l) % 2:Nat):Int)=x:=by simp only[dL];omega
  rw[H,G,C.1]
theorem anr:∀(n:Nat),n≠0->2 ^ ((bitsOf n).length-1)<=n:=by
 intro n;induction n using Nat.strongRecOn with
 |ind n y=>
  intro h;rw[Fu h];by_cases j:n / 2=0
  .rw[j,yN];simp;omega
  .have G:=y (n / 2) (by omega) j;have F:(bitsOf (n / 2)).length≠0:=by rw[Fu j];simp
   have C:(bitsOf (n / 2)).length=(bitsOf (n / 2)).length-1+1:=by omega
   simp only[aJ,Nat.add_sub_cancel];rw[C,pF];omega
theorem agE{xs j:List Int}(C:H4 xs)(y:H4 j)(h:xs.length<j.length):dL xs<dL j:=by
 have J:=H5 xs C.bits;have G:dL j≠0:=by intro H;unfold H4 at y;rw[H,yN]at y;subst y;simp at h
 have F:=anr _ G;unfold H4 at y;rw[y]at F;have:=nL (n:=2) (by omega) (show xs.length<=j.length-1 by omega);omega
theorem Tw(xs:List Int)(i:Nat)(h:i<=xs.length):dL xs=dL (xs.take i)+2 ^ i*dL (xs.drop i):=by have:=Tv (xs.take i) (xs.drop i);rw[jU,aY,gz h]at this;exact this
theorem AE(xs:List Int)(i:Nat)(h:i<xs.length):dL (xs.take (i+1))=dL (xs.take i)+2 ^ i*(xs[i]).toNat:=by rw[show xs.take (i+1)=xs.take i++[xs[i]]by simp,Tv];simp[dL,gz (Nat.le_of_lt h)]
theorem Og{xs:List Int}(h:Of xs)(i:Nat):Of (xs.take i):=λx j=>h x (dw j)
theorem ans{xs j:List Int}(C:Of xs)(y:Of j){i:Nat}(H:i<xs.length)(G:i<j.length)(R:xs.drop (i+1)=j.drop (i+1))(F:xs[i]≠j[i]):decide (dL xs<dL j)=decide (xs[i]<j[i]):=by rw[Tw xs (i+1) (by omega),Tw j (i+1) (by omega),R,AE xs i H,AE j i G];have b1:=H5 _ (Og C i);have V:=H5 _ (Og y i);rw[aY,gz (by omega)]at b1 V;rcases C _ (aF H)with K|K<;>rcases y _ (aF G)with J|J<;>rw[K,J]at F ⊢ <;> first|exact absurd rfl F|(simp;omega)
def rM:Nat->Nat->List Int
 |0,_=>[]
 |k+1,n=>((n % 2:Nat):Int)::rM k (n / 2)
theorem adW:∀k n,Of (rM k n)
 |0,_=>by intro x j;cases j
 |k+1,n=>by
  intro x j;rcases aG.1 j with rfl|j
  .omega
  .exact adW k _ x j
theorem ant:∀k n,n<2 ^ k->dL (rM k n)=n
 |0,n,h=>by simp at h;subst h;rfl
 |k+1,n,h=>by rw[rM,dL,ant k (n / 2) (by rw[pF]at h;omega)];omega
theorem anu:∀k n,(rM k n).length=k
 |0,_=>rfl
 |k+1,n=>by rw[rM,aJ,anu k]
theorem Tx(a b:Nat)(h:a+b<256):IntKind.u8.wrap ((a:Int)+(b:Int))=((a+b:Nat):Int):=by
 have:(a:Int)+b=((a+b:Nat):Int):=by omega
 rw[this];simp only[IntKind.wrap,IntKind.signed,IntKind.bits];simp;omega
theorem agF(a:Nat)(h:a<256):IntKind.u8.wrap (a:Int)=(a:Int):=by simp only[IntKind.wrap,IntKind.signed,IntKind.bits];simp;omega
theorem aqP(a:Nat)(h:a<256):IntKind.u8.wrap ((a:Int).tdiv 2)=((a / 2:Nat):Int):=by rw[jA (by omega),show(a:Int) / 2=((a / 2:Nat):Int)by omega,agF _ (by omega)]
theorem Ty(a:Nat):((a:Int).tmod 2)=((a % 2:Nat):Int):=by rw[mv (by omega)];omega
theorem anv{x y c A:Nat}{s:List Int}(h:bitsOf A=s++bitsOf (x+y+c))(j:x+y≠0):bitsOf A=(s++[(((c+x % 2+y % 2:Nat) % 2:Nat):Int)])++bitsOf (x / 2+y / 2+(c+x % 2+y % 2) / 2):=by rw[h,Fu (show x+y+c≠0 by omega),bn,mD,show(x+y+c) % 2=(c+x % 2+y % 2) % 2 by omega,show(x+y+c) / 2=x / 2+y / 2+(c+x % 2+y % 2) / 2 by omega]
def DD(g:Bool)(n:Nat):wJ:=(g&&decide (0<n),bitsOf n,())
def BE(z:Int):wJ:=(decide (z<0),bitsOf z.natAbs,())
def bv(x:wJ):Int:=if x.1 then -(dL x.2.1:Int)else dL x.2.1
theorem Oc(z:Int):bv (BE z)=z:=by unfold bv BE;simp only[DA,bc];split<;>omega
def Nb(x:wJ):Prop:=x=BE (bv x)
theorem Ts(z:Int):Nb (BE z):=by unfold Nb;rw[Oc]
theorem auX{L i x y c D:Nat}{s:List Int}(h:rM L D=s++rM (L-i) (x-y-c))(hi:i<L)(G:c<=1)(j:y+c<=x):
 rM L D=(s++[(((x % 2+2-(c+y % 2)) % 2:Nat):Int)])++rM (L-(i+1)) (x / 2-y / 2-(if x % 2+2-(c+y % 2)<2 then 1 else 0)):=by
 rw[h,show L-i=(L-(i+1))+1 by omega,rM,bn,mD];have F:(x-y-c) % 2=(x % 2+2-(c+y % 2)) % 2:=by omega
 have C:(x-y-c) / 2=x / 2-y / 2-(if x % 2+2-(c+y % 2)<2 then 1 else 0):=by split<;>omega
 rw[F,C]
theorem ay2{x y c:Nat}(C:c<=1)(j:y+c<=x):y / 2+(if x % 2+2-(c+y % 2)<2 then 1 else 0)<=x / 2:=by split<;>omega
theorem auY(e:Int)(x t:Nat)(j:e=((x % 2:Nat):Int))(y:t<=2):IntKind.u8.wrap ((IntKind.u8.wrap ((e)+(2)))-((t:Nat):Int))=((x % 2+2-t:Nat):Int):=by subst j;rw[show((x % 2:Nat):Int)+(2)=((x % 2+2:Nat):Int)by omega,agF _ (by omega),show((x % 2+2:Nat):Int)-((t:Nat):Int)=((x % 2+2-t:Nat):Int)by omega,agF _ (by omega)]
theorem anw{xs j:List Int}(C:H4 xs)(y:H4 j)(h:¬xs.length=j.length):decide (dL xs<dL j)=decide ((xs.length:Int)<(j.length:Int)):=by
 rcases s7 h with h|h
 .have:=agE C y h;rw[ap this,ap (by omega)]
 .have:=agE y C h;rw[an (by omega),an (by omega)]
theorem Aq(i:Nat)(h:0<i)(j:i<=maxLen):i64.wrap ((i:Int)-(1))=((i-1:Nat):Int):=by rw[gC]at j;rw[bF _ (by omega)];omega
theorem anx{xs:List Int}{i:Nat}(h:Of xs)(hi:i<=xs.length)(hl:i=0\/∃h:i-1<xs.length,¬xs[i-1]=0):H4 (xs.take i)/\(i≠0->dL (xs.take i)≠0):=by
 rcases hl with rfl|⟨hl,C⟩
 .exact⟨by simp only[List.take_zero];exact yN,λh=>absurd rfl h⟩
 .have j:=anq (xs.take i) (Og h i) λy=>by
   rw[tI];have:(xs.take i).length-1=i-1:=by rw[aY];omega
   simp only[this,jC];rcases h _ (aF hl)with e|e
   .exact absurd e C
   .exact e
  refine⟨j.1,λF=>j.2 λG=>?_⟩;have:=bQ List.length G;rw[aY,dB]at this;omega
theorem aqQ{g:Bool}{xs:List Int}{i:Nat}(h:Of xs)(hi:i<=xs.length)(hv:dL (xs.take i)=dL xs)(hl:i=0\/∃h:i-1<xs.length,¬xs[i-1]=0):DD g (dL xs)=(g&&decide ((0:Int)<(i:Int)),xs.take i,()):=by
 have⟨C,y⟩:=anx h hi hl;unfold DD;rw[<-hv,C];congr 2;by_cases j:i=0
 .subst j;rfl
 .have:=y j;rw[ap (by omega),ap (by omega)]
theorem auZ(n:Nat):DD true n=BE (-(n:Int)):=by unfold DD BE;rw[Int.natAbs_neg];congr 1;simp
theorem anz(n:Nat):DD false n=BE (n:Int):=by unfold DD BE;congr 1
theorem adX{x:wJ}(h:Nb x):H4 x.2.1:=by rw[h];exact abk _
theorem adY{x:wJ}(h:x.1=true):bv x = -(dL x.2.1:Int):=by simp[bv,h]
theorem adZ{x:wJ}(h:x.1=false):bv x=(dL x.2.1:Int):=by simp[bv,h]
theorem QR(g:Bool)(n:Nat):DD g n=BE (if g=true then -(n:Int)else n):=by cases g<;>simp[auZ,anz]
theorem add_same{x y:wJ}(h:x.1=y.1):BE (bv x+bv y)=DD x.1 (dL (bitsOf (dL x.2.1+dL y.2.1))):=by
 rw[DA,QR];congr 1;cases j:x.1<;>rw[j]at h
 .rw[adZ j,adZ h.symm];simp
 .rw[adY j,adY h.symm];simp;omega
theorem asG{a b:List Int}(h:H4 a):dL (rM a.length (dL a-dL b))=dL a-dL b:=ant _ _ (by have:=H5 a h.bits;omega)
theorem an0{x y:wJ}(F:H4 y.2.1)(h:¬x.1=y.1)(hl:dL x.2.1<dL y.2.1):BE (bv x+bv y)=DD y.1 (dL (rM y.2.1.length (dL y.2.1-dL x.2.1))):=by
 rw[asG F,QR];congr 1;cases C:x.1<;>cases j:y.1<;>rw[C,j]at h
 .exact absurd rfl h
 .rw[adZ C,adY j];simp;omega
 .rw[adY C,adZ j];simp;omega
 .exact absurd rfl h
theorem an1{x y:wJ}(C:H4 x.2.1)(h:¬x.1=y.1)(hl:¬dL x.2.1<dL y.2.1):BE (bv x+bv y)=DD x.1 (dL (rM x.2.1.length (dL x.2.1-dL y.2.1))):=by
 rw[asG C,QR];congr 1;cases F:x.1<;>cases j:y.1<;>rw[F,j]at h
 .exact absurd rfl h
 .rw[adZ F,adY j];simp;omega
 .rw[adY F,adZ j];simp;omega
 .exact absurd rfl h
theorem ava(x:wJ):BE (-(bv x))=DD (!(x.1)) (dL x.2.1):=by
 rw[QR];congr 1;cases j:x.1
 .rw[adZ j];simp
 .rw[adY j];simp
theorem aqR{x:wJ}(h:Nb x):(BE (-(bv x))).2.1.length=x.2.1.length:=by have j:=bQ (λz=>z.2.1.length) h;simp only[BE]at j ⊢;rw[Int.natAbs_neg,<-j]
theorem aqS(z:Int)(h:z.natAbs<2 ^ 200):(BE z).2.1.length<=200:=Tu 200 _ h
theorem abl(z:Int):(BE z).2.1.length=0↔z=0:=by
 constructor
 .intro h;have:=dt.1 h;have j:=bQ dL this;simp only[BE,DA]at j;simp only[dL]at j;omega
 .rintro rfl;simp[BE,yN]
theorem F2(z:Int)(h:0<=z/\z<18446744073709551616):u64.wrap z=z:=by simp only[IntKind.wrap,IntKind.signed,IntKind.bits];simp;omega
theorem avb{z:Int}(h:z<0)(j : -9223372036854775808<=z):u64.wrap (i64.wrap (0-(i64.wrap ((z)+(1))))) = -(z+1):=by rw[bF (z+1) (by omega),bF _ (by omega),F2 _ (by omega)];omega
theorem aqT{z:Int}(h:z<0)(F : -9223372036854775808<=z){n:Int}(C:n = -(z+1)):BE z=(true,bitsOf (dL (DD false n.toNat).2.1+dL [1]),()):=by have y:dL (DD false n.toNat).2.1=n.toNat:=DA _;have j:dL [1]=1:=rfl;rw[y,j];unfold BE;rw[ap h,show z.natAbs=n.toNat+1 by omega]
theorem ay3:H4 [1]:=by unfold H4;show bitsOf 1=[1];rw[Fu (by omega),yN];rfl
theorem Tz(i:Nat)(h:i<9223372036854775807):i64.wrap ((i:Int)+1)=((i+1:Nat):Int):=by rw[bF _ (by omega)];omega
theorem an2(a:Nat)(h:a<18446744073709551616):u64.wrap ((a:Int).tdiv 2)=((a / 2:Nat):Int):=by rw[jA (by omega),show(a:Int) / 2=((a / 2:Nat):Int)by omega];exact F2 _ (by omega)
def axk(W:Wd)(u:Int):Option wJ:=W.aZ (λy j=>W.af (decide (0<y.1)) (W.pV 2 (W.bg (y.2.1.length+((IntKind.u8.wrap (Int.tmod y.1 2))::[]).length) 1 (W.pV 2 (j (u64.wrap (Int.tdiv y.1 2),y.2.1++((IntKind.u8.wrap (Int.tmod y.1 2))::[]),()))))) (some (false,y.2.1,()))) (u,[],())
theorem avc(u:Nat)(J:u<18446744073709551616):axk aj u=some (DD false u):=by
 unfold axk
 have:=fR (β:=wJ) (f:=λy j=>
  aj.af (decide (0<y.1)) (aj.pV 2 (aj.bg (y.2.1.length+((IntKind.u8.wrap (Int.tmod y.1 2))::[]).length) 1 (aj.pV 2 (j (u64.wrap (Int.tdiv y.1 2),y.2.1++((IntKind.u8.wrap (Int.tmod y.1 2))::[]),()))))) (some (false,y.2.1,()))) (z:=((u:Int),[],())) (λz=>z.1.toNat) (λz=>0<=z.1/\z.1<18446744073709551616/\z.2.1.length+(bitsOf z.1.toNat).length<=64) (λz=>some (false,z.2.1++bitsOf z.1.toNat,()))
  (by simp only[dB,cg,aP];exact⟨by omega,by omega,Tu 64 _ (by omega)⟩) (by simpa using J) ?_
 .rw[this];simp[DD]
 .rintro⟨a,s,⟨⟩⟩ ⟨V,R,C⟩ F H;obtain⟨n,rfl⟩:=cm V;simp only[aP]at C H R ⊢;by_cases G:n=0
  .subst G;simp[yN]
  .have K:decide ((0:Int)<(n:Int))=true:=ap (by omega);rw[Fu G]at C ⊢;simp only[aJ]at C;rw[K];simp only[o4];rw[Wq (by omega),Mb (by simp;omega) (by simp;omega),Wq (by omega),an2 n (by omega),Ty,agF _ (by omega)];rw[H _ (by simp only[aP,aq,mE];exact⟨by omega,by omega,by omega⟩) (by simp only[aP];omega)];simp only[aP,bn,mD]
end Go.Vc
namespace Go.Vc
open Go Go.RowKit
variable {β : Type}
theorem gB{α S:Type}{l:List α}(hl:l.length<=9223372036854775807){f:Int×S->(Int×S->Option β)->Option β}(y:Nat->S->Prop)(g:List α->S->Option β){s0:S}(K:y 0 s0)
 (F:∀s (j:Int×S->Option β),y l.length s->f ((l.length:Int),s) j=g [] s)
 (C:∀i (h:i<l.length) s,y i s->∀j:Int×S->Option β,(∀s',y (i+1) s'->j (((i+1:Nat):Int),s')=g (l.drop (i+1)) s')->f ((i:Int),s) j=g (l[i]::l.drop (i+1)) s):
 aj.aZ f (0,s0)=g l s0:=by
 refine(fR (λz=>(l.length+1)-z.1.toNat) (λz=>∃i:Nat,z.1=(i:Int)/\i<=l.length/\y i z.2) (λz=>g (l.drop z.1.toNat) z.2) ⟨0,rfl,by omega,K⟩ (by omega) ?_).trans ?_
 .rintro⟨z,s⟩ ⟨i,hi,H,hs⟩ j J;dsimp only at hi hs;subst hi;simp only[aP];by_cases h:i<l.length
  .rw[EL l i h];refine C i h s hs j λs' G=>?_
   have:=J (((i+1:Nat):Int),s') ⟨i+1,rfl,by omega,G⟩ (by simp only[aP];omega);simpa only[aP]using this
  .obtain rfl:i=l.length:=by omega
   rw[fu];exact F s j hs
 .simp
theorem dk{i n:Nat}(h:i<n)(a b:Option β):aj.af (decide ((i:Int)<(n:Int))) a b=a:=by rw[ap (by omega)];rfl
theorem dT{n:Nat}(a b:Option β):aj.af (decide ((n:Int)<(n:Int))) a b=b:=by rw[an (by omega)];rfl
theorem axb{p:Prop}[Decidable p](a b:Option β):aj.af (decide p) a b=if p then a else b:=by by_cases h:p<;>simp[h]
theorem axn{c:Bool}(a b:Option β):aj.af c a b=if c=true then a else b:=by cases c<;>rfl
theorem aQ{c:Bool}(h:c=true)(a b:Option β):aj.af c a b=a:=by subst h;rfl
theorem aB{c:Bool}(h:c=false)(a b:Option β):aj.af c a b=b:=by subst h;rfl
theorem bN{α:Type}{l:List α}{i:Nat}(h:i<l.length:=by omega)(K:α->Option β):aj.aI l (i:Int) K=K l[i]:=idx_eq h K
theorem iI{α:Type}{l:List α}{i:Nat}(h:i<l.length:=by omega)(K:α->Option β):aj.ct l (Int.toNat (i:Int)) K=K l[i]:=by dsimp only;unfold apD;rw[aP,ay h]
theorem c9{n b:Nat}(h:n<=281474976710656:=by omega)(j:n*b<=140737488355328:=by omega)(K:Option β):aj.bg n b K=K:=Mb h j K
theorem ud{b:Int}(h:0<=b:=by omega)(K:Option β):aj.iV b K=K:=axj h K
theorem ajK[qL β](a:Option β):aj.gA a a=a:=QQ a
theorem iW[qL β](a:Option β):aj.two a=a:=QQ a
theorem ub{X:Type}(k:X->Option β)(f:(X->Option β)->Option β):aj.aH k f=f k:=rfl
theorem Fb{i:Int}{n:Nat}(h:0<=i:=by omega)(j:i<=n:=by omega)(K:Nat->Option β):aj.gW i n K=K i.toNat:=auW h j K
theorem cJ(i:Nat)(h:i<9223372036854775807:=by omega):IntKind.i64.wrap ((i:Int)+1)=((i+1:Nat):Int):=Tz i h
end Go.Vc
namespace Go.Vc
variable {β : Type}
theorem Et{S:Type}{N:Nat}(R:N<9223372036854775807){f:Int×S->(Int×S->Option β)->Option β}(y:Nat->S->Prop)(r:Option β){s0:S}(K:y 0 s0)
 (F:∀s (j:Int×S->Option β),y N s->f (((N:Nat):Int),s) j=r)
 (C:∀i,i<N->∀s,y i s->∀j:Int×S->Option β,(∀s',y (i+1) s'->j (((i+1:Nat):Int),s')=r)->f ((i:Int),s) j=r):
 aj.aZ f (0,s0)=r:=by
 refine(fR (λz=>(N+1)-z.1.toNat) (λz=>∃i:Nat,z.1=(i:Int)/\i<=N/\y i z.2) (λ_=>r) ⟨0,rfl,by omega,K⟩ (by omega) ?_);rintro⟨z,s⟩ ⟨i,hi,H,hs⟩ j J;dsimp only at hi hs;subst hi;by_cases h:i<N
 .refine C i h s hs j λs' G=>?_
  exact J (((i+1:Nat):Int),s') ⟨i+1,rfl,by omega,G⟩ (by simp only[aP];omega)
 .obtain rfl:i=N:=by omega
  exact F s j hs
def eQ{α:Type}(f:α->Int)(l:List α):Int:=(l.map f).sum
theorem zx{α:Type}(f:α->Int):eQ f []=0:=rfl
theorem dW{α:Type}(f:α->Int)(x:α)(l:List α):eQ f (x::l)=f x+eQ f l:=by simp[eQ]
theorem qa{α:Type}(f:α->Int)(a b:List α):eQ f (a++b)=eQ f a+eQ f b:=by simp[eQ]
theorem RZ{α:Type}(f:α->Int)(l:List α)(i:Nat)(h:i<l.length):eQ f (l.take (i+1))=eQ f (l.take i)+f l[i]:=by rw[show l.take (i+1)=l.take i++[l[i]]by simp,qa,dW,zx];omega
theorem Ll{α:Type}{f:α->Int}{B:Int}:∀{l:List α},(∀x∈l,-B<=f x/\f x<=B) -> -(B*(l.length:Int))<=eQ f l/\eQ f l<=B*(l.length:Int)
 |[],_=>by simp[eQ]
 |x::l,h=>by
  have C:=h x (by simp);have y:=Ll (l:=l) λw j=>h w (by simp[j])
  rw[dW,aJ,FB,yf];omega
theorem abj{α:Type}(p:α->Bool)(l:List α)(i:Nat)(h:i<l.length):(l.take (i+1)).filter p=(l.take i).filter p++(if p l[i]=true then[l[i]]else[]):=by rw[show l.take (i+1)=l.take i++[l[i]]by simp,e8];congr 1;by_cases j:p l[i]=true<;>simp[j]
theorem dQ{α β:Type}{o:Option α}{a:α}(h:o=some a)(K:α->Option β):aj.ae o K=K a:=by subst h;rfl
end Go.Vc





namespace Go.Vc
open Go Go.RowKit
section
variable {β : Type}
theorem eA{p:Prop}[Decidable p](h:p)(a b:Option β):aj.af (decide p) a b=a:=aQ (ap h) a b
theorem cQ{p:Prop}[Decidable p](h:¬p)(a b:Option β):aj.af (decide p) a b=b:=aB (an h) a b
theorem oJ{α:Type}[BEq α][LawfulBEq α]{x y:α}(h:x=y)(a b:Option β):aj.af (x==y) a b=a:=aQ (by simpa using h) a b
theorem pq{α:Type}[BEq α][LawfulBEq α]{x y:α}(h:¬x=y)(a b:Option β):aj.af (x==y) a b=b:=aB (by simpa using h) a b
theorem fz{α:Type}[BEq α][LawfulBEq α]{x y:α}(h:¬x=y)(a b:Option β):aj.af (x != y) a b=a:=aQ (by simpa using h) a b
theorem gY{α:Type}[BEq α][LawfulBEq α]{x y:α}(h:x=y)(a b:Option β):aj.af (x != y) a b=b:=aB (by simpa using h) a b
theorem dh{p:Prop}[Decidable p]{a b r:Option β}(h:p->a=r)(k:¬p->b=r):aj.af (decide p) a b=r:=(E9 p).elim (λq=>(eA q a b).trans (h q)) λq=>(cQ q a b).trans (k q)
theorem dE{α:Type}[BEq α][LawfulBEq α]{x y:α}{a b r:Option β}(h:x=y->a=r)(k:¬x=y->b=r):aj.af (x==y) a b=r:=(E9 _).elim (λq=>(oJ q a b).trans (h q)) λq=>(pq q a b).trans (k q)
theorem iS{α:Type}[BEq α][LawfulBEq α]{x y:α}{a b r:Option β}(h:x=y->b=r)(k:¬x=y->a=r):aj.af (x != y) a b=r:=(E9 _).elim (λq=>(gY q a b).trans (h q)) λq=>(fz q a b).trans (k q)
theorem Um{c:Bool}{a b r:Option β}(h:c=true)(k:a=r):aj.af c a b=r:=(aQ h a b).trans k
theorem zp{c:Bool}{a b r:Option β}(h:c=false)(k:b=r):aj.af c a b=r:=(aB h a b).trans k
theorem tdy{p:Prop}[Decidable p]{a b r:Option β}(h:p)(k:a=r):aj.af (decide p) a b=r:=(eA h a b).trans k
theorem tdn{p:Prop}[Decidable p]{a b r:Option β}(h:¬p)(k:b=r):aj.af (decide p) a b=r:=(cQ h a b).trans k
theorem tqy{α:Type}[BEq α][LawfulBEq α]{x y:α}{a b r:Option β}(h:x=y)(k:a=r):aj.af (x==y) a b=r:=(oJ h a b).trans k
theorem tqn{α:Type}[BEq α][LawfulBEq α]{x y:α}{a b r:Option β}(h:¬x=y)(k:b=r):aj.af (x==y) a b=r:=(pq h a b).trans k
theorem tby{α:Type}[BEq α][LawfulBEq α]{x y:α}{a b r:Option β}(h:¬x=y)(k:a=r):aj.af (x != y) a b=r:=(fz h a b).trans k
theorem tbn{α:Type}[BEq α][LawfulBEq α]{x y:α}{a b r:Option β}(h:x=y)(k:b=r):aj.af (x != y) a b=r:=(gY h a b).trans k
theorem tix{α:Type}{l:List α}{i:Nat}{K:α->Option β}{r:Option β}(h:i<l.length)(k:K l[i]=r):aj.aI l (i:Int) K=r:=(bN h K).trans k
theorem tnt{α:Type}{l:List α}{i:Nat}{K:α->Option β}{r:Option β}(h:i<l.length)(k:K l[i]=r):aj.ct l (Int.toNat (i:Int)) K=r:=(iI h K).trans k
theorem vC{α:Type}{o:Option α}{a:α}{K:α->Option β}{r:Option β}(h:o=some a)(k:K a=r):aj.ae o K=r:=by subst h;exact k
theorem FQ{n:Nat}{a b r:Option β}(k:b=r):aj.af (decide ((n:Int)<(n:Int))) a b=r:=(dT a b).trans k
theorem Ii{i n:Nat}{a b r:Option β}(h:i<n)(k:a=r):aj.af (decide ((i:Int)<(n:Int))) a b=r:=(dk h a b).trans k
end
theorem mz{α X S β}{l}(W:l.length<9223372036854775808){f:X->(X->Option β)->Option β}(st:Nat->S->X)(y:Nat->S->Prop)(G:List α->S->Option β){z0:X}{s0:S}(K:z0=st 0 s0)(R:y 0 s0)
 (F:∀s,y l.length s->∀j:X->Option β,f (st l.length s) j=G [] s)
 (C:∀(i:Nat) (hi:i<l.length) (s:S),y i s->∀j:X->Option β,(∀s',y (i+1) s'->j (st (i+1) s')=G (l.drop (i+1)) s')->f (st i s) j=G (l[i]::l.drop (i+1)) s):aj.aZ f z0=G l s0:=by
 subst K
 have key:∀n i s,i<=l.length->l.length-i<n->y i s->xJ n f (st i s)=G (l.drop i) s:=by
  intro n;induction n with
  |zero=>intro i s _ h;omega
  |succ n J=>
   intro i s hi V hv;by_cases h:i<l.length
   .rw[cn h];exact C i h s hv _ λs' H=>J (i+1) s' (by omega) (by omega) H
   .have:i=l.length:=by omega
    subst this;rw[fu];exact F s hv _
 have:=key FU 0 s0 (bE _) (by rw[O4];omega) R
 rwa [ic]at this
section
variable {β : Type}
def yU{α:Type}(p:α->Bool)(s:List α):Int:=match s.findIdx? p with|some k=>((k:Nat):Int)|none => -1
theorem tX{α C}{s}(hl:s.length<=1000000)(p)(fn:α->C->Option (Bool×C))(c:C)(h:∀x∈s,fn x c=some (p x,c)):
 aj.aZ (λz (y:Int×C->Option (Int×C))=>aj.af (decide (z.1<(s.length:Int))) (aj.aI s z.1 λx=>aj.ae (fn x z.2) λv=>aj.af v.1 (some (z.1,v.2)) (y (IntKind.i64.wrap (z.1+1),v.2))) (some ((-1:Int),z.2))) (0,c)=some (yU p s,c):=by
 refine mz (l:=s) (s0:=()) (by omega) (λi (_:Unit)=>((i:Int),c)) (λi _=>∀j,∀h:j<s.length,j<i->p s[j]=false) (λ_ _=>some (yU p s,c)) rfl (λj _ h=>by omega) ?_ ?_
 .intro _ F y;refine FQ ?_;have:s.findIdx? p=none:=by rw[gg];intro x K;obtain⟨j,H,rfl⟩:=dr.1 K;exact F j H H
  unfold yU;rw[this]
 .intro i hi _ F y V;refine Ii hi ?_;rw[bN hi,dQ (h _ (aF hi))];by_cases G:p s[i]=true
  .rw[G,aQ rfl];have:s.findIdx? p=some i:=by rw[ez];exact⟨hi,G,λj H=>by rw[F j (by omega) H];simp⟩
   unfold yU;rw[this]
  .have G:p s[i]=false:=by simpa using G
   rw[G,aB rfl];rw[cJ i]
   exact V () λj H R=>by
    by_cases J:j=i
    .subst J;exact G
    .exact F j H (by omega)
theorem aeS{α}(p)(s:List α):decide (0<=yU p s)=s.any p:=by
 unfold yU;cases h:s.findIdx? p with
 |none=>
  rw[gg]at h;have:s.any p=false:=by rw[kH];intro x j;simp[h x j]
  rw[this];rfl
 |some k=>have⟨C,y,_⟩:=ez.1 h;have:=j9.2 ⟨_,aF C,y⟩;rw[this];simp
theorem kT{α}(p)(s:List α):(yU p s = -1/\s.find? p=none)\/∃k:Nat,∃h:k<s.length,yU p s=(k:Int)/\s.find? p=some s[k]/\p s[k]=true:=by
 unfold yU;cases h:s.findIdx? p with
 |none=>refine .inl ⟨rfl,?_⟩;rw[gg]at h;rw[jf];intro x F;simp[h x F]
 |some k=>have⟨C,y,H⟩:=ez.1 h;refine .inr ⟨k,C,rfl,?_,y⟩;rw[w9];exact⟨y,k,C,rfl,λj G=>by simpa using H j G⟩
theorem yk{j}{f}{r}(c)(h:∀k:Bool×Unit->Option β,f k=k (c,()))(y:j (c,())=r):aj.aH j f=r:=by show f j=r;rw[h];exact y
end
open Go.IntKind (i64 u64)
def asH(W:Wd)(a b:List Int):Option (List Int):=W.aZ (λj y=>W.aH (λz3=>W.aH (λz4=>W.aH (λC=>W.pV 2 (W.bg (C.2.1.length+((Int.tmod C.1 2)::[]).length) 1 (W.pV 2 (y (IntKind.u8.wrap (Int.tdiv C.1 2),i64.wrap (j.2.1+1),C.2.1++((Int.tmod C.1 2)::[]),()))))) λK=>W.af (decide (j.2.1<(b.length:Int))) (W.aI b j.2.1 λV=>(K (IntKind.u8.wrap (z4.1+V),z4.2.1,()))) (K (z4.1,z4.2.1,()))) λJ=>W.af (decide (j.2.1<(a.length:Int))) (W.aI a j.2.1 λR=>(J (IntKind.u8.wrap (j.1+R),z3.1,()))) (J (j.1,z3.1,()))) λG=>W.af (decide (j.2.1<(a.length:Int))) (G (j.2.2.1,())) (W.af (decide (j.2.1<(b.length:Int))) (G (j.2.2.1,())) (W.aH (λH=>some H.1) λF=>W.af (decide (0<j.1)) (W.bg (j.2.2.1.length+(j.1::[]).length) 1 (F (j.2.2.1++(j.1::[]),()))) (F (j.2.2.1,()))))) (0,0,[],())
theorem aqU{xs j:List Int}(hx:H4 xs)(hy:H4 j)(lx:xs.length<=1000)(ly:j.length<=1000):asH aj xs j=some (bitsOf (dL xs+dL j)):=by
 unfold asH;refine(fR (λz=>2001-z.2.1.toNat) (λz=>∃(i x y c:Nat) (s:List Int),z=((c:Int),(i:Int),s,())/\xs.drop i=bitsOf x/\j.drop i=bitsOf y/\c<=1/\bitsOf (dL xs+dL j)=s++bitsOf (x+y+c)/\s.length=i/\i<=1000) (λ_=>some (bitsOf (dL xs+dL j))) ⟨0,dL xs,dL j,0,[],rfl,(by rw[ic];exact hx.symm),(by rw[ic];exact hy.symm),by omega,by simp,rfl,by omega⟩ (by simp) ?_);rintro _ ⟨i,x,y,c,s,rfl,F,C,hc,G,V,hi⟩ K ha;simp only[join_eq]
 have X:∀(u v:Nat),(x % 2=u)->(y % 2=v)->(i<xs.length\/i<j.length)->nzF 2 (Lw (s.length+[Int.tmod ((c+u+v:Nat):Int) 2].length) 1 (nzF 2 (K (IntKind.u8.wrap (Int.tdiv ((c+u+v:Nat):Int) 2),i64.wrap ((i:Int)+1),s++[Int.tmod ((c+u+v:Nat):Int) 2],()))))=some (bitsOf (dL xs+dL j)):=by
  intro u v hu hv W
  have hn:x+y≠0:=by
   rcases W with h|h
   .have:=(tu F h).2.2;omega
   .have:=(tu C h).2.2;omega
  rw[Wq (by omega),Mb (by simp;omega) (by simp;omega),Wq (by omega),aqP _ (by omega),Ty,Tz i (by omega)];refine ha _ ⟨i+1,x / 2,y / 2,(c+x % 2+y % 2) / 2,s++[(((c+x % 2+y % 2) % 2:Nat):Int)],?_,Mc F,Mc C,by omega,?_,by simp[V],by omega⟩ (by dsimp only;omega)
  .subst hu;subst hv;rfl
  .subst hu;subst hv;exact anv G hn
 by_cases R:i<xs.length
 .have Y:decide ((i:Int)<(xs.length:Int))=true:=ap (by omega);simp only[Y,o4];rw[idx_eq R,(tu F R).1];by_cases H:i<j.length
  .have J:decide ((i:Int)<(j.length:Int))=true:=ap (by omega);simp only[J,o4];rw[idx_eq H,(tu C H).1,Tx c _ (by omega),Tx _ _ (by omega)];exact X _ _ rfl rfl (.inl R)
  .have J:decide ((i:Int)<(j.length:Int))=false:=an (by omega);simp only[J,pE];rw[Tx c _ (by omega)];have:=X (x % 2) 0 rfl (by rw[DC C H]) (.inl R);simpa using this
 .have Y:decide ((i:Int)<(xs.length:Int))=false:=an (by omega);simp only[Y,pE];by_cases H:i<j.length
  .have J:decide ((i:Int)<(j.length:Int))=true:=ap (by omega);simp only[J,o4];rw[idx_eq H,(tu C H).1,Tx c _ (by omega)];have:=X 0 (y % 2) (by rw[DC F R]) rfl (.inr H);simpa using this
  .have J:decide ((i:Int)<(j.length:Int))=false:=an (by omega);simp only[J,pE];rw[G,DC F R,DC C H];by_cases h3:c=0
   .subst h3;simp[yN]
   .have:c=1:=by omega
    subst this;rw[Mb (by simp;omega) (by simp;omega)];simp[Fu,yN]
def asI(W:Wd)(a b:List Int):Option Bool:=W.af ((a.length:Int) != (b.length:Int)) (some (decide ((a.length:Int)<(b.length:Int)))) (W.aZ (λy j=>W.af (decide (0<y.1)) (W.aI a (i64.wrap (y.1-1)) λH=>W.aI b (i64.wrap (y.1-1)) λG=>W.af (H != G) (W.aI a (i64.wrap (y.1-1)) λF=>W.aI b (i64.wrap (y.1-1)) λC=>some (decide (F<C))) (j (i64.wrap (y.1-1),()))) (some false)) ((a.length:Int),()))
theorem aqV{xs j:List Int}(R:H4 xs)(K:H4 j)(lx:xs.length<=1000)(ly:j.length<=1000):asI aj xs j=some (decide (dL xs<dL j)):=by
 unfold asI;by_cases hl:xs.length=j.length
 .have H:((xs.length:Int) != (j.length:Int))=false:=by simp[hl]
  simp only[H,pE];refine(fR (λz=>z.1.toNat) (λz=>∃i:Nat,z=((i:Int),())/\i<=xs.length/\xs.drop i=j.drop i) (λ_=>some (decide (dL xs<dL j))) ⟨xs.length,rfl,au _,by rw[iy (au _),iy (by omega)]⟩ (by simp only[aP];omega) ?_);rintro _ ⟨i,rfl,hi,F⟩ J W;by_cases X:i=0
  .subst X;rw[ic,ic]at F;subst F;simp
  .have Y:decide ((0:Int)<(i:Int))=true:=ap (by omega);simp only[Y,o4];have hm:i-1<xs.length:=by omega
   have y:i-1<j.length:=by omega
   have V:i-1+1=i:=by omega
   rw[Aq i (by omega) (by rw[gC];omega),idx_eq hm,idx_eq y];by_cases C:xs[i-1]=j[i-1]
   .have G:(xs[i-1] != j[i-1])=false:=by simp[C]
    rw[G];simp only[pE];refine W _ ⟨i-1,rfl,by omega,?_⟩ (by omega);rw[EL xs _ hm,EL j _ y,C,V,F]
   .have G:(xs[i-1] != j[i-1])=true:=by simp[C]
    rw[G];simp only[o4];rw[idx_eq hm,idx_eq y,ans R.bits K.bits hm y (by rw[V];exact F) C]
 .have H:((xs.length:Int) != (j.length:Int))=true:=by simp;omega
  simp only[H,o4];rw[anw R K hl]
def an3(W:Wd)(a b:List Int):Option (List Int):=W.aZ (λj y=>W.af (decide (j.2.1<(a.length:Int))) (W.aH (λz3=>W.aI a j.2.1 λF=>W.aH (λC=>W.pV 2 (W.bg (C.2.1.length+((Int.tmod (IntKind.u8.wrap ((IntKind.u8.wrap (F+2))-z3.1)) 2)::[]).length) 1 (y (C.1,i64.wrap (j.2.1+1),C.2.1++((Int.tmod (IntKind.u8.wrap ((IntKind.u8.wrap (F+2))-z3.1)) 2)::[]),())))) λH=>W.af (decide ((IntKind.u8.wrap ((IntKind.u8.wrap (F+2))-z3.1))<2)) (H (1,z3.2.1,())) (H (0,z3.2.1,()))) λG=>W.af (decide (j.2.1<(b.length:Int))) (W.aI b j.2.1 λJ=>(G (IntKind.u8.wrap (j.1+J),j.2.2.1,()))) (G (j.1,j.2.2.1,()))) (some j.2.2.1)) (0,0,[],())
theorem an4{xs C:List Int}(hx:H4 xs)(hy:H4 C)(lx:xs.length<=1000)(ayJ:dL C<=dL xs):an3 aj xs C=some (rM xs.length (dL xs-dL C)):=by
 unfold an3;refine(fR (λz=>2001-z.2.1.toNat) (λz=>∃(i x y c:Nat) (s:List Int),z=((c:Int),(i:Int),s,())/\xs.drop i=bitsOf x/\C.drop i=bitsOf y/\c<=1/\y+c<=x/\rM xs.length (dL xs-dL C)=s++rM (xs.length-i) (x-y-c)/\s.length=i/\i<=xs.length) (λ_=>some (rM xs.length (dL xs-dL C))) ⟨0,dL xs,dL C,0,[],rfl,(by rw[ic];exact hx.symm),(by rw[ic];exact hy.symm),by omega,by omega,by simp,rfl,by omega⟩ (by simp) ?_);rintro _ ⟨i,x,y,c,s,rfl,W,G,hc,V,F,hsl,hi⟩ j ha;simp only[join_eq];by_cases h1:i<xs.length
 .have d1:decide ((i:Int)<(xs.length:Int))=true:=ap (by omega);simp only[d1,o4]
  have go:∀(t:Nat),t=c+y % 2->(XV xs (i:Int) λR=>bif decide (IntKind.u8.wrap (IntKind.u8.wrap (R+2)-(t:Int))<2)then
   (nzF 2 (Lw (s.length+[Int.tmod (IntKind.u8.wrap (IntKind.u8.wrap (R+2)-(t:Int))) 2].length) 1 (j (1,i64.wrap ((i:Int)+1),s++[Int.tmod (IntKind.u8.wrap (IntKind.u8.wrap (R+2)-(t:Int))) 2],()))))else
   (nzF 2 (Lw (s.length+[Int.tmod (IntKind.u8.wrap (IntKind.u8.wrap (R+2)-(t:Int))) 2].length) 1 (j (0,i64.wrap ((i:Int)+1),s++[Int.tmod (IntKind.u8.wrap (IntKind.u8.wrap (R+2)-(t:Int))) 2],())))))=some (rM xs.length (dL xs-dL C)):=by
   intro t ht;rw[idx_eq h1,auY _ x t (tu W h1).1 (by omega),Ty,Tz i (by omega)];have st:=auX F h1 hc V;rw[<-ht]at st;have kl:=ay2 (x:=x) (y:=y) hc V;rw[<-ht]at kl;have X:∀Y:Nat,Y=(if x % 2+2-t<2 then 1 else 0)->nzF 2 (Lw (s.length+[(((x % 2+2-t) % 2:Nat):Int)].length) 1 (j ((Y:Int),((i+1:Nat):Int),s++[(((x % 2+2-t) % 2:Nat):Int)],())))=some (rM xs.length (dL xs-dL C)):=by intro Y H;rw[Wq (by omega),Mb (by simp;omega) (by simp;omega)];refine ha _ ⟨i+1,x / 2,y / 2,Y,s++[(((x % 2+2-t) % 2:Nat):Int)],rfl,Mc W,Mc G,by rw[H];split<;>omega,by rw[H];exact kl,by rw[H];exact st,by simp[hsl],by omega⟩ (by show 2001-((i+1:Nat):Int).toNat<2001-((i:Nat):Int).toNat;omega)
   by_cases K:x % 2+2-t<2
   .have J:decide (((x % 2+2-t:Nat):Int)<2)=true:=ap (by omega);rw[J];exact X 1 (by rw[ah K])
   .have J:decide (((x % 2+2-t:Nat):Int)<2)=false:=an (by omega);rw[J];exact X 0 (by rw[ag K])
  by_cases K:i<C.length
  .have J:decide ((i:Int)<(C.length:Int))=true:=ap (by omega);simp only[J,o4];rw[idx_eq K,(tu G K).1,Tx c _ (by omega)];exact go _ rfl
  .have J:decide ((i:Int)<(C.length:Int))=false:=an (by omega);simp only[J,pE];exact go c (by rw[DC G K];simp)
 .have d1:decide ((i:Int)<(xs.length:Int))=false:=an (by omega);simp only[d1,pE];rw[F,show xs.length-i=0 by omega];simp[rM]
def asJ(W:Wd)(neg:Bool)(b:List Int):Option wJ:=W.aH (λC=>W.af neg (W.gW C.1 b.length λJ=>some (decide (0<C.1),b.take J,())) (W.gW C.1 b.length λH=>some (false,b.take H,()))) λF=>W.aZ (λy j=>W.af (decide (0<y.1)) (W.aI b (i64.wrap (y.1-1)) λG=>W.af (G==0) (j (i64.wrap (y.1-1),())) (F y)) (F y)) ((b.length:Int),())
theorem aqW{g:Bool}{xs:List Int}(h:Of xs)(R:xs.length<=1000):asJ aj g xs=some (DD g (dL xs)):=by
 unfold asJ;rw[ub];refine(fR (λz=>z.1.toNat) (λz=>∃i:Nat,z=((i:Int),())/\i<=xs.length/\dL (xs.take i)=dL xs) (λ_=>some (DD g (dL xs))) ⟨xs.length,rfl,au _,by rw[bq]⟩ (by simp only[aP];omega) ?_);rintro _ ⟨i,rfl,hi,hv⟩ y J
 have out:(i=0\/∃h:i-1<xs.length,¬xs[i-1]=0)->(λj=>aj.af g (aj.gW j.1 xs.length λF=>some (decide (0<j.1),xs.take F,())) (aj.gW j.1 xs.length λC=>some (false,xs.take C,()))) ((i:Int),())=some (DD g (dL xs)):=by
  intro hl;show aj.af g (aj.gW (i:Int) xs.length λF=>some (decide ((0:Int)<(i:Int)),xs.take F,())) (aj.gW (i:Int) xs.length λC=>some (false,xs.take C,()))=_;rw[Fb (by omega) (by omega),Fb (by omega) (by omega),aP,aqQ h hi hv hl];cases g
  .rw[aB rfl];rfl
  .rw[aQ rfl];rfl
 generalize (λ(j:Int×Unit)=>aj.af g (aj.gW j.1 xs.length λF=>some (decide (0<j.1),xs.take F,())) (aj.gW j.1 xs.length λC=>some (false,xs.take C,())))=k at out ⊢;show aj.af (decide (0<(i:Int))) (aj.aI xs (i64.wrap ((i:Int)-1)) λH=>aj.af (H==0) (y (i64.wrap ((i:Int)-1),())) (k ((i:Int),()))) (k ((i:Int),()))=_;by_cases K:i=0
 .rw[aB (an (by omega))];exact out (.inl K)
 .have hm:i-1<xs.length:=by omega
  rw[aQ (ap (by omega)),Aq i (by omega) (by rw[gC];omega),bN hm];by_cases G:xs[i-1]=0
  .rw[aQ (by simp[G])];refine J _ ⟨i-1,rfl,by omega,?_⟩ (by show((i-1:Nat):Int).toNat<(i:Int).toNat;omega);have:=AE xs (i-1) hm;rw[show i-1+1=i by omega,hv,G]at this;simpa using this.symm
  .rw[aB (by simp[G])];exact out (.inr ⟨hm,G⟩)
end Go.Vc
namespace Go.Proofs.YthghpahghjppjaaGreat
open Go Go.Vc Go.RowKit
@[reducible] def tU0:DT:=(.pair (.int .i64) (.pair (.int .i64) .unit))
@[reducible] def tF0:DT:=(.pair tU0 (.pair (.int .i64) .unit))
@[reducible] def tP0:DT:=(.pair tU0 (.pair (.slc tU0) .unit))
abbrev φ:=Int×Int×Unit
abbrev F0':=φ×Int×Unit
def Ip(x:φ):List φ->List φ
 |[]=>[x]
 |y::l=>bif decide (x.1<y.1)||(x.1==y.1&&decide (x.2.1<y.2.1))then x::y::l else bif x.1==y.1&&x.2.1==y.2.1 then y::l else y::Ip x l
def lu(l:List F0'):List φ:=l.foldl (λs x=>Ip x.1 s) []
def Uo{α:Type}(l:List α)(i j:Int):Option (List α×Unit):=bif decide (0<=i)&&decide (i<j)&&decide (j<=l.length)then some (l.take i.toNat++l.drop j.toNat,())else none
def Jb{α:Type}(bytes:Nat)(l:List α)(i:Int)(v:List α):Option (List α×Unit):=bif decide (0<=i)&&decide (i<=l.length)&&Nat.ble ((l.length+1)*bytes) 140737488355328 then(match v with|[x]=>some (l.take i.toNat++x::l.drop i.toNat,())|_=>none)else none
def HF(l:List tP0.den)(i j:Int):Option (List tP0.den×Unit):=Uo l i j
def HG(l:List tP0.den)(i:Int)(v:List tP0.den):Option (List tP0.den×Unit):=Jb 40 l i v
def IM(x y c:Int):Option (Int×Int×Unit):=if 0<=x/\0<=y/\0<=c/\c<=1 then some ((x+y+c) % 18446744073709551616,(x+y+c) / 18446744073709551616,())else none
def Gs(x y b:Int):Option (Int×Int×Unit):=if 0<=x/\0<=y/\y<18446744073709551616/\0<=b/\b<=1 then some ((x-y-b) % 18446744073709551616,if x<y+b then 1 else 0,())else none
abbrev ZB:=Int×Int×Unit
def π(x y:ZB):Bool:=decide (x.1<y.1)||(x.1==y.1&&decide (x.2.1<=y.2.1))
def adi(x:ZB):List ZB->List ZB
 |[]=>[x]
 |y::l=>bif π x y then x::y::l else y::adi x l
def XR:List ZB->List ZB
 |[]=>[]
 |x::l=>adi x (XR l)
def Ag(l:List ZB):Option (List ZB):=bif Nat.blt l.length 4611686018427387904 then some (XR l)else none
def OX(l:List F0')(n:Int):Option (List F0'×Unit):=bif decide (0<=n)&&decide ((l.length+n)*24<=140737488355328)then some (l,())else none
theorem NG(x:ZB):∀l,(adi x l).Perm (x::l)
 |[]=>.refl _
 |y::l=>by
  unfold adi;cases π x y with
  |true=>exact .refl _
  |false=>exact((NG x l).cons y).trans (.swap x y l)
theorem Dk:∀l,(XR l).Perm l
 |[]=>.refl _
 |x::l=>(NG x _).trans ((Dk l).cons x)
theorem alu{x y z:ZB}(C:π x y=true)(j:π y z=true):π x z=true:=by simp only[π,fv,aD,bc,fW]at *;omega
theorem afC{x y:ZB}(h:π x y=false):π y x=true:=by simp only[π,nK,Bool.and_eq_false_imp,oY,fW,fv,aD,bc]at *;omega
theorem χ(x:ZB):∀{l:List ZB},l.Pairwise (λa b=>π a b=true)->(adi x l).Pairwise λa b=>π a b=true
 |[],_=>by simp[adi]
 |y::l,h=>by
  have⟨F,G⟩:=bz.1 h;unfold adi;cases j:π x y with
  |true=>exact bz.2 ⟨λz C=>(aG.1 C).elim (λe=>e▸j) λC=>alu j (F z C),h⟩
  |false=>exact bz.2 ⟨λz C=>(aG.1 ((NG x l).mem_iff.1 C)).elim (λe=>e▸afC j) (F z),χ x G⟩
theorem Sd:∀l,(XR l).Pairwise λa b=>π a b=true
 |[]=>.nil
 |x::l=>χ x (Sd l)
namespace sH
@[reducible] def tL0:DT:=(.pair (.int .i64) (.pair (.int .i64) (.pair (.int .i64) .unit)))
def Hu(l:List tL0.den)(i j:Int):Option (List tL0.den×Unit):=Uo l i j
def Nj(l:List tL0.den)(i:Int)(v:List tL0.den):Option (List tL0.den×Unit):=Jb 24 l i v
end sH
theorem atF{α:Type}{l:List α}{i j:Int}{o:List α×Unit}(h:Uo l i j=some o):∃a b:Nat,i=a/\j=b/\a<b/\b<=l.length/\o=(l.take a++l.drop b,()):=by
 unfold Uo at h;rcases xI h with⟨hc,h⟩|⟨_,h⟩
 .simp only[aD,bc]at hc;have⟨⟨h0,h1⟩,h2⟩:=hc;obtain⟨a,rfl⟩:=cm h0;obtain⟨b,rfl⟩:=cm (by omega:0<=j);have h:=cG h;exact⟨a,b,rfl,rfl,by omega,by omega,by rw[<-h];rfl⟩
 .cases h
end Go.Proofs.YthghpahghjppjaaGreat
namespace Go.Vc
open Go
def IH(x:Int):List Int->List Int
 |[]=>[x]
 |y::l=>bif decide (x<=y)then x::y::l else y::IH x l
def xC:List Int->List Int
 |[]=>[]
 |x::l=>IH x (xC l)
def ahD(p:Option Int)(x:Int):Bool:=match p with|some y=>x==y|none=>false
def xD:Option Int->List Int->List Int
 |_,[]=>[]
 |p,x::l=>bif ahD p x then xD (some x) l else x::xD (some x) l
def uy(l:List Int):List Int:=xD none l
def R'(l:List Int):Option (List Int):=bif Nat.blt l.length 4611686018427387904 then some (xC l)else none
def O0(l:List Int):Option (List Int×Unit):=some (uy l,())
end Go.Vc
namespace Go.Proofs.YthghpahghjppjaaGreat.uj
open Go Go.Vc Go.RowKit Go.Proofs.YthghpahghjppjaaGreat
@[reducible] def Ey:DT:=(.pair (.int .i64) (.pair (.int .i64) (.pair (.int .i64) (.pair (.int .i64) (.pair (.slc (.int .i64)) .unit)))))
def Ez(l:List Ey.den)(i:Int)(v:List Ey.den):Option (List Ey.den×Unit):=Jb 56 l i v
end Go.Proofs.YthghpahghjppjaaGreat.uj
namespace Go.Proofs.YthghpahghjppjaaGreat.uk
open Go Go.Vc Go.RowKit Go.Proofs.YthghpahghjppjaaGreat
@[reducible] def Ey:DT:=(.pair (.int .i64) (.pair (.int .i64) (.pair (.int .i64) .unit)))
def Gq(l:List Ey.den)(i:Int)(v:List Ey.den):Option (List Ey.den×Unit):=Jb 24 l i v
end Go.Proofs.YthghpahghjppjaaGreat.uk
namespace Go.Proofs.YthghpahghjppjaaGreat.ul
open Go Go.Vc Go.RowKit Go.Proofs.YthghpahghjppjaaGreat
@[reducible] def Ey:DT:=(.pair (.int .i64) (.pair (.int .i64) (.pair (.int .i64) (.pair (.slc (.int .i64)) .unit))))
def Cp(l:List Ey.den)(i:Int)(v:List Ey.den):Option (List Ey.den×Unit):=Jb 48 l i v
end Go.Proofs.YthghpahghjppjaaGreat.ul
namespace Go.Proofs.YthghpahghjppjaaGreat.um
open Go Go.Vc Go.RowKit Go.Proofs.YthghpahghjppjaaGreat
@[reducible] def Ey:DT:=(.pair (.pair (.int .i64) (.pair (.int .i64) .unit)) (.pair (.pair (.int .i64) (.pair (.int .i64) .unit)) (.pair .bool .unit)))
def EA(l:List Ey.den)(i:Int)(v:List Ey.den):Option (List Ey.den×Unit):=Jb 40 l i v
end Go.Proofs.YthghpahghjppjaaGreat.um
namespace Go.Proofs.YthghpahghjppjaaGreat.uo
open Go Go.Vc Go.RowKit Go.Proofs.YthghpahghjppjaaGreat
@[reducible] def Ey:DT:=(.int .i64)
def ND(l:List Ey.den)(i:Int)(v:List Ey.den):Option (List Ey.den×Unit):=Jb 8 l i v
end Go.Proofs.YthghpahghjppjaaGreat.uo
namespace Go.Proofs.YthghpahghjppjaaGreat
open Go Go.Vc Go.RowKit
def XC(l:List Int):Option (List Int):=R' l
def Sb(l:List Int):Option (List Int×Unit):=O0 l
end Go.Proofs.YthghpahghjppjaaGreat





namespace Go.Proofs.YthghpahghjppjaaGreat
open Go Go.Vc Go.RowKit
abbrev Dj:=Int×Int×Int×Unit
@[reducible] def tQ0:DT:=.pair (.int .i64) (.pair (.int .i64) (.pair (.int .i64) .unit))
def ψ(x y:Dj):Bool:=decide (y.2.2.1<x.2.2.1)||(x.2.2.1==y.2.2.1&&decide (x.1<=y.1))
def adj(x:Dj):List Dj->List Dj
 |[]=>[x]
 |y::l=>bif ψ x y then x::y::l else y::adj x l
def sV:List Dj->List Dj
 |[]=>[]
 |x::l=>adj x (sV l)
def adk:List Dj->Bool
 |[]=>true
 |x::l=>l.all (λy=>decide (x.1<y.1))&&adk l
def tc(l:List Dj):Option (List Dj):=bif Nat.blt l.length 4611686018427387904&&adk l then some (sV l)else none
theorem NH(x:Dj):∀l,(adj x l).Perm (x::l)
 |[]=>.refl _
 |y::l=>by
  unfold adj;cases ψ x y with
  |true=>exact .refl _
  |false=>exact((NH x l).cons y).trans (.swap x y l)
theorem tf:∀l,(sV l).Perm l
 |[]=>.refl _
 |x::l=>(NH x _).trans ((tf l).cons x)
theorem HJ(x y:Dj):ψ x y=true↔y.2.2.1<x.2.2.1\/(x.2.2.1=y.2.2.1/\x.1<=y.1):=by simp only[ψ,fv,aD,bc,fW]
theorem atS{x y z:Dj}(C:ψ x y=true)(j:ψ y z=true):ψ x z=true:=by rw[HJ]at *;omega
theorem apA{x y:Dj}(h:ψ x y=false):ψ y x=true:=by rw[HJ];rw[<-wW,HJ]at h;omega
theorem ω(x:Dj):∀{l:List Dj},l.Pairwise (λa b=>ψ a b=true)->(adj x l).Pairwise λa b=>ψ a b=true
 |[],_=>by simp[adj]
 |y::l,h=>by
  have⟨F,G⟩:=bz.1 h;unfold adj;cases j:ψ x y with
  |true=>exact bz.2 ⟨λz C=>(aG.1 C).elim (λe=>e▸j) λC=>atS j (F z C),h⟩
  |false=>exact bz.2 ⟨λz C=>(aG.1 ((NH x l).mem_iff.1 C)).elim (λe=>e▸apA j) (F z),ω x G⟩
theorem Sf:∀l,(sV l).Pairwise λa b=>ψ a b=true
 |[]=>.nil
 |x::l=>ω x (Sf l)
theorem R8:∀l,adk l=true↔l.Pairwise λa b:Dj=>a.1<b.1
 |[]=>by simp[adk]
 |x::l=>by rw[adk,aD,lZ,bz,R8 l];simp
theorem afF:∀{l:List Dj},l.Pairwise (λa b:Dj=>a.1<b.1)->∀a∈l,∀b∈l,a.1=b.1->a=b
 |[],_,a,C,_,_,_=>by cases C
 |x::l,h,a,C,b,hb,e=>by
  have⟨G,J⟩:=bz.1 h;rcases aG.1 C with H|y
  .rcases aG.1 hb with F|j
   .rw[H,F]
   .have:=G b j;rw[H]at e;omega
  .rcases aG.1 hb with F|j
   .have:=G a y;rw[F]at e;omega
   .exact afF J a y b j e
theorem OZ{l l':List Dj}(h:tc l=some l'):l.length<4611686018427387904/\adk l=true/\l'=sV l:=by
 unfold tc at h;cases hb:Nat.blt l.length 4611686018427387904&&adk l with
 |false=>rw[hb]at h;cases h
 |true=>rw[hb]at h;have⟨y,j⟩:=(aD _ _).mp hb;exact⟨bS y,j,(cG h).symm⟩
theorem ap5{l l':List Dj}(hi:l.Pairwise λa b:Dj=>a.1<b.1)(j:l'.Perm l)(hs:l'.Pairwise λa b=>ψ a b=true):l'=sV l:=sF (le:=λa b=>ψ a b=true) (λa b y hb F C=>by rw[HJ]at F C;exact afF hi a (j.mem_iff.1 y) b ((tf l).mem_iff.1 hb) (by omega)) hs (Sf l) (j.trans (tf l).symm)
end Go.Proofs.YthghpahghjppjaaGreat
namespace Go.Vc
abbrev U17{A0 A1 A2 A3 A4 Y X W V K J H G F C y j R T:Type}(e:A0×A1×A2×A3×A4×Y×X×W×V×K×J×H×G×F×C×y×j×R)(t:T):A0×A1×A2×A3×A4×Y×X×W×V×K×J×H×G×F×C×y×j×T:=(e.1,U16 e.2 t)
abbrev U18{A0 A1 A2 A3 A4 A5 Y X W V K J H G F C y j R T:Type}(e:A0×A1×A2×A3×A4×A5×Y×X×W×V×K×J×H×G×F×C×y×j×R)(t:T):A0×A1×A2×A3×A4×A5×Y×X×W×V×K×J×H×G×F×C×y×j×T:=(e.1,e.2.1,U16 e.2.2 t)
abbrev U19{A0 A1 A2 A3 A4 A5 A6 Y X W V K J H G F C y j R T:Type}(e:A0×A1×A2×A3×A4×A5×A6×Y×X×W×V×K×J×H×G×F×C×y×j×R)(t:T):A0×A1×A2×A3×A4×A5×A6×Y×X×W×V×K×J×H×G×F×C×y×j×T:=(e.1,e.2.1,e.2.2.1,U16 e.2.2.2 t)
abbrev U22{A0 A1 A2 A3 A4 A5 A6 A7 A8 A9 Y X W V K J H G F C y j R T:Type}(e:A0×A1×A2×A3×A4×A5×A6×A7×A8×A9×Y×X×W×V×K×J×H×G×F×C×y×j×R)(t:T):A0×A1×A2×A3×A4×A5×A6×A7×A8×A9×Y×X×W×V×K×J×H×G×F×C×y×j×T:=(e.1,e.2.1,e.2.2.1,e.2.2.2.1,e.2.2.2.2.1,e.2.2.2.2.2.1,U16 e.2.2.2.2.2.2 t)
abbrev U24{A0 A1 A2 A3 A4 A5 A6 A7 A8 A9 A10 A11 Y X W V K J H G F C y j R T:Type}(e:A0×A1×A2×A3×A4×A5×A6×A7×A8×A9×A10×A11×Y×X×W×V×K×J×H×G×F×C×y×j×R)(t:T):A0×A1×A2×A3×A4×A5×A6×A7×A8×A9×A10×A11×Y×X×W×V×K×J×H×G×F×C×y×j×T:=(e.1,e.2.1,e.2.2.1,e.2.2.2.1,e.2.2.2.2.1,e.2.2.2.2.2.1,e.2.2.2.2.2.2.1,e.2.2.2.2.2.2.2.1,U16 e.2.2.2.2.2.2.2.2 t)
abbrev U27{A0 A1 A2 A3 A4 A5 A6 A7 A8 A9 A10 A11 A12 A13 A14 Y X W V K J H G F C y j R T:Type}(e:A0×A1×A2×A3×A4×A5×A6×A7×A8×A9×A10×A11×A12×A13×A14×Y×X×W×V×K×J×H×G×F×C×y×j×R)(t:T):A0×A1×A2×A3×A4×A5×A6×A7×A8×A9×A10×A11×A12×A13×A14×Y×X×W×V×K×J×H×G×F×C×y×j×T:=(e.1,e.2.1,e.2.2.1,e.2.2.2.1,e.2.2.2.2.1,e.2.2.2.2.2.1,e.2.2.2.2.2.2.1,e.2.2.2.2.2.2.2.1,e.2.2.2.2.2.2.2.2.1,e.2.2.2.2.2.2.2.2.2.1,e.2.2.2.2.2.2.2.2.2.2.1,U16 e.2.2.2.2.2.2.2.2.2.2.2 t)
abbrev xh{A0 A1 A2 A3 A4 A5 A6 A7 A8 A9 A10 A11 A12 A13 A14 A15 A16 A17 Y X W V K J H G F C y j R T:Type}(e:A0×A1×A2×A3×A4×A5×A6×A7×A8×A9×A10×A11×A12×A13×A14×A15×A16×A17×Y×X×W×V×K×J×H×G×F×C×y×j×R)(t:T):A0×A1×A2×A3×A4×A5×A6×A7×A8×A9×A10×A11×A12×A13×A14×A15×A16×A17×Y×X×W×V×K×J×H×G×F×C×y×j×T:=(e.1,e.2.1,e.2.2.1,e.2.2.2.1,e.2.2.2.2.1,e.2.2.2.2.2.1,e.2.2.2.2.2.2.1,e.2.2.2.2.2.2.2.1,e.2.2.2.2.2.2.2.2.1,e.2.2.2.2.2.2.2.2.2.1,e.2.2.2.2.2.2.2.2.2.2.1,e.2.2.2.2.2.2.2.2.2.2.2.1,e.2.2.2.2.2.2.2.2.2.2.2.2.1,e.2.2.2.2.2.2.2.2.2.2.2.2.2.1,U16 e.2.2.2.2.2.2.2.2.2.2.2.2.2.2 t)
end Go.Vc