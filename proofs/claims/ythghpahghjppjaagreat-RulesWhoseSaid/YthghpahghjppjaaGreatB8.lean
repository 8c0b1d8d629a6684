import Derived.Test.YthghpahghjppjaaGreatB7
namespace Go.Proofs.YthghpahghjppjaaGreat
open Go Go.Vc Go.RowKit Lot Ay Az AA AB AD
set_option synthInstance.maxSize 100000
def I4(C:List aD):List ar:=C.flatMap bY
def s5(C:List aD)(u:ar):Prop:=u∈I4 C
def G0(C:List aD)(u:ar):Prop:=s5 C u\/u=fU\/u=tU
def ly{α:Type}(f:α->Int)(l:List α)(k:Int):Prop:=∃x∈l,f x=k
def Idx{α:Type}(f:α->Int)(l:List α):Prop:=∀i (h:i<l.length),f l[i]=(i:Int)+1
structure WV(a:aD):Prop where
 h:ajC a
 s:qU (λx:Int=>x) a.2.2.2.1
 c:∀x∈a.2.2.2.1,1<=x/\x<=16
structure aqM(C:List aD)(I:List bF)(g:bP):Prop where
 u:s5 C g.2.1
 i:ly (·.1) I g.2.2.1
 p:0<=g.2.2.2.1/\g.2.2.2.1<=2147483647
 l:l9 g.2.2.2.2.1
structure aqN(C:List aD)(I:List bF)(n:Nat)(y:bZ):Prop where
 f:s5 C y.2.1
 t:s5 C y.2.2.1
 ne:y.2.1≠y.2.2.1
 i:ly (·.1) I y.2.2.2.1.1
 q0:y.2.2.2.1.2.1≠0
 q:l9 y.2.2.2.1.2.1
 p:0<=y.2.2.2.2.1/\y.2.2.2.2.1<=2147483647
 g:0<=y.2.2.2.2.2.1/\y.2.2.2.2.2.1<=(n:Int)
 d:0<=y.2.2.2.2.2.2.1/\y.2.2.2.2.2.2.1<=2097152
 s:1<=y.2.2.2.2.2.2.2.1/\y.2.2.2.2.2.2.2.1<=5
structure cn(dy:Int)(M:List aW)(I:List bF)(A:List bf)(C:List aD)(ch:List bz)(gr:List bP)(gv:List bZ)(bk sa:List bC)(pu:List aR)(ho:List bg):Prop where
 dy:0<=dy/\dy<=1048576
 mA:qU (·.1) M
 mO:∀m∈M,Af m
 iA:qU (·.1) I
 iO:∀i∈I,Rw i
 aA:qU (·.1) A
 aO:∀a∈A,qf a
 cA:qU (·.1) C
 cO:∀a∈C,WV a
 cM:∀a∈C,ly (·.1) M a.2.1
 hO:∀x∈ch,(s5 C x.1/\s5 C x.2.1)/\x.1≠x.2.1
 hS:jR (ch.map (·.1))
 gI:Idx (·.1) gr
 gO:∀g∈gr,aqM C I g
 gL:gr.length<=64
 vI:Idx (·.1) gv
 vO:∀g∈gv,aqN C I gr.length g
 vL:gv.length<=64
 b:LW (s5 C) (ly (·.1) I) bk
 s:LW (s5 C) (ly (·.1) I) sa
 p:QN (G0 C) pu
 h:LV (G0 C) (ly (·.1) A) ho
 bal:∀j,lu bk j+lu sa j=0
def Co(s:aV):Prop:=cn s.1 s.2.1 s.2.2.1 s.2.2.2.1 s.2.2.2.2.1 s.2.2.2.2.2.1 s.2.2.2.2.2.2.1 s.2.2.2.2.2.2.2.1 s.2.2.2.2.2.2.2.2.1 s.2.2.2.2.2.2.2.2.2.1 s.2.2.2.2.2.2.2.2.2.2.1 s.2.2.2.2.2.2.2.2.2.2.2.1
def Siz(a b:Nat)(s:aV):Prop:=(I4 s.2.2.2.2.1).length<=a/\(bk s).length+(sa s).length<=2*b
theorem Mj{α}{f}{l:List α}(h:qU f l)(n:Nat)(hb:∀x∈l,1<=f x/\f x<=(n:Int)):l.length<=n:=by
 have h2:=J0 (l:=l.map f) (U:=(List.range n).map λi=>((i:Nat):Int)+1) (wE (λ{a b} (hab:a<b)=>Int.ne_of_lt hab) h) λx hx=>by obtain⟨y,hy,rfl⟩:=aN.1 hx;have:=hb y hy;exact aN.2 ⟨(f y-1).toNat,Cg.2 (by omega),by omega⟩
 rwa [bh,bh,List.length_range]at h2
theorem ahx{α}{f}{l:List α}(h:Idx f l):qU f l:=by unfold qU;rw[bN];intro i j hi hj hij;rw[bh]at hi hj;rw[pR,pR,h i hi,h j hj];omega
theorem YM{α}{f}{l:List α}(h:Idx f l):∀x∈l,1<=f x/\f x<=(l.length:Int):=λx hx=>by obtain⟨i,hi,rfl⟩:=jL hx;rw[h i hi];omega
theorem ahy{α}{f}{g:α->α}(hg:∀y,f (g y)=f y){l:List α}(h:Idx f l):Idx f (l.map g):=λi hi=>by rw[pR,hg];exact h i (by simpa using hi)
theorem ab7{α}{f}{l:List α}{x:α}(h:Idx f l)(hx:f x=(l.length:Int)+1):Idx f (l++[x]):=λi hi=>by
 rw[ap]at hi;simp only[aJ,eJ]at hi;by_cases h0:i<l.length
 .rw[tL h0];exact h i h0
 .have:i=l.length:=by omega
  subst this;rw[nE (au _)];simpa using hx
theorem ahz{α}(f:α->Int):Idx f []:=λi h=>absurd h (Nat.not_lt_zero _)
theorem WV.len{a:aD}(O:WV a):a.2.2.2.1.length<=16:=Mj O.s 16 O.c
theorem Af.len{M}(h:qU (·.1) M)(O:∀m∈M,Af m):M.length<=8:=Mj h 8 λm hm=>⟨(O m hm).1,(O m hm).2.1⟩
namespace cn
variable {dy : Int} {M : List aW} {I : List bF} {A : List bf} {C : List aD} {ch : List bz} {gr : List bP} {gv : List bZ} {bk sa : List bC} {pu : List aR} {ho : List bg}
theorem mL(L:cn dy M I A C ch gr gv bk sa pu ho):M.length<=8:=Af.len L.mA L.mO
theorem iL(L:cn dy M I A C ch gr gv bk sa pu ho):I.length<=8:=Mj L.iA 8 λi hi=>(L.iO i hi).1
theorem aL(L:cn dy M I A C ch gr gv bk sa pu ho):A.length<=4:=Mj L.aA 4 λi hi=>(L.aO i hi).1
theorem cL(L:cn dy M I A C ch gr gv bk sa pu ho):C.length<=16:=Mj L.cA 16 λi hi=>(L.cO i hi).h.1
theorem hL(L:cn dy M I A C ch gr gv bk sa pu ho):ch.length<=(I4 C).length:=by
 have:=J0 (l:=ch.map (·.1)) (U:=I4 C) (Oh L.hS) λx hx=>by obtain⟨y,hy,rfl⟩:=aN.1 hx;exact(L.hO y hy).1.1
 rwa [bh]at this
theorem bL(L:cn dy M I A C ch gr gv bk sa pu ho):bk.length<=(I4 C).length:=L.b.len λ_ h=>h
theorem sL(L:cn dy M I A C ch gr gv bk sa pu ho):sa.length<=(I4 C).length:=L.s.len λ_ h=>h
theorem SB{C}:∀u,G0 C u->u∈I4 C++[fU,tU]:=λu h=>by
 rcases h with h|h|h
 .exact aT.2 (.inl h)
 .exact aT.2 (.inr (by simp[h]))
 .exact aT.2 (.inr (by simp[h]))
theorem pL(L:cn dy M I A C ch gr gv bk sa pu ho):pu.length<=(I4 C).length+2:=by have:=L.p.len SB;rw[ap]at this;exact this
theorem oL(L:cn dy M I A C ch gr gv bk sa pu ho):ho.length<=(I4 C).length+2:=by have:=L.h.len SB;rw[ap]at this;exact this
theorem VE(L:cn dy M I A C ch gr gv bk sa pu ho):VE I:=⟨λi hi=>by have:=(L.iO i hi).2.2.2.2.1;omega,by have:=L.iL;omega⟩
theorem rC(L:cn dy M I A C ch gr gv bk sa pu ho):rC C:=⟨λa ha=>by have:=(L.cO a ha).len;omega,by have:=L.cL;omega⟩
theorem VF(L:cn dy M I A C ch gr gv bk sa pu ho):VF I:=⟨λi hi=>by have:=L.iO i hi;unfold Rw at this;exact⟨this.2.1,⟨this.2.2.1.1,by omega⟩,⟨this.2.2.2.1.1,by omega⟩,this.2.2.2.2.1⟩,by have:=L.iL;omega⟩
theorem aq0(L:cn dy M I A C ch gr gv bk sa pu ho):aq0 I:=⟨L.iO,by have:=L.iL;omega⟩
theorem aqO{l:List Int}(h:l.any SC=false):∀x∈l,cu x:=λx hx=>by have:=kS.1 h x hx;unfold SC at this;simp only[fI,bb,not_or]at this;unfold cu;omega
theorem uS(L:cn dy M I A C ch gr gv bk sa pu ho):OkT I:=⟨by have:=L.iL;omega,λi hi=>⟨by have:=(L.iO i hi).2.2.2.2.1;omega,aqO (L.iO i hi).2.2.2.2.2⟩⟩
end cn
structure zM(d:aK):Prop where
 L:Co (cK d)
 u:(I4 (bR d)).length<=90
 t:(dv d).length+(fW d).length<=90
 b:(dv d).length<=64
 s:(fW d).length<=64
 q:cu (dR d)
 n:(ua d).length<=1000
theorem zM.of{d}{a b}(L:Co (cK d))(S:Siz a b (cK d))(h:a+b<=90)(hq:cu (dR d))(hn:(ua d).length<=1000):zM d:=by obtain⟨s1,s2⟩:=S;have s1:(I4 (bR d)).length<=a:=s1;have s2:(dv d).length+(fW d).length<=2*b:=s2;have h1:(dv d).length<=(I4 (bR d)).length:=cn.bL L;have h2:(fW d).length<=(I4 (bR d)).length:=cn.sL L;exact⟨L,by omega,by omega,by omega,by omega,hq,hn⟩
theorem zM.ab8{d:aK}(Z:zM d):amz d:=⟨cn.VE Z.L,(cn.b Z.L).okB (by have:=Z.b;show(dv d).length<=100;omega),Z.b,(cn.p Z.L).f,by have h:=cn.pL Z.L;have:=Z.u;have h:(gu d).length<=(I4 (bR d)).length+2:=h;omega⟩
theorem zM.Oi{d:aK}(Z:zM d):Fu d:=
 { Z.ab8 with
  a:=cn.rC Z.L
  al:=by have h:(bR d).length<=16:=cn.cL Z.L;omega
  as:=cn.cA Z.L
  m:=by have h:(fi d).length<=8:=cn.mL Z.L;omega
  ms:=cn.mA Z.L
  is:=cn.iA Z.L
  g:=cn.gL Z.L
  gs:=ahx (cn.gI Z.L)
  gi:=λx hx=>by have h:=YM (cn.gI Z.L) x hx;have:=cn.gL Z.L;have h:=h;omega
  gl:=λx hx=>by have h:=(cn.gO Z.L x hx).l;unfold l9 at h;unfold cu;omega
  v:=cn.vL Z.L
  vs:=ahx (cn.vI Z.L)
  vi:=λx hx=>by have h:=YM (cn.vI Z.L) x hx;have:=cn.vL Z.L;have h:=h;omega
  vq:=λx hx=>by have h:=(cn.vO Z.L x hx).q;unfold l9 at h;unfold cu;omega
  q:=Z.q }
theorem zM.okN{d}(Z:zM d):OkN d:=
 { Z.Oi with
  ss:=cn.aA Z.L
  sl:=by have h:(ji d).length<=4:=cn.aL Z.L;omega
  n:=Z.n
  cc:=λa ha=>⟨(cn.cO Z.L a ha).s,(cn.cO Z.L a ha).len⟩ }
theorem zM.hs{d}(Z:zM d):lc (fo d):=(cn.h Z.L).lc (by have h:(fo d).length<=(I4 (bR d)).length+2:=cn.oL Z.L;have:=Z.u;show(fo d).length<=400000;omega)
theorem zM.okP{d}(Z:zM d):OkP (cK d) where
 mL:=by have h:(fi d).length<=8:=cn.mL Z.L;show(fi d).length<=10;omega
 mI:=λm hm=>by have h:=cn.mO Z.L m hm;unfold Af at h;unfold cu;omega
 aA:=cn.rC Z.L
 aL:=by have h:(bR d).length<=16:=cn.cL Z.L;show(bR d).length<=20;omega
 aS:=cn.cA Z.L
 cL:=by have h:(jS d).length<=(I4 (bR d)).length:=cn.hL Z.L;have:=Z.u;show(jS d).length<=100;omega
 hb:=Z.ab8.b
 bl:=Z.b
 pf:=(cn.p Z.L).f
 pl:=Z.ab8.pl
 hh:=Z.hs
 hl:=by have h:(fo d).length<=(I4 (bR d)).length+2:=cn.oL Z.L;have:=Z.u;show(fo d).length<=94;omega
theorem zM.am0{d}(Z:zM d):okB (fW d):=(cn.s Z.L).okB (by have:=Z.s;show(fW d).length<=100;omega)
theorem zM.u7{d}(Z:zM d):OkF (cK d) where
 iT:=cn.aq0 Z.L
 mL:=Z.Oi.m
 aA:=cn.rC Z.L
 aS:=cn.cA Z.L
 hb:=Z.ab8.b
 hs:=Z.am0
 bl:=Z.b
 sl:=Z.s
 pf:=(cn.p Z.L).f
 pl:=Z.ab8.pl
theorem zM.okS{d}(Z:zM d):OkS (cK d) where
 a:=cn.aO Z.L
 aL:=by have h:(ji d).length<=4:=cn.aL Z.L;show(ji d).length<=8;omega
 c:=λa ha=>⟨⟨(cn.cO Z.L a ha).h.1.1,(cn.cO Z.L a ha).s|>λh=>by unfold qU at h;rwa [List.map_id']at h⟩,by have:=(cn.cO Z.L a ha).len;omega⟩
 cL:=by have h:(bR d).length<=16:=cn.cL Z.L;show(bR d).length<=20;omega
 f:=(cn.p Z.L).f
 fL:=Z.ab8.pl
 h:=Z.hs
 hL:=Z.okP.hl
theorem zM.am1{d}(Z:zM d):G1 (ji d,fN d,dv d,gu d,fo d,()) where
 a:=cn.aO Z.L
 al:=by have h:(ji d).length<=4:=cn.aL Z.L;dsimp only;omega
 t:=cn.uS Z.L
 b:=Z.ab8.b
 f:=(cn.p Z.L).f
 fl:=by have h:=Z.ab8.pl;dsimp only;omega
 h:=Z.hs
theorem ab9{α}{f}{l:List α}(h:qU f l)(x:α):qU f (VG f l x):=by
 unfold qU VG at *;rw[hJ]
 have e:(f ∘ λy=>if f y=f x then x else y)=f:=funext λy=>by
  show f (if f y=f x then x else y)=f y;split
  .rename_i h;exact h.symm
  .rfl
 rw[e];exact h
theorem SE{α}{f}{l:List α}{x y:α}(h:y∈VG f l x):y=x\/y∈l:=by
 obtain⟨z,hz,rfl⟩:=aN.1 h;split
 .exact .inl rfl
 .exact .inr hz
theorem am2{α}{f}{l:List α}{x:α}{k:Int}(h:ly f l k):ly f (VG f l x) k:=by
 obtain⟨z,hz,e⟩:=h;refine⟨_,aN.2 ⟨z,hz,rfl⟩,?_⟩;split
 .rename_i h2;rw[<-h2];exact e
 .exact e
theorem SF{α}{f}{l:List α}{x:α}{k:Int}(h:ly f l k):ly f (wN f l x) k:=by obtain⟨z,hz,e⟩:=h;exact⟨z,yF.2 (.inr hz),e⟩
theorem RL{α}{f}{g:α->α}{l:List α}{k:Int}(hg:∀y,f (g y)=f y)(h:ly f l k):ly f (l.map g) k:=by obtain⟨z,hz,e⟩:=h;exact⟨g z,dp hz,by rw[hg,e]⟩
theorem Mk{α}{f}{g:α->α}(hg:∀y,f (g y)=f y){l:List α}(h:qU f l):qU f (l.map g):=RM hg h
theorem aqM.mono{C C'}{I I'}{y}(O:aqM C I y)(hC:∀u,s5 C u->s5 C' u)(hI:∀k,ly (·.1) I k->ly (·.1) I' k):aqM C' I' y:=⟨hC _ O.u,hI _ O.i,O.p,O.l⟩
theorem aqN.mono{C C'}{I I'}{n m}{y}(O:aqN C I n y)(hC:∀u,s5 C u->s5 C' u)(hI:∀k,ly (·.1) I k->ly (·.1) I' k)(hn:n<=m):aqN C' I' m y:=⟨hC _ O.f,hC _ O.t,O.ne,hI _ O.i,O.q0,O.q,O.p,⟨O.g.1,by have:=O.g.2;omega⟩,O.d,O.s⟩
theorem G0.mono{C C'}(hC:∀u,s5 C u->s5 C' u)(u)(h:G0 C u):G0 C' u:=h.imp (hC u) id
namespace cn
variable {dy : Int} {M M' : List aW} {I I' : List bF} {A A' : List bf} {C C' : List aD} {ch : List bz} {gr : List bP} {gv : List bZ} {bk sa : List bC} {pu : List aR} {ho : List bg}
theorem axK(L:cn dy M I A C ch gr gv bk sa pu ho)(mA:qU (·.1) M')(mO:∀m∈M',Af m)(hM:∀k,ly (·.1) M k->ly (·.1) M' k):cn dy M' I A C ch gr gv bk sa pu ho:={ L with mA:=mA,mO:=mO,cM:=λa ha=>hM _ (L.cM a ha) }
theorem aqP(L:cn dy M I A C ch gr gv bk sa pu ho)(iA:qU (·.1) I')(iO:∀m∈I',Rw m)(hI:∀k,ly (·.1) I k->ly (·.1) I' k):cn dy M I' A C ch gr gv bk sa pu ho:={ L with iA:=iA,iO:=iO,gO:=λg hg=>(L.gO g hg).mono (λ_ h=>h) hI,vO:=λg hg=>(L.vO g hg).mono (λ_ h=>h) hI (au _),b:=L.b.mono (λ_ h=>h) hI,s:=L.s.mono (λ_ h=>h) hI }
theorem axL(L:cn dy M I A C ch gr gv bk sa pu ho)(aA:qU (·.1) A')(aO:∀m∈A',qf m)(hA:∀k,ly (·.1) A k->ly (·.1) A' k):cn dy M I A' C ch gr gv bk sa pu ho:={ L with aA:=aA,aO:=aO,h:=L.h.mono (λ_ h=>h) hA }
theorem axM(L:cn dy M I A C ch gr gv bk sa pu ho)(cA:qU (·.1) C')(cO:∀m∈C',WV m)(cM:∀a∈C',ly (·.1) M a.2.1)(hC:∀u,s5 C u->s5 C' u):cn dy M I A C' ch gr gv bk sa pu ho:=
 { L with
  cA:=cA,cO:=cO,cM:=cM
  hO:=λx hx=>⟨⟨hC _ (L.hO x hx).1.1,hC _ (L.hO x hx).1.2⟩,(L.hO x hx).2⟩
  gO:=λg hg=>(L.gO g hg).mono hC λ_ h=>h
  vO:=λg hg=>(L.vO g hg).mono hC (λ_ h=>h) (au _)
  b:=L.b.mono hC λ_ h=>h
  s:=L.s.mono hC λ_ h=>h
  p:=L.p.mono (G0.mono hC)
  h:=L.h.mono (G0.mono hC) λ_ h=>h }
end cn
def Kp(x y:Nat)(d e:aK):Prop:=Co (cK e)/\(I4 (bR e)).length<=(I4 (bR d)).length+x/\(dv e).length+(fW e).length<=(dv d).length+(fW d).length+2*y
theorem Kp.up{x y}{d e:aK}(K:Kp 0 0 d e):Kp x y d e:=⟨K.1,by have:=K.2.1;omega,by have:=K.2.2;omega⟩
theorem Kp.avv{d}(L:Co (cK d)):Kp 0 0 d d:=⟨L,au _,au _⟩
theorem am3{l}{id}(h:mG l id=none):∀y∈l,y.1≠id:=xt h
theorem aeY{d:aK}{m:aW}(L:Co (cK d))(h:(J2 (fi d) m).2.1=0):Kp 0 0 d (SG d (J2 (fi d) m).1):=by
 unfold J2 at h ⊢;by_cases h1:Af m;case neg=>rw[ag h1]at h;cases h
 rw[ah h1]at h ⊢;by_cases h2:mG (fi d) m.1=none;case neg=>rw[ag h2]at h;cases h
 rw[ah h2];exact⟨cn.axK L (Ml (cn.mA L) (am3 h2)) (λy hy=>(yF.1 hy).elim (λe=>by rw[e];exact h1) (cn.mO L y)) λk hk=>SF hk,au _,au _⟩
theorem SH{d:aK}{m:aW}(L:Co (cK d))(h:(Dr (fi d) m).2.1=0):Kp 0 0 d (SG d (Dr (fi d) m).1):=by
 unfold Dr at h ⊢;by_cases h1:Af m;case neg=>rw[ag h1]at h;cases h
 rw[ah h1]at h ⊢;by_cases h2:mG (fi d) m.1=none;case pos=>rw[ah h2]at h;cases h
 rw[ag h2];exact⟨cn.axK L (ab9 (cn.mA L) m) (λy hy=>(SE hy).elim (λe=>by rw[e];exact h1) (cn.mO L y)) λk hk=>am2 hk,au _,au _⟩
theorem aeZ{d:aK}{m:bF}(L:Co (cK d))(h:(J3 (fN d) m).2.1=0):Kp 0 0 d (am4 d (J3 (fN d) m).1):=by
 unfold J3 at h ⊢;by_cases h1:Rw m;case neg=>rw[ag h1]at h;cases h
 rw[ah h1]at h ⊢;by_cases h2:pq (fN d) m.1=none;case neg=>rw[ag h2]at h;cases h
 rw[ah h2];exact⟨cn.aqP L (Ml (cn.iA L) (xt h2)) (λy hy=>(yF.1 hy).elim (λe=>by rw[e];exact h1) (cn.iO L y)) λk hk=>SF hk,au _,au _⟩
theorem ajD{d:aK}{m:bf}(L:Co (cK d))(h:(SI (ji d) m).2.1=0):Kp 0 0 d (SJ d (SI (ji d) m).1):=by
 unfold SI at h ⊢;by_cases h1:qf m;case neg=>rw[ag h1]at h;cases h
 rw[ah h1]at h ⊢;by_cases h2:SK (ji d) m.1=none;case neg=>rw[ag h2]at h;cases h
 rw[ah h2];exact⟨cn.axL L (Ml (cn.aA L) (xt h2)) (λy hy=>(yF.1 hy).elim (λe=>by rw[e];exact h1) (cn.aO L y)) λk hk=>SF hk,au _,au _⟩
theorem ah0{a}(h:okA a=true):WV a:=by
 unfold okA at h;rw[aB]at h;obtain⟨h1,h2⟩:=h;rw[G3]at h2;unfold Oj at h2;simp only[bb]at h2;refine⟨bM h1,?_,λx hx=>?_⟩
 .unfold qU;rw[List.map_id']
  have step:∀i (hi:i+1<a.2.2.2.1.length),a.2.2.2.1[i]<a.2.2.2.1[i+1]:=λi hi=>by
   have:=(h2 (i+1) hi).2.2 (by omega)
   rwa [abA (by omega)]at this
  rw[bN];intro i j hi hj hij;obtain⟨k,rfl⟩:∃k,j=i+k+1:=⟨j-i-1,by omega⟩;clear hij;induction k with
  |zero=>exact step i hj
  |succ k ih=>exact F1 (ih (by omega)) (step (i+k+1) hj)
 .obtain⟨i,hi,rfl⟩:=jL hx;have:=h2 i hi;omega
theorem aqQ{a}(O:WV a):okA a=true:=by unfold okA;rw[aB];refine⟨aq O.h,?_⟩;rw[G3];unfold Oj;simp only[bb];intro i hi;have h1:=O.c _ (aG hi);refine⟨h1.1,h1.2,λh0=>?_⟩;obtain⟨j,rfl⟩:∃j,i=j+1:=⟨i-1,by omega⟩;rw[abA (by omega)];have hs:=O.s;unfold qU at hs;rw[List.map_id',bN]at hs;exact hs j (j+1) (by omega) hi (by omega)
theorem aqR{C}{a}:(I4 (wN (·.1) C a)).length=(I4 C).length+(bY a).length:=by
 have e:=jU (p:=λy:aD=>decide (y.1<a.1)) (l:=C);have h:(I4 C).length=(I4 (C.takeWhile λy:aD=>decide (y.1<a.1))).length+(I4 (C.dropWhile λy:aD=>decide (y.1<a.1))).length:=by rw[<-ap];unfold I4;rw[<-jK,e]
 show(I4 ((C.takeWhile λy:aD=>decide (y.1<a.1))++a::C.dropWhile λy:aD=>decide (y.1<a.1))).length=_;rw[h];unfold I4;rw[jK,cw,ap,ap];omega
theorem am5{C}{a}{u}(h:s5 C u):s5 (wN (·.1) C a) u:=by obtain⟨b,hb,hu⟩:=eG.1 h;exact eG.2 ⟨b,yF.2 (.inr hb),hu⟩
theorem WW{l}{id}{m}(h:mG l id=some m):m∈l/\m.1=id:=⟨bT h,by have:=jP h;simpa using this⟩
theorem am6{d}(h:(lz d).2.1=0):(lz d).1∈fi d/\(lz d).1.1=AZ d:=by
 unfold lz at h ⊢;cases hf:mG (fi d) (AZ d)with
 |none=>rw[hf]at h;cases h
 |some m=>exact WW hf
theorem ajE{d:aK}(L:Co (cK d))(h:(Ol d).1=0):Kp 1 0 d (Ol d).2:=by
 unfold Ol at h ⊢;by_cases h1:uu d=0;case neg=>rw[ag h1]at h;cases h
 rw[ah h1]at h ⊢;by_cases h2:Mm d=0;case neg=>rw[ag h2]at h;exact absurd h h2
 rw[ah h2]at h ⊢
 have hm:ly (·.1) (fi d) (AZ d):=by
  unfold Mm at h2;by_cases h3:(lz d).2.1=0;case neg=>rw[ag h3]at h2;exact absurd h2 h3
  exact⟨_,am6 h3⟩
 have h:=h;dsimp only;unfold SL at h ⊢;by_cases h3:okA (Mn d)=true;case neg=>rw[ag h3]at h;cases h
 rw[ah h3]at h ⊢;by_cases h4:gP (bR d) (Mn d).1=none;case neg=>rw[ag h4]at h;cases h
 rw[ah h4];refine⟨cn.axM L (Ml (cn.cA L) (xt h4)) (λy hy=>(yF.1 hy).elim (λe=>by rw[e];exact ah0 h3) (cn.cO L y)) (λy hy=>(yF.1 hy).elim (λe=>by rw[e];exact hm) (cn.cM L y)) λu hu=>am5 hu,?_,au _⟩;show(I4 (wN (·.1) (bR d) (Mn d))).length<=_;rw[aqR];have:(bY (Mn d)).length<=1:=by unfold bY Mn;split<;>simp
 omega
theorem Ei{l}{id}{m}(h:gP l id=some m):m∈l/\m.1=id:=⟨bT h,by have:=jP h;simpa using this⟩
theorem am7{α}{f}{x:α}{l:List α}(h:qU f (x::l)):∀y∈l,f y≠f x:=λy hy=>by unfold qU at h;rw[bK,bD]at h;have:=h.1 (f y) (dp hy);omega
theorem ah1{b}{n:Nat}:∀{C:List aD},qU (·.1) C->(∀y∈C,y.1=b.1->(bY b).length<=(bY y).length+n)->(I4 (VG (·.1) C b)).length<=(I4 C).length+n
 |[],_,_=>by show(0:Nat)<=0+n;omega
 |y::C,h,hb=>by
  have hne:=am7 h;have hC:qU (λa:aD=>a.1) C:=by unfold qU at h ⊢;rw[bK,bD]at h;exact h.2
  unfold VG;rw[bK];by_cases hy:y.1=b.1
  .rw[ah hy];have e:(C.map λz:aD=>if z.1=b.1 then b else z)=C:=by refine(tg λz hz=>?_).trans (Dd _);rw[ag (by rw[<-hy];exact hne z hz)];rfl
   rw[e];show((b::C).flatMap bY).length<=((y::C).flatMap bY).length+n;rw[cw,cw,ap,ap];have:=hb y (by simp) hy;omega
  .rw[ag hy];have ih:((C.map λz:aD=>if z.1=b.1 then b else z).flatMap bY).length<=(C.flatMap bY).length+n:=ah1 hC λz hz=>hb z (by simp[hz])
   show((y::C.map λz:aD=>if z.1=b.1 then b else z).flatMap bY).length<=((y::C).flatMap bY).length+n;rw[cw,cw,ap,ap];omega
theorem Mo{α}{f:α->Int}:∀{l:List α},qU f l->∀{x y:α},x∈l->y∈l->f x=f y->x=y
 |[],_,x,_,hx,_,_=>by cases hx
 |z::l,h,x,y,hx,hy,e=>by
  have hne:=am7 h;have hl:qU f l:=by unfold qU at h ⊢;rw[bK,bD]at h;exact h.2
  rcases aF.1 hx with hx1|hx1
  .rcases aF.1 hy with hy1|hy1
   .rw[hx1,hy1]
   .exact absurd (by rw[<-e,hx1]) (hne y hy1)
  .rcases aF.1 hy with hy1|hy1
   .exact absurd (by rw[e,hy1]) (hne x hx1)
   .exact Mo hl hx1 hy1 e
theorem am8{d:aK}(L:Co (cK d))(h:(WX d).1=0):Kp 1 0 d (WX d).2:=by
 unfold WX at h ⊢;cases hf:gP (bR d) (wW d)with
 |none=>rw[hf]at h;cases h
 |some a=>
  rw[hf]at h;obtain⟨ha,hk⟩:=Ei hf;dsimp only at h ⊢;by_cases h1:(abB d a.2.1).2.2.1=0;case neg=>rw[ag h1]at h;cases h
  rw[ah h1]at h ⊢;by_cases h2:(uc a (uu d)).2.1=0;case neg=>rw[ag h2]at h;exact absurd h h2
  rw[ah h2]at h ⊢;have O:=cn.cO L a ha
  have hb:∃c,¬a.2.2.1=1/\(uc a (uu d)).1=(a.1,a.2.1,a.2.2.1,wN (λx:Int=>x) a.2.2.2.1 c,()):=by
   unfold uc at h2 ⊢;rw[ah (aqQ O)]at h2 ⊢;by_cases h3:a.2.2.1=1;case pos=>rw[ah h3]at h2;cases h2
   rw[ag h3]at h2 ⊢;split;case isTrue h4=>rw[ah h4]at h2;cases h2
   rename_i h4;rw[ag h4]at h2;split;case isTrue h5=>rw[ah h5]at h2;cases h2
   rename_i h5;rw[ag h5]at h2;split;case isTrue h6=>rw[ah h6]at h2;cases h2
   exact⟨_,h3,rfl⟩
  obtain⟨c,h3,eb⟩:=hb;rw[eb]at h ⊢;have h:=h;unfold SM at h ⊢;split;case isFalse h4=>rw[ag h4]at h;cases h
  rename_i h4;rw[ah h4]at h;split;case isTrue h5=>rw[ah h5]at h;cases h
  have hu:∀u,u∈bY a->u∈bY (a.1,a.2.1,a.2.2.1,wN (λx:Int=>x) a.2.2.2.1 c,()):=λu hu=>by unfold bY at hu ⊢;rw[ag h3]at hu ⊢;obtain⟨z,hz,rfl⟩:=aN.1 hu;exact aN.2 ⟨z,yF.2 (.inr hz),rfl⟩
  refine⟨cn.axM L (ab9 (cn.cA L) _) (λy hy=>(SE hy).elim (λe=>by rw[e];exact ah0 h4) (cn.cO L y)) (λy hy=>(SE hy).elim (λe=>by rw[e];exact cn.cM L a ha) (cn.cM L y)) λu hu2=>?_,?_,au _⟩
  .obtain⟨b,hb,hub⟩:=eG.1 hu2;refine eG.2 ⟨_,aN.2 ⟨b,hb,rfl⟩,?_⟩;split
   .rename_i e;rw[Mo (cn.cA L) hb ha e]at hub;exact hu u hub
   .exact hub
  .refine ah1 (cn.cA L) λy hy e=>?_
   rw[Mo (cn.cA L) hy ha e];unfold bY;rw[ag h3,ag h3,bh,bh];rw[abC];omega
theorem ajF{d}(L:Co (cK d))(h:(Om d).1=0):Kp 1 0 d (Om d).2:=by
 unfold Om at h ⊢;split;case isTrue h1=>rw[ah h1]at h;exact(aeY L h).up
 rename_i h1;rw[ag h1]at h;split;case isTrue h2=>rw[ah h2]at h;exact(aeZ L h).up
 rename_i h2;rw[ag h2]at h;split;case isTrue h3=>rw[ah h3]at h;exact(ajD L h).up
 rename_i h3;rw[ag h3]at h;split;case isTrue h4=>rw[ah h4]at h;exact ajE L h
 rename_i h4;rw[ag h4]at h;split;case isTrue h5=>rw[ah h5]at h;exact am8 L h
 rename_i h5;rw[ag h5]at h;split
 case isTrue h6=>
  rw[ah h6]at h;split;case isTrue h7=>rw[ah h7]at h;exact(SH L h).up
  rename_i h7;rw[ag h7]at h;exact absurd h h7
 exact(Kp.avv L).up
theorem ajG{C}{u}(h:ud C u≠0):s5 C u:=by
 unfold ud at h;cases hf:C.find? (λa=>AN a u)with
 |none=>rw[hf]at h;exact absurd rfl h
 |some a=>have h1:=bT hf;have h2:=jP hf;exact eG.2 ⟨a,h1,bM h2⟩
theorem YN{d}{u}(h:Vr d u=0):s5 (bR d) u:=by
 unfold Vr at h;by_cases h1:ud (bR d) u=0
 .rw[ah h1]at h;cases h
 .exact ajG h1
theorem tu{d}:∀{l:List ar},pY d l=0->∀u∈l,s5 (bR d) u
 |[],_,u,hu=>by cases hu
 |v::l,h,u,hu=>by
  unfold pY at h;by_cases h1:Vr d v=0;case neg=>rw[ag h1]at h;exact absurd h h1
  rw[ah h1]at h;by_cases h2:(Ej d v).2.2.1=0;case neg=>rw[ag h2]at h;cases h
  rw[ah h2]at h;rcases aF.1 hu with rfl|hu
  .exact YN h1
  .exact tu h u hu
theorem SN{d}{id}(h:(s6 d id).2.1=0):(s6 d id).1∈fN d/\(s6 d id).1.1=id:=by
 unfold s6 at h ⊢;cases hf:pq (fN d) id with
 |none=>rw[hf]at h;cases h
 |some m=>exact Sd hf
theorem am9{d}{f t x}{p:Int}(L:Co (cK d))(hf:s5 (bR d) f)(ht:s5 (bR d) t)(h:(On d f t x p).1=0):Kp 0 1 d (On d f t x p).2:=by
 unfold On at h ⊢;by_cases h1:(s6 d x.1).2.1=0;case neg=>rw[ag h1]at h;exact absurd h h1
 rw[ah h1]at h ⊢;by_cases h2:(atP (dv d,gu d,()) (s6 d x.1).1 f t x.2.1 p).2.1=0;case neg=>rw[ag h2]at h;exact absurd h h2
 rw[ah h2];have hk:=SN h1;generalize (s6 d x.1).1=i at *;have T:=atF h2;have hki:ly (·.1) (fN d) i.1:=⟨i,hk.1,rfl⟩
 have hb:(zL (dv d) f t i.1 x.2.1).2.1=0/\(jh (gu d) f t (gZ i x.2.1 p i.2.2.1)).2.1=0/\
  (atP (dv d,gu d,()) i f t x.2.1 p).1=((zL (dv d) f t i.1 x.2.1).1,(jh (gu d) f t (gZ i x.2.1 p i.2.2.1)).1,()):=by
  unfold atP at h2 ⊢;split;case isFalse g=>rw[ag g]at h2;cases h2
  rename_i g1;rw[ah g1]at h2;rw[ah T.right,ag T.ne,ah T.fit]at h2 ⊢;split;case isFalse g=>rw[ag g]at h2;exact absurd h2 g
  rename_i g2;rw[ah g2]at h2;split;case isFalse g=>rw[ag g]at h2;exact absurd h2 g
  rename_i g3;exact⟨g2,g3,rfl⟩
 obtain⟨b1,b2,b3⟩:=hb;have hB:=(cn.b L).axJ hf ht hki b1;have hP:=(cn.p L).move (.inl hf) (.inl ht) b2;have M:=ah2 b1;rw[b3];exact⟨{ L with b:=hB,p:=hP,bal:=λj=>(bA (· + lu (fW d) j) (M.opn j)).trans (cn.bal L j) },au _,by have:=M.len;show(zL (dv d) f t i.1 x.2.1).1.length+(fW d).length<=(dv d).length+(fW d).length+2*1;omega⟩
theorem amA{d}(L:Co (cK d))(h:(WY d).1=0):Kp 0 1 d (WY d).2:=by
 unfold WY at h ⊢;split;case isFalse g=>rw[ag g]at h;exact absurd h g
 rename_i h1;rw[ah h1]at h;split;case isFalse g=>rw[ag g]at h;exact absurd h g
 rename_i h2;rw[ah h2]at h;split;case isTrue g=>rw[ah g]at h;cases h
 rename_i h3;rw[ag h3]at h;split;case isFalse g=>rw[ag g]at h;exact absurd h g
 rename_i h4;exact am9 L (tu h1 _ (by simp)) (tu h1 _ (by simp)) h4
theorem ajH{l}(h:Idx (·.1) l):Ek l=(l.length:Int):=by
 unfold Ek;cases hl:l.getLast? with
 |none=>rw[List.getLast?_eq_none_iff]at hl;subst hl;rfl
 |some g=>
  have hne:l≠[]:=λe=>by subst e;cases hl
  have e:=zn hne;rw[e]at hl;injection hl with hl;rw[<-hl,List.getLast_eq_getElem];have hp:=ga.2 hne;have:=h (l.length-1) (by omega);dsimp only;have this:(l[l.length-1]).1=((l.length-1:Nat):Int)+1:=this;omega
theorem ajI{l}(h:Idx (·.1) l):G4 l=(l.length:Int):=by
 unfold G4;cases hl:l.getLast? with
 |none=>rw[List.getLast?_eq_none_iff]at hl;subst hl;rfl
 |some g=>
  have hne:l≠[]:=λe=>by subst e;cases hl
  have e:=zn hne;rw[e]at hl;injection hl with hl;rw[<-hl,List.getLast_eq_getElem];have hp:=ga.2 hne;have this:(l[l.length-1]).1=((l.length-1:Nat):Int)+1:=h (l.length-1) (by omega);dsimp only;omega
structure axN(d:aK)(y:bZ):Prop where
 f:s5 (bR d) y.2.1
 t:s5 (bR d) y.2.2.1
 i:ly (·.1) (fN d) y.2.2.2.1.1
 q:l9 y.2.2.2.1.2.1
 p:0<=y.2.2.2.2.1/\y.2.2.2.2.1<=2147483647
 g:0<=y.2.2.2.2.2.1/\y.2.2.2.2.2.1<=((dY d).length:Int)
theorem abD{d}{g}(L:Co (cK d))(N:axN d g)(h:(G5 d g).1=0):Kp 0 0 d (G5 d g).2:=by
 unfold G5 at h ⊢;by_cases h1:(Mp (cx d) g (gw d)).2.2.1=0;case neg=>rw[ag h1]at h;exact absurd h h1
 rw[ah h1];have hi:Idx (·.1) (cx d):=cn.vI L
 have e:(Mp (cx d) g (gw d)).1=cx d++[amB (1+Ek (cx d)) g (gw d)]/\g.2.1≠g.2.2.1/\g.2.2.2.1.2.1≠0/\(0<=gw d/\gw d<=1048576)/\(cx d).length<64:=by
  unfold Mp at h1 ⊢;split;case isTrue g1=>rw[ah g1]at h1;cases h1
  rename_i g1;rw[ag g1]at h1;split;case isTrue g2=>rw[ah g2]at h1;cases h1
  rename_i g2;rw[ag g2]at h1;split;case isTrue g3=>rw[ah g3]at h1;cases h1
  rename_i g3;exact⟨rfl,g1,λe=>g2 (.inl e),by omega,by omega⟩
 obtain⟨e,h2,h3,h4,h5⟩:=e;rw[e];refine⟨{ L with vI:=?_,vO:=λy hy=>?_,vL:=?_ },au _,au _⟩
 .refine ab7 hi ?_;show 1+Ek (cx d)=((cx d).length:Int)+1;rw[ajH hi];omega
 .rcases aT.1 hy with hy|hy
  .exact cn.vO L y hy
  .rw[aC.1 hy];exact⟨N.f,N.t,h2,N.i,h3,N.q,N.p,N.g,by show 0<=gw d+8/\gw d+8<=2097152;omega,by show(1:Int)<=1/\(1:Int)<=5;omega⟩
 .show(cx d++[amB (1+Ek (cx d)) g (gw d)]).length<=64;rw[ap];simp only[aJ,eJ];omega
theorem amC{d}(L:Co (cK d))(h:(WZ d).1=0):Kp 0 0 d (WZ d).2:=by
 unfold WZ at h ⊢;split;case isFalse g=>rw[ag g]at h;exact absurd h g
 rename_i h1;rw[ah h1]at h;split;case isFalse g=>rw[ag g]at h;exact absurd h g
 rename_i h2;rw[ah h2]at h;split;case isTrue g=>rw[ah g]at h;cases h
 rename_i h3;rw[ag h3]at h;have hk:=SN h2;exact abD L ⟨tu h1 (aZ d) (by simp),tu h1 (cN d) (by simp),⟨_,hk.1,hk.2⟩,by show l9 (dR d);unfold l9;omega,by show 0<=lR d/\lR d<=2147483647;omega,by show(0:Int)<=0/\(0:Int)<=_;omega⟩ h
theorem abE{d}{id st:Int}(L:Co (cK d))(h:(eZ (cx d) id st).2.1=0):Co (cK (Ds d (eZ (cx d) id st).1)):=by
 have NY:2<=st/\st<=5:=by
  unfold eZ at h;split at h
  .cases h
  .split at h
   .cases h
   .omega
 rw[ah3 h];have hg:∀y:bZ,(if y.1=id then PL st y else y).1=y.1:=λy=>by split<;>rfl
 refine { L with vI:=ahy hg (cn.vI L),vO:=λy hy=>?_,vL:=by have:=cn.vL L;show((cx d).map _).length<=64;rw[bh];exact this };obtain⟨z,hz,rfl⟩:=aN.1 hy;have O:=cn.vO L z hz;split
 .exact⟨O.f,O.t,O.ne,O.i,O.q0,O.q,O.p,O.g,O.d,by show 1<=st/\st<=5;omega⟩
 .exact O
theorem abF{d}{id n:Int}(L:Co (cK d))(hn:l9 n):Co (cK (G6 d ((dY d).map λy=>if y.1=id then kv n y else y))):=by
 have hg:∀y:bP,(if y.1=id then kv n y else y).1=y.1:=λy=>by split<;>rfl
 have hl:((dY d).map λy:bP=>if y.1=id then kv n y else y).length=(dY d).length:=bh ..;refine { L with gI:=ahy hg (cn.gI L),gO:=λy hy=>?_,gL:=?_,vO:=λy hy=>(cn.vO L y hy).mono (λ_ h=>h) (λ_ h=>h) (F2 hl.symm) }
 .obtain⟨z,hz,rfl⟩:=aN.1 hy;have O:=cn.gO L z hz;split
  .exact⟨O.u,O.i,O.p,hn⟩
  .exact O
 .have:=cn.gL L;show((dY d).map λy:bP=>if y.1=id then kv n y else y).length<=64;rw[hl];exact this
theorem YO{d}{id st:Int}(L:Co (cK d))(h:(I5 d id st).1=0):Kp 0 0 d (I5 d id st).2:=by
 unfold I5 at h ⊢;split;case isFalse g=>rw[ag g]at h;exact absurd h g
 rename_i h1;rw[ah h1]at h;have L1:=abE L h1;split;case isTrue=>exact⟨L1,au _,au _⟩
 rename_i h2;rw[ag h2]at h;split;case isFalse g=>rw[ag g]at h;exact absurd h g
 rename_i h3;obtain⟨n,hn,e⟩:=ah4 h3;rw[e];exact⟨abF (d:=Ds d (eZ (cx d) id st).1) L1 hn,au _,au _⟩
theorem Kp.trans{x y}{d e f}(K:Kp 0 0 d e)(J:Kp x y e f):Kp x y d f:=⟨J.1,by have:=K.2.1;have:=J.2.1;omega,by have:=K.2.2;have:=J.2.2;omega⟩
theorem SO{st:Int}:∀{ids:List Int} {d:aK},Co (cK d)->(F' st ids d).1=0->Kp 0 0 d (F' st ids d).2
 |[],d,L,_=>Kp.avv L
 |id::l,d,L,h=>by
  unfold F' at h ⊢;split;case isFalse g=>rw[ag g]at h;exact absurd h g
  rename_i h1;rw[ah h1]at h;have K:=YO L h1;exact K.trans (SO K.1 h)
theorem ajJ{l}{id}{m}(h:CL l id=some m):m∈l/\m.1=id:=⟨bT h,by have:=jP h;simpa using this⟩
theorem W0{l}{id}{m}(h:Ba l id=some m):m∈l/\m.1=id:=⟨bT h,by have:=jP h;simpa using this⟩
theorem afa{d}(L:Co (cK d))(h:(Iq d).1=0):Kp 0 1 d (Iq d).2:=by
 unfold Iq at h ⊢;cases hf:CL (cx d) (xu d)with
 |none=>rw[hf]at h;cases h
 |some g=>
  rw[hf]at h;dsimp only at h ⊢;have O:=cn.vO L g (ajJ hf).1;split;case isFalse g1=>rw[ag g1]at h;exact absurd h g1
  rename_i h1;rw[ah h1]at h;split;case isFalse g1=>rw[ag g1]at h;exact absurd h g1
  rename_i h2;rw[ah h2]at h;have L1:=abE L h2;split;case isFalse g1=>rw[ag g1]at h;exact absurd h g1
  rename_i h3;have K1:Kp 0 0 d (Ds d (eZ (cx d) g.1 2).1):=⟨L1,au _,au _⟩;exact K1.trans (am9 L1 O.f O.t h3)
theorem afb{l}{id q}(hI:∀x∈l,l9 x.2.2.2.2.1)(h:(kO l id q).2.1=0):l9 q/\∃n,l9 n/\(kO l id q).1=l.map λy=>if y.1=id then kv n y else y:=by
 unfold kO at h ⊢;cases hf:Ba l id with
 |none=>rw[hf]at h;cases h
 |some g=>
  rw[hf]at h;dsimp only at h ⊢;have hg:=hI g (W0 hf).1;split;case isTrue g1=>rw[ah g1]at h;cases h
  rename_i h1;rw[ag h1]at h;split;case isTrue g1=>rw[ah g1]at h;cases h
  rename_i h2
  have h1':q≠0/\(g.2.2.2.2.1≠0->(q<0↔g.2.2.2.2.1<0)):=by
   refine⟨λe=>h1 (.inl e),λhne=>?_⟩;have:=cQ λhn=>h1 (.inr ⟨hne,hn⟩)
   exact eF.1 this
  unfold l9 at *;exact⟨by omega,g.2.2.2.2.1-q,by omega,rfl⟩
theorem ajK{d}(L:Co (cK d))(h:(Oo d).1=0):Kp 0 0 d (Oo d).2:=by
 unfold Oo at h ⊢;cases hf:Ba (dY d) (xu d)with
 |none=>rw[hf]at h;cases h
 |some g=>
  rw[hf]at h;dsimp only at h ⊢;obtain⟨hg,_⟩:=W0 hf;have O:=cn.gO L g hg;split;case isFalse g1=>rw[ag g1]at h;exact absurd h g1
  rename_i h1;rw[ah h1]at h;split;case isFalse g1=>rw[ag g1]at h;exact absurd h g1
  rename_i h2;rw[ah h2]at h;obtain⟨hq,n,hn,e⟩:=afb (λx hx=>(cn.gO L x hx).l) h2;rw[e]at h ⊢;have L1:Co (cK (G6 d ((dY d).map λy=>if y.1=g.1 then kv n y else y))):=abF L hn;have K1:Kp 0 0 d (G6 d ((dY d).map λy=>if y.1=g.1 then kv n y else y)):=⟨L1,au _,au _⟩;refine K1.trans (abD L1 ⟨O.u,tu h1 (cN d) (by simp),O.i,hq,O.p,?_⟩ h);have:=YM (cn.gI L) g hg;show 0<=g.1/\g.1<=(((dY d).map λy=>if y.1=g.1 then kv n y else y).length:Int);rw[bh];have this:1<=g.1/\g.1<=((dY d).length:Int):=this;omega
theorem ajL{d}(L:Co (cK d))(h:(Oq d).1=0):Kp 0 0 d (Oq d).2:=by
 unfold Oq at h ⊢;split;case isFalse g1=>rw[ag g1]at h;exact absurd h g1
 rename_i h1;rw[ah h1]at h;split;case isFalse g1=>rw[ag g1]at h;exact absurd h g1
 rename_i h2;rw[ah h2]at h;split;case isFalse g1=>rw[ag g1]at h;exact absurd h g1
 rename_i h3;rw[ah h3]at h;split;case isFalse g1=>rw[ag g1]at h;exact absurd h g1
 rename_i h4;rw[ah h4]at h;split;case isFalse g1=>rw[ag g1]at h;exact absurd h g1
 rename_i h5;rw[ah h5]at h;split;case isFalse g1=>rw[ag g1]at h;exact absurd h g1
 rename_i h6;have hu:=tu h1 _ (aC.2 rfl);have hk:=SN h2;have hp:=(atG h3).2.2.1;have hP:=(cn.p L).move (f:=SP) (.inr (.inr rfl)) (.inl hu) h6;have hi:=cn.gI L
 have e:(G7 (dY d) (VH d)).1=dY d++[(G4 (dY d)+1,(VH d).2)]/\l9 (VH d).2.2.2.2.1/\(dY d).length<64:=by
  unfold G7 at h5 ⊢;split;case isTrue g2=>rw[ah g2]at h5;cases h5
  rename_i g2;rw[ag g2]at h5;split;case isTrue g3=>rw[ah g3]at h5;cases h5
  rename_i g3;exact⟨rfl,cQ λhn=>g2 (.inr hn),by omega⟩
 obtain⟨e,e2,e3⟩:=e;rw[e];refine⟨{ L with gI:=?_,gO:=λy hy=>?_,gL:=?_,vO:=λy hy=>(cn.vO L y hy).mono (λ_ h=>h) (λ_ h=>h) ?_,p:=hP },au _,au _⟩
 .refine ab7 hi ?_;dsimp only;rw[ajI hi]
 .rcases aT.1 hy with hy|hy
  .exact cn.gO L y hy
  .rw[aC.1 hy];exact⟨hu,⟨_,hk.1,hk.2⟩,hp,e2⟩
 .show(dY d++[(G4 (dY d)+1,(VH d).2)]).length<=64;rw[ap];simp only[aJ,eJ];omega
 .show(dY d).length<=(dY d++[(G4 (dY d)+1,(VH d).2)]).length;rw[ap];omega
theorem Kp.b1{d e}(K:Kp 0 0 d e):Kp 0 1 d e:=K.up
theorem ajM{d}(L:Co (cK d))(h:(Ot d).1=0):Kp 0 1 d (Ot d).2:=by
 unfold Ot at h ⊢;split;case isTrue g=>rw[ah g]at h;exact amA L h
 rename_i g;rw[ag g]at h;split;case isTrue g=>rw[ah g]at h;exact(amC L h).b1
 rename_i g;rw[ag g]at h;split;case isTrue g=>rw[ah g]at h;exact afa L h
 rename_i g;rw[ag g]at h;split;case isTrue g=>rw[ah g]at h;exact(YO L h).b1
 rename_i g;rw[ag g]at h;split;case isTrue g=>rw[ah g]at h;exact(YO L h).b1
 rename_i g;rw[ag g]at h;split;case isTrue g=>rw[ah g]at h;exact(ajL L h).b1
 rename_i g;rw[ag g]at h;exact(ajK L h).b1
theorem abG(x):∀l:List Int,(Js x l).length=l.length+1
 |[]=>rfl
 |y::l=>by
  unfold Js;cases decide (x<=y)with
  |true=>rfl
  |false=>show(y::Js x l).length=_;rw[aJ,abG x l];rfl
theorem abH:∀l:List Int,(yG l).length=l.length
 |[]=>rfl
 |x::l=>by rw[yG,abG,abH l];rfl
theorem AE:∀(l:List Int) (p:Option Int),(yH p l).length<=l.length
 |[],_=>au _
 |x::l,p=>by
  unfold yH;have:=AE l (some x);cases ajN p x with
  |true=>show(yH (some x) l).length<=_;rw[aJ];omega
  |false=>show(x::yH (some x) l).length<=_;rw[aJ,aJ];omega
def ofU(d:aK)(u:ar):List Int:=yI (cx d) λg=>decide (g.2.1=u)||decide (g.2.2.1=u)
def PM(d:aK)(l:List ar):List Int:=l.flatMap (ofU d)
def Bb(d:aK)(l:List aD):List Int:=l.flatMap λa=>PM d (bY a)
def SQ(d:aK)(id:Int):List Int:=vv (yG (Bb d ((bR d).filter (rz id))))
theorem W3{d}(hv:(cx d).length<=64)(l):(PM d l).length<=64*l.length:=by
 induction l with
 |nil=>exact bE _
 |cons u l ih=>
  have:=Em (cx d) λg=>decide (g.2.1=u)||decide (g.2.2.1=u)
  unfold PM at ih ⊢;rw[cw,ap,aJ];have:(ofU d u).length<=(cx d).length:=this;omega
theorem SR{a}(h:a.2.2.2.1.length<=16):(bY a).length<=16:=by
 unfold bY;split
 .simp
 .rw[bh];exact h
theorem Ou{d}(hv:(cx d).length<=64)(l)(h:∀a∈l,a.2.2.2.1.length<=16):(Bb d l).length<=1024*l.length:=by
 induction l with
 |nil=>exact bE _
 |cons a l ih=>
  have h1:=W3 hv (bY a);have h2:=SR (h a (by simp));have h3:=ih λb hb=>h b (by simp[hb])
  unfold Bb at h3 ⊢;rw[cw,ap,aJ];omega
theorem aqS{d}(O:OkN d)(id):Bc d id=some (SQ d id,d):=by
 show lC aj d id=_;unfold lC;have hv:=O.v;have wX:=O.al;have N1:((bR d).filter (rz id)).length<=(bR d).length:=cW _ _;have hcc:∀a∈(bR d).filter (rz id),a.2.2.2.1.length<=16:=λa ha=>(O.cc a (aM.1 ha).1).2
 rw[ai (aaP O.a)];unfold SQ;generalize (bR d).filter (rz id)=A at *;refine qi (N:=A.length) (by omega) (λi=>((i:Int),A,Bb d (A.take i),())) _ rfl ?_ ?_
 .intro again;have hA:=Ou hv A hcc;refine IZ ?_;rw[br]
  have e1:YP (Bb d A)=some (yG (Bb d A)):=by
   show(bif Nat.blt (Bb d A).length 4611686018427387904 then some (yG (Bb d A))else none)=_;have:Nat.blt (Bb d A).length 4611686018427387904=true:=by rw[Nat.blt_eq];omega
   rw[this];rfl
  rw[ai e1];rfl
 .intro i hi again ha;have hlen:=Ou hv (A.take i) λa h=>hcc a (fh h)
  rw[aX]at hlen;have hu:=hcc _ (aG hi);have hul:=SR hu;have e:=yr (a:=A[i]) (by omega);refine Jp hi ?_;rw[bO hi,iR hi,ai e];refine qi (N:=(bY A[i]).length) (by omega) (λj=>((j:Int),A,Bb d (A.take i)++PM d ((bY A[i]).take j),bY A[i],())) _ (by simp[PM]) ?_ ?_
  .intro bp;refine IZ ?_;rw[br,cU i (by omega)];rw[ax hi]at ha;unfold Bb at ha ⊢;rw[jK]at ha;simpa using ha
  .intro j hj bp ha2;have Vz:=W3 hv ((bY A[i]).take j);rw[aX]at Vz;have hgl:=Em (cx d) λg=>decide (g.2.1=(bY A[i])[j])||decide (g.2.2.1=(bY A[i])[j])
   refine Jp hj ?_;rw[bO hj,iR hj];show aj.ae (ah5 (cx d) (bY A[i])[j]) _=_;rw[ai (avw (by omega)),cU j (by omega)];show aj.bi ((Bb d (A.take i)++PM d ((bY A[i]).take j)).length+(ofU d (bY A[i])[j]).length) 8 (bp (((j+1:Nat):Int),A,(Bb d (A.take i)++PM d ((bY A[i]).take j))++ofU d (bY A[i])[j],bY A[i],()))=_;have hgl:(ofU d (bY A[i])[j]).length<=(cx d).length:=hgl;rw[dm (by rw[ap];omega) (by rw[ap];omega)];rw[ax hj]at ha2;unfold PM at ha2 ⊢;rw[jK]at ha2;simpa using ha2
theorem ajO{d}(O:OkN d)(id):(SQ d id).length<=1000000:=by
 have wX:=O.al;have N1:((bR d).filter (rz id)).length<=(bR d).length:=cW _ _;have:=Ou O.v ((bR d).filter (rz id)) λa ha=>(O.cc a (aM.1 ha).1).2
 have h2:=AE (yG (Bb d ((bR d).filter (rz id)))) none;rw[abH]at h2;show(yH none (yG (Bb d ((bR d).filter (rz id))))).length<=_;omega
theorem zM.SG{d}(Z:zM d){l:List aW}(K:Kp 0 0 d (SG d l)):zM (SG d l):=⟨K.1,Z.u,Z.t,Z.b,Z.s,Z.q,Z.n⟩
theorem Ir{d}{m:aW}(L:Co (cK d))(h:(Bd d m).1=0):Kp 0 0 d (Bd d m).2:=by
 unfold Bd at h ⊢;split;case isFalse g=>rw[ag g]at h;exact absurd h g
 rename_i g;exact SH L g
theorem zM.avx{d}(Z:zM d){m:aW}(h:(Bd d m).1=0):zM (Bd d m).2:=by
 have K:=Ir Z.L h;unfold Bd at h K ⊢;split;case isFalse g=>rw[ag g]at h;exact absurd h g
 rename_i g;rw[ah g]at K;exact Z.SG K
def Mq(d:aK):aW×Int×Unit:=amD (lz d).1 (gw d) (dR d)
def xv(d:aK):Int×aK:=if(Mq d).2.1=0 then Bd d (Mq d).1 else((Mq d).2.1,d)
def ajP(d:aK):Int×aK:=if(lz d).2.1=0 then(if dR d<0\/16<dR d then(2,d)else(if(xv d).1=0 then F' 4 (SQ (xv d).2 (Mq d).1.1) (xv d).2 else xv d))else((lz d).2.1,d)
theorem avy{d}(Z:zM d):I6 d=some (ajP d):=by
 show kD aj d=_;unfold kD;have O:=Z.Oi;have hm:=O.m;rw[ai (AF (by omega))];show aj.af ((lz d).2.1 != 0) (some ((lz d).2.1,d)) _=_;unfold ajP;by_cases h1:(lz d).2.1=0;case neg=>rw[fV h1,ag h1]
 rw[iZ h1,ah h1];refine bw λk9 RC=>?_
 have kT:k9 (true,())=some (2,d):=by subst RC;rfl
 have kF:k9 (false,())=some (if(xv d).1=0 then F' 4 (SQ (xv d).2 (Mq d).1.1) (xv d).2 else xv d):=by
  subst RC;show aj.ae (SS (lz d).1 (gw d) (dR d)) _=_;rw[ai (amE _ _ _)];refine bw λk7 I0=>?_
  have K7:k7 (xv d)=some (if(xv d).1=0 then F' 4 (SQ (xv d).2 (Mq d).1.1) (xv d).2 else xv d):=by
   subst I0;show aj.af ((xv d).1 != 0) (some (xv d)) (aj.ae (Bc (xv d).2 (Mq d).1.1) _)=_;by_cases h2:(xv d).1=0;case neg=>rw[aQ (by simpa using h2),ag h2]
   have Z2:zM (xv d).2:=by
    unfold xv at h2 ⊢;split
    .rename_i g;rw[ah g]at h2;exact Z.avx h2
    .rename_i g;rw[ag g]at h2;exact absurd h2 g
   rw[az (by simpa using h2),ah h2,ai (aqS Z2.okN _)];show aj.ae (tO (xv d).2 (SQ (xv d).2 (Mq d).1.1) 4) _=_;rw[ai (ah6 Z2.Oi (ajO Z2.okN _))]
  clear I0;show aj.af ((Mq d).2.1==0) (aj.ae (Ga d (Mq d).1) λv8=>k7 v8) (k7 ((Mq d).2.1,d))=_;by_cases h:(Mq d).2.1=0
  .have e:xv d=Bd d (Mq d).1:=by unfold xv;rw[ah h]
   rw[aQ (by simpa using h),ai (YQ O),<-e];exact K7
  .have e:xv d=((Mq d).2.1,d):=by unfold xv;rw[ag h]
   rw[az (by simpa using h),<-e];exact K7
 clear RC;show aj.af (decide (dR d<0)) (k9 (true,())) (k9 (decide (16<dR d),()))=_;refine du (λh3=>?_) λh3=>?_
 .rw[ah (.inl h3)];exact kT
 .by_cases h4:16<dR d
  .rw[ah (.inr h4),aq h4];exact kT
  .rw[ag (by omega),an h4];exact kF
theorem aqT{d}(L:Co (cK d))(h:(ajP d).1=0):Kp 0 0 d (ajP d).2:=by
 unfold ajP at h ⊢;split;case isFalse g=>rw[ag g]at h;exact absurd h g
 rename_i h1;rw[ah h1]at h;split;case isTrue g=>rw[ah g]at h;cases h
 rename_i h2;rw[ag h2]at h;split;case isFalse g=>rw[ag g]at h;exact absurd h g
 rename_i h3;rw[ah h3]at h
 have K:Kp 0 0 d (xv d).2:=by
  unfold xv at h3 ⊢;split
  .rename_i g;rw[ah g]at h3;exact Ir L h3
  .rename_i g;rw[ag g]at h3;exact absurd h3 g
 exact K.trans (SO K.1 h)
def clM(d:aK):aW×Int×Unit:=if(lz d).2.1=0 then wY (lz d).1 (gw d) 2 else lz d
def clT(d:aK):Int×aK:=if(clM d).2.1=0 then Bd d (clM d).1 else((clM d).2.1,d)
def PN(e:aK)(id:Int):Oc:=o5 (Im (cK e) id) (gu e) (fo e) []
def clG(e:aK)(id:Int):aV×List fS×Int×Unit:=SU (gE (cK e) (PN e id).1 (PN e id).2.1) id
def atH(e:aK)(s:aV)(b:List fR)(r:List fS):aK:=yb s (U16 e.2.2.2.2.2.2.2.2.2.2.2.2 (b,r,()))
def clR(e:aK)(id:Int):Int×aK:=if aaQ (cK e) id=[]then(if(PN e id).2.2.2=0 then(if(clG e id).2.2.1=0 then(0,atH e (clG e id).1 (PN e id).2.2.1 (clG e id).2.1)else((clG e id).2.2.1,e))else((PN e id).2.2.2,e))else(21,e)
def abI(d:aK):Int×aK:=if(clT d).1=0 then clR (clT d).2 (clM d).1.1 else clT d
theorem zM.phi{d}(Z:zM d):PJ (G0 (bR d)) (ly (·.1) (ji d)) (gu d) (fo d):=⟨cn.p Z.L,cn.h Z.L⟩
theorem abJ{C}:∀a∈C,∀u∈bY a,G0 C u:=λa ha u hu=>.inl (eG.2 ⟨a,ha,hu⟩)
theorem ah7{d}(Z:zM d){id}(h:(PN d id).2.2.2=0):PJ (G0 (bR d)) (ly (·.1) (ji d)) (PN d id).1 (PN d id).2.1:=aj9 (t:=cK d) (λa ha u hu=>abJ a ha u hu) (.inr (.inr rfl)) (.inr (.inl rfl)) Z.phi h
theorem axO{d}(Z:zM d)(id):(aj.ae (N2 (cK d) id) λv4=>aj.af (decide (0<(v4.length:Int))) (some ((21:Int),d)) (aj.two (aj.ae (Mi (cK d) id) λv5=>
 aj.af (v5.2.2.1 != 0) (some (v5.2.2.1,d)) (aj.ae (Is v5.1 id) λv6=>aj.aH (λz7=>some (v6.2.2.1,z7)) λk8=>aj.af (v6.2.2.1==0) (k8 (atH d v6.1 v5.2.1 v6.2.1)) (k8 d)))))=some (clR d id):=by
 have hs:=Z.s;have e1:N2 (cK d) id=some (aaQ (cK d) id):=auQ (cn.rC Z.L) (by show(fW d).length<=100;omega);have e2:Mi (cK d) id=some (qT (cK d) (PN d id)):=amq Z.okS id;rw[ai e1];unfold clR;by_cases h1:aaQ (cK d) id=[];case neg=>have:=ga.2 h1;rw[eR (by omega),ag h1]
 rw[az (by rw[h1];rfl),ah h1,ja,ai e2];unfold qT;by_cases h2:(PN d id).2.2.2=0;case neg=>rw[ag h2,ag h2];exact tby h2 rfl
 rw[ah h2,ah h2];have I:=ah7 Z h2;have Vz:=I.1.len cn.SB;have hol:=I.2.len cn.SB;rw[ap]at Vz hol;have hu:=Z.u;have h2l:([fU,tU]:List ar).length=2:=rfl;have hp:(PN d id).1.length<=1000:=by omega
 have hh:(PN d id).2.1.length<=400000:=by omega
 have wX:=Z.Oi.al;have e3:Is (gE (cK d) (PN d id).1 (PN d id).2.1) id=some (clG d id):=aqU (s:=gE (cK d) (PN d id).1 (PN d id).2.1) I.1.f hp (I.2.lc hh) (λa ha=>by have:=(cn.cO Z.L a ha).len;omega) wX;show aj.af ((0:Int) != 0) (some ((0:Int),d)) (aj.ae (Is (gE (cK d) (PN d id).1 (PN d id).2.1) id) _)=_;rw[az (by decide),ai e3,xk];refine dQ (λh3=>?_) λh3=>?_
 .rw[ah h3,h3]
 .rw[ag h3]
theorem avz{d}(Z:zM d):Ov d=some (abI d):=by
 show nM aj d=_;unfold nM;have O:=Z.Oi;have hm:=O.m;rw[ai (AF (by omega))];refine bw λW4 av0=>?_
 have K:W4 ((clM d).2.1,(clM d).1)=some (abI d):=by
  subst av0;refine bw λk13 aqV=>?_
  have K13:k13 (clT d)=some (abI d):=by
   subst aqV;show aj.af ((clT d).1 != 0) (some (clT d)) _=_;unfold abI;by_cases h:(clT d).1=0;case neg=>rw[fV h,ag h]
   have Z2:zM (clT d).2:=by
    unfold clT at h ⊢;split
    .rename_i g;rw[ah g]at h;exact Z.avx h
    .rename_i g;rw[ag g]at h;exact absurd h g
   rw[iZ h,ah h];exact axO Z2 _
  refine dQ (λh=>?_) λh=>?_
  .rw[ai (YQ O)];have e:Bd d (clM d).1=clT d:=by unfold clT;rw[ah h]
   rw[e];exact K13
  .have e:((clM d).2.1,d)=clT d:=by unfold clT;rw[ag h]
   rw[e];exact K13
 show aj.af ((lz d).2.1==0) (aj.ae (PO (lz d).1 (gw d)) λVs=>W4 (Vs.2.1,Vs.1)) (W4 ((lz d).2.1,(lz d).1))=_;by_cases h:(lz d).2.1=0
 .have e:clM d=wY (lz d).1 (gw d) 2:=by unfold clM;rw[ah h]
  rw[oO h,ai (ajQ _ _),<-e];exact K
 .have e:clM d=lz d:=by unfold clM;rw[ag h]
  rw[e]at K;rw[py h];exact K
theorem aqW{d}(Z:zM d)(h:(abI d).1=0):Kp 0 0 d (abI d).2:=by
 unfold abI at h ⊢;split;case isFalse g=>rw[ag g]at h;exact absurd h g
 rename_i h1;rw[ah h1]at h
 have Z2:zM (clT d).2:=by
  unfold clT at h1 ⊢;split
  .rename_i g;rw[ah g]at h1;exact Z.avx h1
  .rename_i g;rw[ag g]at h1;exact absurd h1 g
 have K:Kp 0 0 d (clT d).2:=by
  unfold clT at h1 ⊢;split
  .rename_i g;rw[ah g]at h1;exact Ir Z.L h1
  .rename_i g;rw[ag g]at h1;exact absurd h1 g
 refine K.trans ?_;generalize (clT d).2=e at *;generalize (clM d).1.1=id at *;unfold clR at h ⊢;split;case isFalse g=>rw[ag g]at h;cases h
 rename_i g1;rw[ah g1]at h;split;case isFalse g=>rw[ag g]at h;exact absurd h g
 rename_i g2;rw[ah g2]at h;split;case isFalse g=>rw[ag g]at h;exact absurd h g
 rename_i g3;have I:=ah7 Z2 g2;have J:=ajB (s:=gE (cK e) (PN e id).1 (PN e id).2.1) (id:=id) (λa ha u hu=>abJ a ha u hu) I
 have e1:(clG e id).1=gE (gE (cK e) (PN e id).1 (PN e id).2.1) (ki (gE (cK e) (PN e id).1 (PN e id).2.1) (vu id (bR e))).1 (ki (gE (cK e) (PN e id).1 (PN e id).2.1) (vu id (bR e))).2.1:=by
  unfold clG SU at g3 ⊢;split
  .rfl
  .rename_i g;rw[ag g]at g3;cases g3
 have L:=Z2.L;rw[e1];exact⟨{ L with p:=J.1,h:=J.2 },au _,au _⟩
theorem abK{d}{id p:Int}(L:Co (cK d))(h:(Fv (fN d) id p).2.1=0):Kp 0 0 d (am4 d (Fv (fN d) id p).1):=by
 unfold Fv at h ⊢;split;case isTrue g=>rw[ah g]at h;cases h
 rename_i g;rw[ag g]at h;split;case isFalse g2=>rw[ag g2]at h;cases h
 rename_i g2;have hk:∀y:bF,(if y.1=id then amF p y else y).1=y.1:=λy=>by split<;>rfl
 refine⟨cn.aqP L (Mk hk (cn.iA L)) (λy hy=>?_) λk yd=>RL hk yd,au _,au _⟩;obtain⟨z,hz,rfl⟩:=aN.1 hy;have O:=cn.iO L z hz;split
 .unfold Rw at O ⊢;exact⟨O.1,O.2.1,O.2.2.1,g2,O.2.2.2.2⟩
 .exact O
theorem YR{d}{id p:Int}(L:Co (cK d))(h:(Be (ji d) id p).2.1=0):Kp 0 0 d (SJ d (Be (ji d) id p).1):=by
 unfold Be at h ⊢;split;case isTrue g=>rw[ah g]at h;cases h
 rename_i g;rw[ag g]at h;split;case isFalse g2=>rw[ag g2]at h;cases h
 rename_i g2;have hk:∀y:bf,(if y.1=id then ah8 p y else y).1=y.1:=λy=>by split<;>rfl
 refine⟨cn.axL L (Mk hk (cn.aA L)) (λy hy=>?_) λk yd=>RL hk yd,au _,au _⟩;obtain⟨z,hz,rfl⟩:=aN.1 hy;have O:=cn.aO L z hz;split
 .exact⟨O.1,g2,O.2.2⟩
 .exact O
theorem amG{d}(L:Co (cK d))(h:(Bf d).2.1=0):QN (G0 (bR d)) (Bf d).1:=QN.settle (cn.p L) (λx hx=>.inl ((cn.b L).n x hx)) h
theorem amH{d}(L:Co (cK d))(h:(Bf d).2.1=0)(h2:(J4 d).2.1=0):QN (G0 (bR d)) (J4 d).1:=QN.settle (amG L h) (λx hx=>.inl ((cn.s L).n x hx)) h2
theorem amI{d}(L:Co (cK d))(h0:¬1048576<=gw d)(h:(Bf d).2.1=0)(h2:(J4 d).2.1=0):Co (cK (afc d)):=by
 have hk:∀y:bF,(Bg y).1=y.1:=λ_=>rfl
 have L1:=cn.aqP L (Mk hk (cn.iA L)) (λy hy=>by obtain⟨z,hz,rfl⟩:=aN.1 hy;have O:=cn.iO L z hz;unfold Rw at O ⊢;exact⟨O.1,O.2.1,O.2.2.2.1,O.2.2.2.1,O.2.2.2.2⟩) λk yd=>RL hk yd
 have hd:0<=gw d/\gw d<=1048576:=cn.dy L;exact { L1 with dy:=by show 0<=gw d+1/\gw d+1<=1048576;omega,p:=amH L h h2 }
theorem aqX{d}(L:Co (cK d))(h:(afd d).1=0):Kp 0 0 d (afd d).2:=by
 unfold afd at h ⊢;split;case isTrue g=>rw[ah g]at h;cases h
 rename_i g0;rw[ag g0]at h;split;case isFalse g=>rw[ag g]at h;exact absurd h g
 rename_i g1;rw[ah g1]at h;split;case isFalse g=>rw[ag g]at h;exact absurd h g
 rename_i g2;rw[ah g2]at h;have L1:=amI L g0 g1 g2;have K:Kp 0 0 d (afc d):=⟨L1,au _,au _⟩;exact K.trans (SO L1 h)
theorem aqY{d:aK}(Z:zM d):G8 d=some (afd d):=by
 refine av1 Z.Oi (cn.dy Z.L).1 (cn.VF Z.L) Z.am0 (λh=>?_) λh h2=>?_
 .have P:=amG Z.L h;have:=P.len cn.SB;rw[ap]at this;have h2l:([fU,tU]:List ar).length=2:=rfl;have:=Z.u;exact⟨P.f,by omega⟩
 .have hk:∀y:bF,(Bg y).1=y.1:=λ_=>rfl
  have L:=Z.L;have L1:=cn.aqP L (Mk hk (cn.iA L)) (λy hy=>by obtain⟨z,hz,rfl⟩:=aN.1 hy;have O:=cn.iO L z hz;unfold Rw at O ⊢;exact⟨O.1,O.2.1,O.2.2.2.1,O.2.2.2.1,O.2.2.2.2⟩) λk yd=>RL hk yd
  have L2:={ L1 with p:=amH L h h2 };have Z2:zM (gw d,(afc d).2):=⟨L2,Z.u,Z.t,Z.b,Z.s,Z.q,Z.n⟩;exact { Z2.Oi with }
theorem abL{d}{n:Int}(L:Co (cK d))(hu:G0 (bR d) (aZ d))(h:(Mr d n).1=0):Kp 0 0 d (Mr d n).2:=by
 unfold Mr at h ⊢;split;case isFalse g=>rw[ag g]at h;exact absurd h g
 rename_i g;have P:=(cn.p L).pay (fl:=[(aZ d,n,())]) (λx hx=>by rw[aC.1 hx];exact hu) g;exact⟨{ L with p:=P },au _,au _⟩
theorem aqZ{d}(h:amJ d=0):G0 (bR d) (aZ d):=by
 unfold amJ at h;split at h
 .rename_i g;exact .inr (.inl g)
 .exact .inl (tu h _ (aC.2 rfl))
theorem ajR{as}{k}(h:(iw as k).2.1=true):ly (·.1) as k:=by
 induction as with
 |nil=>cases h
 |cons a l ih=>
  rw[iw]at h;split at h
  .rename_i e;exact⟨a,by simp,e⟩
  .obtain⟨b,hb,e⟩:=ih h;exact⟨b,by simp[hb],e⟩
theorem ara{d}(L:Co (cK d))(h:(ajS d).1=0):Kp 0 0 d (ajS d).2:=by
 unfold ajS at h ⊢;split;case isFalse g=>rw[ag g]at h;exact absurd h g
 rename_i g0;rw[ah g0]at h;have hu:=aqZ g0;split;case isFalse g=>rw[ag g]at h;exact absurd h g
 rename_i g1;rw[ah g1]at h;split;case isTrue g=>rw[ah g]at h;exact abL L hu h
 rename_i g2;rw[ag g2]at h;split;case isFalse g=>rw[ag g]at h;cases h
 rename_i g3;rw[ah g3]at h;split;case isFalse g=>rw[ag g]at h;exact absurd h g
 rename_i g4;have H:=(cn.h L).put (u:=aZ d) (x:=ue d) hu (ajR g3) g4;exact⟨{ L with h:=H },au _,au _⟩
theorem W5{d}(L:Co (cK d))(hu:G0 (bR d) (aZ d))(h:(ia d).1=0):Kp 0 0 d (ia d).2:=by
 unfold ia at h ⊢;split
 case isTrue g=>
  rw[ah g]at h;split;case isTrue g1=>rw[ah g1]at h;cases h
  rename_i g1;rw[ag g1]at h;exact abL L hu h
 rename_i g;rw[ag g]at h;split;case isFalse g1=>rw[ag g1]at h;exact absurd h g1
 rename_i g1;have H:=(cn.h L).take (u:=aZ d) (x:=ue d) g1;exact⟨{ L with h:=H.1 },au _,au _⟩
theorem arb{d:aK}(Z:zM d)(hu:G0 (bR d) (aZ d))(h:(ia d).1=0):zM (ia d).2:=by
 have K:=W5 Z.L hu h
 have hc:bR (ia d).2=bR d/\dv (ia d).2=dv d/\fW (ia d).2=fW d/\dR (ia d).2=dR d/\ua (ia d).2=ua d/\aZ (ia d).2=aZ d:=by
  unfold ia Mr
  repeat' split
  all_goals exact⟨rfl,rfl,rfl,rfl,rfl,rfl⟩
 obtain⟨c1,c2,c3,c4,c5,_⟩:=hc;exact⟨K.1,by rw[c1];exact Z.u,by rw[c2,c3];exact Z.t,by rw[c2];exact Z.b,by rw[c3];exact Z.s,by rw[c4];exact Z.q,by rw[c5];exact Z.n⟩
def WdR(d e:aK):Prop:=pY d [aZ d]=0/\Ag d=0/\ia d=(0,e)
theorem axP{d}(Z:zM d):∃r,I7 d=some r/\(r.1=0->WdR d r.2):=by
 show ∃r,kE aj d=some r/\_;unfold kE;have O:=Z.Oi;have hm:=O.m;have e1:tP d [aZ d]=some (pY d [aZ d],d):=CM O.a (by omega) (by simp);rw[ai e1];by_cases h1:pY d [aZ d]=0;case neg=>rw[fV h1];exact⟨_,rfl,λh=>absurd h h1⟩
 rw[iZ h1,ai (W6 d)];by_cases h2:Ag d=0;case neg=>rw[fV h2];exact⟨_,rfl,λh=>absurd h h2⟩
 have hq:0<=dR d:=by
  unfold Ag at h2;split at h2
  .cases h2
  .omega
 rw[iZ h2,ai (amK O Z.hs hq)];by_cases h3:(ia d).1=0;case neg=>rw[fV h3];exact⟨_,rfl,λh=>absurd h h3⟩
 have Z2:=arb Z (.inl (tu h1 _ (aC.2 rfl))) h3;have O2:=Z2.Oi;obtain⟨b,e4⟩:=W7 (t:=bR (ia d).2) (id:=wW (ia d).2) O2.a O2.as
 have hx:∃a,a.2.2.2.1.length<=1000/\N3 (bR (ia d).2) (wW (ia d).2)=some (a,b):=by
  cases hf:gP (bR (ia d).2) (wW (ia d).2)with
  |none=>rw[hf]at e4;exact⟨_,bE _,e4⟩
  |some a=>rw[hf]at e4;exact⟨a,O2.a.1 a (Ei hf).1,e4⟩
 clear e4;obtain⟨a,wX,e4⟩:=hx;obtain⟨u,e5,h5⟩:=amL (a:=a) (u:=aZ (ia d).2) wX;obtain⟨n,e6,h6,_⟩:=Ox (s:=(ji (ia d).2,fN (ia d).2,dv (ia d).2,gu (ia d).2,fo (ia d).2,())) (a:=a) (u:=u) Z2.am1 wX;rw[az (by simpa using h3),ja,ai e4,ja,ai h5];show ∃r,(aj.ae (Fw (ji (ia d).2,fN (ia d).2,dv (ia d).2,gu (ia d).2,fo (ia d).2,()) a u) _)=some r/\_;rw[ai h6];have fin:∀x:Int,∃r,some (x,(ia d).2)=some r/\(r.1=0->WdR d r.2):=λx=>⟨_,rfl,λ_=>⟨h1,h2,by rw[<-h3]⟩⟩
 refine CN (P:=λo=>∃r:Int×aK,o=some r/\(r.1=0->WdR d r.2)) λk9 RC=>?_
 have k9':∀z:Int×Unit,k9 z=some (z.1,(ia d).2):=λz=>by subst RC;rfl
 clear RC;refine CN (P:=λo=>∃r:Int×aK,o=some r/\(r.1=0->WdR d r.2)) λGJ Og=>?_
 have arc:∀c:Bool,∃x,GJ (c,())=some (x,(ia d).2):=λc=>by
  subst Og;cases c with
  |true=>exact⟨_,(aQ rfl _ _).trans (k9' _)⟩
  |false=>exact⟨_,(az rfl _ _).trans (k9' _)⟩
 clear Og;by_cases h7:(e6.1==0)=true
 .rw[aQ h7];obtain⟨x,hx⟩:=arc (decide (n<0));rw[hx];exact fin x
 .rw[az (by simpa using h7)];obtain⟨x,hx⟩:=arc false;rw[hx];exact fin x
theorem av2{α}{p}{l:List α}{k:Nat}(h:zX p l=(k:Int)):k<l.length/\(∀hk:k<l.length,p l[k]=true)/\∀j (hj:j<l.length),j<k->p l[j]=false:=by
 unfold zX at h;cases hf:l.findIdx? p with
 |none=>rw[hf]at h;simp only at h;omega
 |some m=>
  rw[hf]at h;have h:(m:Int)=(k:Int):=h;have:m=k:=by omega
  subst this;rw[eM]at hf;obtain⟨h1,h2,h3⟩:=hf;exact⟨h1,λ_=>h2,λj hj hjk=>by simpa using h3 j hjk⟩
theorem av3{α}{p:α->Bool}{l:List α}(h:zX p l<0):∀y∈l,p y=false:=by
 unfold zX at h;cases hf:l.findIdx? p with
 |none=>exact λy hy=>by rw[gz]at hf;exact hf y hy
 |some m=>rw[hf]at h;simp only at h;omega
theorem ajT{l}(hs:jR (l.map (·.1))){f t:ar}(hf:∀c∈l,c.1≠f):jR ((Ms l f t).map (·.1)):=by
 have key:∃k,k<=l.length/\Ms l f t=l.take k++(f,t,false,())::l.drop k/\(∀c∈l.take k,oJ c.1 f)/\∀c∈l.drop k,oJ f c.1:=by
  have atI:∀c∈l,¬oJ f c.1->oJ c.1 f:=λc hc hn=>cQ λhm=>hf c hc (Fx hm hn)
  rcases lx (λc:bz=>decide (oJ f c.1)) l with⟨h1,_⟩|⟨k,hk,h1,_,_⟩
  .refine⟨l.length,au _,?_,λc hc=>?_,λc hc=>?_⟩
   .unfold Ms ajU;rw[h1];rfl
   .rw[br]at hc;exact atI c hc (of_decide_eq_false (av3 (by rw[h1];decide) c hc))
   .rw[fH]at hc;cases hc
  .obtain⟨_,h2,h3⟩:=av2 h1;refine⟨k,Nat.le_of_lt hk,?_,λc hc=>?_,λc hc=>?_⟩
   .unfold Ms ajU;rw[h1,ag (by omega),aU]
   .obtain⟨j,hj,rfl⟩:=jL hc;rw[aX]at hj;rw[kW];exact atI _ (aG _) (by simpa using h3 j (by omega) (by omega))
   .have h4:oJ f l[k].1:=by simpa using h2 hk
    rw[ck hk]at hc;rcases aF.1 hc with rfl|hc
    .exact h4
    .obtain⟨j,hj,rfl⟩:=jL hc;rw[dk]at hj;rw[De];unfold jR at hs;rw[ru,bN]at hs;exact s7 h4 (hs k (k+1+j) hk (by omega) (by omega))
 obtain⟨k,_,e,h1,h2⟩:=key;rw[e,cz,bK];have s1:jR ((l.take k).map (·.1)):=dN ((List.take_sublist _ _).map _) hs;have s2:jR ((l.drop k).map (·.1)):=dN ((Db _ _).map _) hs;refine dM.2 ⟨s1,bD.2 ⟨λx hx=>?_,s2⟩,λa ha b hb=>?_⟩
 .obtain⟨c,hc,rfl⟩:=aN.1 hx;exact h2 c hc
 .obtain⟨c,hc,rfl⟩:=aN.1 ha;rcases aF.1 hb with rfl|hb
  .exact h1 c hc
  .obtain⟨x,hx,rfl⟩:=aN.1 hb;exact s7 (h1 c hc) (h2 x hx)
theorem ajV{l}{f t}{c}(h:c∈Ms l f t):c=(f,t,false,())\/c∈l:=by
 unfold Ms at h;rcases aT.1 h with h|h
 .exact .inr (fh h)
 .rcases aF.1 h with h|h
  .exact .inl h
  .exact .inr (jt h)
theorem abM{l}(hs:jR (l.map (·.1)))(u:ar):jR ((G9 l u).map (·.1)):=dN (xV _ fZ) hs
theorem ah9{d}{u}(h:abN d u=0):s5 (bR d) u:=by
 unfold abN at h;split at h
 .rename_i g;exact YN g
 .rename_i g;exact absurd h g
theorem ajW{d}(L:Co (cK d))(h:(Oy d).1=0):Kp 0 0 d (Oy d).2:=by
 unfold Oy at h ⊢;split;case isFalse g=>rw[ag g]at h;exact absurd h g
 rename_i g0;rw[ah g0]at h;split;case isTrue g=>rw[ah g]at h;cases h
 rename_i g1;rw[ag g1]at h;split;case isFalse g=>rw[ag g]at h;exact absurd h g
 rename_i g2;rw[ah g2]at h;split;case isFalse g=>rw[ag g]at h;exact absurd h g
 rename_i g3
 have e:(Fy (jS d) (aZ d) (cN d)).1=Ms (G9 (jS d) (aZ d)) (aZ d) (cN d)/\aZ d≠cN d:=by
  unfold Fy at g3 ⊢;split;case isFalse g=>rw[ag g]at g3;cases g3
  rename_i g4;rw[ah g4]at g3;split;case isTrue g=>rw[ah g]at g3;cases g3
  rename_i g5;exact⟨rfl,g5⟩
 obtain⟨e,hne⟩:=e;rw[e];refine⟨{ L with hO:=λx hx=>?_,hS:=ajT (abM (cn.hS L) _) λc hc=>bM (aM.1 hc).2 },au _,au _⟩;rcases ajV hx with rfl|hx
 .exact⟨⟨ah9 g0,ah9 g2⟩,hne⟩
 .exact cn.hO L x (aM.1 hx).1
theorem amM{d}(L:Co (cK d))(h:(W8 d).1=0):Kp 0 0 d (W8 d).2:=by
 unfold W8 at h ⊢;split;case isFalse g=>rw[ag g]at h;exact absurd h g
 rename_i g0;rw[ah g0]at h;split;case isFalse g=>rw[ag g]at h;exact absurd h g
 rename_i g1
 have e:∃k,∃hk:k<(jS d).length,(Fz (jS d) (aZ d) (cN d)).1=(jS d).set k (ard (jS d)[k]):=by
  unfold Fz at g1 ⊢;split;case isFalse g=>rw[ag g]at g1;cases g1
  rename_i g2;rw[ah g2]at g1;split;case isTrue g=>rw[ah g]at g1;cases g1
  rename_i g3;rw[ag g3]at g1;split;case isFalse g=>rw[ag g]at g1;cases g1
  rcases lx (λc:bz=>decide (c.1=aZ d)) (jS d)with⟨h1,_⟩|⟨k,hk,h1,_,_⟩
  .rw[h1]at g3;exact absurd (by decide) g3
  .refine⟨k,hk,?_⟩;rw[h1,aU,show(jS d).getD k abO=(jS d)[k]from by rw[eQ,aw hk];rfl]
 obtain⟨k,hk,e⟩:=e;rw[e];refine⟨{ L with hO:=λx hx=>?_,hS:=?_ },au _,au _⟩
 .rcases sX hx with hx|rfl
  .exact cn.hO L x hx
  .have h5:=cn.hO L (jS d)[k] (aG hk);exact h5
 .show jR (((jS d).set k (ard (jS d)[k])).map (·.1))
  have e2:((jS d).set k (ard (jS d)[k])).map (·.1)=(jS d).map (·.1):=by
   rw[List.map_set];refine Fh (by simp) λi h1 h2=>?_
   rw[Fi];split
   .rename_i h3;subst h3;rw[pR];rfl
   .rfl
  rw[e2];exact cn.hS L
theorem SV{s}{u}(h:vx s u=0):s5 s.2.2.2.2.1 u:=by
 unfold vx at h;cases hf:gP s.2.2.2.2.1 u.1 with
 |none=>rw[hf]at h;cases h
 |some a=>
  rw[hf]at h;dsimp only at h;split at h
  .rename_i g;exact eG.2 ⟨a,(Ei hf).1,bM g⟩
  .cases h
theorem are{s}{f}(h:(qG s f).2.1=0):s5 s.2.2.2.2.1 f/\s5 s.2.2.2.2.1 (qG s f).1:=by
 unfold qG at h ⊢;split;case isFalse g=>rw[ag g]at h;exact absurd h g
 rename_i g0;rw[ah g0]at h;split;case isFalse g=>rw[ag g]at h;exact absurd h g
 rename_i g1;rw[ah g1]at h;split;case isFalse g=>rw[ag g]at h;exact absurd h g
 rename_i g2;constructor
 .unfold It at g0;split at g0
  .rename_i g;exact SV g
  .rename_i g;exact absurd g0 g
 .unfold J5 at g2;split at g2
  .rename_i g;exact SV g
  .rename_i g;exact absurd g2 g
theorem amN{d}(L:Co (cK d))(h:(afe d).1=0):Kp 0 1 d (afe d).2:=by
 unfold afe at h ⊢;split;case isFalse g=>rw[ag g]at h;exact absurd h g
 rename_i g
 have e:(Mt (cK d) (aZ d)).1=yJ (cK d) (G9 (jS d) (aZ d)) (yK (cK d) (aZ d)).1 (Gb (cK d) (aZ d)).1 (Bh (cK d) (aZ d)).1/\(qG (cK d) (aZ d)).2.1=0/\
  (yK (cK d) (aZ d)).2.1=0/\(Gb (cK d) (aZ d)).2.1=0/\(Bh (cK d) (aZ d)).2.1=0:=by
  unfold Mt at g ⊢;split;case isFalse g1=>rw[ag g1]at g;exact absurd g g1
  rename_i g1;rw[ah g1]at g;split;case isFalse g2=>rw[ag g2]at g;exact absurd g g2
  rename_i g2;rw[ah g2]at g;split;case isFalse g3=>rw[ag g3]at g;exact absurd g g3
  rename_i g3;rw[ah g3]at g;split;case isFalse g4=>rw[ag g4]at g;exact absurd g g4
  rename_i g4;exact⟨rfl,g1,g2,g3,g4⟩
 obtain⟨e,h1,h2,h3,h4⟩:=e;rw[e];obtain⟨u1,u2⟩:=are h1;have B:=LW.Jr (cn.b L) u1 u2 ((cn.b L).of (aZ d)) h2;have P:=QN.move (cn.p L) (.inl u1) (.inl u2) h3;have H:=LV.PI (cn.h L) (.inl u2) h4;refine⟨{ L with hO:=λx hx=>cn.hO L x (aM.1 hx).1,hS:=abM (cn.hS L) _,b:=B.1,p:=P,h:=H,bal:=λj=>(bA (· + lu (fW d) j) (B.2.2 j)).trans (cn.bal L j) },au _,?_⟩;have hb:(yK (cK d) (aZ d)).1.length<=(dv d).length+2:=B.2.1;show(yK (cK d) (aZ d)).1.length+(fW d).length<=(dv d).length+(fW d).length+2*1;omega
theorem G'(own):∀(l pp stays:List bC),(gA own l pp stays).2.2=0->∀k,lu (gA own l pp stays).2.1 k+lu (gA own l pp stays).1 k=lu stays k+lu l k+lu pp k
 |[],pp,stays,_,k=>by show lu stays k+lu pp k=lu stays k+0+lu pp k;omega
 |p::l,pp,stays,he,k=>by
  unfold gA at he ⊢;by_cases ho:own p.1=true
  .rw[ah ho]at he ⊢;by_cases hs:(fD pp p.1 p.2.1).2.1=0
   .rw[ah hs]at he ⊢;rw[G' own l _ stays he k,(qA hs).opn,N0];omega
   .rw[ag hs]at he;exact absurd he hs
  .rw[ag ho]at he ⊢;rw[G' own l pp (stays++[p]) he k,alw,N0,N0];show lu stays k+(gx p.2.1 k+0)+lu l k+lu pp k=_;omega
theorem arf{d}(L:Co (cK d))(h:(abP d).1=0):Kp 0 0 d (abP d).2:=by
 unfold abP at h ⊢;split;case isFalse g=>rw[ag g]at h;exact absurd h g
 rename_i g0;rw[ah g0]at h;split;case isFalse g=>rw[ag g]at h;exact absurd h g
 rename_i g1
 have K:Kp 0 0 d (uT d).2:=by
  unfold uT at g0 ⊢;split
  .rename_i g;rw[ah g]at g0;exact Ir L g0
  .rename_i g;rw[ag g]at g0;exact absurd g0 g
 refine K.trans ?_;have L:=K.1;generalize (uT d).2=e at *;generalize (Gx d).1.1=id at *;unfold JH at g1 ⊢;split;case isFalse g=>rw[ag g]at g1;cases g1
 rename_i g2;rw[ah g2]at g1;split;case isFalse g=>rw[ag g]at g1;exact absurd g1 g
 rename_i g3;obtain⟨s1,s2,s3⟩:=GY (N:=s5 (bR e)) (K:=ly (·.1) (fN e)) (DZ (bR e) id) (dv e) (fW e) [] g3 (cn.b L).n (cn.b L).k (cn.s L);have s4:=G' (DZ (bR e) id) (dv e) (fW e) [] g3;have hB:LW (s5 (bR e)) (ly (·.1) (fN e)) (gA (DZ (bR e) id) (dv e) (fW e) []).2.1:=by rw[s2,dA];exact(cn.b L).filter _
 refine⟨{ L with b:=hB,s:=s1,bal:=λj=>?_ },au _,?_⟩
 .refine(s4 j).trans ?_;have:lu (dv e) j+lu (fW e) j=0:=cn.bal L j;show 0+lu (dv e) j+lu (fW e) j=0;omega
 .show(gA (DZ (bR e) id) (dv e) (fW e) []).2.1.length+(gA (DZ (bR e) id) (dv e) (fW e) []).1.length<=(dv e).length+(fW e).length+2*0;simp only[eJ]at s3;omega
theorem W9{s:aV}(L:Co s){u to:ar}{id je fg:Int}(hu:s5 s.2.2.2.2.1 u)(h:(D0 s u to id je fg).2.1=0):
 Co (D0 s u to id je fg).1/\(D0 s u to id je fg).1.2.2.2.2.1=s.2.2.2.2.1/\(D0 s u to id je fg).1.2.1=s.2.1/\(bk (D0 s u to id je fg).1).length<=(bk s).length+1/\(sa (D0 s u to id je fg).1).length<=(sa s).length+1:=by
 have hc:Dk s u to id je fg=0:=by
  unfold D0 at h;split at h
  .assumption
  .rename_i g;exact absurd h g
 obtain⟨_,⟨i,hi⟩,hq,_,hby⟩:=aaS hc;rw[aha hc hi]at h ⊢;split;case isFalse g=>rw[ag g]at h;cases h
 rename_i g1;rw[ah g1]at h;split;case isFalse g=>rw[ag g]at h;cases h
 rename_i g2;rw[ah g2]at h;unfold agZ at h ⊢;split;case isFalse g=>rw[ag g]at h;exact absurd h g
 rename_i g3;rw[ah g3]at h;split;case isFalse g=>rw[ag g]at h;exact absurd h g
 rename_i g4;rw[ah g4]at h;split;case isFalse g=>rw[ag g]at h;exact absurd h g
 rename_i g5
 have hto:s5 s.2.2.2.2.1 to:=by
  unfold Sc at hby;cases hf:gP s.2.2.2.2.1 to.1 with
  |none=>rw[hf]at hby;cases hby
  |some a=>
   rw[hf]at hby;dsimp only at hby;split at hby
   .rename_i g;exact eG.2 ⟨a,(Ei hf).1,bM g⟩
   .cases hby
 have hk:ly (·.1) s.2.2.1 id:=⟨i,Sd hi⟩;have one:∀n:Int,∀x∈([(id,n,())]:List pW),ly (·.1) s.2.2.1 x.1:=λn x hx=>by rw[aC.1 hx];exact hk
 have S:=LW.shift (cn.s L) hu (one _) g3;have B:=LW.shift (cn.b L) hto (one _) g4;have P:=QN.move (cn.p L) (.inl hu) (.inl hto) g5;have T:=qA g3;have V:=qA g4;refine⟨{ L with b:=B,s:=S,p:=P,bal:=λj=>?_ },rfl,rfl,V.len,T.len⟩;have h1:=V.opn j;have h2:=T.opn j;have h3:lu (bk s) j+lu (sa s) j=0:=cn.bal L j;have h4:gx [((id,je,()):pW)] j+gx [((id,-je,()):pW)] j=0:=by simp only[gx];split<;>omega
 show lu (fD (bk s) to [(id,je,())]).1 j+lu (fD (sa s) u [(id,-je,())]).1 j=0;omega
theorem amO{d:aK}(L:Co (cK d))(h:(abQ d).1=0):Kp 0 1 d (abQ d).2:=by
 unfold abQ at h ⊢;split;case isFalse g=>rw[ag g]at h;exact absurd h g
 rename_i g0;rw[ah g0]at h;split;case isFalse g=>rw[ag g]at h;cases h
 rename_i g1;rw[ah g1]at h;split;case isFalse g=>rw[ag g]at h;exact absurd h g
 rename_i g2;obtain⟨f1,f2,_,f4,f5⟩:=W9 L (YN g0) g2;refine⟨f1,?_,?_⟩
 .show(I4 (Xa d).1.2.2.2.2.1).length<=_;have f2:(Xa d).1.2.2.2.2.1=bR d:=f2;rw[f2];omega
 .have f4:(bk (Xa d).1).length<=(dv d).length+1:=f4;have f5:(sa (Xa d).1).length<=(fW d).length+1:=f5;show(bk (Xa d).1).length+(sa (Xa d).1).length<=(dv d).length+(fW d).length+2*1;omega
theorem amP{d:aK}(Z:zM d):Gc d=some (abQ d):=by
 by_cases g0:Vr d (aZ d)=0
 .refine arh Z.Oi Z.u7 λh=>?_
  obtain⟨f1,f2,f3,f4,_⟩:=W9 Z.L (YN g0) h;have f4:(bk (Xa d).1).length<=(dv d).length+1:=f4;have:=Z.b;exact⟨(cn.b f1).okB (by show(bk (Xa d).1).length<=100;omega),f2,f3⟩
 .have O:=Z.Oi;show j4 aj d=_;unfold j4 abQ;refine yu (Xb O.a) ?_;refine tby g0 ?_;rw[ag g0]
def amQ(d:aK):Int×aK:=if bS d=14 then((Fv (fN d) (jy d) (lR d)).2.1,am4 d (Fv (fN d) (jy d) (lR d)).1)else if bS d=15 then((Be (ji d) (nN d) (lR d)).2.1,SJ d (Be (ji d) (nN d) (lR d)).1)else if bS d=16 then afd d else if bS d=17 then ajS d else(0,d)
theorem av4{d}(Z:zM d):∃r,Oz d=some r/\((bS d≠18/\r=amQ d)\/(bS d=18/\(r.1=0->WdR d r.2))):=by
 show ∃r,nO aj d=some r/\_;unfold nO;have N:=Z.okN;refine CN (P:=λo=>∃r:Int×aK,o=some r/\((bS d≠18/\r=amQ d)\/(bS d=18/\(r.1=0->WdR d r.2)))) λk hk=>?_
 have kk:∀z,k z=some z:=λz=>by subst hk;rfl
 unfold amQ;by_cases h1:bS d=14
 .rw[oO h1,ai (ajX N.i N.is),kk,ah h1];exact⟨_,rfl,.inl ⟨by omega,rfl⟩⟩
 rw[py h1,ag h1];by_cases h2:bS d=15
 .rw[oO h2,ai (abR N.sl N.ss),kk,ah h2];exact⟨_,rfl,.inl ⟨by omega,rfl⟩⟩
 rw[py h2,ag h2];by_cases h3:bS d=16
 .rw[oO h3,ai (aqY Z),kk,ah h3];exact⟨_,rfl,.inl ⟨by omega,rfl⟩⟩
 rw[py h3,ag h3];by_cases h4:bS d=17
 .rw[oO h4,ai (av5 N Z.hs),kk,ah h4];exact⟨_,rfl,.inl ⟨by omega,rfl⟩⟩
 rw[py h4,ag h4];by_cases h5:bS d=18
 .obtain⟨r,hr,h⟩:=axP Z;rw[oO h5,ai hr,kk];exact⟨_,rfl,.inr ⟨h5,h⟩⟩
 rw[py h5,kk];exact⟨_,rfl,.inl ⟨h5,rfl⟩⟩
def ari(d:aK):Int×aK:=if bS d=19 then Oy d else if bS d=20 then W8 d else if bS d=21 then ajP d else if bS d=22 then afe d else if bS d=23 then abP d else if bS d=24 then abQ d else abI d
theorem arj{d}(Z:zM d):QO d=some (ari d):=by
 show pz aj d=_;unfold pz ari;have O:=Z.Oi;have hc:(jS d).length<=1000:=by have h:(jS d).length<=(I4 (bR d)).length:=cn.hL Z.L;have:=Z.u;omega
 by_cases h1:bS d=19
 .rw[oO h1,ai (amR O hc),ah h1]
 rw[py h1,ag h1];by_cases h1:bS d=20
 .rw[oO h1,ai (ark O hc),ah h1]
 rw[py h1,ag h1];by_cases h1:bS d=21
 .rw[oO h1,ai (avy Z),ah h1]
 rw[py h1,ag h1];by_cases h1:bS d=22
 .rw[oO h1,ai (arl Z.okP),ah h1]
 rw[py h1,ag h1];by_cases h1:bS d=23
 .rw[oO h1,ai (av6 O Z.am0 Z.t),ah h1]
 rw[py h1,ag h1];by_cases h1:bS d=24
 .rw[oO h1,ai (amP Z),ah h1]
 rw[py h1,ag h1,ai (avz Z)]
def amS(d e:aK):Prop:=(bS d<=6/\Om d=(0,e))\/(6<bS d/\bS d<=13/\Ot d=(0,e))\/(13<bS d/\bS d<=17/\amQ d=(0,e))\/(bS d=18/\WdR d e)\/(18<bS d/\bS d<=25/\ari d=(0,e))\/(25<bS d/\∃n,e=atJ d n)
theorem av7{d}(Z:zM d):∃r,SX d=some r/\(r.1=0->amS d r.2):=by
 show ∃r,qH aj d=some r/\_;unfold qH;have pr:∀{r:Int×aK},r.1=0->r=(0,r.2):=λ{r} h=>by rw[<-h]
 by_cases h1:bS d<=6
 .rw[eR h1,ai (amT Z.okN)];exact⟨_,rfl,λh=>.inl ⟨h1,pr h⟩⟩
 rw[cY h1];by_cases h2:bS d<=13
 .rw[eR h2,ai (amU Z.Oi Z.n)];exact⟨_,rfl,λh=>.inr (.inl ⟨by omega,h2,pr h⟩)⟩
 rw[cY h2];by_cases h3:bS d<=18
 .obtain⟨r,hr,h⟩:=av4 Z;rw[eR h3,ai hr];refine⟨_,rfl,λh0=>?_⟩;rcases h with⟨h4,h5⟩|⟨h4,h5⟩
  .exact .inr (.inr (.inl ⟨by omega,by omega,by rw[<-h5];exact pr h0⟩))
  .exact .inr (.inr (.inr (.inl ⟨h4,h5 h0⟩)))
 rw[cY h3];by_cases h4:bS d<=25
 .rw[eR h4,ai (arj Z)];exact⟨_,rfl,λh=>.inr (.inr (.inr (.inr (.inl ⟨by omega,h4,pr h⟩))))⟩
 rw[cY h4];obtain⟨x,e,hr,_,h⟩:=av8 Z.Oi (cn.uS Z.L) Z.am1;rw[ai hr];exact⟨_,rfl,λh0=>.inr (.inr (.inr (.inr (.inr ⟨by omega,h h0⟩))))⟩
theorem arm{d e}(Z:zM d)(h:amS d e):Kp 1 0 d e\/Kp 0 1 d e:=by
 have L:=Z.L;have fin:∀{f:Int×aK},f=(0,e)->f.1=0/\f.2=e:=λh=>by rw[h];exact⟨rfl,rfl⟩
 rcases h with⟨_,h⟩|⟨_,_,h⟩|⟨h1,h2,h⟩|⟨_,h⟩|⟨_,_,h⟩|⟨_,n,h⟩
 .obtain⟨a,rfl⟩:=fin h;exact .inl (ajF L a)
 .obtain⟨a,rfl⟩:=fin h;exact .inr (ajM L a)
 .obtain⟨a,rfl⟩:=fin h;left;unfold amQ at a ⊢;split;case isTrue g=>rw[ah g]at a;exact(abK L a).up
  rename_i g;rw[ag g]at a;split;case isTrue g=>rw[ah g]at a;exact(YR L a).up
  rename_i g;rw[ag g]at a;split;case isTrue g=>rw[ah g]at a;exact(aqX L a).up
  rename_i g;rw[ag g]at a;split;case isTrue g=>rw[ah g]at a;exact(ara L a).up
  exact(Kp.avv L).up
 .obtain⟨w1,w2,w3⟩:=h;obtain⟨a,rfl⟩:=fin w3;exact .inl (W5 L (.inl (tu w1 _ (aC.2 rfl))) a).up
 .obtain⟨a,rfl⟩:=fin h;right;unfold ari at a ⊢;split;case isTrue g=>rw[ah g]at a;exact(ajW L a).up
  rename_i g;rw[ag g]at a;split;case isTrue g=>rw[ah g]at a;exact(amM L a).up
  rename_i g;rw[ag g]at a;split;case isTrue g=>rw[ah g]at a;exact(aqT L a).up
  rename_i g;rw[ag g]at a;split;case isTrue g=>rw[ah g]at a;exact amN L a
  rename_i g;rw[ag g]at a;split;case isTrue g=>rw[ah g]at a;exact(arf L a).up
  rename_i g;rw[ag g]at a;split;case isTrue g=>rw[ah g]at a;exact amO L a
  rename_i g;rw[ag g]at a;exact(aqW Z a).up
 .subst h;exact .inl (Kp.up ⟨L,au _,au _⟩)
def mkD(s:aV)(c:cm):aK:=yb s (U3 c (c.2.2.2.1.1,c.2.2.2.1.2.1,c.2.2.2.2.1.1,c.2.2.2.2.1.2.1,U7 c.2.2.2.2.2 (0,[],[],[],())))
abbrev atK(d:aK):YS:=d.2.2.2.2.2.2.2.2.2.2.2.2.2.2.2.2.2.2.2.2.2.2.2.2.2.2
def noR(e:Int):YS:=(e,[],[],[],())
structure GoR(s:aV)(c:cm)(e:aK):Prop where
 k:alS c=0
 sn:Iu (mkD s c)=0
 al:En (mkD s c)=0
 a:amS (mkD s c) e
theorem amV{d}(Z:zM d)(x):∃r,PQ d x=some r/\(r.1=0->x=0/\Iu d=0/\En d=0/\amS d r.2):=by
 show ∃r,vy aj d x=some r/\_;unfold vy;have O:=Z.Oi;have hm:=O.m;have hg:=O.g;have hv:=O.v;rw[aQ (by rfl)];by_cases h0:x=0;case neg=>rw[fV h0];exact⟨_,rfl,λh=>absurd h h0⟩
 rw[iZ h0,ai (ajY (by omega)),aQ (by rfl)];by_cases h1:Iu d=0;case neg=>rw[fV h1];exact⟨_,rfl,λh=>absurd h h1⟩
 rw[iZ h1,ai (aff O.a O.as (by omega) (by omega)),aQ (by rfl)];by_cases h2:En d=0;case neg=>rw[fV h2];exact⟨_,rfl,λh=>absurd h h2⟩
 obtain⟨r,hr,h⟩:=av7 Z;rw[iZ h2,ai hr,az (by rfl)];exact⟨r,rfl,λh3=>⟨h0,h1,h2,h h3⟩⟩
theorem amW{s}{c}(hc:VB c)(Z:zM (mkD s c)):∃t r,PR s c=some (t,r,())/\((r.1≠0/\t=s/\r=noR r.1)\/∃e,GoR s c e/\t=cK e/\r=atK e):=by
 show ∃t r,nP aj s c=some (t,r,())/\_;unfold nP;rw[ai (alU hc)];obtain⟨r,hr,h⟩:=amV Z (alS c);show ∃t r,aj.ae (PQ (mkD s c) (alS c)) _=some (t,r,())/\_;rw[ai hr];by_cases h1:r.1=0
 .obtain⟨a1,a2,a3,a4⟩:=h h1;rw[iZ h1];exact⟨_,_,rfl,.inr ⟨r.2,⟨a1,a2,a3,a4⟩,rfl,rfl⟩⟩
 .rw[fV h1];exact⟨_,_,rfl,.inl ⟨h1,rfl,rfl⟩⟩
end Go.Proofs.YthghpahghjppjaaGreat