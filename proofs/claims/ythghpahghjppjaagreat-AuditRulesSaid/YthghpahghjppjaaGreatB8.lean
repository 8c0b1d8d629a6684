import Derived.Test.YthghpahghjppjaaGreatB7
namespace Go.Proofs.YthghpahghjppjaaGreat
open Go Go.Vc Go.RowKit rA sK sM sN sO sP
set_option synthInstance.maxSize 100000
def Pv(N:ar->Prop)(A:Int->Prop)(p:List aZ)(h:List bp):Prop:=QB N p/\Ln N A h
theorem ak0{N}{A}{as}{u}{x}{m:Int}{p:List aZ}{h:List bp}(I:Pv N A p h)(J:N u)(H:N tU)(j:(oC as u x m p h).2.2=0):
 Pv N A (oC as u x m p h).1 (oC as u x m p h).2.1:=by
 unfold oC at j ⊢;split;case isFalse G=>rw[ag G]at j;cases j
 rename_i G;rw[ah G]at j;split;case isTrue=>exact I
 rename_i K;rw[ag K]at j;split;case isFalse F=>rw[ag F]at j;cases j
 rename_i F;rw[ah F]at j;split;case isFalse y=>rw[ag y]at j;exact absurd j y
 rename_i y;rw[ah y]at j;split;case isFalse C=>rw[ag C]at j;exact absurd j C
 rename_i C;exact⟨I.1.move H J C,I.2.pass H y⟩
theorem JI{N}{A}{as}{u:ar}{c:Int}(y:N u)(C:N tU):∀(l:List bu) (p:List aZ) (h:List bp),Pv N A p h->(jV as u c l p h).2.2=0->
 Pv N A (jV as u c l p h).1 (jV as u c l p h).2.1
 |[],p,h,I,_=>I
 |x::l,p,h,I,he=>by
  unfold jV at he ⊢;split;case isFalse G=>rw[ag G]at he;cases he
  rename_i G;rw[ah G]at he;split;case isFalse F=>rw[ag F]at he;exact JI y C l p h I he
  rename_i F;rw[ah F]at he;split;case isFalse j=>rw[ag j]at he;exact absurd he j
  rename_i j;rw[ah j]at he;exact JI y C l _ _ (ak0 I y C j) he
theorem p_{N}{A}{as}{u}{c}{p:List aZ}{h:List bp}(F:N u)(G:N tU)(I:Pv N A p h)(j:(gJ as p h u c).2.2=0):
 Pv N A (gJ as p h u c).1 (gJ as p h u c).2.1:=by
 unfold gJ at j ⊢;split;case isFalse C=>rw[ag C]at j;cases j
 rename_i C;rw[ah C]at j;split;case isTrue y=>rw[ah y]at j;cases j
 rename_i y;rw[ag y]at j;exact JI F G _ _ _ I j
theorem q_{N}{A}{as}{b t}{n}{p:List aZ}{h:List bp}(hb:N b)(F:N t)(G:N tU)(I:Pv N A p h)(j:(jl as p h b t n).2.2.2=0):
 Pv N A (jl as p h b t n).1 (jl as p h b t n).2.1:=by
 unfold jl at j ⊢;split;case isTrue=>exact I
 rename_i H;rw[ag H]at j;split;case isFalse y=>rw[ag y]at j;exact absurd j y
 rename_i y;rw[ah y]at j;have J:=p_ hb G I y;split;case isFalse C=>rw[ag C]at j;exact absurd j C
 rename_i C;exact⟨J.1.move hb F C,J.2⟩
theorem r_{N}{A}{as}{b t}{p}{h:List bp}(hb:N b)(F:N t)(G:N tU)(I:Pv N A p h)(j:(Ew as p h b t).2.2.2=0):
 Pv N A (Ew as p h b t).1 (Ew as p h b t).2.1:=by
 unfold Ew at j ⊢;split;case isFalse C=>rw[ag C]at j;exact absurd j C
 rename_i C;rw[ah C]at j;split;case isFalse y=>rw[ag y]at j;exact absurd j y
 rename_i y;rw[ah y]at j;split;case isTrue=>exact I
 rename_i H;rw[ag H]at j;exact q_ hb F G I j
theorem ak1{N}{A}{as}{u}{p:List aZ}{h:List bp}(F:N u)(G:N tU)(I:Pv N A p h)(j:(FX as p h u).2.2.2=0):
 Pv N A (FX as p h u).1 (FX as p h u).2.1:=by
 unfold FX at j ⊢;split;case isFalse C=>rw[ag C]at j;exact absurd j C
 rename_i C;rw[ah C]at j;split;case isFalse y=>rw[ag y]at j;exact absurd j y
 rename_i y;have J:=p_ F G I y;split
 .exact J
 .exact J
def FI(N:ar->Prop)(A:Int->Prop)(a:Ah):Prop:=∀p h,Pv N A p h->(a p h).2.2.2=0->Pv N A (a p h).1 (a p h).2.1
theorem Yz{N}{A}:∀(l:List Ah),(∀a∈l,FI N A a)->∀(p:List aZ) (h:List bp) (d:List kA),Pv N A p h->(fD l p h d).2.2.2=0->Pv N A (fD l p h d).1 (fD l p h d).2.1
 |[],_,p,h,d,I,_=>I
 |a::l,hl,p,h,d,I,he=>by
  rw[fD]at he ⊢;by_cases j:(a p h).2.2.2=0
  .rw[ah j]at he ⊢;exact Yz l (λb hb=>hl b (by simp[hb])) _ _ _ (hl a (by simp) p h I j) he
  .rw[ag j]at he;exact absurd he j
theorem Rt:∀(n:Nat) (gs ts:List UA),gs.length+ts.length<=n->∀x∈kx gs ts,(∃g∈gs,g.1=x.1)/\∃t∈ts,t.1=x.2.1
 |_,[],ts,_,x,j=>by rw[kx]at j;cases j
 |_,(u,a)::gs,[],_,x,j=>by rw[kx]at j;cases j
 |n,(u,a)::gs,(v,b)::ts,G,x,j=>by
  obtain⟨m,rfl⟩:∃m,n=m+1:=⟨n-1,by simp only[aJ]at G;omega⟩;simp only[aJ]at G;rw[kx]at j;rcases aB.1 j with rfl|j
  .exact⟨⟨(u,a),by simp,rfl⟩,(v,b),by simp,rfl⟩
  .by_cases H:a<=b
   .rw[ah H]at j;have⟨⟨g,C,e⟩,t,y,F⟩:=Rt m gs ((v,b-a)::ts) (by simp only[aJ];omega) x j;refine⟨⟨g,by simp[C],e⟩,?_⟩;rcases aB.1 y with rfl|y
    .exact⟨(v,b),by simp,F⟩
    .exact⟨t,by simp[y],F⟩
   .rw[ag H]at j;have⟨⟨g,C,e⟩,t,y,F⟩:=Rt m ((u,a-b)::gs) ts (by simp only[aJ];omega) x j;refine⟨?_,t,bd _ y,F⟩;rcases aB.1 C with rfl|C
    .exact⟨(u,a),by simp,e⟩
    .exact⟨g,by simp[C],e⟩
theorem acL{N}{A}{as:List fI}{l:List ar}(hl:∀u∈l,N u)(H:N tU):FI N A (pE as l):=by
 intro p h I j;unfold pE at j ⊢;split;case isFalse C=>rw[ag C]at j;exact absurd j C
 rename_i C;rw[ah C]at j;split;case isFalse y=>rw[ag y]at j;exact absurd j y
 rename_i y;rw[ah y]at j;refine Yz _ (λa K=>?_) _ _ _ I j;obtain⟨x,G,rfl⟩:=aK.1 K;have⟨⟨g,J,e⟩,t,F,R⟩:=Rt _ _ _ (au _) x G;intro p h I j;refine q_ (b:=x.1) (t:=x.2.1) (n:=x.2.2) ?_ ?_ H I j
 .rw[<-e];exact hl _ (qk (show(g.1,g.2)∈_ from J)).1
 .rw[<-R];exact hl _ (qk (show(t.1,t.2)∈_ from F)).1
theorem ah1{N}{A}{t}{id:Int}(H:∀a∈t.2.2.2.2.1,∀u∈bW a,N u)(G:N tU)(R:N fU)(I:Pv N A (pu t) (ho t))(C:(fD (lP t id) (pu t) (ho t) []).2.2.2=0):
 Pv N A (fD (lP t id) (pu t) (ho t) []).1 (fD (lP t id) (pu t) (ho t) []).2.1:=by
 have mA:∀u∈oo (t.2.2.2.2.1.filter (po id)),N u:=λu y=>by have⟨a,j,y⟩:=bQ.1 y;exact H a (aI.1 j).1 u y
 have J:∀u∈lm (t.2.2.2.2.1.filter (po id)),N u:=λu y=>by have⟨a,j,y⟩:=bQ.1 y;exact H a (aI.1 (aI.1 j).1).1 u y
 refine Yz _ (λa j=>?_) _ _ _ I C;unfold lP yG at j;rcases aQ.1 j with j|j
 .obtain⟨u,y,rfl⟩:=aK.1 j;exact λp h I C=>ak1 (mA u y) G I C
 rcases aQ.1 j with j|j
 .obtain⟨x,K,rfl⟩:=aK.1 j;exact acL (H x (aI.1 (aI.1 K).1).1) G
 rcases aQ.1 j with j|j
 .have⟨u,y,hb⟩:=bQ.1 j;obtain⟨b,F,rfl⟩:=aK.1 hb;exact λp h I C=>r_ (J b F) (mA u y) G I C
 .have⟨u,y,hb⟩:=bQ.1 j;obtain⟨b,F,rfl⟩:=aK.1 hb;rw[ay.1 F];exact λp h I C=>r_ R (mA u y) G I C
theorem ah2{N}{A}{z}{u:ar}(I:Pv N A z.1 z.2.1)(y:N u):Pv N A (sf z u).1 (sf z u).2.1:=by
 unfold sf;split
 .exact I
 .have⟨C,_⟩:=Sv I.1.i I.1.f u _ rfl;refine⟨I.1.pay (λx j=>?_) C,I.2.aoS u⟩;rw[ay.1 j];exact y
theorem WJ{N}{A}:∀(us:List ar) (z:PHR),(∀u∈us,N u)->Pv N A z.1 z.2.1->Pv N A (us.foldl sf z).1 (us.foldl sf z).2.1
 |[],z,_,I=>I
 |u::us,z,h,I=>WJ us (sf z u) (λv hv=>h v (by simp[hv])) (ah2 I (h u (by simp)))
theorem ah3{N}{A}{s:aU}{id:Int}(C:∀a∈s.2.2.2.2.1,∀u∈bW a,N u)(I:Pv N A (pu s) (ho s)):Pv N A (jn s (j9 id s.2.2.2.2.1)).1 (jn s (j9 id s.2.2.2.2.1)).2.1:=by refine WJ _ _ (λu j=>?_) I;have⟨a,y,j⟩:=bQ.1 j;exact C a (aI.1 y).1 u j
def Ig(C:List aN):List ar:=C.flatMap bW
def rH(C:List aN)(u:ar):Prop:=u∈Ig C
def GC(C:List aN)(u:ar):Prop:=rH C u\/u=fU\/u=tU
def lz{α:Type}(f:α->Int)(l:List α)(k:Int):Prop:=∃x∈l,f x=k
def Idx{α:Type}(f:α->Int)(l:List α):Prop:=∀i (h:i<l.length),f l[i]=(i:Int)+1
structure Pw(a:aN):Prop where
 h:ak2 a
 s:pY (λx:Int=>x) a.2.2.2.1
 c:∀x∈a.2.2.2.1,1<=x/\x<=16
structure aoT(C:List aN)(I:List bR)(g:cU):Prop where
 u:rH C g.2.1
 i:lz (·.1) I g.2.2.1
 p:0<=g.2.2.2.1/\g.2.2.2.1<=2147483647
 l:l6 g.2.2.2.2.1
structure aoU(C:List aN)(I:List bR)(n:Nat)(y:dk):Prop where
 f:rH C y.2.1
 t:rH C y.2.2.1
 ne:y.2.1≠y.2.2.1
 i:lz (·.1) I y.2.2.2.1.1
 q0:y.2.2.2.1.2.1≠0
 q:l6 y.2.2.2.1.2.1
 p:0<=y.2.2.2.2.1/\y.2.2.2.2.1<=2147483647
 g:0<=y.2.2.2.2.2.1/\y.2.2.2.2.2.1<=(n:Int)
 d:0<=y.2.2.2.2.2.2.1/\y.2.2.2.2.2.2.1<=2097152
 s:1<=y.2.2.2.2.2.2.2.1/\y.2.2.2.2.2.2.2.1<=5
structure ct(dy:Int)(M:List bB)(I:List bR)(A:List bu)(C:List aN)(ch:List cd)(gr:List cU)(gv:List dk)(bk sa:List cj)(pu:List aZ)(ho:List bp):Prop where
 dy:0<=dy/\dy<=1048576
 mA:pY (·.1) M
 mO:∀m∈M,zm m
 iA:pY (·.1) I
 iO:∀i∈I,Rg i
 aA:pY (·.1) A
 aO:∀a∈A,ly a
 cA:pY (·.1) C
 cO:∀a∈C,Pw a
 cM:∀a∈C,lz (·.1) M a.2.1
 hO:∀x∈ch,(rH C x.1/\rH C x.2.1)/\x.1≠x.2.1
 hS:jN (ch.map (·.1))
 gI:Idx (·.1) gr
 gO:∀g∈gr,aoT C I g
 gL:gr.length<=64
 vI:Idx (·.1) gv
 vO:∀g∈gv,aoU C I gr.length g
 vL:gv.length<=64
 b:Lo (rH C) (lz (·.1) I) bk
 s:Lo (rH C) (lz (·.1) I) sa
 p:QB (GC C) pu
 h:Ln (GC C) (lz (·.1) A) ho
 bal:∀j,li bk j+li sa j=0
def zI(s:aU):Prop:=ct s.1 s.2.1 s.2.2.1 s.2.2.2.1 s.2.2.2.2.1 s.2.2.2.2.2.1 s.2.2.2.2.2.2.1 s.2.2.2.2.2.2.2.1 s.2.2.2.2.2.2.2.2.1 s.2.2.2.2.2.2.2.2.2.1 s.2.2.2.2.2.2.2.2.2.2.1 s.2.2.2.2.2.2.2.2.2.2.2.1
def Siz(a b:Nat)(s:aU):Prop:=(Ig s.2.2.2.2.1).length<=a/\(bk s).length+(sa s).length<=2*b
theorem LW{α}{f}{l:List α}(h:pY f l)(n:Nat)(hb:∀x∈l,1<=f x/\f x<=(n:Int)):l.length<=n:=by
 have H:=Gy (l:=l.map f) (U:=(List.range n).map λi=>((i:Nat):Int)+1) (vD (λ{a b} (j:a<b)=>Int.ne_of_lt j) h) λx G=>by obtain⟨y,F,rfl⟩:=aK.1 G;have:=hb y F;exact aK.2 ⟨(f y-1).toNat,Bs.2 (by omega),by omega⟩
 rwa [aW,aW,List.length_range]at H
theorem afm{α}{f}{l:List α}(h:Idx f l):pY f l:=by unfold pY;rw[bN];intro i j hi y F;rw[aW]at hi y;rw[ku,ku,h i hi,h j y];omega
theorem YA{α}{f}{l:List α}(h:Idx f l):∀x∈l,1<=f x/\f x<=(l.length:Int):=λx j=>by obtain⟨i,hi,rfl⟩:=gS j;rw[h i hi];omega
theorem afn{α}{f}{g:α->α}(j:∀y,f (g y)=f y){l:List α}(h:Idx f l):Idx f (l.map g):=λi hi=>by rw[ku,j];exact h i (by simpa using hi)
theorem s_{α}{f}{l:List α}{x:α}(h:Idx f l)(y:f x=(l.length:Int)+1):Idx f (l++[x]):=λi hi=>by
 rw[aq]at hi;simp only[aJ,eV]at hi;by_cases j:i<l.length
 .rw[s8 j];exact h i j
 .have:i=l.length:=by omega
  subst this;rw[nj (au _)];simpa using y
theorem afo{α}(f:α->Int):Idx f []:=λ_ h=>absurd h (Nat.not_lt_zero _)
theorem Pw.len{a:aN}(O:Pw a):a.2.2.2.1.length<=16:=LW O.s 16 O.c
theorem zm.len{M}(h:pY (·.1) M)(O:∀m∈M,zm m):M.length<=8:=LW h 8 λm hm=>⟨(O m hm).1,(O m hm).2.1⟩
namespace ct
variable {dy : Int} {M : List bB} {I : List bR} {A : List bu} {C : List aN} {ch : List cd} {gr : List cU} {gv : List dk} {bk sa : List cj} {pu : List aZ} {ho : List bp}
theorem mL(L:ct dy M I A C ch gr gv bk sa pu ho):M.length<=8:=zm.len L.mA L.mO
theorem iL(L:ct dy M I A C ch gr gv bk sa pu ho):I.length<=8:=LW L.iA 8 λi hi=>(L.iO i hi).1
theorem aL(L:ct dy M I A C ch gr gv bk sa pu ho):A.length<=4:=LW L.aA 4 λi hi=>(L.aO i hi).1
theorem cL(L:ct dy M I A C ch gr gv bk sa pu ho):C.length<=16:=LW L.cA 16 λi hi=>(L.cO i hi).h.1
theorem hL(L:ct dy M I A C ch gr gv bk sa pu ho):ch.length<=(Ig C).length:=by
 have:=Gy (l:=ch.map (·.1)) (U:=Ig C) (N3 L.hS) λx F=>by obtain⟨y,j,rfl⟩:=aK.1 F;exact(L.hO y j).1.1
 rwa [aW]at this
theorem bL(L:ct dy M I A C ch gr gv bk sa pu ho):bk.length<=(Ig C).length:=L.b.len λ_ h=>h
theorem sL(L:ct dy M I A C ch gr gv bk sa pu ho):sa.length<=(Ig C).length:=L.s.len λ_ h=>h
theorem Sw{C}:∀u,GC C u->u∈Ig C++[fU,tU]:=λu h=>by
 rcases h with h|h|h
 .exact aQ.2 (.inl h)
 .exact aQ.2 (.inr (by simp[h]))
 .exact aQ.2 (.inr (by simp[h]))
theorem pL(L:ct dy M I A C ch gr gv bk sa pu ho):pu.length<=(Ig C).length+2:=by have:=L.p.len Sw;rw[aq]at this;exact this
theorem oL(L:ct dy M I A C ch gr gv bk sa pu ho):ho.length<=(Ig C).length+2:=by have:=L.h.len Sw;rw[aq]at this;exact this
theorem Vs(L:ct dy M I A C ch gr gv bk sa pu ho):Vs I:=⟨λi hi=>by have:=(L.iO i hi).2.2.2.2.1;omega,by have:=L.iL;omega⟩
theorem qP(L:ct dy M I A C ch gr gv bk sa pu ho):qP C:=⟨λa j=>by have:=(L.cO a j).len;omega,by have:=L.cL;omega⟩
theorem Vt(L:ct dy M I A C ch gr gv bk sa pu ho):Vt I:=⟨λi hi=>by have:=L.iO i hi;unfold Rg at this;exact⟨this.2.1,⟨this.2.2.1.1,by omega⟩,⟨this.2.2.2.1.1,by omega⟩,this.2.2.2.2.1⟩,by have:=L.iL;omega⟩
theorem ao7(L:ct dy M I A C ch gr gv bk sa pu ho):ao7 I:=⟨L.iO,by have:=L.iL;omega⟩
theorem aoV{l:List Int}(h:l.any Sx=false):∀x∈l,cz x:=λx j=>by have:=kZ.1 h x j;unfold Sx at this;simp only[fQ,bg,not_or]at this;unfold cz;omega
theorem tu(L:ct dy M I A C ch gr gv bk sa pu ho):OkT I:=⟨by have:=L.iL;omega,λi hi=>⟨by have:=(L.iO i hi).2.2.2.2.1;omega,aoV (L.iO i hi).2.2.2.2.2⟩⟩
end ct
structure wI(d:aM):Prop where
 L:zI (bY d)
 u:(Ig (bK d)).length<=90
 t:(dq d).length+(fW d).length<=90
 b:(dq d).length<=64
 s:(fW d).length<=64
 q:cz (dv d)
 n:(tw d).length<=1000
theorem wI.of{d}{a b}(L:zI (bY d))(S:Siz a b (bY d))(h:a+b<=90)(F:cz (dv d))(G:(tw d).length<=1000):wI d:=by have⟨y,j⟩:=S;have y:(Ig (bK d)).length<=a:=y;have j:(dq d).length+(fW d).length<=2*b:=j;have J:(dq d).length<=(Ig (bK d)).length:=ct.bL L;have H:(fW d).length<=(Ig (bK d)).length:=ct.sL L;exact⟨L,by omega,by omega,by omega,by omega,F,G⟩
theorem wI.t_{d:aM}(Z:wI d):ak3 d:=⟨ct.Vs Z.L,(ct.b Z.L).okB (by have:=Z.b;show(dq d).length<=100;omega),Z.b,(ct.p Z.L).f,by have h:=ct.pL Z.L;have:=Z.u;have h:(eZ d).length<=(Ig (bK d)).length+2:=h;omega⟩
theorem wI.N4{d:aM}(Z:wI d):EA d:=
 { Z.t_ with
  a:=ct.qP Z.L
  al:=by have h:(bK d).length<=16:=ct.cL Z.L;omega
  as:=ct.cA Z.L
  m:=by have h:(fm d).length<=8:=ct.mL Z.L;omega
  ms:=ct.mA Z.L
  is:=ct.iA Z.L
  g:=ct.gL Z.L
  gs:=afm (ct.gI Z.L)
  gi:=λx j=>by have h:=YA (ct.gI Z.L) x j;have:=ct.gL Z.L;have h:=h;omega
  gl:=λx j=>by have h:=(ct.gO Z.L x j).l;unfold l6 at h;unfold cz;omega
  v:=ct.vL Z.L
  vs:=afm (ct.vI Z.L)
  vi:=λx j=>by have h:=YA (ct.vI Z.L) x j;have:=ct.vL Z.L;have h:=h;omega
  vq:=λx j=>by have h:=(ct.vO Z.L x j).q;unfold l6 at h;unfold cz;omega
  q:=Z.q }
theorem wI.okN{d}(Z:wI d):OkN d:=
 { Z.N4 with
  ss:=ct.aA Z.L
  sl:=by have h:(iR d).length<=4:=ct.aL Z.L;omega
  n:=Z.n
  cc:=λa j=>⟨(ct.cO Z.L a j).s,(ct.cO Z.L a j).len⟩ }
theorem wI.hs{d}(Z:wI d):lk (dJ d):=(ct.h Z.L).lk (by have h:(dJ d).length<=(Ig (bK d)).length+2:=ct.oL Z.L;have:=Z.u;show(dJ d).length<=400000;omega)
theorem wI.okP{d}(Z:wI d):OkP (bY d) where
 mL:=by have h:(fm d).length<=8:=ct.mL Z.L;show(fm d).length<=10;omega
 mI:=λm hm=>by have h:=ct.mO Z.L m hm;unfold zm at h;unfold cz;omega
 aA:=ct.qP Z.L
 aL:=by have h:(bK d).length<=16:=ct.cL Z.L;show(bK d).length<=20;omega
 aS:=ct.cA Z.L
 cL:=by have h:(jC d).length<=(Ig (bK d)).length:=ct.hL Z.L;have:=Z.u;show(jC d).length<=100;omega
 hb:=Z.t_.b
 bl:=Z.b
 pf:=(ct.p Z.L).f
 pl:=Z.t_.pl
 hh:=Z.hs
 hl:=by have h:(dJ d).length<=(Ig (bK d)).length+2:=ct.oL Z.L;have:=Z.u;show(dJ d).length<=94;omega
theorem wI.ak4{d}(Z:wI d):okB (fW d):=(ct.s Z.L).okB (by have:=Z.s;show(fW d).length<=100;omega)
theorem wI.ta{d}(Z:wI d):OkF (bY d) where
 iT:=ct.ao7 Z.L
 mL:=Z.N4.m
 aA:=ct.qP Z.L
 aS:=ct.cA Z.L
 hb:=Z.t_.b
 hs:=Z.ak4
 bl:=Z.b
 sl:=Z.s
 pf:=(ct.p Z.L).f
 pl:=Z.t_.pl
theorem wI.okS{d}(Z:wI d):OkS (bY d) where
 a:=ct.aO Z.L
 aL:=by have h:(iR d).length<=4:=ct.aL Z.L;show(iR d).length<=8;omega
 c:=λa j=>⟨⟨(ct.cO Z.L a j).h.1.1,(ct.cO Z.L a j).s|>λh=>by unfold pY at h;rwa [Fm]at h⟩,by have:=(ct.cO Z.L a j).len;omega⟩
 cL:=by have h:(bK d).length<=16:=ct.cL Z.L;show(bK d).length<=20;omega
 f:=(ct.p Z.L).f
 fL:=Z.t_.pl
 h:=Z.hs
 hL:=Z.okP.hl
theorem wI.ak5{d}(Z:wI d):GD (iR d,fK d,dq d,eZ d,dJ d,()) where
 a:=ct.aO Z.L
 al:=by have h:(iR d).length<=4:=ct.aL Z.L;dsimp only;omega
 t:=ct.tu Z.L
 b:=Z.t_.b
 f:=(ct.p Z.L).f
 fl:=by have h:=Z.t_.pl;dsimp only;omega
 h:=Z.hs
theorem u_{α}{f}{l:List α}(h:pY f l)(x:α):pY f (Vu f l x):=by
 unfold pY Vu at *;rw[hJ]
 have e:(f ∘ λy=>if f y=f x then x else y)=f:=funext λy=>by
  show f (if f y=f x then x else y)=f y;split
  .rename_i h;exact h.symm
  .rfl
 rw[e];exact h
theorem Sy{α}{f}{l:List α}{x y:α}(h:y∈Vu f l x):y=x\/y∈l:=by
 obtain⟨z,j,rfl⟩:=aK.1 h;split
 .exact .inl rfl
 .exact .inr j
theorem ak6{α}{f}{l:List α}{x:α}{k:Int}(h:lz f l k):lz f (Vu f l x) k:=by
 have⟨z,j,e⟩:=h;refine⟨_,aK.2 ⟨z,j,rfl⟩,?_⟩;split
 .rename_i y;rw[<-y];exact e
 .exact e
theorem Sz{α}{f}{l:List α}{x:α}{k:Int}(h:lz f l k):lz f (vR f l x) k:=by have⟨z,j,e⟩:=h;exact⟨z,xN.2 (.inr j),e⟩
theorem Ru{α}{f}{g:α->α}{l:List α}{k:Int}(F:∀y,f (g y)=f y)(h:lz f l k):lz f (l.map g) k:=by have⟨z,j,e⟩:=h;exact⟨g z,dm j,by rw[F,e]⟩
theorem LX{α}{f}{g:α->α}(j:∀y,f (g y)=f y){l:List α}(h:pY f l):pY f (l.map g):=Rv j h
theorem aoT.mono{C C'}{I I'}{y}(O:aoT C I y)(F:∀u,rH C u->rH C' u)(j:∀k,lz (·.1) I k->lz (·.1) I' k):aoT C' I' y:=⟨F _ O.u,j _ O.i,O.p,O.l⟩
theorem aoU.mono{C C'}{I I'}{n m}{y}(O:aoU C I n y)(j:∀u,rH C u->rH C' u)(F:∀k,lz (·.1) I k->lz (·.1) I' k)(G:n<=m):aoU C' I' m y:=⟨j _ O.f,j _ O.t,O.ne,F _ O.i,O.q0,O.q,O.p,⟨O.g.1,by have:=O.g.2;omega⟩,O.d,O.s⟩
theorem GC.mono{C C'}(j:∀u,rH C u->rH C' u)(u)(h:GC C u):GC C' u:=h.imp (j u) id
namespace ct
variable {dy : Int} {M M' : List bB} {I I' : List bR} {A A' : List bu} {C C' : List aN} {ch : List cd} {gr : List cU} {gv : List dk} {bk sa : List cj} {pu : List aZ} {ho : List bp}
theorem av4(L:ct dy M I A C ch gr gv bk sa pu ho)(mA:pY (·.1) M')(mO:∀m∈M',zm m)(y:∀k,lz (·.1) M k->lz (·.1) M' k):ct dy M' I A C ch gr gv bk sa pu ho:={ L with mA:=mA,mO:=mO,cM:=λa j=>y _ (L.cM a j) }
theorem aoW(L:ct dy M I A C ch gr gv bk sa pu ho)(iA:pY (·.1) I')(iO:∀m∈I',Rg m)(j:∀k,lz (·.1) I k->lz (·.1) I' k):ct dy M I' A C ch gr gv bk sa pu ho:={ L with iA:=iA,iO:=iO,gO:=λg y=>(L.gO g y).mono (λ_ h=>h) j,vO:=λg y=>(L.vO g y).mono (λ_ h=>h) j (au _),b:=L.b.mono (λ_ h=>h) j,s:=L.s.mono (λ_ h=>h) j }
theorem av5(L:ct dy M I A C ch gr gv bk sa pu ho)(aA:pY (·.1) A')(aO:∀m∈A',ly m)(j:∀k,lz (·.1) A k->lz (·.1) A' k):ct dy M I A' C ch gr gv bk sa pu ho:={ L with aA:=aA,aO:=aO,h:=L.h.mono (λ_ h=>h) j }
theorem av6(L:ct dy M I A C ch gr gv bk sa pu ho)(cA:pY (·.1) C')(cO:∀m∈C',Pw m)(cM:∀a∈C',lz (·.1) M a.2.1)(j:∀u,rH C u->rH C' u):ct dy M I A C' ch gr gv bk sa pu ho:=
 { L with
  cA:=cA,cO:=cO,cM:=cM
  hO:=λx y=>⟨⟨j _ (L.hO x y).1.1,j _ (L.hO x y).1.2⟩,(L.hO x y).2⟩
  gO:=λg F=>(L.gO g F).mono j λ_ h=>h
  vO:=λg F=>(L.vO g F).mono j (λ_ h=>h) (au _)
  b:=L.b.mono j λ_ h=>h
  s:=L.s.mono j λ_ h=>h
  p:=L.p.mono (GC.mono j)
  h:=L.h.mono (GC.mono j) λ_ h=>h }
end ct
def Kp(x y:Nat)(d e:aM):Prop:=zI (bY e)/\(Ig (bK e)).length<=(Ig (bK d)).length+x/\(dq e).length+(fW e).length<=(dq d).length+(fW d).length+2*y
theorem Kp.up{x y}{d e:aM}(K:Kp 0 0 d e):Kp x y d e:=⟨K.1,by have:=K.2.1;omega,by have:=K.2.2;omega⟩
theorem Kp.wF{d}(L:zI (bY d)):Kp 0 0 d d:=⟨L,au _,au _⟩
theorem ak7{l}{id}(h:mY l id=none):∀y∈l,y.1≠id:=zJ h
theorem acM{d:aM}{m:bB}(L:zI (bY d))(h:(JJ (fm d) m).2.1=0):Kp 0 0 d (SA d (JJ (fm d) m).1):=by
 unfold JJ at h ⊢;by_cases F:zm m;case neg=>rw[ag F]at h;cases h
 rw[ah F]at h ⊢;by_cases j:mY (fm d) m.1=none;case neg=>rw[ag j]at h;cases h
 rw[ah j];exact⟨ct.av4 L (LY (ct.mA L) (ak7 j)) (λy G=>(xN.1 G).elim (λe=>by rw[e];exact F) (ct.mO L y)) λk H=>Sz H,au _,au _⟩
theorem SB{d:aM}{m:bB}(L:zI (bY d))(h:(CO (fm d) m).2.1=0):Kp 0 0 d (SA d (CO (fm d) m).1):=by
 unfold CO at h ⊢;by_cases j:zm m;case neg=>rw[ag j]at h;cases h
 rw[ah j]at h ⊢;by_cases F:mY (fm d) m.1=none;case pos=>rw[ah F]at h;cases h
 rw[ag F];exact⟨ct.av4 L (u_ (ct.mA L) m) (λy G=>(Sy G).elim (λe=>by rw[e];exact j) (ct.mO L y)) λk H=>ak6 H,au _,au _⟩
theorem acN{d:aM}{m:bR}(L:zI (bY d))(h:(JK (fK d) m).2.1=0):Kp 0 0 d (ak8 d (JK (fK d) m).1):=by
 unfold JK at h ⊢;by_cases F:Rg m;case neg=>rw[ag F]at h;cases h
 rw[ah F]at h ⊢;by_cases j:nv (fK d) m.1=none;case neg=>rw[ag j]at h;cases h
 rw[ah j];exact⟨ct.aoW L (LY (ct.iA L) (zJ j)) (λy G=>(xN.1 G).elim (λe=>by rw[e];exact F) (ct.iO L y)) λk H=>Sz H,au _,au _⟩
theorem ah4{d:aM}{m:bu}(L:zI (bY d))(h:(SC (iR d) m).2.1=0):Kp 0 0 d (SE d (SC (iR d) m).1):=by
 unfold SC at h ⊢;by_cases F:ly m;case neg=>rw[ag F]at h;cases h
 rw[ah F]at h ⊢;by_cases j:SF (iR d) m.1=none;case neg=>rw[ag j]at h;cases h
 rw[ah j];exact⟨ct.av5 L (LY (ct.aA L) (zJ j)) (λy G=>(xN.1 G).elim (λe=>by rw[e];exact F) (ct.aO L y)) λk H=>Sz H,au _,au _⟩
theorem afp{a}(h:okA a=true):Pw a:=by
 unfold okA at h;rw[aD]at h;have⟨K,y⟩:=h;rw[GF]at y;unfold N5 at y;simp only[bg]at y;refine⟨bA K,?_,λx J=>?_⟩
 .unfold pY;rw[Fm]
  have step:∀i (hi:i+1<a.2.2.2.1.length),a.2.2.2.1[i]<a.2.2.2.1[i+1]:=λi hi=>by
   have:=(y (i+1) hi).2.2 (by omega)
   rwa [v_ (by omega)]at this
  rw[bN];intro i j hi G F;obtain⟨k,rfl⟩:∃k,j=i+k+1:=⟨j-i-1,by omega⟩;clear F;induction k with
  |zero=>exact step i G
  |succ k H=>exact Fo (H (by omega)) (step (i+k+1) G)
 .obtain⟨i,hi,rfl⟩:=gS J;have:=y i hi;omega
theorem aoX{a}(O:Pw a):okA a=true:=by unfold okA;rw[aD];refine⟨ap O.h,?_⟩;rw[GF];unfold N5;simp only[bg];intro i hi;have y:=O.c _ (aE hi);refine⟨y.1,y.2,λF=>?_⟩;obtain⟨j,rfl⟩:∃j,i=j+1:=⟨i-1,by omega⟩;rw[v_ (by omega)];have hs:=O.s;unfold pY at hs;rw[Fm,bN]at hs;exact hs j (j+1) (by omega) hi (by omega)
theorem aoY{C}{a}:(Ig (vR (·.1) C a)).length=(Ig C).length+(bW a).length:=by
 have e:=jW (p:=λy:aN=>decide (y.1<a.1)) (l:=C);have h:(Ig C).length=(Ig (C.takeWhile λy:aN=>decide (y.1<a.1))).length+(Ig (C.dropWhile λy:aN=>decide (y.1<a.1))).length:=by rw[<-aq];unfold Ig;rw[<-jM,e]
 show(Ig ((C.takeWhile λy:aN=>decide (y.1<a.1))++a::C.dropWhile λy:aN=>decide (y.1<a.1))).length=_;rw[h];unfold Ig;rw[jM,cF,aq,aq];omega
theorem ak9{C}{a}{u}(h:rH C u):rH (vR (·.1) C a) u:=by have⟨b,hb,j⟩:=bQ.1 h;exact bQ.2 ⟨b,xN.2 (.inr hb),j⟩
theorem ah5{l}{id}{m}(h:mY l id=some m):m∈l/\m.1=id:=⟨cf h,by have:=jS h;simpa using this⟩
theorem w_{d}(h:(lC d).2.1=0):(lC d).1∈fm d/\(lC d).1.1=sw d:=by
 unfold lC at h ⊢;cases j:mY (fm d) (sw d)with
 |none=>rw[j]at h;cases h
 |some m=>exact ah5 j
theorem ah6{d:aM}(L:zI (bY d))(h:(GG d).1=0):Kp 1 0 d (GG d).2:=by
 unfold GG at h ⊢;by_cases J:tK d=0;case neg=>rw[ag J]at h;cases h
 rw[ah J]at h ⊢;by_cases F:LZ d=0;case neg=>rw[ag F]at h;exact absurd h F
 rw[ah F]at h ⊢
 have hm:lz (·.1) (fm d) (sw d):=by
  unfold LZ at F;by_cases j:(lC d).2.1=0;case neg=>rw[ag j]at F;exact absurd F j
  exact⟨_,w_ j⟩
 have h:=h;unfold SG at h ⊢;by_cases j:okA (L1 d)=true;case neg=>rw[ag j]at h;cases h
 rw[ah j]at h ⊢;by_cases H:jj (bK d) (L1 d).1=none;case neg=>rw[ag H]at h;cases h
 rw[ah H];refine⟨ct.av6 L (LY (ct.cA L) (zJ H)) (λy G=>(xN.1 G).elim (λe=>by rw[e];exact afp j) (ct.cO L y)) (λy G=>(xN.1 G).elim (λe=>by rw[e];exact hm) (ct.cM L y)) λu K=>ak9 K,?_,au _⟩;show(Ig (vR (·.1) (bK d) (L1 d))).length<=_;rw[aoY];have:(bW (L1 d)).length<=1:=by unfold bW L1;split<;>simp
 omega
theorem Ih{l}{id}{m}(h:jj l id=some m):m∈l/\m.1=id:=⟨cf h,by have:=jS h;simpa using this⟩
theorem acO{α}{f}{x:α}{l:List α}(h:pY f (x::l)):∀y∈l,f y≠f x:=λy j=>by unfold pY at h;rw[bI,bw]at h;have:=h.1 (f y) (dm j);omega
theorem afq{b}{n:Nat}:∀{C:List aN},pY (·.1) C->(∀y∈C,y.1=b.1->(bW b).length<=(bW y).length+n)->(Ig (Vu (·.1) C b)).length<=(Ig C).length+n
 |[],_,_=>by show(0:Nat)<=0+n;omega
 |y::C,h,hb=>by
  have G:=acO h;have H:pY (λa:aN=>a.1) C:=by unfold pY at h ⊢;rw[bI,bw]at h;exact h.2
  unfold Vu;rw[bI];by_cases j:y.1=b.1
  .rw[ah j];have e:(C.map λz:aN=>if z.1=b.1 then b else z)=C:=by refine(sE λz F=>?_).trans (Cz _);rw[ag (by rw[<-j];exact G z F)];rfl
   rw[e];show((b::C).flatMap bW).length<=((y::C).flatMap bW).length+n;rw[cF,cF,aq,aq];have:=hb y (by simp) j;omega
  .rw[ag j];have J:((C.map λz:aN=>if z.1=b.1 then b else z).flatMap bW).length<=(C.flatMap bW).length+n:=afq H λz F=>hb z (by simp[F])
   show((y::C.map λz:aN=>if z.1=b.1 then b else z).flatMap bW).length<=((y::C).flatMap bW).length+n;rw[cF,cF,aq,aq];omega
theorem L2{α}{f:α->Int}:∀{l:List α},pY f l->∀{x y:α},x∈l->y∈l->f x=f y->x=y
 |[],_,x,_,H,_,_=>by cases H
 |z::l,h,x,y,H,J,e=>by
  have G:=acO h;have hl:pY f l:=by unfold pY at h ⊢;rw[bI,bw]at h;exact h.2
  rcases aB.1 H with F|F
  .rcases aB.1 J with j|j
   .rw[F,j]
   .exact absurd (by rw[<-e,F]) (G y j)
  .rcases aB.1 J with j|j
   .exact absurd (by rw[e,j]) (G x F)
   .exact L2 hl F j e
theorem akA{d:aM}(L:zI (bY d))(h:(Px d).1=0):Kp 1 0 d (Px d).2:=by
 unfold Px at h ⊢;cases X:jj (bK d) (wa d)with
 |none=>rw[X]at h;cases h
 |some a=>
  rw[X]at h;have⟨V,hk⟩:=Ih X;dsimp only at h ⊢;by_cases Y:(x_ d a.2.1).2.2.1=0;case neg=>rw[ag Y]at h;cases h
  rw[ah Y]at h ⊢;by_cases j:(tx a (tK d)).2.1=0;case neg=>rw[ag j]at h;exact absurd h j
  rw[ah j]at h ⊢;have O:=ct.cO L a V
  have hb:∃c,¬a.2.2.1=1/\(tx a (tK d)).1=(a.1,a.2.1,a.2.2.1,vR (λx:Int=>x) a.2.2.2.1 c,()):=by
   unfold tx at j ⊢;rw[ah (aoX O)]at j ⊢;by_cases H:a.2.2.1=1;case pos=>rw[ah H]at j;cases j
   rw[ag H]at j ⊢;split;case isTrue F=>rw[ah F]at j;cases j
   rename_i F;rw[ag F]at j;split;case isTrue R=>rw[ah R]at j;cases j
   rename_i R;rw[ag R]at j;split;case isTrue h6=>rw[ah h6]at j;cases j
   exact⟨_,H,rfl⟩
  have⟨c,H,eb⟩:=hb;rw[eb]at h ⊢;have h:=h;unfold SH at h ⊢;split;case isFalse F=>rw[ag F]at h;cases h
  rename_i F;rw[ah F]at h;split;case isTrue R=>rw[ah R]at h;cases h
  have K:∀u,u∈bW a->u∈bW (a.1,a.2.1,a.2.2.1,vR (λx:Int=>x) a.2.2.2.1 c,()):=λu K=>by unfold bW at K ⊢;rw[ag H]at K ⊢;obtain⟨z,hz,rfl⟩:=aK.1 K;exact aK.2 ⟨z,xN.2 (.inr hz),rfl⟩
  refine⟨ct.av6 L (u_ (ct.cA L) _) (λy J=>(Sy J).elim (λe=>by rw[e];exact afp F) (ct.cO L y)) (λy J=>(Sy J).elim (λe=>by rw[e];exact ct.cM L a V) (ct.cM L y)) λu W=>?_,?_,au _⟩
  .have⟨b,hb,G⟩:=bQ.1 W;refine bQ.2 ⟨_,aK.2 ⟨b,hb,rfl⟩,?_⟩;split
   .rename_i e;rw[L2 (ct.cA L) hb V e]at G;exact K u G
   .exact G
  .refine afq (ct.cA L) λy J e=>?_
   rw[L2 (ct.cA L) J V e];unfold bW;rw[ag H,ag H,aW,aW,y_];omega
theorem ah7{d}(L:zI (bY d))(h:(CP d).1=0):Kp 1 0 d (CP d).2:=by
 unfold CP at h ⊢;split;case isTrue J=>rw[ah J]at h;exact(acM L h).up
 rename_i J;rw[ag J]at h;split;case isTrue H=>rw[ah H]at h;exact(acN L h).up
 rename_i H;rw[ag H]at h;split;case isTrue G=>rw[ah G]at h;exact(ah4 L h).up
 rename_i G;rw[ag G]at h;split;case isTrue F=>rw[ah F]at h;exact ah6 L h
 rename_i F;rw[ag F]at h;split;case isTrue y=>rw[ah y]at h;exact akA L h
 rename_i y;rw[ag y]at h;split
 case isTrue K=>
  rw[ah K]at h;split;case isTrue j=>rw[ah j]at h;exact(SB L h).up
  rename_i j;rw[ag j]at h;exact absurd h j
 exact(Kp.wF L).up
theorem ah8{C}{u}(h:qx C u≠0):rH C u:=by
 unfold qx at h;cases j:C.find? (λa=>rB a u)with
 |none=>rw[j]at h;exact absurd rfl h
 |some a=>have F:=cf j;have y:=jS j;exact bQ.2 ⟨a,F,bA y⟩
theorem YB{d}{u}(h:Vn d u=0):rH (bK d) u:=by
 unfold Vn at h;by_cases j:qx (bK d) u=0
 .rw[ah j]at h;cases h
 .exact ah8 j
theorem sQ{d}:∀{l:List ar},pv d l=0->∀u∈l,rH (bK d) u
 |[],_,u,hu=>by cases hu
 |v::l,h,u,hu=>by
  unfold pv at h;by_cases j:Vn d v=0;case neg=>rw[ag j]at h;exact absurd h j
  rw[ah j]at h;by_cases y:(Dv d v).2.2.1=0;case neg=>rw[ag y]at h;cases h
  rw[ah y]at h;rcases aB.1 hu with rfl|hu
  .exact YB j
  .exact sQ h u hu
theorem SI{d}{id}(h:(sx d id).2.1=0):(sx d id).1∈fK d/\(sx d id).1.1=id:=by
 unfold sx at h ⊢;cases j:nv (fK d) id with
 |none=>rw[j]at h;cases h
 |some m=>exact RY j
theorem akB{d}{f t x}{p:Int}(L:zI (bY d))(H:rH (bK d) f)(G:rH (bK d) t)(h:(Jf d f t x p).1=0):Kp 0 1 d (Jf d f t x p).2:=by
 unfold Jf at h ⊢;by_cases C:(sx d x.1).2.1=0;case neg=>rw[ag C]at h;exact absurd h C
 rw[ah C]at h ⊢;by_cases y:(atP (dq d,eZ d,()) (sx d x.1).1 f t x.2.1 p).2.1=0;case neg=>rw[ag y]at h;exact absurd h y
 rw[ah y];have K:=SI C;generalize (sx d x.1).1=i at *;have T:=akC y;have F:lz (·.1) (fK d) i.1:=⟨i,K.1,rfl⟩
 have hb:(yW (dq d) f t i.1 x.2.1).2.1=0/\(ig (eZ d) f t (gZ i x.2.1 p i.2.2.1)).2.1=0/\
  (atP (dq d,eZ d,()) i f t x.2.1 p).1=((yW (dq d) f t i.1 x.2.1).1,(ig (eZ d) f t (gZ i x.2.1 p i.2.2.1)).1,()):=by
  unfold atP at y ⊢;split;case isFalse g=>rw[ag g]at y;cases y
  rename_i g1;rw[ah g1]at y;rw[ah T.right,ag T.ne,ah T.fit]at y ⊢;split;case isFalse g=>rw[ag g]at y;exact absurd y g
  rename_i J;rw[ah J]at y;split;case isFalse g=>rw[ag g]at y;exact absurd y g
  rename_i W;exact⟨J,W,rfl⟩
 have⟨b1,Y,X⟩:=hb;have V:=(ct.b L).av3 H G F b1;have R:=(ct.p L).move (.inl H) (.inl G) Y;have M:=afr b1;rw[X];exact⟨{ L with b:=V,p:=R,bal:=λj=>(bS (· + li (fW d) j) (M.opn j)).trans (ct.bal L j) },au _,by have:=M.len;show(yW (dq d) f t i.1 x.2.1).1.length+(fW d).length<=(dq d).length+(fW d).length+2*1;omega⟩
theorem akD{d}(L:zI (bY d))(h:(Py d).1=0):Kp 0 1 d (Py d).2:=by
 unfold Py at h ⊢;split;case isFalse g=>rw[ag g]at h;exact absurd h g
 rename_i j;rw[ah j]at h;split;case isFalse g=>rw[ag g]at h;exact absurd h g
 rename_i F;rw[ah F]at h;split;case isTrue g=>rw[ah g]at h;cases h
 rename_i C;rw[ag C]at h;split;case isFalse g=>rw[ag g]at h;exact absurd h g
 rename_i y;exact akB L (sQ j _ (by simp)) (sQ j _ (by simp)) y
theorem ah9{l}(h:Idx (·.1) l):Dw l=(l.length:Int):=by
 unfold Dw;cases hl:l.getLast? with
 |none=>rw[List.getLast?_eq_none_iff]at hl;subst hl;rfl
 |some g=>
  have j:l≠[]:=λe=>by subst e;cases hl
  have e:=yw j;rw[e]at hl;injection hl with hl;rw[<-hl,List.getLast_eq_getElem];have y:=gj.2 j;have:=h (l.length-1) (by omega);dsimp only;have this:(l[l.length-1]).1=((l.length-1:Nat):Int)+1:=this;omega
theorem ahA{l}(h:Idx (·.1) l):GH l=(l.length:Int):=by
 unfold GH;cases hl:l.getLast? with
 |none=>rw[List.getLast?_eq_none_iff]at hl;subst hl;rfl
 |some g=>
  have j:l≠[]:=λe=>by subst e;cases hl
  have e:=yw j;rw[e]at hl;injection hl with hl;rw[<-hl,List.getLast_eq_getElem];have y:=gj.2 j;have this:(l[l.length-1]).1=((l.length-1:Nat):Int)+1:=h (l.length-1) (by omega);dsimp only;omega
structure av7(d:aM)(y:dk):Prop where
 f:rH (bK d) y.2.1
 t:rH (bK d) y.2.2.1
 i:lz (·.1) (fK d) y.2.2.2.1.1
 q:l6 y.2.2.2.1.2.1
 p:0<=y.2.2.2.2.1/\y.2.2.2.2.1<=2147483647
 g:0<=y.2.2.2.2.2.1/\y.2.2.2.2.2.1<=((dU d).length:Int)
theorem z_{d}{g}(L:zI (bY d))(N:av7 d g)(h:(Ai d g).1=0):Kp 0 0 d (Ai d g).2:=by
 unfold Ai at h ⊢;by_cases j:(L3 (cC d) g (gB d)).2.2.1=0;case neg=>rw[ag j]at h;exact absurd h j
 rw[ah j];have hi:Idx (·.1) (cC d):=ct.vI L
 have e:(L3 (cC d) g (gB d)).1=cC d++[akE (1+Dw (cC d)) g (gB d)]/\g.2.1≠g.2.2.1/\g.2.2.2.1.2.1≠0/\(0<=gB d/\gB d<=1048576)/\(cC d).length<64:=by
  unfold L3 at j ⊢;split;case isTrue g1=>rw[ah g1]at j;cases j
  rename_i g1;rw[ag g1]at j;split;case isTrue F=>rw[ah F]at j;cases j
  rename_i F;rw[ag F]at j;split;case isTrue G=>rw[ah G]at j;cases j
  rename_i G;exact⟨rfl,g1,λe=>F (.inl e),by omega,by omega⟩
 have⟨e,J,H,R,K⟩:=e;rw[e];refine⟨{ L with vI:=?_,vO:=λy C=>?_,vL:=?_ },au _,au _⟩
 .refine s_ hi ?_;show 1+Dw (cC d)=((cC d).length:Int)+1;rw[ah9 hi];omega
 .rcases aQ.1 C with C|C
  .exact ct.vO L y C
  .rw[ay.1 C];exact⟨N.f,N.t,J,N.i,H,N.q,N.p,N.g,by show 0<=gB d+8/\gB d+8<=2097152;omega,by show(1:Int)<=1/\(1:Int)<=5;omega⟩
 .show(cC d++[akE (1+Dw (cC d)) g (gB d)]).length<=64;rw[aq];simp only[aJ,eV];omega
theorem akF{d}(L:zI (bY d))(h:(Pz d).1=0):Kp 0 0 d (Pz d).2:=by
 unfold Pz at h ⊢;split;case isFalse g=>rw[ag g]at h;exact absurd h g
 rename_i j;rw[ah j]at h;split;case isFalse g=>rw[ag g]at h;exact absurd h g
 rename_i C;rw[ah C]at h;split;case isTrue g=>rw[ah g]at h;cases h
 rename_i F;rw[ag F]at h;have y:=SI C;exact z_ L ⟨sQ j (aY d) (by simp),sQ j (cJ d) (by simp),⟨_,y.1,y.2⟩,by show l6 (dv d);unfold l6;omega,by show 0<=ln d/\ln d<=2147483647;omega,by show(0:Int)<=0/\(0:Int)<=_;omega⟩ h
theorem A_{d}{id st:Int}(L:zI (bY d))(h:(eM (cC d) id st).2.1=0):zI (bY (BC d (eM (cC d) id st).1)):=by
 have F:2<=st/\st<=5:=by
  unfold eM at h;split at h
  .cases h
  .split at h
   .cases h
   .omega
 rw[afs h];have G:∀y:dk,(if y.1=id then SJ st y else y).1=y.1:=λy=>by split<;>rfl
 refine { L with vI:=afn G (ct.vI L),vO:=λy C=>?_,vL:=by have:=ct.vL L;show((cC d).map _).length<=64;rw[aW];exact this };obtain⟨z,j,rfl⟩:=aK.1 C;have O:=ct.vO L z j;split
 .exact⟨O.f,O.t,O.ne,O.i,O.q0,O.q,O.p,O.g,O.d,by show 1<=st/\st<=5;omega⟩
 .exact O
theorem B_{d}{id n:Int}(L:zI (bY d))(F:l6 n):zI (bY (Fx d ((dU d).map λy=>if y.1=id then kT n y else y))):=by
 have G:∀y:cU,(if y.1=id then kT n y else y).1=y.1:=λy=>by split<;>rfl
 have hl:((dU d).map λy:cU=>if y.1=id then kT n y else y).length=(dU d).length:=aW ..;refine { L with gI:=afn G (ct.gI L),gO:=λy j=>?_,gL:=?_,vO:=λy j=>(ct.vO L y j).mono (λ_ h=>h) (λ_ h=>h) (Fp hl.symm) }
 .obtain⟨z,C,rfl⟩:=aK.1 j;have O:=ct.gO L z C;split
  .exact⟨O.u,O.i,O.p,F⟩
  .exact O
 .have:=ct.gL L;show((dU d).map λy:cU=>if y.1=id then kT n y else y).length<=64;rw[hl];exact this
theorem YC{d}{id st:Int}(L:zI (bY d))(h:(Dx d id st).1=0):Kp 0 0 d (Dx d id st).2:=by
 unfold Dx at h ⊢;split;case isFalse g=>rw[ag g]at h;exact absurd h g
 rename_i j;rw[ah j]at h;have y:=A_ L j;split;case isTrue=>exact⟨y,au _,au _⟩
 rename_i G;rw[ag G]at h;split;case isFalse g=>rw[ag g]at h;exact absurd h g
 rename_i F;have⟨n,C,e⟩:=aft F;rw[e];exact⟨B_ (d:=BC d (eM (cC d) id st).1) y C,au _,au _⟩
theorem Kp.trans{x y}{d e f}(K:Kp 0 0 d e)(J:Kp x y e f):Kp x y d f:=⟨J.1,by have:=K.2.1;have:=J.2.1;omega,by have:=K.2.2;have:=J.2.2;omega⟩
theorem SK{st:Int}:∀{ids:List Int} {d:aM},zI (bY d)->(yX st ids d).1=0->Kp 0 0 d (yX st ids d).2
 |[],d,L,_=>Kp.wF L
 |id::l,d,L,h=>by
  unfold yX at h ⊢;split;case isFalse g=>rw[ag g]at h;exact absurd h g
  rename_i j;rw[ah j]at h;have K:=YC L j;exact K.trans (SK K.1 h)
theorem ahB{l}{id}{m}(h:Aj l id=some m):m∈l/\m.1=id:=⟨cf h,by have:=jS h;simpa using this⟩
theorem WK{l}{id}{m}(h:Ak l id=some m):m∈l/\m.1=id:=⟨cf h,by have:=jS h;simpa using this⟩
theorem acP{d}(L:zI (bY d))(h:(BQ d).1=0):Kp 0 1 d (BQ d).2:=by
 unfold BQ at h ⊢;cases j:Aj (cC d) (uI d)with
 |none=>rw[j]at h;cases h
 |some g=>
  rw[j]at h;dsimp only at h ⊢;have O:=ct.vO L g (ahB j).1;split;case isFalse g1=>rw[ag g1]at h;exact absurd h g1
  rename_i G;rw[ah G]at h;split;case isFalse g1=>rw[ag g1]at h;exact absurd h g1
  rename_i y;rw[ah y]at h;have C:=A_ L y;split;case isFalse g1=>rw[ag g1]at h;exact absurd h g1
  rename_i F;have H:Kp 0 0 d (BC d (eM (cC d) g.1 2).1):=⟨C,au _,au _⟩;exact H.trans (akB C O.f O.t F)
theorem acQ{l}{id q}(H:∀x∈l,l6 x.2.2.2.2.1)(h:(kD l id q).2.1=0):l6 q/\∃n,l6 n/\(kD l id q).1=l.map λy=>if y.1=id then kT n y else y:=by
 unfold kD at h ⊢;cases C:Ak l id with
 |none=>rw[C]at h;cases h
 |some g=>
  rw[C]at h;dsimp only at h ⊢;have K:=H g (WK C).1;split;case isTrue g1=>rw[ah g1]at h;cases h
  rename_i F;rw[ag F]at h;split;case isTrue g1=>rw[ah g1]at h;cases h
  rename_i R
  have J:q≠0/\(g.2.2.2.2.1≠0->(q<0↔g.2.2.2.2.1<0)):=by
   refine⟨λe=>F (.inl e),λj=>?_⟩;have:=cZ λG=>F (.inr ⟨j,G⟩)
   exact eA.1 this
  unfold l6 at *;exact⟨by omega,g.2.2.2.2.1-q,by omega,rfl⟩
theorem ahC{d}(L:zI (bY d))(h:(GI d).1=0):Kp 0 0 d (GI d).2:=by
 unfold GI at h ⊢;cases j:Ak (dU d) (uI d)with
 |none=>rw[j]at h;cases h
 |some g=>
  rw[j]at h;dsimp only at h ⊢;have⟨C,_⟩:=WK j;have O:=ct.gO L g C;split;case isFalse g1=>rw[ag g1]at h;exact absurd h g1
  rename_i G;rw[ah G]at h;split;case isFalse g1=>rw[ag g1]at h;exact absurd h g1
  rename_i F;rw[ah F]at h;have⟨K,n,R,e⟩:=acQ (λx J=>(ct.gO L x J).l) F;rw[e]at h ⊢;have H:zI (bY (Fx d ((dU d).map λy=>if y.1=g.1 then kT n y else y))):=B_ L R;have V:Kp 0 0 d (Fx d ((dU d).map λy=>if y.1=g.1 then kT n y else y)):=⟨H,au _,au _⟩;refine V.trans (z_ H ⟨O.u,sQ G (cJ d) (by simp),O.i,K,O.p,?_⟩ h);have:=YA (ct.gI L) g C;show 0<=g.1/\g.1<=(((dU d).map λy=>if y.1=g.1 then kT n y else y).length:Int);rw[aW];have this:1<=g.1/\g.1<=((dU d).length:Int):=this;omega
theorem ahD{d}(L:zI (bY d))(h:(GJ d).1=0):Kp 0 0 d (GJ d).2:=by
 unfold GJ at h ⊢;split;case isFalse g1=>rw[ag g1]at h;exact absurd h g1
 rename_i R;rw[ah R]at h;split;case isFalse g1=>rw[ag g1]at h;exact absurd h g1
 rename_i K;rw[ah K]at h;split;case isFalse g1=>rw[ag g1]at h;exact absurd h g1
 rename_i J;rw[ah J]at h;split;case isFalse g1=>rw[ag g1]at h;exact absurd h g1
 rename_i h4;rw[ah h4]at h;split;case isFalse g1=>rw[ag g1]at h;exact absurd h g1
 rename_i C;rw[ah C]at h;split;case isFalse g1=>rw[ag g1]at h;exact absurd h g1
 rename_i h6;have G:=sQ R _ (ay.2 rfl);have H:=SI K;have W:=(arG J).2.2.1;have Y:=(ct.p L).move (f:=SL) (.inr (.inr rfl)) (.inl G) h6;have hi:=ct.gI L
 have e:(GK (dU d) (Vv d)).1=dU d++[(GH (dU d)+1,(Vv d).2)]/\l6 (Vv d).2.2.2.2.1/\(dU d).length<64:=by
  unfold GK at C ⊢;split;case isTrue F=>rw[ah F]at C;cases C
  rename_i F;rw[ag F]at C;split;case isTrue V=>rw[ah V]at C;cases C
  rename_i V;exact⟨rfl,cZ λX=>F (.inr X),by omega⟩
 have⟨e,e2,e3⟩:=e;rw[e];refine⟨{ L with gI:=?_,gO:=λy j=>?_,gL:=?_,vO:=λy j=>(ct.vO L y j).mono (λ_ h=>h) (λ_ h=>h) ?_,p:=Y },au _,au _⟩
 .refine s_ hi ?_;rw[ahA hi]
 .rcases aQ.1 j with j|j
  .exact ct.gO L y j
  .rw[ay.1 j];exact⟨G,⟨_,H.1,H.2⟩,W,e2⟩
 .show(dU d++[(GH (dU d)+1,(Vv d).2)]).length<=64;rw[aq];simp only[aJ,eV];omega
 .show(dU d).length<=(dU d++[(GH (dU d)+1,(Vv d).2)]).length;rw[aq];omega
theorem Kp.b1{d e}(K:Kp 0 0 d e):Kp 0 1 d e:=K.up
theorem ahE{d}(L:zI (bY d))(h:(Al d).1=0):Kp 0 1 d (Al d).2:=by
 unfold Al at h ⊢;split;case isTrue g=>rw[ah g]at h;exact akD L h
 rename_i g;rw[ag g]at h;split;case isTrue g=>rw[ah g]at h;exact(akF L h).b1
 rename_i g;rw[ag g]at h;split;case isTrue g=>rw[ah g]at h;exact acP L h
 rename_i g;rw[ag g]at h;split;case isTrue g=>rw[ah g]at h;exact(YC L h).b1
 rename_i g;rw[ag g]at h;split;case isTrue g=>rw[ah g]at h;exact(YC L h).b1
 rename_i g;rw[ag g]at h;split;case isTrue g=>rw[ah g]at h;exact(ahD L h).b1
 rename_i g;rw[ag g]at h;exact(ahC L h).b1
theorem C_(x):∀l:List Int,(Jg x l).length=l.length+1
 |[]=>rfl
 |y::l=>by
  unfold Jg;cases decide (x<=y)with
  |true=>rfl
  |false=>show(y::Jg x l).length=_;rw[aJ,C_ x l];rfl
theorem D_:∀l:List Int,(xO l).length=l.length
 |[]=>rfl
 |x::l=>by rw[xO,C_,D_ l];rfl
theorem zK:∀(l:List Int) (p:Option Int),(xP p l).length<=l.length
 |[],_=>au _
 |x::l,p=>by
  unfold xP;have:=zK l (some x);cases ahF p x with
  |true=>show(xP (some x) l).length<=_;rw[aJ];omega
  |false=>show(x::xP (some x) l).length<=_;rw[aJ,aJ];omega
def ofU(d:aM)(u:ar):List Int:=xQ (cC d) λg=>decide (g.2.1=u)||decide (g.2.2.1=u)
def PA(d:aM)(l:List ar):List Int:=l.flatMap (ofU d)
def Am(d:aM)(l:List aN):List Int:=l.flatMap λa=>PA d (bW a)
def SM(d:aM)(id:Int):List Int:=uJ (xO (Am d ((bK d).filter (po id))))
theorem WL{d}(hv:(cC d).length<=64)(l):(PA d l).length<=64*l.length:=by
 induction l with
 |nil=>exact br _
 |cons u l j=>
  have:=Dy (cC d) λg=>decide (g.2.1=u)||decide (g.2.2.1=u)
  unfold PA at j ⊢;rw[cF,aq,aJ];have:(ofU d u).length<=(cC d).length:=this;omega
theorem SN{a}(h:a.2.2.2.1.length<=16):(bW a).length<=16:=by
 unfold bW;split
 .simp
 .rw[aW];exact h
theorem N6{d}(hv:(cC d).length<=64)(l)(h:∀a∈l,a.2.2.2.1.length<=16):(Am d l).length<=1024*l.length:=by
 induction l with
 |nil=>exact br _
 |cons a l j=>
  have F:=WL hv (bW a);have C:=SN (h a (by simp));have y:=j λb hb=>h b (by simp[hb])
  unfold Am at y ⊢;rw[cF,aq,aJ];omega
theorem aoZ{d}(O:OkN d)(id):An d id=some (SM d id,d):=by
 show lD aj d id=_;unfold lD;have hv:=O.v;have hal:=O.al;have Y:((bK d).filter (po id)).length<=(bK d).length:=cp _ _;have F:∀a∈(bK d).filter (po id),a.2.2.2.1.length<=16:=λa H=>(O.cc a (aI.1 H).1).2
 rw[ai (Wn O.a)];unfold SM;generalize (bK d).filter (po id)=A at *;refine lQ (N:=A.length) (by omega) (λi=>((i:Int),A,Am d (A.take i),())) _ rfl ?_ ?_
 .intro G;have hA:=N6 hv A F;refine F8 ?_;rw[bs]
  have e1:YD (Am d A)=some (xO (Am d A)):=by
   show(bif Nat.blt (Am d A).length 4611686018427387904 then some (xO (Am d A))else none)=_;have:Nat.blt (Am d A).length 4611686018427387904=true:=by rw[Nat.blt_eq];omega
   rw[this];rfl
  rw[ai e1];rfl
 .intro i hi G H;have J:=N6 hv (A.take i) λa h=>F a (eJ h)
  rw[bf]at J;have X:=F _ (aE hi);have W:=SN X;have e:=xD (a:=A[i]) (by omega);refine HX hi ?_;rw[bO hi,ij hi,ai e];refine lQ (N:=(bW A[i]).length) (by omega) (λj=>((j:Int),A,Am d (A.take i)++PA d ((bW A[i]).take j),bW A[i],())) _ (by simp[PA]) ?_ ?_
  .intro y;refine F8 ?_;rw[bs,cP i];rw[ax hi]at H;unfold Am at H ⊢;rw[jM]at H;simpa using H
  .intro j R y C;have V:=WL hv ((bW A[i]).take j);rw[bf]at V;have K:=Dy (cC d) λg=>decide (g.2.1=(bW A[i])[j])||decide (g.2.2.1=(bW A[i])[j])
   refine HX R ?_;rw[bO R,ij R];show aj.ae (afu (cC d) (bW A[i])[j]) _=_;rw[ai (atp (by omega)),cP j];show aj.bc ((Am d (A.take i)++PA d ((bW A[i]).take j)).length+(ofU d (bW A[i])[j]).length) 8 (y (((j+1:Nat):Int),A,(Am d (A.take i)++PA d ((bW A[i]).take j))++ofU d (bW A[i])[j],bW A[i],()))=_;have K:(ofU d (bW A[i])[j]).length<=(cC d).length:=K;rw[da (by rw[aq];omega) (by rw[aq];omega)];rw[ax R]at C;unfold PA at C ⊢;rw[jM]at C;simpa using C
theorem ahG{d}(O:OkN d)(id):(SM d id).length<=1000000:=by
 have y:=O.al;have j:((bK d).filter (po id)).length<=(bK d).length:=cp _ _;have:=N6 O.v ((bK d).filter (po id)) λa C=>(O.cc a (aI.1 C).1).2
 have F:=zK (xO (Am d ((bK d).filter (po id)))) none;rw[D_]at F;show(xP none (xO (Am d ((bK d).filter (po id))))).length<=_;omega
theorem wI.SA{d}(Z:wI d){l:List bB}(K:Kp 0 0 d (SA d l)):wI (SA d l):=⟨K.1,Z.u,Z.t,Z.b,Z.s,Z.q,Z.n⟩
theorem Ii{d}{m:bB}(L:zI (bY d))(h:(tL d m).1=0):Kp 0 0 d (tL d m).2:=by
 unfold tL at h ⊢;split;case isFalse g=>rw[ag g]at h;exact absurd h g
 rename_i g;exact SB L g
theorem wI.apa{d}(Z:wI d){m:bB}(h:(tL d m).1=0):wI (tL d m).2:=by
 have K:=Ii Z.L h;unfold tL at h K ⊢;split;case isFalse g=>rw[ag g]at h;exact absurd h g
 rename_i g;rw[ah g]at K;exact Z.SA K
def L4(d:aM):bB×Int×Unit:=akG (lC d).1 (gB d) (dv d)
def tz(d:aM):Int×aM:=if(L4 d).2.1=0 then tL d (L4 d).1 else((L4 d).2.1,d)
def YE(d:aM):Int×aM:=if(lC d).2.1=0 then(if dv d<0\/16<dv d then(2,d)else(if(tz d).1=0 then yX 4 (SM (tz d).2 (L4 d).1.1) (tz d).2 else tz d))else((lC d).2.1,d)
theorem atq{d}(Z:wI d):IW d=some (YE d):=by
 show kI aj d=_;unfold kI;have O:=Z.N4;have hm:=O.m;rw[ai (zL (by omega))];show aj.af ((lC d).2.1 != 0) (some ((lC d).2.1,d)) _=_;unfold YE;by_cases G:(lC d).2.1=0;case neg=>rw[fT G,ag G]
 rw[iD G,ah G];refine bz λF y=>?_
 have R:F (true,())=some (2,d):=by subst y;rfl
 have Y:F (false,())=some (if(tz d).1=0 then yX 4 (SM (tz d).2 (L4 d).1.1) (tz d).2 else tz d):=by
  subst y;show aj.ae (SO (lC d).1 (gB d) (dv d)) _=_;rw[ai (akH _ _ _)];refine bz λH C=>?_
  have W:H (tz d)=some (if(tz d).1=0 then yX 4 (SM (tz d).2 (L4 d).1.1) (tz d).2 else tz d):=by
   subst C;show aj.af ((tz d).1 != 0) (some (tz d)) (aj.ae (An (tz d).2 (L4 d).1.1) _)=_;by_cases j:(tz d).1=0;case neg=>rw[aT (by simpa using j),ag j]
   have K:wI (tz d).2:=by
    unfold tz at j ⊢;split
    .rename_i g;rw[ah g]at j;exact Z.apa j
    .rename_i g;rw[ag g]at j;exact absurd j g
   rw[az (by simpa using j),ah j,ai (aoZ K.okN _)];show aj.ae (tc (tz d).2 (SM (tz d).2 (L4 d).1.1) 4) _=_;rw[ai (afv K.N4 (ahG K.okN _))]
  clear C;show aj.af ((L4 d).2.1==0) (aj.ae (Fy d (L4 d).1) λX=>H X) (H ((L4 d).2.1,d))=_;by_cases h:(L4 d).2.1=0
  .have e:tz d=tL d (L4 d).1:=by unfold tz;rw[ah h]
   rw[aT (by simpa using h),ai (YF O),<-e];exact W
  .have e:tz d=((L4 d).2.1,d):=by unfold tz;rw[ag h]
   rw[az (by simpa using h),<-e];exact W
 clear y;show aj.af (decide (dv d<0)) (F (true,())) (F (decide (16<dv d),()))=_;refine de (λV=>?_) λV=>?_
 .rw[ah (.inl V)];exact R
 .by_cases J:16<dv d
  .rw[ah (.inr J),ap J];exact R
  .rw[ag (by omega),an J];exact Y
theorem apb{d}(L:zI (bY d))(h:(YE d).1=0):Kp 0 0 d (YE d).2:=by
 unfold YE at h ⊢;split;case isFalse g=>rw[ag g]at h;exact absurd h g
 rename_i C;rw[ah C]at h;split;case isTrue g=>rw[ah g]at h;cases h
 rename_i y;rw[ag y]at h;split;case isFalse g=>rw[ag g]at h;exact absurd h g
 rename_i j;rw[ah j]at h
 have K:Kp 0 0 d (tz d).2:=by
  unfold tz at j ⊢;split
  .rename_i g;rw[ah g]at j;exact Ii L j
  .rename_i g;rw[ag g]at j;exact absurd j g
 exact K.trans (SK K.1 h)
def clM(d:aM):bB×Int×Unit:=if(lC d).2.1=0 then si (lC d).1 (gB d) 2 else lC d
def Lr(d:aM):Int×aM:=if(clM d).2.1=0 then tL d (clM d).1 else((clM d).2.1,d)
def yB(e:aM)(id:Int):NT:=fD (lP (bY e) id) (eZ e) (dJ e) []
def clG(e:aM)(id:Int):aU×List dY×Int×Unit:=PB (fV (bY e) (yB e id).1 (yB e id).2.1) id
def afw(e:aM)(s:aU)(b:List dp)(r:List dY):aM:=xp s (U16 e.2.2.2.2.2.2.2.2.2.2.2.2 (b,r,()))
def clR(e:aM)(id:Int):Int×aM:=if ã (bY e) id=[]then(if(yB e id).2.2.2=0 then(if(clG e id).2.2.1=0 then(0,afw e (clG e id).1 (yB e id).2.2.1 (clG e id).2.1)else((clG e id).2.2.1,e))else((yB e id).2.2.2,e))else(21,e)
def L5(d:aM):Int×aM:=if(Lr d).1=0 then clR (Lr d).2 (clM d).1.1 else Lr d
theorem wI.phi{d}(Z:wI d):Pv (GC (bK d)) (lz (·.1) (iR d)) (eZ d) (dJ d):=⟨ct.p Z.L,ct.h Z.L⟩
theorem E_{C}:∀a∈C,∀u∈bW a,GC C u:=λa y _ j=>.inl (bQ.2 ⟨a,y,j⟩)
theorem Rw{d}(Z:wI d){id}(h:(yB d id).2.2.2=0):Pv (GC (bK d)) (lz (·.1) (iR d)) (yB d id).1 (yB d id).2.1:=ah1 (t:=bY d) (λa y u j=>E_ a y u j) (.inr (.inr rfl)) (.inr (.inl rfl)) Z.phi h
theorem av8{d}(Z:wI d)(id):(aj.ae (NL (bY d) id) λv4=>aj.af (decide (0<(v4.length:Int))) (some ((21:Int),d)) (aj.two (aj.ae (LM (bY d) id) λC=>
 aj.af (C.2.2.1 != 0) (some (C.2.2.1,d)) (aj.ae (Ij C.1 id) λy=>aj.aG (λR=>some (y.2.2.1,R)) λK=>aj.af (y.2.2.1==0) (K (afw d y.1 C.2.1 y.2.1)) (K d)))))=some (clR d id):=by
 have hs:=Z.s;have e1:NL (bY d) id=some (ã (bY d) id):=asH (ct.qP Z.L) (by show(fW d).length<=100;omega);have e2:LM (bY d) id=some (rF (bY d) (yB d id)):=akm Z.okS id;rw[ai e1];unfold clR;by_cases G:ã (bY d) id=[];case neg=>have:=gj.2 G;rw[eG (by omega),ag G]
 rw[az (by rw[G];rfl),ah G,jc,ai e2];unfold rF;by_cases j:(yB d id).2.2.2=0;case neg=>rw[ag j,ag j];exact tby j rfl
 rw[ah j,ah j];have I:=Rw Z j;have H:=I.1.len ct.Sw;have hol:=I.2.len ct.Sw;rw[aq]at H hol;have hu:=Z.u;have X:([fU,tU]:List ar).length=2:=rfl;have V:(yB d id).1.length<=1000:=by omega
 have hh:(yB d id).2.1.length<=400000:=by omega
 have J:=Z.N4.al;have Y:Ij (fV (bY d) (yB d id).1 (yB d id).2.1) id=some (clG d id):=apc (s:=fV (bY d) (yB d id).1 (yB d id).2.1) I.1.f V (I.2.lk hh) (λa W=>by have:=(ct.cO Z.L a W).len;omega) J;show aj.af ((0:Int) != 0) (some ((0:Int),d)) (aj.ae (Ij (fV (bY d) (yB d id).1 (yB d id).2.1) id) _)=_;rw[az (by decide),ai Y,wA];refine dM (λF=>?_) λF=>?_
 .rw[ah F,F]
 .rw[ag F]
theorem atr{d}(Z:wI d):N7 d=some (L5 d):=by
 show nw aj d=_;unfold nw;have O:=Z.N4;have hm:=O.m;rw[ai (zL (by omega))];refine bz λj C=>?_
 have K:j ((clM d).2.1,(clM d).1)=some (L5 d):=by
  subst C;refine bz λH F=>?_
  have G:H (Lr d)=some (L5 d):=by
   subst F;show aj.af ((Lr d).1 != 0) (some (Lr d)) _=_;unfold L5;by_cases h:(Lr d).1=0;case neg=>rw[fT h,ag h]
   have J:wI (Lr d).2:=by
    unfold Lr at h ⊢;split
    .rename_i g;rw[ah g]at h;exact Z.apa h
    .rename_i g;rw[ag g]at h;exact absurd h g
   rw[iD h,ah h];exact av8 J _
  refine dM (λh=>?_) λh=>?_
  .rw[ai (YF O)];have e:tL d (clM d).1=Lr d:=by unfold Lr;rw[ah h]
   rw[e];exact G
  .have e:((clM d).2.1,d)=Lr d:=by unfold Lr;rw[ag h]
   rw[e];exact G
 show aj.af ((lC d).2.1==0) (aj.ae (PC (lC d).1 (gB d)) λy=>j (y.2.1,y.1)) (j ((lC d).2.1,(lC d).1))=_;by_cases h:(lC d).2.1=0
 .have e:clM d=si (lC d).1 (gB d) 2:=by unfold clM;rw[ah h]
  rw[pF h,ai (ahH _ _),<-e];exact K
 .have e:clM d=lC d:=by unfold clM;rw[ag h]
  rw[e]at K;rw[qy h];exact K
theorem apd{d}(Z:wI d)(h:(L5 d).1=0):Kp 0 0 d (L5 d).2:=by
 unfold L5 at h ⊢;split;case isFalse g=>rw[ag g]at h;exact absurd h g
 rename_i j;rw[ah j]at h
 have F:wI (Lr d).2:=by
  unfold Lr at j ⊢;split
  .rename_i g;rw[ah g]at j;exact Z.apa j
  .rename_i g;rw[ag g]at j;exact absurd j g
 have K:Kp 0 0 d (Lr d).2:=by
  unfold Lr at j ⊢;split
  .rename_i g;rw[ah g]at j;exact Ii Z.L j
  .rename_i g;rw[ag g]at j;exact absurd j g
 refine K.trans ?_;generalize (Lr d).2=e at *;generalize (clM d).1.1=id at *;unfold clR at h ⊢;split;case isFalse g=>rw[ag g]at h;cases h
 rename_i g1;rw[ah g1]at h;split;case isFalse g=>rw[ag g]at h;exact absurd h g
 rename_i C;rw[ah C]at h;split;case isFalse g=>rw[ag g]at h;exact absurd h g
 rename_i y;have I:=Rw F C;have J:=ah3 (s:=fV (bY e) (yB e id).1 (yB e id).2.1) (id:=id) (λa H u G=>E_ a H u G) I
 have R:(clG e id).1=fV (fV (bY e) (yB e id).1 (yB e id).2.1) (jn (fV (bY e) (yB e id).1 (yB e id).2.1) (j9 id (bK e))).1 (jn (fV (bY e) (yB e id).1 (yB e id).2.1) (j9 id (bK e))).2.1:=by
  unfold clG PB at y ⊢;split
  .rfl
  .rename_i g;rw[ag g]at y;cases y
 have L:=F.L;rw[R];exact⟨{ L with p:=J.1,h:=J.2 },au _,au _⟩
theorem F_{d}{id p:Int}(L:zI (bY d))(h:(EB (fK d) id p).2.1=0):Kp 0 0 d (ak8 d (EB (fK d) id p).1):=by
 unfold EB at h ⊢;split;case isTrue g=>rw[ah g]at h;cases h
 rename_i g;rw[ag g]at h;split;case isFalse C=>rw[ag C]at h;cases h
 rename_i C;have F:∀y:bR,(if y.1=id then akI p y else y).1=y.1:=λy=>by split<;>rfl
 refine⟨ct.aoW L (LX F (ct.iA L)) (λy H=>?_) λk j=>Ru F j,au _,au _⟩;obtain⟨z,G,rfl⟩:=aK.1 H;have O:=ct.iO L z G;split
 .unfold Rg at O ⊢;exact⟨O.1,O.2.1,O.2.2.1,C,O.2.2.2.2⟩
 .exact O
theorem YG{d}{id p:Int}(L:zI (bY d))(h:(Ao (iR d) id p).2.1=0):Kp 0 0 d (SE d (Ao (iR d) id p).1):=by
 unfold Ao at h ⊢;split;case isTrue g=>rw[ah g]at h;cases h
 rename_i g;rw[ag g]at h;split;case isFalse C=>rw[ag C]at h;cases h
 rename_i C;have F:∀y:bu,(if y.1=id then afx p y else y).1=y.1:=λy=>by split<;>rfl
 refine⟨ct.av5 L (LX F (ct.aA L)) (λy H=>?_) λk j=>Ru F j,au _,au _⟩;obtain⟨z,G,rfl⟩:=aK.1 H;have O:=ct.aO L z G;split
 .exact⟨O.1,C,O.2.2⟩
 .exact O
theorem akJ{d}(L:zI (bY d))(h:(wJ d).2.1=0):QB (GC (bK d)) (wJ d).1:=QB.settle (ct.p L) (λx j=>.inl ((ct.b L).n x j)) h
theorem akK{d}(L:zI (bY d))(h:(wJ d).2.1=0)(y:(ED d).2.1=0):QB (GC (bK d)) (ED d).1:=QB.settle (akJ L h) (λx j=>.inl ((ct.s L).n x j)) y
theorem akL{d}(L:zI (bY d))(R:¬1048576<=gB d)(h:(wJ d).2.1=0)(H:(ED d).2.1=0):zI (bY (G_ d)):=by
 have C:∀y:bR,(Ap y).1=y.1:=λ_=>rfl
 have J:=ct.aoW L (LX C (ct.iA L)) (λy G=>by obtain⟨z,F,rfl⟩:=aK.1 G;have O:=ct.iO L z F;unfold Rg at O ⊢;exact⟨O.1,O.2.1,O.2.2.2.1,O.2.2.2.1,O.2.2.2.2⟩) λk j=>Ru C j
 have K:0<=gB d/\gB d<=1048576:=ct.dy L;exact { J with dy:=by show 0<=gB d+1/\gB d+1<=1048576;omega,p:=akK L h H }
theorem ape{d}(L:zI (bY d))(h:(YH d).1=0):Kp 0 0 d (YH d).2:=by
 unfold YH at h ⊢;split;case isTrue g=>rw[ah g]at h;cases h
 rename_i g0;rw[ag g0]at h;split;case isFalse g=>rw[ag g]at h;exact absurd h g
 rename_i g1;rw[ah g1]at h;split;case isFalse g=>rw[ag g]at h;exact absurd h g
 rename_i j;rw[ah j]at h;have y:=akL L g0 g1 j;have K:Kp 0 0 d (G_ d):=⟨y,au _,au _⟩;exact K.trans (SK y h)
theorem apf{d:aM}(Z:wI d):GL d=some (YH d):=by
 refine ats Z.N4 (ct.dy Z.L).1 (ct.Vt Z.L) Z.ak4 (λh=>?_) λh J=>?_
 .have P:=akJ Z.L h;have:=P.len ct.Sw;rw[aq]at this;have H:([fU,tU]:List ar).length=2:=rfl;have:=Z.u;exact⟨P.f,by omega⟩
 .have C:∀y:bR,(Ap y).1=y.1:=λ_=>rfl
  have L:=Z.L;have V:=ct.aoW L (LX C (ct.iA L)) (λy G=>by obtain⟨z,F,rfl⟩:=aK.1 G;have O:=ct.iO L z F;unfold Rg at O ⊢;exact⟨O.1,O.2.1,O.2.2.2.1,O.2.2.2.1,O.2.2.2.2⟩) λk j=>Ru C j
  have R:={ V with p:=akK L h J };have K:wI (gB d,(G_ d).2):=⟨R,Z.u,Z.t,Z.b,Z.s,Z.q,Z.n⟩;exact { K.N4 with }
theorem H_{d}{n:Int}(L:zI (bY d))(y:GC (bK d) (aY d))(h:(xR d n).1=0):Kp 0 0 d (xR d n).2:=by
 unfold xR at h ⊢;split;case isFalse g=>rw[ag g]at h;exact absurd h g
 rename_i g;have P:=(ct.p L).pay (fl:=[(aY d,n,())]) (λx j=>by rw[ay.1 j];exact y) g;exact⟨{ L with p:=P },au _,au _⟩
theorem apg{d}(h:akM d=0):GC (bK d) (aY d):=by
 unfold akM at h;split at h
 .rename_i g;exact .inr (.inl g)
 .exact .inl (sQ h _ (ay.2 rfl))
theorem WM{as}{k}(h:(fk as k).2.1=true):lz (·.1) as k:=by
 induction as with
 |nil=>cases h
 |cons a l j=>
  rw[fk]at h;split at h
  .rename_i e;exact⟨a,by simp,e⟩
  .have⟨b,hb,e⟩:=j h;exact⟨b,by simp[hb],e⟩
theorem aph{d}(L:zI (bY d))(h:(SP d).1=0):Kp 0 0 d (SP d).2:=by
 unfold SP at h ⊢;split;case isFalse g=>rw[ag g]at h;exact absurd h g
 rename_i g0;rw[ah g0]at h;have j:=apg g0;split;case isFalse g=>rw[ag g]at h;exact absurd h g
 rename_i g1;rw[ah g1]at h;split;case isTrue g=>rw[ah g]at h;exact H_ L j h
 rename_i F;rw[ag F]at h;split;case isFalse g=>rw[ag g]at h;cases h
 rename_i y;rw[ah y]at h;split;case isFalse g=>rw[ag g]at h;exact absurd h g
 rename_i C;have H:=(ct.h L).put (u:=aY d) (x:=qz d) j (WM y) C;exact⟨{ L with h:=H },au _,au _⟩
theorem WN{d}(L:zI (bY d))(j:GC (bK d) (aY d))(h:(gq d).1=0):Kp 0 0 d (gq d).2:=by
 unfold gq at h ⊢;split
 case isTrue g=>
  rw[ah g]at h;split;case isTrue g1=>rw[ah g1]at h;cases h
  rename_i g1;rw[ag g1]at h;exact H_ L j h
 rename_i g;rw[ag g]at h;split;case isFalse g1=>rw[ag g1]at h;exact absurd h g1
 rename_i g1;have H:=(ct.h L).take (u:=aY d) (x:=qz d) g1;exact⟨{ L with h:=H.1 },au _,au _⟩
theorem api{d:aM}(Z:wI d)(y:GC (bK d) (aY d))(h:(gq d).1=0):wI (gq d).2:=by
 have K:=WN Z.L y h
 have C:bK (gq d).2=bK d/\dq (gq d).2=dq d/\fW (gq d).2=fW d/\dv (gq d).2=dv d/\tw (gq d).2=tw d/\aY (gq d).2=aY d:=by
  unfold gq xR
  repeat' split
  all_goals exact⟨rfl,rfl,rfl,rfl,rfl,rfl⟩
 have⟨c1,c2,j,G,F,_⟩:=C;exact⟨K.1,by rw[c1];exact Z.u,by rw[c2,j];exact Z.t,by rw[c2];exact Z.b,by rw[j];exact Z.s,by rw[G];exact Z.q,by rw[F];exact Z.n⟩
def WdR(d e:aM):Prop:=pv d [aY d]=0/\zn d=0/\gq d=(0,e)
theorem av9{d}(Z:wI d):∃r,IX d=some r/\(r.1=0->WdR d r.2):=by
 show ∃r,kJ aj d=some r/\_;unfold kJ;have O:=Z.N4;have hm:=O.m;have e1:tf d [aY d]=some (pv d [aY d],d):=BR O.a (by omega) (by simp);rw[ai e1];by_cases V:pv d [aY d]=0;case neg=>rw[fT V];exact⟨_,rfl,λh=>absurd h V⟩
 rw[iD V,ai (WO d)];by_cases C:zn d=0;case neg=>rw[fT C];exact⟨_,rfl,λh=>absurd h C⟩
 have hq:0<=dv d:=by
  unfold zn at C;split at C
  .cases C
  .omega
 rw[iD C,ai (akN O Z.hs hq)];by_cases R:(gq d).1=0;case neg=>rw[fT R];exact⟨_,rfl,λh=>absurd h R⟩
 have Z2:=api Z (.inl (sQ V _ (ay.2 rfl))) R;have O2:=Z2.N4;have⟨b,F⟩:=WQ (t:=bK (gq d).2) (id:=wa (gq d).2) O2.a O2.as
 have H:∃a,a.2.2.2.1.length<=1000/\NM (bK (gq d).2) (wa (gq d).2)=some (a,b):=by
  cases Y:jj (bK (gq d).2) (wa (gq d).2)with
  |none=>rw[Y]at F;exact⟨_,br _,F⟩
  |some a=>rw[Y]at F;exact⟨a,O2.a.1 a (Ih Y).1,F⟩
 clear F;have⟨a,K,F⟩:=H;have⟨u,e5,h5⟩:=akO (a:=a) (u:=aY (gq d).2) K;have⟨n,e6,h6,_⟩:=N8 (s:=(iR (gq d).2,fK (gq d).2,dq (gq d).2,eZ (gq d).2,dJ (gq d).2,())) (a:=a) (u:=u) Z2.ak5 K;rw[iD R,jc,ai F,jc,ai h5];show ∃r,(aj.ae (EE (iR (gq d).2,fK (gq d).2,dq (gq d).2,eZ (gq d).2,dJ (gq d).2,()) a u) _)=some r/\_;rw[ai h6];have W:∀x:Int,∃r,some (x,(gq d).2)=some r/\(r.1=0->WdR d r.2):=λx=>⟨_,rfl,λ_=>⟨V,C,by rw[<-R]⟩⟩
 refine BS (P:=λo=>∃r:Int×aM,o=some r/\(r.1=0->WdR d r.2)) λk9 J=>?_
 have G:∀z:Int×Unit,k9 z=some (z.1,(gq d).2):=λz=>by subst J;rfl
 clear J;refine BS (P:=λo=>∃r:Int×aM,o=some r/\(r.1=0->WdR d r.2)) λX y=>?_
 have j:∀c:Bool,∃x,X (c,())=some (x,(gq d).2):=λc=>by
  subst y;cases c with
  |true=>exact⟨_,(aT rfl _ _).trans (G _)⟩
  |false=>exact⟨_,(az rfl _ _).trans (G _)⟩
 clear y;by_cases h7:(e6.1==0)=true
 .rw[aT h7];have⟨x,H⟩:=j (decide (n<0));rw[H];exact W x
 .rw[az (by simpa using h7)];have⟨x,H⟩:=j false;rw[H];exact W x
theorem att{α}{p}{l:List α}{k:Nat}(h:zb p l=(k:Int)):k<l.length/\(∀K:k<l.length,p l[k]=true)/\∀j (F:j<l.length),j<k->p l[j]=false:=by
 unfold zb at h;cases y:l.findIdx? p with
 |none=>rw[y]at h;simp only at h;omega
 |some m=>
  rw[y]at h;have h:(m:Int)=(k:Int):=h;have:m=k:=by omega
  subst this;rw[eF]at y;have⟨J,H,G⟩:=y;exact⟨J,λ_=>H,λj F C=>by simpa using G j C⟩
theorem atu{α}{p:α->Bool}{l:List α}(h:zb p l<0):∀y∈l,p y=false:=by
 unfold zb at h;cases j:l.findIdx? p with
 |none=>exact λy C=>by rw[gC]at j;exact j y C
 |some m=>rw[j]at h;simp only at h;omega
theorem ahI{l}(hs:jN (l.map (·.1))){f t:ar}(X:∀c∈l,c.1≠f):jN ((L6 l f t).map (·.1)):=by
 have key:∃k,k<=l.length/\L6 l f t=l.take k++(f,t,false,())::l.drop k/\(∀c∈l.take k,oj c.1 f)/\∀c∈l.drop k,oj f c.1:=by
  have C:∀c∈l,¬oj f c.1->oj c.1 f:=λc y W=>cZ λhm=>X c y (EF hm W)
  rcases lx (λc:cd=>decide (oj f c.1)) l with⟨F,_⟩|⟨k,hk,F,_,_⟩
  .refine⟨l.length,au _,?_,λc y=>?_,λc y=>?_⟩
   .unfold L6 ahJ;rw[F];rfl
   .rw[bs]at y;exact C c y (of_decide_eq_false (atu (by rw[F];decide) c y))
   .rw[fP]at y;cases y
  .have⟨_,G,h3⟩:=att F;refine⟨k,Nat.le_of_lt hk,?_,λc y=>?_,λc y=>?_⟩
   .unfold L6 ahJ;rw[F,ag (by omega),aX]
   .obtain⟨j,J,rfl⟩:=gS y;rw[bf]at J;rw[lc];exact C _ (aE _) (by simpa using h3 j (by omega) (by omega))
   .have K:oj f l[k].1:=by simpa using G hk
    rw[cu hk]at y;rcases aB.1 y with rfl|y
    .exact K
    .obtain⟨j,J,rfl⟩:=gS y;rw[dS]at J;rw[CA];unfold jN at hs;rw[oa,bN]at hs;exact sy K (hs k (k+1+j) hk (by omega) (by omega))
 have⟨k,_,e,F,G⟩:=key;rw[e,cw,bI];have V:jN ((l.take k).map (·.1)):=dt ((Cw _ _).map _) hs;have R:jN ((l.drop k).map (·.1)):=dt ((Co _ _).map _) hs;refine dF.2 ⟨V,bw.2 ⟨λx H=>?_,R⟩,λa Y b hb=>?_⟩
 .obtain⟨c,y,rfl⟩:=aK.1 H;exact G c y
 .obtain⟨c,y,rfl⟩:=aK.1 Y;rcases aB.1 hb with rfl|hb
  .exact F c y
  .obtain⟨x,H,rfl⟩:=aK.1 hb;exact sy (F c y) (G x H)
theorem ahK{l}{f t}{c}(h:c∈L6 l f t):c=(f,t,false,())\/c∈l:=by
 unfold L6 at h;rcases aQ.1 h with h|h
 .exact .inr (eJ h)
 .rcases aB.1 h with h|h
  .exact .inl h
  .exact .inr (kP h)
theorem I_{l}(hs:jN (l.map (·.1)))(u:ar):jN ((Fz l u).map (·.1)):=dt (sb _ fF) hs
theorem afy{d}{u}(h:J_ d u=0):rH (bK d) u:=by
 unfold J_ at h;split at h
 .rename_i g;exact YB g
 .rename_i g;exact absurd h g
theorem ahL{d}(L:zI (bY d))(h:(GM d).1=0):Kp 0 0 d (GM d).2:=by
 unfold GM at h ⊢;split;case isFalse g=>rw[ag g]at h;exact absurd h g
 rename_i g0;rw[ah g0]at h;split;case isTrue g=>rw[ah g]at h;cases h
 rename_i g1;rw[ag g1]at h;split;case isFalse g=>rw[ag g]at h;exact absurd h g
 rename_i F;rw[ah F]at h;split;case isFalse g=>rw[ag g]at h;exact absurd h g
 rename_i j
 have e:(EG (jC d) (aY d) (cJ d)).1=L6 (Fz (jC d) (aY d)) (aY d) (cJ d)/\aY d≠cJ d:=by
  unfold EG at j ⊢;split;case isFalse g=>rw[ag g]at j;cases j
  rename_i J;rw[ah J]at j;split;case isTrue g=>rw[ah g]at j;cases j
  rename_i H;exact⟨rfl,H⟩
 have⟨e,C⟩:=e;rw[e];refine⟨{ L with hO:=λx y=>?_,hS:=ahI (I_ (ct.hS L) _) λc G=>bA (aI.1 G).2 },au _,au _⟩;rcases ahK y with rfl|y
 .exact⟨⟨afy g0,afy F⟩,C⟩
 .exact ct.hO L x (aI.1 y).1
theorem akP{d}(L:zI (bY d))(h:(PD d).1=0):Kp 0 0 d (PD d).2:=by
 unfold PD at h ⊢;split;case isFalse g=>rw[ag g]at h;exact absurd h g
 rename_i g0;rw[ah g0]at h;split;case isFalse g=>rw[ag g]at h;exact absurd h g
 rename_i g1
 have e:∃k,∃j:k<(jC d).length,(EH (jC d) (aY d) (cJ d)).1=(jC d).set k (apj (jC d)[k]):=by
  unfold EH at g1 ⊢;split;case isFalse g=>rw[ag g]at g1;cases g1
  rename_i J;rw[ah J]at g1;split;case isTrue g=>rw[ah g]at g1;cases g1
  rename_i F;rw[ag F]at g1;split;case isFalse g=>rw[ag g]at g1;cases g1
  rcases lx (λc:cd=>decide (c.1=aY d)) (jC d)with⟨y,_⟩|⟨k,j,y,_,_⟩
  .rw[y]at F;exact absurd (by decide) F
  .refine⟨k,j,?_⟩;rw[y,aX,show(jC d).getD k K_=(jC d)[k]from by rw[bV,aw j];rfl]
 have⟨k,j,e⟩:=e;rw[e];refine⟨{ L with hO:=λx C=>?_,hS:=?_ },au _,au _⟩
 .rcases sq C with C|rfl
  .exact ct.hO L x C
  .have G:=ct.hO L (jC d)[k] (aE j);exact G
 .show jN (((jC d).set k (apj (jC d)[k])).map (·.1))
  have K:((jC d).set k (apj (jC d)[k])).map (·.1)=(jC d).map (·.1):=by
   rw[List.map_set];refine Ej (by simp) λi y R=>?_
   rw[Ek];split
   .rename_i H;subst H;rw[ku];rfl
   .rfl
  rw[K];exact ct.hS L
theorem SQ{s}{u}(h:uK s u=0):rH s.2.2.2.2.1 u:=by
 unfold uK at h;cases j:jj s.2.2.2.2.1 u.1 with
 |none=>rw[j]at h;cases h
 |some a=>
  rw[j]at h;dsimp only at h;split at h
  .rename_i g;exact bQ.2 ⟨a,(Ih j).1,bA g⟩
  .cases h
theorem apk{s}{f}(h:(qa s f).2.1=0):rH s.2.2.2.2.1 f/\rH s.2.2.2.2.1 (qa s f).1:=by
 unfold qa at h ⊢;split;case isFalse g=>rw[ag g]at h;exact absurd h g
 rename_i g0;rw[ah g0]at h;split;case isFalse g=>rw[ag g]at h;exact absurd h g
 rename_i g1;rw[ah g1]at h;split;case isFalse g=>rw[ag g]at h;exact absurd h g
 rename_i j;constructor
 .unfold Ik at g0;split at g0
  .rename_i g;exact SQ g
  .rename_i g;exact absurd g0 g
 .unfold JM at j;split at j
  .rename_i g;exact SQ g
  .rename_i g;exact absurd j g
theorem akQ{d}(L:zI (bY d))(h:(SR d).1=0):Kp 0 1 d (SR d).2:=by
 unfold SR at h ⊢;split;case isFalse g=>rw[ag g]at h;exact absurd h g
 rename_i g
 have e:(GN (bY d) (aY d)).1=wb (bY d) (Fz (jC d) (aY d)) (wc (bY d) (aY d)).1 (BU (bY d) (aY d)).1 (xS (bY d) (aY d)).1/\(qa (bY d) (aY d)).2.1=0/\
  (wc (bY d) (aY d)).2.1=0/\(BU (bY d) (aY d)).2.1=0/\(xS (bY d) (aY d)).2.1=0:=by
  unfold GN at g ⊢;split;case isFalse g1=>rw[ag g1]at g;exact absurd g g1
  rename_i g1;rw[ah g1]at g;split;case isFalse C=>rw[ag C]at g;exact absurd g C
  rename_i C;rw[ah C]at g;split;case isFalse y=>rw[ag y]at g;exact absurd g y
  rename_i y;rw[ah y]at g;split;case isFalse F=>rw[ag F]at g;exact absurd g F
  rename_i F;exact⟨rfl,g1,C,y,F⟩
 have⟨e,X,W,V,R⟩:=e;rw[e];have⟨J,G⟩:=apk X;have B:=Lo.Je (ct.b L) J G ((ct.b L).of (aY d)) W;have P:=QB.move (ct.p L) (.inl J) (.inl G) V;have H:=Ln.GB (ct.h L) (.inl G) R;refine⟨{ L with hO:=λx K=>ct.hO L x (aI.1 K).1,hS:=I_ (ct.hS L) _,b:=B.1,p:=P,h:=H,bal:=λj=>(bS (· + li (fW d) j) (B.2.2 j)).trans (ct.bal L j) },au _,?_⟩;have hb:(wc (bY d) (aY d)).1.length<=(dq d).length+2:=B.2.1;show(wc (bY d) (aY d)).1.length+(fW d).length<=(dq d).length+(fW d).length+2*1;omega
theorem GO(own):∀(l j stays:List cj),(gD own l j stays).2.2=0->∀k,li (gD own l j stays).2.1 k+li (gD own l j stays).1 k=li stays k+li l k+li j k
 |[],j,stays,_,k=>by show li stays k+li j k=li stays k+0+li j k;omega
 |p::l,j,stays,he,k=>by
  unfold gD at he ⊢;by_cases ho:own p.1=true
  .rw[ah ho]at he ⊢;by_cases hs:(fJ j p.1 p.2.1).2.1=0
   .rw[ah hs]at he ⊢;rw[GO own l _ stays he k,(pZ hs).opn,NJ];omega
   .rw[ag hs]at he;exact absurd he hs
  .rw[ag ho]at he ⊢;rw[GO own l j (stays++[p]) he k,ajr,NJ,NJ];show li stays k+(fZ p.2.1 k+0)+li l k+li j k=_;omega
theorem apl{d}(L:zI (bY d))(h:(N9 d).1=0):Kp 0 0 d (N9 d).2:=by
 unfold N9 at h ⊢;split;case isFalse g=>rw[ag g]at h;exact absurd h g
 rename_i g0;rw[ah g0]at h;split;case isFalse g=>rw[ag g]at h;exact absurd h g
 rename_i g1
 have K:Kp 0 0 d (q7 d).2:=by
  unfold q7 at g0 ⊢;split
  .rename_i g;rw[ah g]at g0;exact Ii L g0
  .rename_i g;rw[ag g]at g0;exact absurd g0 g
 refine K.trans ?_;have L:=K.1;generalize (q7 d).2=e at *;generalize (EI d).1.1=id at *;unfold Gb at g1 ⊢;split;case isFalse g=>rw[ag g]at g1;cases g1
 rename_i R;rw[ah R]at g1;split;case isFalse g=>rw[ag g]at g1;exact absurd g1 g
 rename_i y;have⟨H,G,F⟩:=GA (N:=rH (bK e)) (K:=lz (·.1) (fK e)) (Df (bK e) id) (dq e) (fW e) [] y (ct.b L).n (ct.b L).k (ct.s L);have C:=GO (Df (bK e) id) (dq e) (fW e) [] y;have J:Lo (rH (bK e)) (lz (·.1) (fK e)) (gD (Df (bK e) id) (dq e) (fW e) []).2.1:=by rw[G,cS];exact(ct.b L).filter _
 refine⟨{ L with b:=J,s:=H,bal:=λj=>?_ },au _,?_⟩
 .refine(C j).trans ?_;have:li (dq e) j+li (fW e) j=0:=ct.bal L j;show 0+li (dq e) j+li (fW e) j=0;omega
 .show(gD (Df (bK e) id) (dq e) (fW e) []).2.1.length+(gD (Df (bK e) id) (dq e) (fW e) []).1.length<=(dq e).length+(fW e).length+2*0;simp only[eV]at F;omega
theorem WR{s:aU}(L:zI s){u to:ar}{id ie e8:Int}(J:rH s.2.2.2.2.1 u)(h:(BL s u to id ie e8).2.1=0):
 zI (BL s u to id ie e8).1/\(BL s u to id ie e8).1.2.2.2.2.1=s.2.2.2.2.1/\(BL s u to id ie e8).1.2.1=s.2.1/\(bk (BL s u to id ie e8).1).length<=(bk s).length+1/\(sa (BL s u to id ie e8).1).length<=(sa s).length+1:=by
 have K:zW s u to id ie e8=0:=by
  unfold BL at h;split at h
  .assumption
  .rename_i g;exact absurd h g
 have⟨_,⟨i,hi⟩,hq,_,y⟩:=RX K;rw[X6 K hi]at h ⊢;split;case isFalse g=>rw[ag g]at h;cases h
 rename_i g1;rw[ah g1]at h;split;case isFalse g=>rw[ag g]at h;cases h
 rename_i Y;rw[ah Y]at h;unfold å at h ⊢;split;case isFalse g=>rw[ag g]at h;exact absurd h g
 rename_i H;rw[ah H]at h;split;case isFalse g=>rw[ag g]at h;exact absurd h g
 rename_i G;rw[ah G]at h;split;case isFalse g=>rw[ag g]at h;exact absurd h g
 rename_i X
 have C:rH s.2.2.2.2.1 to:=by
  unfold RW at y;cases F:jj s.2.2.2.2.1 to.1 with
  |none=>rw[F]at y;cases y
  |some a=>
   rw[F]at y;dsimp only at y;split at y
   .rename_i g;exact bQ.2 ⟨a,(Ih F).1,bA g⟩
   .cases y
 have W:lz (·.1) s.2.2.1 id:=⟨i,RY hi⟩;have one:∀n:Int,∀x∈([(id,n,())]:List oF),lz (·.1) s.2.2.1 x.1:=λn x R=>by rw[ay.1 R];exact W
 have S:=Lo.shift (ct.s L) J (one _) H;have B:=Lo.shift (ct.b L) C (one _) G;have P:=QB.move (ct.p L) (.inl J) (.inl C) X;have T:=pZ H;have V:=pZ G;refine⟨{ L with b:=B,s:=S,p:=P,bal:=λj=>?_ },rfl,rfl,V.len,T.len⟩;have h1:=V.opn j;have h2:=T.opn j;have h3:li (bk s) j+li (sa s) j=0:=ct.bal L j;have h4:fZ [((id,ie,()):oF)] j+fZ [((id,-ie,()):oF)] j=0:=by simp only[fZ];split<;>omega
 show li (fJ (bk s) to [(id,ie,())]).1 j+li (fJ (sa s) u [(id,-ie,())]).1 j=0;omega
theorem akR{d:aM}(L:zI (bY d))(h:(N' d).1=0):Kp 0 1 d (N' d).2:=by
 unfold N' at h ⊢;split;case isFalse g=>rw[ag g]at h;exact absurd h g
 rename_i g0;rw[ah g0]at h;split;case isFalse g=>rw[ag g]at h;cases h
 rename_i g1;rw[ah g1]at h;split;case isFalse g=>rw[ag g]at h;exact absurd h g
 rename_i F;have⟨G,j,_,C,y⟩:=WR L (YB g0) F;refine⟨G,?_,?_⟩
 .show(Ig (Vw d).1.2.2.2.2.1).length<=_;have j:(Vw d).1.2.2.2.2.1=bK d:=j;rw[j];omega
 .have C:(bk (Vw d).1).length<=(dq d).length+1:=C;have y:(sa (Vw d).1).length<=(fW d).length+1:=y;show(bk (Vw d).1).length+(sa (Vw d).1).length<=(dq d).length+(fW d).length+2*1;omega
theorem akS{d:aM}(Z:wI d):FB d=some (N' d):=by
 by_cases g0:Vn d (aY d)=0
 .refine apm Z.N4 Z.ta λh=>?_
  have⟨F,C,y,j,_⟩:=WR Z.L (YB g0) h;have j:(bk (Vw d).1).length<=(dq d).length+1:=j;have:=Z.b;exact⟨(ct.b F).okB (by show(bk (Vw d).1).length<=100;omega),C,y⟩
 .have O:=Z.N4;show ka aj d=_;unfold ka N';refine vY (WS O.a) ?_;refine tby g0 ?_;rw[ag g0]
def L_(d:aM):Int×aM:=if bJ d=14 then((EB (fK d) (ju d) (ln d)).2.1,ak8 d (EB (fK d) (ju d) (ln d)).1)else if bJ d=15 then((Ao (iR d) (iM d) (ln d)).2.1,SE d (Ao (iR d) (iM d) (ln d)).1)else if bJ d=16 then YH d else if bJ d=17 then SP d else(0,d)
theorem atv{d}(Z:wI d):∃r,Oa d=some r/\((bJ d≠18/\r=L_ d)\/(bJ d=18/\(r.1=0->WdR d r.2))):=by
 have N:=Z.okN;refine BS (P:=λo=>∃r:Int×aM,o=some r/\((bJ d≠18/\r=L_ d)\/(bJ d=18/\(r.1=0->WdR d r.2)))) λk K=>?_
 have j:∀z,k z=some z:=λz=>by subst K;rfl
 unfold L_;by_cases H:bJ d=14
 .rw[pF H,ai (ahM N.i N.is),j,ah H];exact⟨_,rfl,.inl ⟨by omega,rfl⟩⟩
 rw[qy H,ag H];by_cases G:bJ d=15
 .rw[pF G,ai (M_ N.sl N.ss),j,ah G];exact⟨_,rfl,.inl ⟨by omega,rfl⟩⟩
 rw[qy G,ag G];by_cases F:bJ d=16
 .rw[pF F,ai (apf Z),j,ah F];exact⟨_,rfl,.inl ⟨by omega,rfl⟩⟩
 rw[qy F,ag F];by_cases C:bJ d=17
 .rw[pF C,ai (atw N Z.hs),j,ah C];exact⟨_,rfl,.inl ⟨by omega,rfl⟩⟩
 rw[qy C,ag C];by_cases y:bJ d=18
 .have⟨r,J,h⟩:=av9 Z;rw[pF y,ai J,j];exact⟨_,rfl,.inr ⟨y,h⟩⟩
 rw[qy y,j];exact⟨_,rfl,.inl ⟨y,rfl⟩⟩
def acR(d:aM):Int×aM:=if bJ d=19 then GM d else if bJ d=20 then PD d else if bJ d=21 then YE d else if bJ d=22 then SR d else if bJ d=23 then N9 d else if bJ d=24 then N' d else L5 d
theorem apn{d}(Z:wI d):QC d=some (acR d):=by
 show o5 aj d=_;unfold o5 acR;have O:=Z.N4;have y:(jC d).length<=1000:=by have h:(jC d).length<=(Ig (bK d)).length:=ct.hL Z.L;have:=Z.u;omega
 by_cases j:bJ d=19
 .rw[pF j,ai (akT O y),ah j]
 rw[qy j,ag j];by_cases j:bJ d=20
 .rw[pF j,ai (apo O y),ah j]
 rw[qy j,ag j];by_cases j:bJ d=21
 .rw[pF j,ai (atq Z),ah j]
 rw[qy j,ag j];by_cases j:bJ d=22
 .rw[pF j,ai (app Z.okP),ah j]
 rw[qy j,ag j];by_cases j:bJ d=23
 .rw[pF j,ai (atx O Z.ak4 Z.t),ah j]
 rw[qy j,ag j];by_cases j:bJ d=24
 .rw[pF j,ai (akS Z),ah j]
 rw[qy j,ag j,ai (atr Z)]
def acS(d e:aM):Prop:=(bJ d<=6/\CP d=(0,e))\/(6<bJ d/\bJ d<=13/\Al d=(0,e))\/(13<bJ d/\bJ d<=17/\L_ d=(0,e))\/(bJ d=18/\WdR d e)\/(18<bJ d/\bJ d<=25/\acR d=(0,e))\/(25<bJ d/\∃n,e=arH d n)
theorem aty{d}(Z:wI d):∃r,SS d=some r/\(r.1=0->acS d r.2):=by
 show ∃r,qb aj d=some r/\_;unfold qb;have y:∀{r:Int×aM},r.1=0->r=(0,r.2):=λ{r} h=>by rw[<-h]
 by_cases J:bJ d<=6
 .rw[eG J,ai (akU Z.okN)];exact⟨_,rfl,λh=>.inl ⟨J,y h⟩⟩
 rw[cV J];by_cases H:bJ d<=13
 .rw[eG H,ai (akV Z.N4 Z.n)];exact⟨_,rfl,λh=>.inr (.inl ⟨by omega,H,y h⟩)⟩
 rw[cV H];by_cases K:bJ d<=18
 .have⟨r,F,h⟩:=atv Z;rw[eG K,ai F];refine⟨_,rfl,λC=>?_⟩;rcases h with⟨j,G⟩|⟨j,G⟩
  .exact .inr (.inr (.inl ⟨by omega,by omega,by rw[<-G];exact y C⟩))
  .exact .inr (.inr (.inr (.inl ⟨j,G C⟩)))
 rw[cV K];by_cases j:bJ d<=25
 .rw[eG j,ai (apn Z)];exact⟨_,rfl,λh=>.inr (.inr (.inr (.inr (.inl ⟨by omega,j,y h⟩))))⟩
 rw[cV j];have⟨x,e,F,_,h⟩:=atz Z.N4 (ct.tu Z.L) Z.ak5;rw[ai F];exact⟨_,rfl,λC=>.inr (.inr (.inr (.inr (.inr ⟨by omega,h C⟩))))⟩
theorem apq{d e}(Z:wI d)(h:acS d e):Kp 1 0 d e\/Kp 0 1 d e:=by
 have L:=Z.L;have j:∀{f:Int×aM},f=(0,e)->f.1=0/\f.2=e:=λh=>by rw[h];exact⟨rfl,rfl⟩
 rcases h with⟨_,h⟩|⟨_,_,h⟩|⟨h1,F,h⟩|⟨_,h⟩|⟨_,_,h⟩|⟨_,n,h⟩
 .obtain⟨a,rfl⟩:=j h;exact .inl (ah7 L a)
 .obtain⟨a,rfl⟩:=j h;exact .inr (ahE L a)
 .obtain⟨a,rfl⟩:=j h;left;unfold L_ at a ⊢;split;case isTrue g=>rw[ah g]at a;exact(F_ L a).up
  rename_i g;rw[ag g]at a;split;case isTrue g=>rw[ah g]at a;exact(YG L a).up
  rename_i g;rw[ag g]at a;split;case isTrue g=>rw[ah g]at a;exact(ape L a).up
  rename_i g;rw[ag g]at a;split;case isTrue g=>rw[ah g]at a;exact(aph L a).up
  exact(Kp.wF L).up
 .have⟨w1,C,y⟩:=h;obtain⟨a,rfl⟩:=j y;exact .inl (WN L (.inl (sQ w1 _ (ay.2 rfl))) a).up
 .obtain⟨a,rfl⟩:=j h;right;unfold acR at a ⊢;split;case isTrue g=>rw[ah g]at a;exact(ahL L a).up
  rename_i g;rw[ag g]at a;split;case isTrue g=>rw[ah g]at a;exact(akP L a).up
  rename_i g;rw[ag g]at a;split;case isTrue g=>rw[ah g]at a;exact(apb L a).up
  rename_i g;rw[ag g]at a;split;case isTrue g=>rw[ah g]at a;exact akQ L a
  rename_i g;rw[ag g]at a;split;case isTrue g=>rw[ah g]at a;exact(apl L a).up
  rename_i g;rw[ag g]at a;split;case isTrue g=>rw[ah g]at a;exact akR L a
  rename_i g;rw[ag g]at a;exact(apd Z a).up
 .subst h;exact .inl (Kp.up ⟨L,au _,au _⟩)
def mkD(s:aU)(c:bX):aM:=xp s (U3 c (c.2.2.2.1.1,c.2.2.2.1.2.1,c.2.2.2.2.1.1,c.2.2.2.2.1.2.1,U7 c.2.2.2.2.2 (0,[],[],[],())))
abbrev akW(d:aM):Il:=d.2.2.2.2.2.2.2.2.2.2.2.2.2.2.2.2.2.2.2.2.2.2.2.2.2.2
def noR(e:Int):Il:=(e,[],[],[],())
structure GoR(s:aU)(c:bX)(e:aM):Prop where
 k:ajN c=0
 sn:L7 (mkD s c)=0
 al:GP (mkD s c)=0
 a:acS (mkD s c) e
theorem akX{d}(Z:wI d)(x):∃r,PE d x=some r/\(r.1=0->x=0/\L7 d=0/\GP d=0/\acS d r.2):=by
 show ∃r,uL aj d x=some r/\_;unfold uL;have O:=Z.N4;have hm:=O.m;have H:=O.g;have hv:=O.v;rw[aT (by rfl)];by_cases C:x=0;case neg=>rw[fT C];exact⟨_,rfl,λh=>absurd h C⟩
 rw[iD C,ai (ahN (by omega)),aT (by rfl)];by_cases y:L7 d=0;case neg=>rw[fT y];exact⟨_,rfl,λh=>absurd h y⟩
 rw[iD y,ai (acT O.a O.as (by omega) (by omega)),aT (by rfl)];by_cases j:GP d=0;case neg=>rw[fT j];exact⟨_,rfl,λh=>absurd h j⟩
 have⟨r,F,h⟩:=aty Z;rw[iD j,ai F,az (by rfl)];exact⟨r,rfl,λG=>⟨C,y,j,h G⟩⟩
theorem akY{s}{c}(C:R9 c)(Z:wI (mkD s c)):∃t r,GQ s c=some (t,r,())/\((r.1≠0/\t=s/\r=noR r.1)\/∃e,GoR s c e/\t=bY e/\r=akW e):=by
 show ∃t r,uM aj s c=some (t,r,())/\_;unfold uM;rw[ai (ajP C)];have⟨r,y,h⟩:=akX Z (ajN c);show ∃t r,aj.ae (PE (mkD s c) (ajN c)) _=some (t,r,())/\_;rw[ai y];by_cases j:r.1=0
 .have⟨F,a2,a3,a4⟩:=h j;rw[iD j];exact⟨_,_,rfl,.inr ⟨r.2,⟨F,a2,a3,a4⟩,rfl,rfl⟩⟩
 .rw[fT j];exact⟨_,_,rfl,.inl ⟨j,rfl,rfl⟩⟩
end Go.Proofs.YthghpahghjppjaaGreat