import Derived.Test.YthghpahghjppjaaGreatB6
namespace Go.Proofs.YthghpahghjppjaaGreat
open Go Go.Vc Go.RowKit
def okS(s:S):Prop:=Bt s.1/\s.1.length<9223372036854775807
theorem R7{lo hi:Int}{s:S}(h:okS s):okS (rd lo hi s).2:=⟨BM h.1,Nat.lt_of_le_of_lt Gd h.2⟩
theorem asP{hi}{s}(h:0<=hi):0<=(rd 0 hi s).1/\(rd 0 hi s).1<=hi:=by
 unfold rd vZ;split
 .exact⟨jT _,h⟩
 .rcases uw 0 0 s.1 with⟨_|u,r,j⟩
  .exact⟨jT _,h⟩
  .dsimp only;split
   .exact⟨jT _,h⟩
   .omega
theorem ze{j:Int}{s:S}(h:okS s):ahl true s.1 s.2 j=some ((rd 0 j s).1,true,(rd 0 j s).2.1,(rd 0 j s).2.2,()):=by show j6 aj true s.1 s.2 j=_;unfold j6;rw[dT (R8 h.1 h.2)]
theorem ì{s}(h:okS s):ahm true s.1 s.2=some (((rd 0 16 s).1,(rd 0 16 (rd 0 16 s).2).1,()),true,(rd 0 16 (rd 0 16 s).2).2.1,(rd 0 16 (rd 0 16 s).2).2.2,()):=by show wz aj true s.1 s.2=_;unfold wz;rw[dT (ze h)];exact(dT (ze (R7 h)) _).trans rfl
theorem ahn{s}(h:okS s):í true s.1 s.2 32=some ((Ge s).1.tail,true,(Ge s).2.1,(Ge s).2.2,()):=by
 show ux aj true s.1 s.2 32=_;unfold ux;rw[wA,dT (ze h)];have J:=asP (hi:=32) (s:=s) (by omega);refine(iI (λz=>z.1.toNat) (λz=>∃(n:Nat) (t:S) (acc:List Int),z=((n:Int),true,t.1,t.2,acc,())/\okS t/\acc.length+n<=32/\NQ n t acc=((Ge s).1.tail,(Ge s).2)) (λ_=>some ((Ge s).1.tail,true,(Ge s).2.1,(Ge s).2.2,())) ⟨(rd 0 32 s).1.toNat,(rd 0 32 s).2,[],by rw[sD J.1],R7 h,by simp;omega,rfl⟩ (by dsimp only;omega) ?_);rintro _ ⟨n,t,acc,rfl,G,hl,j⟩ H K;show aj.af (decide ((0:Int)<(n:Int))) _ _=_;cases n with
 |zero=>rw[az (by rfl)];unfold NQ at j;have C:=bS (·.1) j;have y:=bS (·.2) j;dsimp only at C y;rw[<-C,<-y]
 |succ n=>
  rw[eG (by omega)];refine(dT (show Fu true t.1 t.2=some (t.2,true,t.1,t.2,())from rfl) _).trans ?_;unfold NQ at j;by_cases F:t.2=0
  .rw[aT (by simp[F])];rw[ah F]at j;refine(dT (R8 G.1 G.2) _).trans ?_;show aj.bc (acc.length+1) 8 _=_;rw[da];rw[î (n+1)];exact K _ ⟨n,(rd LO HI t).2,_,rfl,R7 G,by simp;omega,j⟩ (by dsimp only;omega)
  .rw[az (by simp[F])];rw[ag F]at j;have C:=bS (·.1) j;have y:=bS (·.2) j;dsimp only at C y;dsimp only;rw[<-C,<-y]
def avv(c:bX):Int×Int×Int×Int×Int×Int×Int×Int×Int×Int×Int×Int×Int×List Int×Unit:=(c.1,c.2.1,c.2.2.1,c.2.2.2.1.1,c.2.2.2.1.2.1,c.2.2.2.2.1.1,c.2.2.2.2.1.2.1,c.2.2.2.2.2.1,c.2.2.2.2.2.2.1,c.2.2.2.2.2.2.2.1,c.2.2.2.2.2.2.2.2.1,c.2.2.2.2.2.2.2.2.2.1,c.2.2.2.2.2.2.2.2.2.2.1,c.2.2.2.2.2.2.2.2.2.2.2.1,())
theorem asQ(L:Lt){s:S}(h:okS s)(c:bX):
 ajA true s.1 s.2 c.1 c.2.1 c.2.2.1 c.2.2.2.1.1 c.2.2.2.1.2.1 c.2.2.2.2.1.1 c.2.2.2.2.1.2.1 c.2.2.2.2.2.1 c.2.2.2.2.2.2.1 c.2.2.2.2.2.2.2.1 c.2.2.2.2.2.2.2.2.1 c.2.2.2.2.2.2.2.2.2.1 c.2.2.2.2.2.2.2.2.2.2.1 c.2.2.2.2.2.2.2.2.2.2.2.1 (L.code:Int)=some ((),true,(uj L s).2.1,(uj L s).2.2,avv (put L (uj L s).1 c)):=by
 show Di aj true s.1 s.2 _ _ _ _ _ _ _ _ _ _ _ _ _ _ (L.code:Int)=_;unfold Di;cases L with
 |M=>rw[aT (by rfl),dT (ze h)];rfl
 |U=>rw[az (by rfl),aT (by rfl),dT (ì h)];rfl
 |O=>rw[az (by rfl),az (by rfl),aT (by rfl),dT (ì h)];rfl
 |I=>rw[az (by rfl),az (by rfl),az (by rfl),aT (by rfl),dT (ze h)];rfl
 |A=>rw[az (by rfl),az (by rfl),az (by rfl),az (by rfl),aT (by rfl),dT (ze h)];rfl
 |T=>rw[az (by rfl),az (by rfl),az (by rfl),az (by rfl),az (by rfl),aT (by rfl),dT (ze h)];rfl
 |D=>rw[az (by rfl),az (by rfl),az (by rfl),az (by rfl),az (by rfl),az (by rfl),aT (by rfl),dT (ze h)];rfl
 |Q=>rw[az (by rfl),az (by rfl),az (by rfl),az (by rfl),az (by rfl),az (by rfl),az (by rfl),aT (by rfl),dT (R8 h.1 h.2)];rfl
 |P=>rw[az (by rfl),az (by rfl),az (by rfl),az (by rfl),az (by rfl),az (by rfl),az (by rfl),az (by rfl),aT (by rfl),dT (R8 h.1 h.2)];rfl
 |N=>rw[az (by rfl),az (by rfl),az (by rfl),az (by rfl),az (by rfl),az (by rfl),az (by rfl),az (by rfl),az (by rfl),aT (by rfl),dT (ahn h)];rfl
theorem ajB:∀(n:Nat) (s:S) (acc:List Int),(NQ n s acc).2.1.length<=s.1.length
 |0,s,acc=>au _
 |n+1,s,acc=>by
  unfold NQ;split
  .exact cn (ajB n _ _) Gd
  .exact au _
theorem ajC(L)(s):(uj L s).2.1.length<=s.1.length:=by
 cases L with
 |N=>exact cn (ajB _ _ _) Gd
 |U=>exact cn Gd Gd
 |O=>exact cn Gd Gd
 |_=>exact Gd
theorem aoD{L:Lt}{s:S}(h:okS s):okS (uj L s).2:=⟨aeR h.1,Nat.lt_of_le_of_lt (ajC L s) h.2⟩
def aeU:bX:=(0,0,0,(0,0,()),(0,0,()),0,0,0,0,0,0,[],())
def op0(op j:Int):bX:=(op,j,aeU.2.2)
def ï(r:bX×S):bX×Int×Unit:=if Yb r.2≠0 then(aeU,3,())else(r.1,0,())
def pt(b:List Int):bX×S:=Aa (fl (rd 1 31 (b,0)).1) (rd 0 8 (rd 1 31 (b,0)).2).2 (op0 (rd 1 31 (b,0)).1 (rd 0 8 (rd 1 31 (b,0)).2).1)
theorem aho{ls:List Lt}{i:Nat}(h:i<ls.length)(s:S)(c:bX):Aa (ls.drop i) s c=Aa (ls.drop (i+1)) (uj ls[i] s).2 (put ls[i] (uj ls[i] s).1 c):=by rw[cu h];rfl
abbrev ZC:=Bool×List Int×Int×Int×Int×Int×Int×Int×Int×Int×Int×Int×Int×Int×Int×Int×List Int×(ByteArray×Int×Unit)×Unit
theorem asR{b:List Int}(hb:Bt b)(hl:b.length<=100000000):ajD b=some (ï (pt b)):=by
 show Dj aj b=_;unfold Dj;have F:okS (b,0):=⟨hb,by dsimp only;omega⟩;rw[dT (asT hl)];refine(dT (R8 F.1 F.2) _).trans ?_;have J:=R7 (lo:=1) (hi:=31) F;refine(dT (ze J) _).trans ?_;have V:=R7 (lo:=0) (hi:=8) J;refine(dT (Ws _) _).trans ?_;unfold pt;have K:=ac8 (rd 1 31 (b,0)).1;generalize fl (rd 1 31 (b,0)).1=ls at *;refine(iI (λz=>ls.length-z.2.2.2.2.2.2.2.2.2.2.2.2.2.2.2.2.2.1.2.1.toNat) (λz=>∃(i:Nat) (t:S) (c:bX),z=(true,t.1,t.2,c.1,c.2.1,c.2.2.1,c.2.2.2.1.1,c.2.2.2.1.2.1,c.2.2.2.2.1.1,c.2.2.2.2.1.2.1,c.2.2.2.2.2.1,c.2.2.2.2.2.2.1,c.2.2.2.2.2.2.2.1,c.2.2.2.2.2.2.2.2.1,c.2.2.2.2.2.2.2.2.2.1,c.2.2.2.2.2.2.2.2.2.2.1,c.2.2.2.2.2.2.2.2.2.2.2.1,(str ls,(i:Int),()),())/\i<=ls.length/\okS t/\Aa (ls.drop i) t c=Aa ls (rd 0 8 (rd 1 31 (b,0)).2).2 (op0 (rd 1 31 (b,0)).1 (rd 0 8 (rd 1 31 (b,0)).2).1)) (λ_=>some (ï (Aa ls (rd 0 8 (rd 1 31 (b,0)).2).2 (op0 (rd 1 31 (b,0)).1 (rd 0 8 (rd 1 31 (b,0)).2).1)))) ⟨0,(rd 0 8 (rd 1 31 (b,0)).2).2,op0 (rd 1 31 (b,0)).1 (rd 0 8 (rd 1 31 (b,0)).2).1,rfl,by omega,V,rfl⟩ ?_ ?_)
 .have:ls.length<18446744073709551616:=by omega
  omega
 .rintro _ ⟨i,t,c,rfl,hi,H,y⟩ G R;show aj.zd (str ls) (i:Int) _ _=_;by_cases j:i<ls.length
  .rw[aj8 ls i j];refine(dT (asQ _ H c) _).trans ?_;rw[aho j]at y;exact R _ ⟨i+1,(uj ls[i] t).2,put ls[i] (uj ls[i] t).1 c,rfl,by omega,aoD H,y⟩ (by dsimp only;omega)
  .obtain rfl:i=ls.length:=by omega
   rw[aj9 ls _ (au _)];rw[fP]at y;rw[<-y];refine(dT (asU t) _).trans ?_;unfold ï;show aj.af (Yb t != 0) _ _=_;by_cases C:Yb t=0
   .rw[az (by simp[C]),ag (by simpa[Aa]using C)];rfl
   .rw[aT (by simp[C]),ah (by simpa[Aa]using C)];rfl
def wi(n j:Int)(b:Bool):Bool:=decide (n=0)||(b&&(decide (0<n)&&decide (n<=j)))
def hs(c:bX)(L:Lt):Bool:=decide (L∈fl c.1)
def aoE(c:bX):Bool:=(!(decide (c.1<1)||decide (31<c.1)||decide (c.2.1<0)||decide (8<c.2.1)))&&(wi c.2.2.1 8 (hs c .M)&&(wi c.2.2.2.2.2.1 8 (hs c .I)&&(wi c.2.2.2.2.2.2.1 4 (hs c .A)&&(wi c.2.2.2.2.2.2.2.1 255 (hs c .T)&&wi c.2.2.2.2.2.2.2.2.1 1048576 (hs c .D)))))&&(wi c.2.2.2.1.1 16 (hs c .U)&&(wi c.2.2.2.1.2.1 16 (hs c .U)&&(wi c.2.2.2.2.1.1 16 (hs c .O)&&wi c.2.2.2.2.1.2.1 16 (hs c .O))))&&((decide (c.2.2.2.2.2.2.2.2.2.1=0)||hs c .Q)&&(decide (c.2.2.2.2.2.2.2.2.2.2.1=0)||hs c .P))&&(decide (c.2.2.2.2.2.2.2.2.2.2.2.1.length=0)||(hs c .N&&decide (c.2.2.2.2.2.2.2.2.2.2.2.1.length<=32)))
def arA(b:List Int):bX×S:=aeS (fl (rd LO HI (b,0)).1) (rd LO HI (rd LO HI (b,0)).2).2 (op0 (rd LO HI (b,0)).1 (rd LO HI (rd LO HI (b,0)).2).1)
def nc(c:bX):List Int:=c.2.2.2.2.2.2.2.2.2.2.2.1
def asV(c:bX)(l:List Int):bX:=(c.1,c.2.1,c.2.2.1,c.2.2.2.1,c.2.2.2.2.1,c.2.2.2.2.2.1,c.2.2.2.2.2.2.1,c.2.2.2.2.2.2.2.1,c.2.2.2.2.2.2.2.2.1,c.2.2.2.2.2.2.2.2.2.1,c.2.2.2.2.2.2.2.2.2.2.1,l,())
theorem asW(L)(v)(c):(put L v c).1=c.1/\(put L v c).2.1=c.2.1:=by cases L<;>exact⟨rfl,rfl⟩
theorem aeV:∀(ls:List Lt) (s:S) (c:bX),(Aa ls s c).1.1=c.1/\(Aa ls s c).1.2.1=c.2.1
 |[],s,c=>⟨rfl,rfl⟩
 |L::ls,s,c=>by have y:=aeV ls (uj L s).2 (put L (uj L s).1 c);have j:=asW L (uj L s).1 c;exact⟨y.1.trans j.1,y.2.trans j.2⟩
def zeroV(L:Lt)(c:bX):Prop:=∀x∈fy L c,x=0
theorem ajE(L)(a b):zeroV L (op0 a b):=by intro x j;cases L<;>simp[fy,op0,aeU]at j<;>first|exact j|(rcases j with h|h<;>exact h)
theorem ax7{n t}:wi n t true=true↔0<=n/\n<=t\/n=0:=by unfold wi;simp;omega
theorem ax8{n t}:wi n t false=true↔n=0:=by unfold wi;simp
theorem ajF(c):aoE c=true↔(1<=c.1/\c.1<=31)/\(0<=c.2.1/\c.2.1<=8)/\(∀L,L∈fl c.1->okV L (fy L c))/\(∀L,L∉fl c.1->zeroV L c):=by
 have w1:∀(L:Lt) (n t:Int),0<=t->(wi n t (hs c L)=true↔(L∈fl c.1->0<=n/\n<=t)/\(L∉fl c.1->n=0)):=by
  intro L n t ht;unfold hs;by_cases h:L∈fl c.1
  .rw[ap h,ax7];simp only[h,true_implies,not_true,false_implies,pj];omega
  .rw[an h,ax8];simp only[h,false_implies,not_false_iff,true_implies,true_and]
 have w2:∀(L:Lt) (p:Bool),(p||hs c L)=true↔(L∉fl c.1->p=true):=by
  intro L p;unfold hs;by_cases h:L∈fl c.1
  .simp[h]
  .simp[h]
 unfold aoE;simp only[aD,w1 _ _ 8 (by omega),w1 _ _ 4 (by omega),w1 _ _ 255 (by omega),w1 _ _ 1048576 (by omega),w1 _ _ 16 (by omega),w2,jH,nY,pk,bg]
 have wn:(decide (c.2.2.2.2.2.2.2.2.2.2.2.1.length=0)||(hs c .N&&decide (c.2.2.2.2.2.2.2.2.2.2.2.1.length<=32)))=true↔(Lt.N∈fl c.1->c.2.2.2.2.2.2.2.2.2.2.2.1.length<=32)/\(Lt.N∉fl c.1->c.2.2.2.2.2.2.2.2.2.2.2.1.length=0):=by
  unfold hs;by_cases h:Lt.N∈fl c.1
  .rw[ap h];simp only[Bool.true_and,fQ,bg,h,true_implies,not_true,false_implies,pj];omega
  .simp[h]
 rw[wn];constructor
 .rintro⟨⟨⟨⟨⟨⟨⟨K,h2⟩,C⟩,y⟩,W,X,hA,R,Y⟩,G,F,J,H⟩,hQ,hP⟩,V⟩;refine⟨by omega,by omega,λL hL=>?_,λL hL=>?_⟩
  .cases L with
   |M=>intro x j;simp only[fy,ay]at j;subst j;exact W.1 hL
   |I=>intro x j;simp only[fy,ay]at j;subst j;exact X.1 hL
   |A=>intro x j;simp only[fy,ay]at j;subst j;exact hA.1 hL
   |T=>intro x j;simp only[fy,ay]at j;subst j;exact R.1 hL
   |D=>intro x j;simp only[fy,ay]at j;subst j;exact Y.1 hL
   |U=>intro x j;simp only[fy,aB,dD,kO]at j;rcases j with rfl|rfl;exact G.1 hL;exact F.1 hL
   |O=>intro x j;simp only[fy,aB,dD,kO]at j;rcases j with rfl|rfl;exact J.1 hL;exact H.1 hL
   |Q=>trivial
   |P=>trivial
   |N=>exact V.1 hL
  .intro x j;cases L with
   |M=>simp only[fy,ay]at j;subst j;exact W.2 hL
   |I=>simp only[fy,ay]at j;subst j;exact X.2 hL
   |A=>simp only[fy,ay]at j;subst j;exact hA.2 hL
   |T=>simp only[fy,ay]at j;subst j;exact R.2 hL
   |D=>simp only[fy,ay]at j;subst j;exact Y.2 hL
   |U=>simp only[fy,aB,dD,kO]at j;rcases j with rfl|rfl;exact G.2 hL;exact F.2 hL
   |O=>simp only[fy,aB,dD,kO]at j;rcases j with rfl|rfl;exact J.2 hL;exact H.2 hL
   |Q=>simp only[fy,ay]at j;subst j;exact hQ hL
   |P=>simp only[fy,ay]at j;subst j;exact hP hL
   |N=>have h0:=V.2 hL;have K:=dX.1 h0;simp only[fy,K,eV,ay]at j;simpa using j
 .rintro⟨K,h2,C,y⟩;have one:∀(L:Lt) (n:Int),fy L c=[n]->(okV L (fy L c)->0<=n/\n<=top L)->(L∈fl c.1->0<=n/\n<=top L)/\(L∉fl c.1->n=0):=λL n hv ho=>⟨λh=>ho (C L h),λh=>y L h n (by rw[hv];simp)⟩
  refine⟨⟨⟨⟨⟨⟨⟨by omega,by omega⟩,by omega⟩,by omega⟩,?_,?_,?_,?_,?_⟩,?_,?_,?_,?_⟩,?_,?_⟩,?_⟩
  .exact one .M _ rfl λh=>h _ (by simp[fy])
  .exact one .I _ rfl λh=>h _ (by simp[fy])
  .exact one .A _ rfl λh=>h _ (by simp[fy])
  .exact one .T _ rfl λh=>h _ (by simp[fy])
  .exact one .D _ rfl λh=>h _ (by simp[fy])
  .exact⟨λh=>C .U h _ (by simp[fy]),λh=>y .U h _ (by simp[fy])⟩
  .exact⟨λh=>C .U h _ (by simp[fy]),λh=>y .U h _ (by simp[fy])⟩
  .exact⟨λh=>C .O h _ (by simp[fy]),λh=>y .O h _ (by simp[fy])⟩
  .exact⟨λh=>C .O h _ (by simp[fy]),λh=>y .O h _ (by simp[fy])⟩
  .exact λh=>y .Q h _ (by simp[fy])
  .exact λh=>y .P h _ (by simp[fy])
  .refine⟨λh=>C .N h,λh=>?_⟩;have:=y .N h (c.2.2.2.2.2.2.2.2.2.2.2.1.length:Int) (by simp[fy]);omega
theorem asX{s}(h:Yb s=0):s.2=0/\s.1=[]:=by
 unfold Yb at h;split at h
 .rename_i j;exact absurd h j
 .rename_i j;split at h
  .cases h
  .rename_i y;exact⟨by simpa using j,dX.1 (by omega)⟩
theorem aoF{b}(hb:Bt b)(h:Yb (pt b).2=0):arA b=pt b/\aoE (pt b).1=true/\
 b=oG [(pt b).1.1,(pt b).1.2.1]++((fl (pt b).1.1).flatMap λL=>oG (fy L (pt b).1))/\(ui (pt b).1.1/\ui (pt b).1.2.1/\∀L,∀x∈fy L (pt b).1,ui x)/\(nc (pt b).1).length<=32:=by
 have⟨V,e1⟩:=asX h;have ho:=aeV (fl (rd 1 31 (b,0)).1) (rd 0 8 (rd 1 31 (b,0)).2).2 (op0 (rd 1 31 (b,0)).1 (rd 0 8 (rd 1 31 (b,0)).2).1);have F:=R4 _ _ _ V;have K:=zc F;have fA:=Ly K;have fB:=Ly F;have iA:=Jw K;have iB:=Jw F;have⟨cA,X⟩:=zZ (s:=(b,0)) hb K;have⟨cB,W⟩:=zZ (s:=(rd 1 31 (b,0)).2) (BM (s:=(b,0)) hb) F;have⟨r1,G,Y⟩:=aeT (fl (rd 1 31 (b,0)).1) (rd 0 8 (rd 1 31 (b,0)).2).2 (op0 (rd 1 31 (b,0)).1 (rd 0 8 (rd 1 31 (b,0)).2).1) (aj6 _) (BM (s:=(rd 1 31 (b,0)).2) (BM (s:=(b,0)) hb)) V;have j:(pt b).1.1=(rd 1 31 (b,0)).1:=ho.1;have y:(pt b).1.2.1=(rd 0 8 (rd 1 31 (b,0)).2).1:=ho.2;have H:∀L,L∉fl (rd 1 31 (b,0)).1->zeroV L (pt b).1:=λL hL=>by unfold zeroV;rw[show fy L (pt b).1=fy L (op0 (rd 1 31 (b,0)).1 (rd 0 8 (rd 1 31 (b,0)).2).1)from NS _ _ _ L hL];exact ajE L _ _
 have J:aoE (pt b).1=true:=by
  refine(ajF _).2 ⟨by rw[j];exact iA,by rw[y];exact iB,?_,?_⟩
  .rw[j];exact λL hL=>(G L hL).1
  .rw[j];exact H
 refine⟨?_,J,?_,⟨by rw[j];exact X,by rw[y];exact W,λL x R=>?_⟩,?_⟩
 .unfold arA;rw[fA,fB];exact r1
 .rw[j,y,show[(rd 1 31 (b,0)).1,(rd 0 8 (rd 1 31 (b,0)).2).1]=[(rd 1 31 (b,0)).1]++[(rd 0 8 (rd 1 31 (b,0)).2).1]from rfl,Dh,xH,xH];have C:(rd 0 8 (rd 1 31 (b,0)).2).2.1=((fl (rd 1 31 (b,0)).1).flatMap λL=>oG (fy L (pt b).1))++(pt b).2.1:=Y;rw[e1,bZ]at C;rw[<-C,bn,<-cB];exact cA
 .by_cases hL:L∈fl (rd 1 31 (b,0)).1
  .exact(G L hL).2 x R
  .rw[H L hL x R];unfold ui;omega
 .by_cases hL:Lt.N∈fl (rd 1 31 (b,0)).1
  .exact(G .N hL).1
  .have:=H .N hL ((nc (pt b).1).length:Int) (by simp[fy,nc]);omega
def R9(c:bX):Prop:=ui c.1/\ui c.2.1/\(∀L,∀x∈fy L c,ui x)/\(nc c).length<=1000
def Gf(c:bX):List Int:=oG [c.1,c.2.1]++((fl c.1).flatMap λL=>oG (fy L c))
theorem ajG{u}{b}(C:ui u.1)(y:ui u.2.1)(hb:b.length<=1000000):ajH true b u=some ((),true,b++oG [u.1,u.2.1],()):=by show zH aj true b u=_;unfold zH;rw[dT (Rh (l:=[u.1,u.2.1]) (by intro n j;simp at j;rcases j with rfl|rfl;exact C;exact y) (by simp) (by omega))]
theorem aoG{c}(L){b}(C:R9 c)(hb:b.length<=1000000):ahp true b c (L.code:Int)=some ((),true,b++oG (fy L c),()):=by
 show wB aj true b c (L.code:Int)=_;unfold wB;have hv:=C.2.2.1 L;have one:∀x:Int,ui x->yD true b (x::[])=some ((),true,b++oG [x],()):=λx F=>Rh (l:=[x]) (by intro n j;simp at j;subst j;exact F) (by simp) (by omega)
 cases L with
 |M=>rw[aT (by rfl),dT (one _ (hv _ (by simp[fy])))];rfl
 |U=>rw[az (by rfl),aT (by rfl),dT (ajG (hv _ (by simp[fy])) (hv _ (by simp[fy])) hb)];rfl
 |O=>rw[az (by rfl),az (by rfl),aT (by rfl),dT (ajG (hv _ (by simp[fy])) (hv _ (by simp[fy])) hb)];rfl
 |I=>rw[az (by rfl),az (by rfl),az (by rfl),aT (by rfl),dT (one _ (hv _ (by simp[fy])))];rfl
 |A=>rw[az (by rfl),az (by rfl),az (by rfl),az (by rfl),aT (by rfl),dT (one _ (hv _ (by simp[fy])))];rfl
 |T=>rw[az (by rfl),az (by rfl),az (by rfl),az (by rfl),az (by rfl),aT (by rfl),dT (one _ (hv _ (by simp[fy])))];rfl
 |D=>rw[az (by rfl),az (by rfl),az (by rfl),az (by rfl),az (by rfl),az (by rfl),aT (by rfl),dT (one _ (hv _ (by simp[fy])))];rfl
 |Q=>rw[az (by rfl),az (by rfl),az (by rfl),az (by rfl),az (by rfl),az (by rfl),az (by rfl),aT (by rfl),dT (one _ (hv _ (by simp[fy])))];rfl
 |P=>rw[az (by rfl),az (by rfl),az (by rfl),az (by rfl),az (by rfl),az (by rfl),az (by rfl),az (by rfl),aT (by rfl),dT (one _ (hv _ (by simp[fy])))];rfl
 |N=>
  rw[az (by rfl),az (by rfl),az (by rfl),az (by rfl),az (by rfl),az (by rfl),az (by rfl),az (by rfl),az (by rfl),aT (by rfl),dT (one _ (hv _ (by simp[fy])))];have j:=C.2.2.2;unfold nc at j;show aj.ae (yD true (b++oG [(c.2.2.2.2.2.2.2.2.2.2.2.1.length:Int)]) c.2.2.2.2.2.2.2.2.2.2.2.1) _=_;have G:(oG [(c.2.2.2.2.2.2.2.2.2.2.2.1.length:Int)]).length<=10:=by have:=Gg (l:=[(c.2.2.2.2.2.2.2.2.2.2.2.1.length:Int)]) (by intro n y;simp at y;subst y;unfold ui;omega);simpa using this
  rw[dT (Rh (λn j=>hv n (by simp[fy,j])) (by omega) (by rw[aq];omega)),bn,<-Dh];rfl
theorem Wt{c}(j:R9 c)(L):(oG (fy L c)).length<=10010:=by
 have:=Gg (l:=fy L c) (j.2.2.1 L);have y:(fy L c).length<=1001:=by have:=j.2.2.2;unfold nc at this;cases L<;>simp[fy]<;>omega
 omega
theorem ahq{c}(j:R9 c):ð c=some (Gf c):=by
 show uy aj c=_;unfold uy;rw[ajI,dT (show ajJ=some ((),true,[],())from rfl)];refine(dT (Rh (l:=[c.1,c.2.1]) (by intro n y;simp at y;rcases y with rfl|rfl;exact j.1;exact j.2.1) (by simp) (by simp)) _).trans ?_;rw[dT (Ws _)];have J:=ac8 c.1;unfold Gf;have R:(oG [c.1,c.2.1]).length<=20:=by have:=Gg (l:=[c.1,c.2.1]) (by intro n y;simp at y;rcases y with rfl|rfl;exact j.1;exact j.2.1);simpa using this
 generalize fl c.1=ls at*
 have C:∀l:List Lt,(l.flatMap λL=>oG (fy L c)).length<=10010*l.length:=by
  intro l;induction l with
  |nil=>simp
  |cons L l V=>rw[cF,aq,aJ];have:=Wt j L;omega
 refine(iI (λz=>ls.length-z.2.2.1.2.1.toNat) (λz=>∃i:Nat,z=(true,oG [c.1,c.2.1]++((ls.take i).flatMap λL=>oG (fy L c)),(str ls,(i:Int),()),())/\i<=ls.length) (λ_=>some (oG [c.1,c.2.1]++(ls.flatMap λL=>oG (fy L c)))) ⟨0,by simp,by omega⟩ (by omega) ?_);rintro _ ⟨i,rfl,hi⟩ H K;have G:=C (ls.take i);rw[bf]at G;show aj.zd (str ls) (i:Int) _ _=_;by_cases F:i<ls.length
 .rw[aj8 ls i F];refine(dT (aoG ls[i] j (by rw[aq];omega)) _).trans ?_;refine K _ ⟨i+1,?_,by omega⟩ (by dsimp only;omega);rw[show ls.take (i+1)=ls.take i++[ls[i]]by simp,jM,bn];simp
 .obtain rfl:i=ls.length:=by omega
  rw[aj9 ls _ (au _)];refine(dT (asY (by rw[aq];omega)) _).trans ?_;rw[bs]
theorem ajK{α:Type}[DecidableEq α]{l m:List α}(f:Int×Unit->(Int×Unit->Option Bool)->Option Bool)(hl:l.length<=1000000)(hm:l.length=m.length)
 (C:∀(i:Nat) (h:i<l.length) (j:Int×Unit->Option Bool),f ((i:Int),()) j=if l[i]=m[i]'(by omega)then j (((i+1:Nat):Int),())else some false) (F:∀j:Int×Unit->Option Bool,f ((l.length:Int),()) j=some true):aj.aV f (0,())=some (decide (l=m)):=by
 refine(gQ (l:=l) (by omega) (λi _=>l.take i=m.take i) (λ_ _=>some (decide (l=m))) (s0:=()) (by simp) ?_ ?_)
 .rintro⟨⟩ j h;rw[F];rw[bs,hm,bs]at h;rw[ap h]
 .rintro i hi ⟨⟩ h j G;rw[C i hi];by_cases y:l[i]=m[i]'(by omega)
  .rw[ah y,G ()];rw[show l.take (i+1)=l.take i++[l[i]]by simp,show m.take (i+1)=m.take i++[m[i]'(by omega)]by simp,h,y]
  .rw[ag y,an (λe=>y (by subst e;rfl))]
theorem ahr{l m:List Int}(hl:l.length<=1000000):Dk l m=some (decide (l=m)):=by
 show ja aj l m=_;unfold ja;by_cases h:l.length=m.length
 .rw[az (by simp[h])];refine ajK _ hl h (λi hi j=>?_) (λj=>?_)
  .rw[dx hi,bO hi,bO];by_cases y:l[i]=m[i]'(by omega)
   .rw[az (by simp[y]),ah y];rw[cP i]
   .rw[aT (by simp[y]),ag y]
  .rw[dV]
 .rw[aT (by simp;omega),an (λe=>h (by rw[e]))]
def eqC(a b:bX):Bool:=(nc a==nc b)&&((a.1==b.1)&&((a.2.1==b.2.1)&&((a.2.2.1==b.2.2.1)&&(((a.2.2.2.1.1==b.2.2.2.1.1)&&(a.2.2.2.1.2.1==b.2.2.2.1.2.1))&&(((a.2.2.2.2.1.1==b.2.2.2.2.1.1)&&(a.2.2.2.2.1.2.1==b.2.2.2.2.1.2.1))&&((a.2.2.2.2.2.1==b.2.2.2.2.2.1)&&((a.2.2.2.2.2.2.1==b.2.2.2.2.2.2.1)&&((a.2.2.2.2.2.2.2.1==b.2.2.2.2.2.2.2.1)&&((a.2.2.2.2.2.2.2.2.1==b.2.2.2.2.2.2.2.2.1)&&((a.2.2.2.2.2.2.2.2.2.1==b.2.2.2.2.2.2.2.2.2.1)&&(a.2.2.2.2.2.2.2.2.2.2.1==b.2.2.2.2.2.2.2.2.2.2.1)))))))))))
theorem ñ{a b}(h:eqC a b=true):a=b:=by have⟨a1,a2,a3,⟨a4,a5,⟨⟩⟩,⟨a6,a7,⟨⟩⟩,a8,a9,a10,a11,a12,a13,a14,⟨⟩⟩:=a;have⟨b1,b2,b3,⟨b4,b5,⟨⟩⟩,⟨b6,b7,⟨⟩⟩,b8,b9,b10,b11,b12,b13,b14,⟨⟩⟩:=b;simp only[eqC,nc,aD,gT]at h;have⟨j,h1,Y,X,⟨W,V⟩,⟨R,K⟩,J,H,G,F,C,y⟩:=h;subst h1 Y X W V R K J H G F C y j;rfl
theorem ò(a):eqC a a=true:=by simp[eqC]
instance:DecidableEq bX:=λa b=>if h:eqC a b=true then isTrue (ñ h)else isFalse (λe=>h (e▸ò a))
theorem ajL(b c):(bif b then some c else some false)=some (b&&c):=by cases b<;>rfl
theorem aoH{a b}(h:(nc a).length<=1000):ajM a b=some (eqC a b):=by
 show Dl aj a b=_;unfold Dl;unfold nc at h;have e:decide (a.2.2.2.2.2.2.2.2.2.2.2.1=b.2.2.2.2.2.2.2.2.2.2.2.1)=(a.2.2.2.2.2.2.2.2.2.2.2.1==b.2.2.2.2.2.2.2.2.2.2.2.1):=by rw[tn];simp
 rw[dT (ahr (l:=a.2.2.2.2.2.2.2.2.2.2.2.1) (m:=b.2.2.2.2.2.2.2.2.2.2.2.1) (by omega)),e];simp only[ajL];rfl
theorem aeW{l}:Bt (oG l):=by
 have one:∀u:Nat,Bt (Es u):=by
  intro u;induction u using Nat.strongRecOn with
  |ind u j=>
   by_cases h:u<128
   .rw[Ri h];intro b hb;simp at hb;subst hb;omega
   .rw[Rj (by omega)];intro b hb;rcases aB.1 hb with rfl|hb
    .omega
    .exact j (u / 128) (by omega) b hb
 intro b hb;have⟨n,_,hb⟩:=bQ.1 (show b∈l.flatMap λn=>Es (fold n)from hb);exact one _ b hb
theorem Wu(c):Bt (Gf c):=by
 intro b hb;rcases aQ.1 (show b∈oG [c.1,c.2.1]++((fl c.1).flatMap λL=>oG (fy L c))from hb)with hb|hb
 .exact aeW b hb
 .have⟨L,_,hb⟩:=bQ.1 hb;exact aeW b hb
theorem ac9{c}(y:R9 c):(Gf c).length<=100000:=by
 have F:(oG [c.1,c.2.1]).length<=20:=by have:=Gg (l:=[c.1,c.2.1]) (by intro n C;simp at C;rcases C with rfl|rfl;exact y.1;exact y.2.1);simpa using this
 have j:∀l:List Lt,(l.flatMap λL=>oG (fy L c)).length<=10010*l.length:=by
  intro l;induction l with
  |nil=>simp
  |cons L l G=>rw[cF,aq,aJ];have:=Wt y L;omega
 have J:=j (fl c.1);have H:=ac8 c.1;unfold Gf;rw[aq];omega
def ajN(c:bX):Int:=if(ï (pt (Gf c))).2.1=0/\(ï (pt (Gf c))).1=c then 0 else 3
theorem ajO{b}(hb:Bt b):(nc (ï (pt b)).1).length<=1000:=by
 unfold ï;by_cases h:Yb (pt b).2=0
 .rw[ag (by simp[h])];have:=(aoF hb h).2.2.2.2;dsimp only;omega
 .rw[ah h];simp[nc,aeU]
theorem ajP{c}(y:R9 c):ahs c=some (ajN c):=by
 show Ab aj c=_;unfold Ab ajN;refine(dT (ahq y) _).trans ?_;rw[dT (asR (Wu c) (by have:=ac9 y;omega)),wA];have C:=ajO (Wu c);generalize ï (pt (Gf c))=r at *;by_cases h:r.2.1=0
 .rw[az (by simp[h])];refine(dT (aoH C) _).trans ?_;show aj.af (!eqC r.1 c) _ _=_;by_cases j:r.1=c
  .rw[j,ò,az (by rfl),ah (show r.2.1=0/\c=c from⟨h,rfl⟩)]
  .have:eqC r.1 c=false:=by cases F:eqC r.1 c;rfl;exact absurd (ñ F) j
   rw[this,aT (by rfl),ag (show ¬(r.2.1=0/\r.1=c)from λh=>j h.2)]
 .rw[aT (by simp[h]),ag (show ¬(r.2.1=0/\r.1=c)from λG=>h G.1)];exact Vq rfl rfl
set_option synthInstance.maxSize 100000
open Go.IntKind (i64 u64)
def vR{α:Type}(f:α->Int)(l:List α)(x:α):List α:=l.takeWhile (λy=>decide (f y<f x))++x::l.dropWhile (λy=>decide (f y<f x))
def pY{α:Type}(f:α->Int)(l:List α):Prop:=(l.map f).Pairwise (· < ·)
theorem arc{α}(f){l:List α}{x:α}{j:Nat}(R:∀y∈l.take j,f y<f x)(K:∀y∈l.drop j,¬f y<f x):l.take j++x::l.drop j=vR f l x:=by
 unfold vR
 have key:∀(a b:List α),(∀y∈a,f y<f x)->(∀y∈b,¬f y<f x)->(a++b).takeWhile (λy=>decide (f y<f x))=a/\(a++b).dropWhile (λy=>decide (f y<f x))=b:=by
  intro a;induction a with
  |nil=>
   intro b _ hb;cases b with
   |nil=>exact⟨rfl,rfl⟩
   |cons y b=>have:=hb y (by simp);rw[cS,oW,za,an this];exact⟨rfl,rfl⟩
  |cons y a H=>intro b G hb;have:=G y (by simp);rw[kw,oW,za,ap this];have⟨F,C⟩:=H b (λz J=>G z (by simp[J])) hb;exact⟨by rw[ah rfl,F],by rw[ah rfl,C]⟩
 have⟨F,C⟩:=key (l.take j) (l.drop j) R K;rw[mX]at F C;rw[F,C]
theorem xN{α}{f}{l:List α}{x y:α}:y∈vR f l x↔y=x\/y∈l:=by
 unfold vR;rw[aQ,aB];constructor
 .rintro(h|h|h)
  .exact .inr (List.takeWhile_sublist _ |>.subset h)
  .exact .inl h
  .exact .inr (List.dropWhile_sublist _ |>.subset h)
 .rintro(h|h)
  .exact .inr (.inl h)
  .rw[<-jW (p:=λy=>decide (f y<f x)) (l:=l),aQ]at h;rcases h with h|h
   .exact .inl h
   .exact .inr (.inr h)
theorem y_{α}(f)(l:List α)(x:α):(vR f l x).length=l.length+1:=by unfold vR;have:=bS List.length (jW (p:=λy=>decide (f y<f x)) (l:=l));rw[aq]at this;rw[aq,aJ];omega
theorem ava{α}{f}{l:List α}(h:pY f l){j:Nat}(G:j<l.length):(∀y∈l.take j,f y<f l[j])/\∀y∈l.drop j,¬f y<f l[j]:=by
 unfold pY at h;rw[oa,bN]at h;constructor
 .intro y C;obtain⟨k,F,rfl⟩:=dC.1 C;rw[bf]at F;rw[lc];exact h k j (by omega) G (by omega)
 .intro y C;obtain⟨k,F,rfl⟩:=dC.1 C;rw[dS]at F;rw[CA];rcases fw k with rfl|H
  .simp
  .have:=h j (j+k) G (by omega) (by omega);omega
theorem anO{α}{p}:∀{l:List α} {y:α},y∈l.takeWhile p->p y=true
 |[],_,h=>by cases h
 |a::l,y,h=>by
  rw[oW]at h;by_cases e:p a=true
  .rw[ah e]at h;rcases aB.1 h with rfl|h
   .exact e
   .exact anO h
  .rw[ag e]at h;cases h
theorem LY{α}{f}{l:List α}{x:α}(h:pY f l)(J:∀y∈l,f y≠f x):pY f (vR f l x):=by
 unfold vR pY;have e:=jW (p:=λy=>decide (f y<f x)) (l:=l);have K:∀y∈l.takeWhile (λy=>decide (f y<f x)),f y<f x:=λy j=>by simpa using anO j
 unfold pY at h;rw[<-e,cw]at h;have⟨Y,F,X⟩:=dF.1 h
 have W:∀y∈l.dropWhile (λy=>decide (f y<f x)),f x<f y:=by
  intro y j;have G:=List.dropWhile_sublist _ |>.subset j;have R:=J y G;cases C:l.dropWhile (λy=>decide (f y<f x))with
  |nil=>rw[C]at j;cases j
  |cons z zs=>
   have hz:¬f z<f x:=by have:=List.head?_dropWhile_not (λy=>decide (f y<f x)) l;rw[C]at this;simpa using this
   rw[C]at j F;rcases aB.1 j with rfl|j
   .omega
   .rw[bI,bw]at F;have:=F.1 (f y) (dm j);omega
 rw[cw,bI];refine dF.2 ⟨Y,bw.2 ⟨?_,F⟩,?_⟩
 .intro k V;obtain⟨y,j,rfl⟩:=aK.1 V;exact W y j
 .intro a H b hb;obtain⟨y,j,rfl⟩:=aK.1 H;rcases aB.1 hb with rfl|hb
  .exact K y j
  .exact X _ H _ hb
theorem zJ{α}{f:α->Int}{l:List α}{id:Int}(h:l.find? (λy=>f y==id)=none):∀y∈l,f y≠id:=λy j=>by have:=kv.1 h y j;simpa using this
theorem abw{s}(h:s.length<=1000000):uo s=some s:=by
 show ez aj s=_;unfold ez;rw[CV];refine xx ?_ λj=>?_
 .refine zG rfl ?_;rw[da];rfl
 .have:s=[]:=by simpa using j
  subst this;rfl
theorem agM{t}{id}(hl:t.length<=1000000):Wp t id=some (zb (λm=>m.1==id) t):=by
 have j:iz id t=some (zb (λm=>m.1==id) t,id,()):=by show db aj id t=_;exact uu hl (λm=>m.1==id) (λm (c:Int×Unit)=>Pp c.1 m) (id,()) λx _=>rfl
 show pC aj t id=_;unfold pC;rw[ai j]
theorem MO(m):qU m=some (if m.2.2.1=0 then 0 else 15):=by
 show jP aj m=_;unfold jP;by_cases h:m.2.2.1=0
 .rw[az (by simp[h]),ah h]
 .rw[aT (by simp[h]),ag h]
def JJ(l:List bB)(m:bB):List bB×Int×Unit:=if zm m then(if mY l m.1=none then(vR (·.1) l m,0,())else([],12,()))else([],2,())
theorem anP{l:List bB}{m:bB}(hl:l.length<=1000)(hs:pY (·.1) l):Uq l m=some (JJ l m):=by
 show yi aj l m=_;unfold yi JJ;rw[ai (J3 m)];by_cases hm:zm m
 .rw[ah hm,ah hm,az (by rfl),ai (agM (by omega))];unfold mY;rcases lx (λa:bB=>a.1==m.1) l with⟨h1,J⟩|⟨k,hk,h1,J,_⟩
  .rw[h1,ah J,az (by decide),jc,ai (abw (by omega)),da (by simp;omega) (by simp;omega)];have K:=zJ (f:=λy:bB=>y.1) J;refine bz λk5 R=>?_
   have H:∀j,j<=l.length->(∀y∈l.take j,y.1<m.1)->(∀y∈l.drop j,m.1<y.1)->k5 (l.take j++m::l.drop j,())=some (vR (·.1) l m,0,()):=by intro j hj a b;subst R;rw[arc (λy:bB=>y.1) a (λy C=>by have:=b y C;omega)]
   have z0:(i64.wrap (((l++(m::[])).length:Int)-1),l++(m::[]),())=((l.length:Int),l.take l.length++m::l.drop l.length,()):=by rw[aq,qH,î (l.length+1),bs,fP];rfl
   rw[z0];refine iI (X:=Int×List bB×Unit) (β:=List bB×Int×Unit) (λz=>z.1.toNat) (λz=>∃j:Nat,j<=l.length/\z=((j:Int),l.take j++m::l.drop j,())/\∀y∈l.drop j,m.1<y.1) (λ_=>some (vR (·.1) l m,0,())) ⟨l.length,au _,rfl,by simp⟩ (by dsimp only;omega) ?_;rintro _ ⟨j,hj,rfl,V⟩ W ha;show aj.af (decide ((0:Int)<(j:Int))) (aj.aH (l.take j++m::l.drop j) (i64.wrap ((j:Int)-1)) λx8=>aj.cr (l.take j++m::l.drop j) (Int.toNat (i64.wrap ((j:Int)-1))) _) (k5 (l.take j++m::l.drop j,()))=_;cases j with
   |zero=>rw[az (by rfl)];exact H 0 (by omega) (by simp) V
   |succ j=>
    have F:j<l.length:=by omega
    have lt:(l.take (j+1)).length=j+1:=by rw[bf];omega
    have ll:(l.take (j+1)++m::l.drop (j+1)).length=l.length+1:=by rw[aq,aJ,dS,lt];omega
    have g0:∀h,(l.take (j+1)++m::l.drop (j+1))[j]'h=l[j]:=by intro h;rw[s8 (by omega),lc]
    have g1:∀h,(l.take (j+1)++m::l.drop (j+1))[j+1]'h=m:=by intro h;rw[nj (by omega)];simp[lt]
    rw[eG (by omega),î (j+1)];have e1:(j+1-1:Nat)=j:=rfl;rw[e1,bO,ij,g0];refine de (λhv=>?_) λhv=>?_
    .show aj.aH (l.take (j+1)++m::l.drop (j+1)) ((j+1:Nat):Int) _=_;rw[bO];show aj.aH (l.take (j+1)++m::l.drop (j+1)) (j:Int) _=_;rw[bO];show aj.cr (l.take (j+1)++m::l.drop (j+1)) (Int.toNat ((j+1:Nat):Int)) _=_;rw[ij,g1];show aj.cr (l.take (j+1)++m::l.drop (j+1)) (Int.toNat (j:Int)) _=_;rw[ij,g0];show aj.aH (l.take (j+1)++m::l.drop (j+1)) (j:Int) _=_;rw[bO];show aj.cr (l.take (j+1)++m::l.drop (j+1)) (Int.toNat (j:Int)) _=_;rw[ij];have sl:((l.take (j+1)++m::l.drop (j+1)).set (Int.toNat (j:Int)) m).length=l.length+1:=by rw[fO,ll]
     show aj.aH ((l.take (j+1)++m::l.drop (j+1)).set (Int.toNat (j:Int)) m) ((j+1:Nat):Int) _=_;rw[bO];show aj.cr ((l.take (j+1)++m::l.drop (j+1)).set (Int.toNat (j:Int)) m) (Int.toNat ((j+1:Nat):Int)) _=_;rw[ij]
     have er:((l.take (j+1)++m::l.drop (j+1)).set (Int.toNat (j:Int)) m).set (Int.toNat ((j+1:Nat):Int)) l[j]=l.take j++m::l.drop j:=by
      rw[aX,aX,ax F,cu F,bn];have Y:(l.take j).length=j:=by rw[bf];omega
      have q1:(l.take j++([l[j]]++m::l.drop (j+1))).set j m=l.take j++([m]++m::l.drop (j+1)):=by rw[qF _ _ (by omega),Y,zE];rfl
      rw[q1,qF _ _ (by omega),Y,show j+1-j=1 by omega];rfl
     dsimp only;rw[er];refine ha _ ⟨j,by omega,rfl,?_⟩ (by dsimp only;omega);intro y C;rw[cu F]at C;rcases aB.1 C with rfl|C
     .exact hv
     .exact V y C
    .refine H (j+1) hj ?_ V;intro y C;have hn:=K l[j] (aE F);have G:l[j].1<m.1:=by omega
     rw[ax F,aQ]at C;rcases C with C|C
     .have:=(ava hs F).1 y C;exact Fo this G
     .simp only[ay]at C;subst C;exact G
  .rw[h1,ag (by rw[J];simp),eG (by omega)]
 .rw[ag hm,ag hm,aT (by rfl)]
def Vu{α:Type}(f:α->Int)(l:List α)(x:α):List α:=l.map λy=>if f y=f x then x else y
theorem agN{α}(f){l}{x:α}(hs:pY f l){k:Nat}(y:k<l.length)(h:f l[k]=f x):l.set k x=Vu f l x:=by
 unfold Vu;refine Ej (by simp) λi j C=>?_
 rw[fO]at j;rw[ku,Ek];by_cases e:k=i
 .subst e;rw[ah rfl,ah h]
 .rw[ag e];unfold pY at hs;rw[oa,bN]at hs;rw[ag];intro F;rcases Bv e with g|g
  .have:=hs k i y j g;omega
  .have:=hs i k j y g;omega
def CO(l:List bB)(m:bB):List bB×Int×Unit:=if zm m then(if mY l m.1=none then([],11,())else(Vu (·.1) l m,0,()))else([],2,())
theorem abx{l}{m:bB}(hl:l.length<=1000)(hs:pY (·.1) l):Ur l m=some (CO l m):=by
 show tY aj l m=_;unfold tY CO;rw[ai (J3 m)];by_cases hm:zm m
 .rw[ah hm,ah hm,az (by rfl),ai (agM (by omega))];unfold mY;rcases lx (λa:bB=>a.1==m.1) l with⟨h1,j⟩|⟨k,hk,h1,j,C⟩
  .rw[h1,ah j,aT (by decide)]
  .rw[h1,ag (by rw[j];simp),cV (by omega),ai (abw (by omega)),bO hk,ij hk,aX,agN (λy:bB=>y.1) hs hk (by simpa using C)]
 .rw[ag hm,ag hm,aT (by rfl)]
open rA sK sM sN sO sP
def j2{α:Type}(f:α->Int)(l:List α)(k:Int):Nat:=(l.takeWhile λy=>decide (f y<k)).length
theorem B6{α}(f)(l:List α)(k:Int):j2 f l k<=l.length:=(List.takeWhile_sublist _).length_le
theorem XE{α}(f)(k):∀l:List α,l.take (j2 f l k)=l.takeWhile (λy=>decide (f y<k))/\l.drop (j2 f l k)=l.dropWhile (λy=>decide (f y<k))
 |[]=>⟨rfl,rfl⟩
 |a::l=>by
  unfold j2;rw[oW,za];have⟨C,j⟩:=XE f k l;by_cases h:f a<k
  .rw[ap h,ah rfl,ah rfl,aJ,oU,sG];exact⟨bS _ C,j⟩
  .rw[an h];exact⟨rfl,rfl⟩
theorem MP{α}(f)(l:List α)(x:α):l.take (j2 f l (f x))++x::l.drop (j2 f l (f x))=vR f l x:=by have⟨y,j⟩:=XE f (f x) l;rw[y,j];rfl
theorem u7{α}{f}(k):∀{l:List α} (_:pY f l) {j:Nat} (C:j<l.length),f l[j]<k↔j<j2 f l k
 |[],_,j,C=>by cases C
 |a::l,hs,j,C=>by
  unfold pY at hs;rw[bI,bw]at hs;unfold j2;rw[oW];cases j with
  |zero=>
   by_cases h:f a<k
   .rw[ap h,ah rfl];simp[h]
   .rw[an h];simp[h]
  |succ j=>
   have y:j<l.length:=by simpa using C
   have F:=u7 (f:=f) k (l:=l) hs.2 y;by_cases h:f a<k
   .rw[ap h,ah rfl,aJ,vN];unfold j2 at F;omega
   .rw[an h,vN];have:=hs.1 (f l[j]) (dm (aE y));simp;omega
theorem MQ{α}{f}{l:List α}(hs:pY f l)(k:Int):
 (∃h:j2 f l k<l.length,f l[j2 f l k]=k/\l.find? (λy=>f y==k)=some l[j2 f l k])\/(l.find? (λy=>f y==k)=none/\∀h:j2 f l k<l.length,k<f l[j2 f l k]):=by
 by_cases h:j2 f l k<l.length
 .have R:=mt (u7 k hs h).1 (by omega);by_cases e:f l[j2 f l k]=k
  .refine .inl ⟨h,e,?_⟩;rw[xm];refine⟨by simpa using e,_,h,rfl,λj F=>?_⟩;have:=(u7 k hs (show j<l.length by omega)).2 F;simp;omega
  .refine .inr ⟨?_,λ_=>by omega⟩;rw[kv];intro y G;obtain⟨j,F,rfl⟩:=dC.1 G;simp only[gT];intro H;have J:=mt (u7 k hs F).2 (by omega);have C:=hs;unfold pY at C;rw[oa,bN]at C;rcases dO (j2 f l k) j with g|g
   .have:=C _ _ h F g;omega
   .have:j=j2 f l k:=by omega
    subst this;exact e H
 .refine .inr ⟨?_,λK=>absurd K h⟩;rw[kv];intro y G;obtain⟨j,F,rfl⟩:=dC.1 G;simp only[gT];intro H;have J:=mt (u7 k hs F).2 (by omega);omega
theorem avb(x y):P3 x y=some (yF x y):=ZR x y
theorem avc{l}{k:Int}(hs:pY (·.1) l)(hl:l.length<=1000):∃b,kG l k=some (((((j2 (·.1) l k):Nat):Int),b,()),()):=by
 show ∃b,dj aj l k=_;have J:=B6 (λy:bu=>y.1) l k;have H:∀x:bu,J' x k=some (yF x.1 k):=λx=>by show tZ aj x k=_;unfold tZ;rw[ai (avb _ _)]
 refine oY (X:=Int×Int×Unit) (β:=(Int×Bool×Unit)×Unit) (λo=>∃b,o=some (((((j2 (·.1) l k):Nat):Int),b,()),())) (λz=>(z.2.1-z.1).toNat) (λz=>∃i j:Nat,z=((i:Int),(j:Int),())/\i<=j2 (·.1) l k/\j2 (·.1) l k<=j/\j<=l.length) ⟨0,l.length,rfl,br _,J,au _⟩ (by dsimp only;omega) ?_;rintro _ ⟨i,j,rfl,h1,h2,h3⟩ C R
 show ∃b,aj.af (decide ((i:Int)<(j:Int))) (aj.jb 1 (aj.aH l (i64.wrap (Int.fdiv (u64.wrap (i64.wrap ((i:Int)+(j:Int)))) (2 ^ (min (Int.toNat 1) u64.bits)))) λW=>aj.ae (J' W k) λv4=>
  aj.af (decide (v4<0)) (C (i64.wrap (i64.wrap (Int.fdiv (u64.wrap (i64.wrap ((i:Int)+(j:Int)))) (2 ^ (min (Int.toNat 1) u64.bits)))+1),(j:Int),())) (C ((i:Int),i64.wrap (Int.fdiv (u64.wrap (i64.wrap ((i:Int)+(j:Int)))) (2 ^ (min (Int.toNat 1) u64.bits))),()))))
  (aj.af (decide ((i:Int)<(l.length:Int))) (aj.aH l (i:Int) λV=>aj.ae (J' V k) λY=>some (((i:Int),Y==0,()),())) (some (((i:Int),false,()),())))=_
 rw[ate i j (by omega)];by_cases hij:i<j
 .have hh:(i+j) / 2<l.length:=by omega
  rw[eG (by omega),uz (by decide),bO hh,ai (H _)];have G:=u7 k hs hh;by_cases F:l[(i+j) / 2].1<k
  .have K:yF l[(i+j) / 2].1 k<0:=by unfold yF;rw[ah F];decide
   rw[eG K,cP _];have:=G.1 F;exact R _ ⟨(i+j) / 2+1,j,rfl,by omega,h2,h3⟩ (by dsimp only;omega)
  .have K:¬yF l[(i+j) / 2].1 k<0:=by unfold yF;rw[ag F];split<;>decide
   rw[cV K];have:¬(i+j) / 2<j2 (·.1) l k:=λh=>F (G.2 h)
   exact R _ ⟨i,(i+j) / 2,rfl,h1,by omega,by omega⟩ (by dsimp only;omega)
 .have hi:i=j2 (·.1) l k:=by omega
  subst hi;rw[cV (by omega)];by_cases hi:j2 (·.1) l k<l.length
  .rw[eG (by omega),bO hi,ai (H _)];exact⟨_,rfl⟩
  .rw[cV (by omega)];exact⟨_,rfl⟩
theorem XF{s}(h:s.length<=1000000):vU s=some s:=by
 show eO aj s=_;unfold eO;rw[CV];refine xx ?_ λj=>?_
 .refine zG rfl ?_;rw[da];rfl
 .have:s=[]:=by simpa using j
  subst this;rfl
def SF(l:List bu)(k:Int):Option bu:=l.find? λy=>y.1==k
def SC(l:List bu)(a:bu):List bu×Int×Unit:=if ly a then(if SF l a.1=none then(vR (·.1) l a,0,())else([],12,()))else([],2,())
theorem XG(l)(k):l.any (λy=>y.1==k)=!decide (SF l k=none):=by
 unfold SF;cases h:l.find? λy=>y.1==k with
 |none=>rw[ap rfl];exact kZ.2 λy j=>by have:=kv.1 h y j;simpa using this
 |some y=>rw[an (by simp)];exact jt.2 ⟨y,cf h,by simpa using jS h⟩
theorem ard{l}{a:bu}(hl:l.length<=1000)(hs:pY (·.1) l):XH l a=some (SC l a):=by
 show AW aj l a=_;unfold AW SC;rw[ai (adC a)];by_cases C:ly a
 .rw[ah C,ah C,az (by rfl)];have⟨x,G⟩:=Xq (l:=l) (id:=a.1) (by omega);rw[ai G,XG];by_cases j:SF l a.1=none
  .rw[ah j,ap j,az (by rfl)];have⟨b,hb⟩:=avc (k:=a.1) hs hl;have F:=B6 (λy:bu=>y.1) l a.1;have hi:GY l ((j2 (·.1) l a.1:Nat):Int) [a]=some (vR (·.1) l a,()):=by refine(OO F (by omega)).trans ?_;rw[MP (λy:bu=>y.1) l a]
   rw[ai hb,jc,ai (XF (by omega)),ai hi]
  .rw[ag j,an j,aT (by rfl)]
 .rw[ag C,ag C,aT (by rfl)]
theorem XI{t}{id:Int}(hl:t.length<=1000000)(hs:pY (·.1) t):Ju t id=some ((((j2 (·.1) t id):Nat):Int),!decide (jj t id=none),()):=by
 have V:=B6 (λy:aN=>y.1) t id;have F:=MQ hs id;refine iI (X:=Int×Unit) (β:=Int×Bool×Unit) (λz=>t.length+1-z.1.toNat) (λz=>∃j:Nat,j<=j2 (·.1) t id/\z=((j:Int),())) (λ_=>some ((((j2 (·.1) t id):Nat):Int),!decide (jj t id=none),())) ⟨0,br _,rfl⟩ (by omega) ?_;rintro _ ⟨j,Y,rfl⟩ K W;by_cases h:j<t.length
 .rw[dx h,bO h];have C:=u7 id hs h;by_cases R:id<=t[j].1
  .have e:j=j2 (·.1) t id:=by have:=mt C.2 (by omega);omega
   subst e;rw[eG R];rcases F with⟨_,H,G⟩|⟨H,G⟩
   .have:jj t id=some t[j2 (·.1) t id]:=G;rw[this,an (by simp),show(t[j2 (·.1) t id].1==id)=true by simpa using H];rfl
   .have J:jj t id=none:=H;have:=G h;rw[J,ap rfl,show(t[j2 (·.1) t id].1==id)=false by simp;omega];rfl
  .rw[cV R];rw[cP j];have:=C.1 (by omega);exact W _ ⟨j+1,by omega,rfl⟩ (by omega)
 .have e:j=t.length:=by omega
  have G:j2 (·.1) t id=t.length:=by omega
  subst e;rw[dV,G];rcases F with⟨h',_⟩|⟨H,_⟩
  .omega
  .have J:jj t id=none:=H;rw[J,ap rfl];rfl
theorem agO{a}(h:a.2.2.2.1.length<=1000000):Ls a=some a:=by show nk aj a=_;unfold nk;rw[ai (Lu h)]
def SG(l:List aN)(a:aN):List aN×Int×Unit:=if okA a=true then(if jj l a.1=none then(vR (·.1) l a,0,())else([],12,()))else([],2,())
def SH(l:List aN)(a:aN):List aN×Int×Unit:=if okA a=true then(if jj l a.1=none then([],11,())else(Vu (·.1) l a,0,()))else([],2,())
theorem are{l}{a:aN}(hl:qP l)(hs:pY (·.1) l)(F:a.2.2.2.1.length<=1000):anQ l a=some (SG l a):=by
 show DZ aj l a=_;unfold DZ SG;have G:=hl.2;rw[ai (OM (by omega))];by_cases h:okA a=true
 .rw[ah h,ah h,az (by rfl),ai (XI (by omega) hs)];by_cases j:jj l a.1=none
  .rw[ah j,ap j,az (by rfl),ai (NI hl),ai (agO (by omega))];have C:=B6 (λy:aN=>y.1) l a.1;have hi:CS l ((j2 (·.1) l a.1:Nat):Int) [a]=some (vR (·.1) l a,()):=by refine(OO C (by omega)).trans ?_;rw[MP (λy:aN=>y.1) l a]
   rw[ai hi]
  .rw[ag j,an j,aT (by rfl)]
 .rw[ag h,ag h,aT (by rfl)]
theorem arf{l}{a:aN}(hl:qP l)(hs:pY (·.1) l)(F:a.2.2.2.1.length<=1000):anR l a=some (SH l a):=by
 show D0 aj l a=_;unfold D0 SH;have G:=hl.2;rw[ai (OM (by omega))];by_cases h:okA a=true
 .rw[ah h,ah h,az (by rfl),ai (XI (by omega) hs)];by_cases j:jj l a.1=none
  .rw[ah j,ap j,aT (by rfl)]
  .rw[ag j,an j,az (by rfl),ai (NI hl),ai (agO (by omega))];rcases MQ hs a.1 with⟨hi,C,_⟩|⟨C,_⟩
   .rw[bO hi,ij hi,aX,agN (λy:aN=>y.1) hs hi C]
   .exact absurd C j
 .rw[ag h,ag h,aT (by rfl)]
def qx(l:List aN)(u:ar):Int:=match l.find? λa=>rB a u with|some a=>a.2.1|none=>0
theorem L9{l}{u}(h:qP l):aef l u=some (qx l u):=by
 have hl:=h.2;refine gQ (l:=l) (by omega) (λi _=>∀a∈l.take i,True) (λt _=>some (qx t u)) (s0:=()) (λ_ _=>trivial) ?_ ?_
 .intro s j _;refine F8 ?_;rfl
 .intro i hi s _ j y;refine HX hi ?_;rw[bO hi,ai (Js (h.1 _ (aE hi)))];unfold qx;rw[List.find?_cons];by_cases hv:rB l[i] u=true
  .rw[hv,aT rfl]
  .have hv:rB l[i] u=false:=by simpa using hv
   rw[hv,az rfl];rw[cP i,y () λ_ _=>trivial];rfl
def Vs(l:List bR):Prop:=(∀i∈l,i.2.2.2.2.1.length<=1000)/\l.length<=1000
theorem O0{l}(h:Vs l):P4 l=some l:=by
 have hl:=h.2;refine lQ (X:=Int×List bR×Unit) (N:=l.length) (by omega) (λi=>((i:Int),l.take i,())) _ rfl ?_ ?_
 .intro j;refine F8 ?_;rw[bs]
 .intro i hi j y;have hm:=h.1 _ (aE hi);rw[dx hi,bO hi,ai (OS (by omega))];show aj.bc ((l.take i).length+1) 56 (j (i64.wrap ((i:Int)+1),l.take i++[l[i]],()))=_;rw[da (by rw[bf];omega) (by rw[bf];omega),cP i,<-ax hi];exact y
theorem avd{α}{f}{l:List α}{k:Int}(hs:pY f l)(C:∀y∈l,f y≠k):(zb (λy=>decide (k<f y)) l = -1/\j2 f l k=l.length)\/(j2 f l k<l.length/\zb (λy=>decide (k<f y)) l=(j2 f l k:Int)):=by
 have H:=B6 f l k;by_cases h:j2 f l k<l.length
 .refine .inr ⟨h,?_⟩;unfold zb
  have:l.findIdx? (λy=>decide (k<f y))=some (j2 f l k):=by
   rw[eF];refine⟨h,?_,λj F=>?_⟩
   .have K:=mt (u7 k hs h).1 (by omega);have J:=C _ (aE h);simp;omega
   .have:=(u7 k hs (show j<l.length by omega)).2 F;simp;omega
  rw[this]
 .refine .inl ⟨?_,by omega⟩;unfold zb;have:l.findIdx? (λy=>decide (k<f y))=none:=by rw[gC];intro y G;obtain⟨j,F,rfl⟩:=dC.1 G;have:=(u7 k hs F).2 (by omega);simp;omega
  rw[this]
def JK(l:List bR)(i:bR):List bR×Int×Unit:=if Rg i then(if nv l i.1=none then(vR (·.1) l i,0,())else([],12,()))else([],2,())
theorem anS{l}{i:bR}(hl:Vs l)(hs:pY (·.1) l)(hi:i.2.2.2.2.1.length<=1000):aby l i=some (JK l i):=by
 show D1 aj l i=_;unfold D1 JK;have j:=hl.2;rw[ai (RJ (by omega))];by_cases ho:Rg i
 .rw[ah ho,ah ho,az (by rfl),ai (Ui (by omega))];unfold nv;rcases lx (λa:bR=>a.1==i.1) l with⟨h1,j⟩|⟨k,hk,h1,j,_⟩
  .rw[h1,ah j,az (by decide)];have H:=zJ (f:=λy:bR=>y.1) j;have G:pa i.1 i.2.1 i.2.2.1 i.2.2.2.1 i.2.2.2.2.1 l=some (zb (λy=>decide (i.1<y.1)) l,i):=by show eK aj i.1 i.2.1 i.2.2.1 i.2.2.2.1 i.2.2.2.2.1 l=_;exact uu (s:=l) (C:=bR) (by omega) (λy=>decide (i.1<y.1)) (λ(y c:bR)=>aeg c.1 c.2.1 c.2.2.1 c.2.2.2.1 c.2.2.2.2.1 y) i λx _=>rfl
   rw[ai G];refine bz λk8 K=>?_
   have F:k8 ((j2 (·.1) l i.1:Nat),())=some (vR (·.1) l i,0,()):=by
    subst K;have J:=B6 (λy:bR=>y.1) l i.1;have R:EO l ((j2 (·.1) l i.1:Nat):Int) [i]=some (vR (·.1) l i,()):=by refine(OO J (by omega)).trans ?_;rw[MP (λy:bR=>y.1) l i]
    show aj.ae (P4 l) (λY=>aj.ae (aaS i) λX=>aj.ae (EO Y ((j2 (·.1) l i.1:Nat):Int) (X::[])) λW=>some (W.1,0,()))=_;rw[ai (O0 hl),ai (OS (by omega)),ai R]
   rcases avd hs H with⟨G,V⟩|⟨G,V⟩
   .rw[G,aT (by rfl),<-V];exact F
   .rw[V,cV (by dsimp only;omega)];exact F
  .rw[h1,ag (by rw[j];simp),eG (by omega)]
 .rw[ag ho,ag ho,aT (by rfl)]
theorem RL{α}(f:α->Int)(g:α->α){l:List α}(hs:pY f l){k:Nat}(C:k<l.length){id:Int}(h:f l[k]=id):l.set k (g l[k])=l.map λy=>if f y=id then g y else y:=by
 refine Ej (by simp) λi j F=>?_
 rw[fO]at j;rw[ku,Ek];by_cases e:k=i
 .subst e;rw[ah rfl,ah h]
 .rw[ag e];unfold pY at hs;rw[oa,bN]at hs;rw[ag];intro G;rcases Bv e with g|g
  .have:=hs k i C j g;omega
  .have:=hs i k j C g;omega
def akI(p:Int)(i:bR):bR:=(i.1,i.2.1,i.2.2.1,p,i.2.2.2.2)
def EB(l:List bR)(id p:Int):List bR×Int×Unit:=if nv l id=none then([],11,())else if 0<=p/\p<=2147483647 then(l.map λy=>if y.1=id then akI p y else y,0,())else([],2,())
theorem ahM{l:List bR}{id p:Int}(hl:Vs l)(hs:pY (·.1) l):aiR l id p=some (EB l id p):=by
 show AX aj l id p=_;unfold AX EB;have C:=hl.2;rw[ai (Ui (by omega))];unfold nv;rcases lx (λa:bR=>a.1==id) l with⟨h1,C⟩|⟨k,hk,h1,C,F⟩
 .rw[h1,ah C,aT (by decide)]
 .rw[h1,ag (by rw[C];simp),cV (by omega),ai (Hc p)];by_cases j:0<=p/\p<=2147483647
  .rw[ap j,ah j,az (by rfl),ai (O0 hl),bO hk,ij hk,aX,<-RL (λy:bR=>y.1) (akI p) hs hk (id:=id) (by simpa using F)];rfl
  .rw[an j,ag j,aT (by rfl)]
def Ap(i:bR):bR:=(i.1,i.2.1,i.2.2.2.1,i.2.2.2)
theorem abz{l}(hl:Vs l):P5 l=some (l.map Ap):=by
 show u9 aj l=_;unfold u9;have J:=hl.2;rw[ai (O0 hl)];refine lQ (X:=Int×List bR×Unit) (N:=l.length) (by omega) (λi=>((i:Int),(l.take i).map Ap++l.drop i,())) _ rfl ?_ ?_
 .intro j;refine F8 ?_;rw[bs,fP,bZ]
 .intro i hi j H;have C:((l.take i).map Ap).length=i:=by rw[aW,bf];omega
  have ll:((l.take i).map Ap++l.drop i).length=l.length:=by rw[aq,C,dS];omega
  have G:∀h,((l.take i).map Ap++l.drop i)[i]'h=l[i]:=by intro h;rw[nj (by omega),CA];congr 1;omega
  show aj.af (decide ((i:Int)<(l.length:Int))) (aj.aH ((l.take i).map Ap++l.drop i) (i:Int) λ_=>aj.cr ((l.take i).map Ap++l.drop i) (Int.toNat (i:Int)) λF=>aj.aH ((l.take i).map Ap++l.drop i) (i:Int) λ_=>aj.cr ((l.take i).map Ap++l.drop i) (Int.toNat (i:Int)) λy=>j (i64.wrap ((i:Int)+1),((l.take i).map Ap++l.drop i).set (Int.toNat (i:Int)) (y.1,y.2.1,F.2.2.2.1,y.2.2.2),())) _=_;rw[dx hi,bO,ij,bO,ij,G,cP i,aX];have e:((l.take i).map Ap++l.drop i).set i (l[i].1,l[i].2.1,l[i].2.2.2.1,l[i].2.2.2)=(l.take (i+1)).map Ap++l.drop (i+1):=by rw[qF _ _ (by omega),C,zE,cu hi,ax hi,cw,bn];rfl
  rw[e];exact H
def afx(p:Int)(a:bu):bu:=(a.1,p,a.2.2)
def Ao(l:List bu)(id p:Int):List bu×Int×Unit:=if SF l id=none then([],11,())else if 0<=p/\p<=2147483647 then(l.map λy=>if y.1=id then afx p y else y,0,())else([],2,())
theorem ab0(p):LG p=some (decide (0<=p/\p<=2147483647)):=by
 refine de (λh=>?_) λh=>?_
 .congr 1;exact eA.2 (by omega)
 .rw[an (by omega)]
theorem M_{l:List bu}{id p:Int}(hl:l.length<=1000)(hs:pY (·.1) l):ZS l id p=some (Ao l id p):=by
 show sZ aj l id p=_;unfold sZ Ao;have⟨x,V⟩:=Xq (l:=l) (id:=id) (by omega);rw[ai V,XG];by_cases C:SF l id=none
 .rw[ah C,ap C,aT (by rfl)]
 .rw[ag C,an C,az (by rfl),ai (ab0 p)];by_cases F:0<=p/\p<=2147483647
  .rw[ap F,ah F,az (by rfl),ai (XF (by omega))];refine bz λR H=>?_
   have G:∀t,R (t,())=some (t,0,()):=λt=>by subst H;rfl
   rcases MQ hs id with⟨hi,J,_⟩|⟨J,_⟩
   .refine iI (X:=Int×List bu×Unit) (β:=List bu×Int×Unit) (λz=>l.length+1-z.1.toNat) (λz=>∃j:Nat,j<=j2 (·.1) l id/\z=((j:Int),l,())) (λ_=>some (l.map λy=>if y.1=id then afx p y else y,0,())) ⟨0,br _,rfl⟩ (by dsimp only;omega) ?_;rintro _ ⟨j,Y,rfl⟩ K W;have h:j<l.length:=by omega
    refine HX h ?_;rw[bO h,ij h];refine dM (λe=>?_) λe=>?_
    .refine tix h ?_;rw[ij h,<-RL (λy:bu=>y.1) (afx p) hs h (id:=id) e];exact G _
    .dsimp only;rw[cP j];have:j≠j2 (·.1) l id:=λq=>e (by subst q;exact J)
     exact W _ ⟨j+1,by omega,rfl⟩ (by dsimp only;omega)
   .exact absurd J C
  .rw[an F,ag F,aT (by rfl)]
def Aj(l:List dk)(id:Int):Option dk:=l.find? λy=>y.1==id
def anT:dk:=(0,(0,0,()),(0,0,()),(0,0,()),0,0,0,0,())
theorem anU{t}{id}(hl:t.length<=1000000):arh t id=some (zb (λm=>m.1==id) t):=by
 have j:pr id t=some (zb (λm=>m.1==id) t,id,()):=by show eQ aj id t=_;exact uu hl (λm=>m.1==id) (λm (c:Int×Unit)=>aiS c.1 m) (id,()) λx _=>rfl
 show D2 aj t id=_;unfold D2;rw[ai j]
theorem Ut{t}{id}(hl:t.length<=1000000):XJ t id=some (match Aj t id with|some i=>(i,true,())|none=>(anT,false,())):=by
 show tF aj t id=_;unfold tF;rw[ai (anU hl)];unfold Aj;rcases lx (λm:dk=>m.1==id) t with⟨h1,j⟩|⟨k,hk,h1,j,_⟩
 .rw[h1,j,aT (by decide)];rfl
 .rw[h1,j,cV (by omega),bO hk]
theorem anV{s}(h:s.length<=1000000):yj s=some s:=by
 show gu aj s=_;unfold gu;rw[CV];refine xx ?_ λj=>?_
 .refine zG rfl ?_;rw[da];rfl
 .have:s=[]:=by simpa using j
  subst this;rfl
def Dw(l:List dk):Int:=match l.getLast? with|some g=>g.1|none=>0
def akE(id:Int)(g:dk)(day:Int):dk:=(id,U5 g.2 (day+8,1,()))
def L3(l:List dk)(g:dk)(day:Int):List dk×Int×Int×Unit:=if g.2.1=g.2.2.1 then([],0,24,())else if g.2.2.2.1.2.1=0\/day<0\/1048576<day then([],0,2,())else if 64<=l.length then([],0,25,())else(l++[akE (1+Dw l) g day],1+Dw l,0,())
theorem ari{l}{g}{day}(hl:l.length<=1000)(hi:∀x∈l,0<=x.1/\x.1<=1048576):anW l g day=some (L3 l g day):=by
 show D3 aj l g day=_;unfold D3 L3;rw[ur];by_cases J:g.2.1=g.2.2.1
 .rw[ah J,eG J]
 .rw[ag J,cV J];refine bz λV F=>?_
  have j:V (true,())=some ([],0,2,()):=by subst F;rfl
  have K:(0<=day/\day<=1048576)->V (false,())=some (if 64<=l.length then([],0,25,())else(l++[akE (1+Dw l) g day],1+Dw l,0,())):=by
   intro hd;subst F;refine zG rfl ?_;by_cases W:64<=l.length
   .rw[eG (by omega),ah W]
   .rw[cV (by omega),ag W];have w8:i64.wrap (day+8)=day+8:=bG _ (by omega);have H:∀id:Int,aj.af (((l.length:Int)==(l.length:Int))&&((l.length:Int)==(l.length:Int))) (aj.bc (l.length+((id,U5 g.2 (i64.wrap (day+8),(1:Int),()))::[]).length) 88 (some (l++((id,U5 g.2 (i64.wrap (day+8),(1:Int),()))::[]),id,(0:Int),()))) none=some (l++[akE id g day],id,(0:Int),()):=by intro id;rw[aT (by simp),da (by simp;omega) (by simp;omega),w8];rfl
    refine bz λk3 G=>?_
    by_cases h0:0<l.length
    .have e:=î l.length;have C:l.length-1<l.length:=by omega
     have y:Dw l=l[l.length-1].1:=by unfold Dw;rw[List.getLast?_eq_getElem?,aw C]
     have hb:=hi _ (aE C);rw[eG (by omega),e,bO C,bG (1+l[l.length-1].1) (by omega),<-y];subst G;exact H (1+Dw l)
    .have:l=[]:=fz (by omega);subst this;rw[az (by rfl)];subst G;have e:(1:Int)+Dw []=1:=rfl;rw[e];exact H 1
  refine dM (λY=>?_) λY=>?_
  .rw[j,ah (.inl Y)]
  .refine de (λX=>?_) λX=>?_
   .rw[j,ah (.inr (.inl X))]
   .by_cases R:1048576<day
    .rw[ap R,j,ah (.inr (.inr R))]
    .rw[an R,K (by omega),ag (show ¬(g.2.2.2.1.2.1=0\/day<0\/1048576<day)by omega)]
def SJ(st:Int)(g:dk):dk:=U7 g (st,())
def eM(l:List dk)(id st:Int):List dk×Int×Unit:=
 match Aj l id with
 |none=>([],11,())
 |some g=>if st<2\/5<st then([],2,())else if g.2.2.2.2.2.2.2.1=1 then(l.map λy=>if y.1=id then SJ st y else y,0,())else([],13,())
theorem ab1{l}{id st:Int}(hl:l.length<=1000)(hs:pY (·.1) l):aiT l id st=some (eM l id st):=by
 show w9 aj l id st=_;unfold w9 eM Aj;rw[ai (anU (by omega))];rcases lx (λm:dk=>m.1==id) l with⟨h1,H⟩|⟨k,hk,h1,H,R⟩
 .rw[h1,H,aT (by decide)]
 .rw[h1,H,cV (by omega)];refine bz λJ C=>?_
  have j:J (true,())=some ([],2,()):=by subst C;rfl
  have F:J (false,())=some (if l[k].2.2.2.2.2.2.2.1=1 then(l.map λy=>if y.1=id then SJ st y else y,0,())else([],13,())):=by
   subst C;refine zG rfl ?_;rw[bO hk];by_cases h:l[k].2.2.2.2.2.2.2.1=1
   .rw[ah h,iD h,ai (anV (by omega)),bO hk,ij hk,aX,<-RL (λy:dk=>y.1) (SJ st) hs hk (id:=id) (by simpa using R)];rfl
   .rw[ag h,fT h]
  dsimp only;refine de (λK=>?_) λK=>?_
  .rw[j,ah (.inl K)]
  .by_cases G:5<st
   .rw[ap G,j,ah (.inr G)]
   .rw[an G,F,ag (show ¬(st<2\/5<st)by omega)]
def xQ(l:List dk)(p:dk->Bool):List Int:=(l.filter λg=>(g.2.2.2.2.2.2.2.1==1)&&p g).map (·.1)
theorem Uu(l)(p)(g):xQ (l++[g]) p=if((g.2.2.2.2.2.2.2.1==1)&&p g)=true then xQ l p++[g.1]else xQ l p:=by
 unfold xQ;rw[eU,bi,qi];split
 .rw[cw];rfl
 .rw[bZ]
theorem Dy(l)(p):(xQ l p).length<=l.length:=by unfold xQ;rw[aW];exact cp _ _
theorem anX{l}{day}(hl:l.length<=1000):XK l day=some (xQ l λg=>decide (g.2.2.2.2.2.2.1<day)):=by
 show AY aj l day=_;unfold AY
 have e:Hl day l=some (xQ l λg=>decide (g.2.2.2.2.2.2.1<day),day,()):=by
  show mU aj day l=_;refine lQ (X:=Int×Int×List Int×Unit) (N:=l.length) (by omega) (λi=>((i:Int),day,xQ (l.take i) λg=>decide (g.2.2.2.2.2.2.1<day),())) _ rfl ?_ ?_
  .intro j;refine F8 ?_;rw[bs]
  .intro i hi j C;refine HX hi ?_;rw[ax hi,Uu]at C;have W:=Dy (l.take i) (λg=>decide (g.2.2.2.2.2.2.1<day));rw[bf]at W;generalize xQ (l.take i) (λg=>decide (g.2.2.2.2.2.2.1<day))=P at *;refine bz λV H=>?_
   have G:∀Q,V (day,Q,())=j (((i+1:Nat):Int),day,Q,()):=λQ=>by subst H;rw[cP i]
   clear H;refine tix hi ?_;refine bz λR y=>?_
   have K:R (true,day,P,())=j (((i+1:Nat):Int),day,P++[l[i].1],()):=by subst y;show aj.af true (aj.bc (P.length+1) 8 (V (day,P++[l[i].1],()))) _=_;rw[aT rfl,da,G]
   have F:R (false,day,P,())=j (((i+1:Nat):Int),day,P,()):=by subst y;show aj.af false _ (V (day,P,()))=_;rw[az rfl,G]
   clear y;refine dM (λh=>?_) λh=>?_
   .show R (decide (l[i].2.2.2.2.2.2.1<day),day,P,())=_;by_cases J:l[i].2.2.2.2.2.2.1<day
    .rw[ap J,K];rw[ah (by simp[h,J])]at C;exact C
    .rw[an J,F];rw[ag (by simp[J])]at C;exact C
   .rw[F];rw[ag (by simp[h])]at C;exact C
 rw[ai e]
theorem atp{l}{u}(hl:l.length<=1000):afu l u=some (xQ l λg=>decide (g.2.1=u)||decide (g.2.2.1=u)):=by
 show Hm aj l u=_;unfold Hm
 have R:∀g:dk,aiU u.1 u.2.1 g=some ((decide (g.2.1=u)||decide (g.2.2.1=u)),u):=by
  intro g;show AZ aj u.1 u.2.1 g=_;unfold AZ;rw[ur g.2.1 u,ur g.2.2.1 u];by_cases h:g.2.1=u
  .rw[ap h,aT rfl];rfl
  .rw[an h,az rfl];rfl
 have e:KA u.1 u.2.1 l=some (xQ l λg=>decide (g.2.1=u)||decide (g.2.2.1=u),u):=by
  show oT aj u.1 u.2.1 l=_;refine lQ (X:=Int×Int×Int×List Int×Unit) (N:=l.length) (by omega) (λi=>((i:Int),u.1,u.2.1,xQ (l.take i) λg=>decide (g.2.1=u)||decide (g.2.2.1=u),())) _ rfl ?_ ?_
  .intro j;refine F8 ?_;rw[bs]
  .intro i hi j C;refine HX hi ?_;rw[ax hi,Uu]at C;have K:=Dy (l.take i) (λg=>decide (g.2.1=u)||decide (g.2.2.1=u));rw[bf]at K;generalize xQ (l.take i) (λg=>decide (g.2.1=u)||decide (g.2.2.1=u))=P at *;refine bz λW H=>?_
   have G:∀Q,W (u.1,u.2.1,Q,())=j (((i+1:Nat):Int),u.1,u.2.1,Q,()):=λQ=>by subst H;rw[cP i]
   clear H;refine tix hi ?_;refine bz λV y=>?_
   have J:V (true,u.1,u.2.1,P,())=j (((i+1:Nat):Int),u.1,u.2.1,P++[l[i].1],()):=by subst y;show aj.af true (aj.bc (P.length+1) 8 (W (u.1,u.2.1,P++[l[i].1],()))) _=_;rw[aT rfl,da,G]
   have F:V (false,u.1,u.2.1,P,())=j (((i+1:Nat):Int),u.1,u.2.1,P,()):=by subst y;refine zG rfl ?_;rw[G]
   clear y;refine dM (λh=>?_) λh=>?_
   .refine vY (R _) ?_;cases Y:(decide (l[i].2.1=u)||decide (l[i].2.2.1=u))with
    |true=>rw[J];rw[Y,ah (by simp[h])]at C;exact C
    |false=>rw[F];rw[Y,ag (by simp)]at C;exact C
   .rw[F];rw[ag (by simp[h])]at C;exact C
 rw[ai e]
def Ak(l:List cU)(id:Int):Option cU:=l.find? λy=>y.1==id
def asD:cU:=(0,(0,0,()),0,0,0,())
theorem aeh{t}{id}(hl:t.length<=1000000):anY t id=some (zb (λm=>m.1==id) t):=by
 have j:ox id t=some (zb (λm=>m.1==id) t,id,()):=by show ei aj id t=_;exact uu hl (λm=>m.1==id) (λm (c:Int×Unit)=>aei c.1 m) (id,()) λx _=>rfl
 show xa aj t id=_;unfold xa;rw[ai j]
theorem ab2{t}{id}(hl:t.length<=1000000):aej t id=some (match Ak t id with|some i=>(i,true,())|none=>(asD,false,())):=by
 show ua aj t id=_;unfold ua;rw[ai (aeh hl)];unfold Ak;rcases lx (λm:cU=>m.1==id) t with⟨h1,j⟩|⟨k,hk,h1,j,_⟩
 .rw[h1,j,aT (by decide)];rfl
 .rw[h1,j,cV (by omega),bO hk]
theorem ab3{s}(h:s.length<=1000000):oE s=some s:=by
 show eR aj s=_;unfold eR;rw[CV];refine xx ?_ λj=>?_
 .refine zG rfl ?_;rw[da];rfl
 .have:s=[]:=by simpa using j
  subst this;rfl
def l6(q:Int):Prop := -1099511627776<=q/\q<=1099511627776
instance (q:Int):Decidable (l6 q):=by unfold l6;infer_instance
theorem Uv(q):ZT q=some (decide (l6 q)):=by
 show oy aj q=_;unfold oy;by_cases h : -1099511627776<=q
 .rw[eG h];congr 1;exact eA.2 ⟨λj=>⟨h,j⟩,λh=>h.2⟩
 .rw[cV h,an λq=>h q.1]
def kT(q:Int)(g:cU):cU:=U4 g (q,())
theorem ab4{l}{k}{q id:Int}(hl:l.length<=1000)(hs:pY (·.1) l)(j:k<l.length)(h:l[k].1=id):aek l (k:Int) q=some (l.map λy=>if y.1=id then kT q y else y):=by show ub aj l (k:Int) q=_;unfold ub;rw[ai (ab3 (by omega)),bO j,ij j,aX,<-RL (λy:cU=>y.1) (kT q) hs j h];rfl
def yM(l:List cU)(id q:Int):List cU×Int×Unit:=
 match Ak l id with
 |none=>([],11,())
 |some g=>if cz (g.2.2.2.2.1+q)/\l6 (g.2.2.2.2.1+q)then(l.map λy=>if y.1=id then kT (g.2.2.2.2.1+q) y else y,0,())else([],7,())
theorem anZ{l}{id q}(hl:l.length<=1000)(hs:pY (·.1) l)(X:∀g∈l,cz g.2.2.2.2.1)(V:cz q):ael l id q=some (yM l id q):=by
 show yk aj l id q=_;unfold yk yM Ak;rw[ai (aeh (by omega))];rcases lx (λm:cU=>m.1==id) l with⟨h1,J⟩|⟨k,hk,h1,J,Y⟩
 .rw[h1,J,aT (by decide)]
 .have W:=X _ (aE hk);rw[h1,J,cV (by omega),bO hk,ai (tv (l:=[l[k].2.2.2.2.1,q]) (λx R=>by simp at R;rcases R with rfl|rfl;exact W;exact V) (by simp))];have es:([l[k].2.2.2.2.1,q]:List Int).sum=l[k].2.2.2.2.1+q:=by simp
  rw[es];refine bz λK F=>?_
  have C:K (true,())=some ([],7,()):=by subst F;rfl
  have H:(cW (l[k].2.2.2.2.1+q)).1=l[k].2.2.2.2.1+q->K (false,())=some (l.map λy=>if y.1=id then kT (l[k].2.2.2.2.1+q) y else y,0,()):=by intro e;subst F;refine zG rfl ?_;rw[e,ai (ab4 hl hs hk (by simpa using Y))]
  show _=some (if cz (l[k].2.2.2.2.1+q)/\l6 (l[k].2.2.2.2.1+q)then(l.map λy=>if y.1=id then kT (l[k].2.2.2.2.1+q) y else y,0,())else([],7,()));by_cases h:cz (l[k].2.2.2.2.1+q)
  .have j:cW (l[k].2.2.2.2.1+q)=(l[k].2.2.2.2.1+q,0,()):=by unfold cW;rw[ah h]
   rw[az (by rw[j];rfl),ai (Uv _)];by_cases G:l6 (l[k].2.2.2.2.1+q)
   .have:l6 (cW (l[k].2.2.2.2.1+q)).1:=by rw[j];exact G
    rw[ap this,ah ⟨h,G⟩];exact H (by rw[j])
   .have:¬l6 (cW (l[k].2.2.2.2.1+q)).1:=by rw[j];exact G
    rw[an this,ag λq=>G q.2];exact C
  .have j:(cW (l[k].2.2.2.2.1+q)).2.1≠0:=by unfold cW;rw[ag h];decide
   rw[fT j,C,ag λq=>h q.1]
def kD(l:List cU)(id q:Int):List cU×Int×Unit:=
 match Ak l id with
 |none=>([],11,())
 |some g=>if q=0\/(g.2.2.2.2.1≠0/\decide (q<0)≠decide (g.2.2.2.2.1<0))then([],2,())else if(0<q/\g.2.2.2.2.1<q)\/(q<0/\q<g.2.2.2.2.1)then([],23,())else(l.map λy=>if y.1=id then kT (g.2.2.2.2.1-q) y else y,0,())
theorem aiV{l}{id q}(hl:l.length<=1000)(hs:pY (·.1) l)(hI:∀g∈l,cz g.2.2.2.2.1)(hq:cz q):P6 l id q=some (kD l id q):=by
 show va aj l id q=_;unfold va kD Ak;rw[ai (aeh (by omega))];rcases lx (λm:cU=>m.1==id) l with⟨h1,W⟩|⟨k,hk,h1,W,h3⟩
 .rw[h1,W,aT (by decide)]
 .have hg:=hI _ (aE hk);rw[h1,W,cV (by omega),bO hk];refine bz λX K=>?_
  have F:X (true,())=some ([],2,()):=by subst K;rfl
  have G:(q≠0/\(l[k].2.2.2.2.1=0\/decide (q<0)=decide (l[k].2.2.2.2.1<0)))->X (false,())=some (if(0<q/\l[k].2.2.2.2.1<q)\/(q<0/\q<l[k].2.2.2.2.1)then([],23,())else(l.map λy=>if y.1=id then kT (l[k].2.2.2.2.1-q) y else y,0,())):=by
   intro hz;subst K;refine zG rfl ?_;refine bz λY R=>?_
   have H:Y (true,())=some ([],23,()):=by subst R;rfl
   have J:(¬((0<q/\l[k].2.2.2.2.1<q)\/(q<0/\q<l[k].2.2.2.2.1)))->Y (false,())=some (l.map λy=>if y.1=id then kT (l[k].2.2.2.2.1-q) y else y,0,()):=by
    intro hn
    have hw:i64.wrap (l[k].2.2.2.2.1-q)=l[k].2.2.2.2.1-q:=bG _ (by
     unfold cz at hg hq;rcases hz.2 with h|h
     .omega
     .rw[eA]at h;omega)
    subst R;refine zG rfl ?_;rw[hw,ai (ab4 hl hs hk (by simpa using h3))]
   refine de (λC=>?_) λC=>?_
   .refine de (λj=>?_) λj=>?_
    .rw[H,ah (.inl ⟨C,j⟩)]
    .rw[cV (by omega),J (by omega),ag (by omega)]
   .rw[eG (by omega)];by_cases j:q<l[k].2.2.2.2.1
    .rw[ap j,H,ah (.inr ⟨by omega,j⟩)]
    .rw[an j,J (by omega),ag (by omega)]
  dsimp only;refine dM (λC=>?_) λC=>?_
  .rw[F,ah (.inl C)]
  .refine i7 (λj=>?_) λj=>?_
   .rw[G ⟨C,.inl j⟩,ag (show ¬(q=0\/(l[k].2.2.2.2.1≠0/\decide (q<0)≠decide (l[k].2.2.2.2.1<0)))from λh=>h.elim C λh=>h.1 j)]
   .have en:cX true (decide (q<0)==decide (l[k].2.2.2.2.1<0))=decide (decide (q<0)≠decide (l[k].2.2.2.2.1<0)):=by cases decide (q<0)<;>cases decide (l[k].2.2.2.2.1<0)<;>rfl
    rw[en];by_cases V:decide (q<0)=decide (l[k].2.2.2.2.1<0)
    .rw[an (not_not_intro V),G ⟨C,.inr V⟩,ag (show ¬(q=0\/(l[k].2.2.2.2.1≠0/\decide (q<0)≠decide (l[k].2.2.2.2.1<0)))from λh=>h.elim C λh=>h.2 V)]
    .rw[ap V,F,ah (.inr ⟨j,V⟩)]
def GH(l:List cU):Int:=match l.getLast? with|some g=>g.1|none=>0
def GK(l:List cU)(g:cU):List cU×Int×Int×Unit:=if g.2.2.2.2.1=0\/¬l6 g.2.2.2.2.1 then([],0,2,())else if 64<=l.length then([],0,25,())else(l++[(GH l+1,g.2)],GH l+1,0,())
theorem aoa{l}{g}(hl:l.length<=1000)(hi:∀x∈l,0<=x.1/\x.1<=1048576):Uw l g=some (GK l g):=by
 show yl aj l g=_;unfold yl GK;refine bz λV F=>?_
 have C:V (true,())=some ([],0,2,()):=by subst F;rfl
 have J:V (false,())=some (if 64<=l.length then([],0,25,())else(l++[(GH l+1,g.2)],GH l+1,0,())):=by
  subst F;refine zG rfl ?_;by_cases W:64<=l.length
  .rw[eG (by omega),ah W]
  .rw[cV (by omega),ag W];refine bz λX K=>?_
   have G:∀id:Int,X (id,g.2.1.1,g.2.1.2.1,g.2.2)=some (l++[(id,g.2)],id,0,()):=by intro id;subst K;show aj.two (aj.ae (oE l) λv3=>aj.bc (v3.length+1) 48 (some (v3++[(id,g.2)],id,0,())))=_;rw[jc,ai (ab3 (by omega)),da]
   by_cases Y:0<l.length
   .have e:=î l.length;have y:l.length-1<l.length:=by omega
    have j:GH l=l[l.length-1].1:=by unfold GH;rw[List.getLast?_eq_getElem?,aw y]
    have hb:=hi _ (aE y);rw[eG (by omega),e,bO y,bG (l[l.length-1].1+1) (by omega),<-j];exact G _
   .have:l=[]:=fz (by omega);subst this;rw[az (by rfl)];exact G 1
 refine dM (λR=>?_) λR=>?_
 .rw[C,ah (.inl R)]
 .rw[ai (Uv _)];by_cases H:l6 g.2.2.2.2.1
  .rw[ap H,ag (show ¬(g.2.2.2.2.1=0\/¬l6 g.2.2.2.2.1)from λh=>h.elim R λh=>h H)];exact J
  .rw[an H,ah (.inr H)];exact C
def si(m:bB)(day fr:Int):bB×Int×Unit:=if ¬zm m\/day<0\/1048576<day then(BI,2,())else if m.2.2.1=fr then((m.1,m.2.1,m.2.2.1+1,m.2.2.2),0,())else(BI,13,())
theorem Ux(m)(day fr):aem m day fr=some (si m day fr):=by
 show ri aj m day fr=_;unfold ri si;refine bz λH y=>?_
 have j:H (true,())=some (BI,2,()):=by subst y;rfl
 have F:zm m->H (false,())=some (if m.2.2.1=fr then((m.1,m.2.1,m.2.2.1+1,m.2.2.2),0,())else(BI,13,())):=by
  intro hm;subst y;refine zG rfl ?_;by_cases h:m.2.2.1=fr
  .have K:i64.wrap (m.2.2.1+1)=m.2.2.1+1:=bG _ (by unfold zm at hm;omega);rw[iD h,ah h,K]
  .rw[fT h,ag h];rfl
 rw[ai (J3 m)];by_cases C:zm m
 .rw[ah C,az (by rfl)];refine de (λJ=>?_) λJ=>?_
  .rw[j,ah (.inr (.inl J))]
  .by_cases G:1048576<day
   .rw[ap G,j,ah (.inr (.inr G))]
   .rw[an G,F C,ag (show ¬(¬zm m\/day<0\/1048576<day)from λh=>h.elim (λh=>h C) (by omega))]
 .rw[ag C,aT (by rfl),j,ah (.inl C)]
def akG(m:bB)(day n:Int):bB×Int×Unit:=if n<0\/16<n then(BI,2,())else if(si m day 0).2.1=0 then(U3 (si m day 0).1 (day+n,()),(si m day 0).2)else si m day 0
theorem akH(m)(day n):SO m day n=some (akG m day n):=by
 show ym aj m day n=_;unfold ym akG;refine bz λH y=>?_
 have j:H (true,())=some (BI,2,()):=by subst y;rfl
 have F:(0<=n/\n<=16)->H (false,())=some (if(si m day 0).2.1=0 then(U3 (si m day 0).1 (day+n,()),(si m day 0).2)else si m day 0):=by
  intro R;subst y;refine zG rfl ?_;rw[ai (Ux m day 0)];refine bz λK C=>?_
  by_cases h:(si m day 0).2.1=0
  .have V:0<=day/\day<=1048576:=by
    unfold si at h;by_cases c:¬zm m\/day<0\/1048576<day
    .rw[ah c]at h;exact absurd h (by decide)
    .have:¬(day<0\/1048576<day):=λq=>c (.inr q)
     omega
   rw[pF h,ah h,show i64.wrap (day+n)=day+n from bG _ (by omega)];subst C;rfl
  .rw[qy h,ag h];subst C;rfl
 refine de (λJ=>?_) λJ=>?_
 .rw[j,ah (.inl J)]
 .by_cases G:16<n
  .rw[ap G,j,ah (.inr G)]
  .rw[an G,F (by omega),ag (show ¬(n<0\/16<n)by omega)]
def agP(m:bB)(day:Int):bB×Int×Unit:=if(si m day 1).2.1=0 then(if day<=m.2.2.2.1 then(BI,18,())else((si m day 1).1,0,()))else(BI,(si m day 1).2)
theorem aob(m)(day):Uy m day=some (agP m day):=by
 show yo aj m day=_;unfold yo agP;rw[ai (Ux m day 1)];refine i7 (λh=>?_) λh=>?_
 .rw[ah h];refine de (λj=>?_) λj=>?_
  .rw[ah j];rfl
  .rw[ag j]
 .rw[ag h];rfl
theorem ahH(m)(day):PC m day=some (si m day 2):=by show vb aj m day=_;unfold vb;rw[ai (Ux m day 2)]
def ahJ(n:Nat)(v:Int):Nat:=if v<0 then n else v.toNat
def L6(d:List cd)(f t:ar):List cd:=d.take (ahJ d.length (zb (λc=>decide (oj f c.1)) d))++(f,t,false,())::d.drop (ahJ d.length (zb (λc=>decide (oj f c.1)) d))
def EG(l:List cd)(f t:ar):List cd×Int×Unit:=if CU l (chP l)=true then(if f=t then([],24,())else(L6 (Fz l f) f t,0,()))else([],3,())
theorem aiW{l}{f t}(hl:l.length<=1000):ab5 l f t=some (EG l f t):=by
 show vd aj l f t=_;unfold vd EG;rw[ai (agu (by omega))];by_cases h:CU l (chP l)=true
 .rw[ah h,h,az (by rfl),ur];by_cases j:f=t
  .rw[ap j,aT rfl,ah j]
  .rw[an j,az rfl,ag j,ai (agE (by omega))];have J:(Fz l f).length<=1000:=cn (cp _ _) hl;unfold L6;generalize Fz l f=d at*
   have R:mh f.1 f.2.1 d=some (zb (λc=>decide (oj f c.1)) d,f):=by
    show dH aj f.1 f.2.1 d=_;refine uu (s:=d) (C:=ar) (by omega) (λc=>decide (oj f c.1)) (λc (u:ar)=>VJ u.1 u.2.1 c) f λx _=>?_
    exact vY (B4 _ _) rfl
   rw[ai R];refine bz λG y=>?_
   have F:∀p:Nat,p<=d.length->G ((p:Int),d,())=some (d.take p++(f,t,false,())::d.drop p,0,()):=by
    intro p H;subst y;have hi:EP d (p:Int) [(f,t,false,())]=some (d.take p++(f,t,false,())::d.drop p,()):=by exact(OO H (by omega)).trans rfl
    exact vY hi rfl
   clear y;rcases lx (λc:cd=>decide (oj f c.1)) d with⟨h1,K⟩|⟨k,hk,h1,K,_⟩
   .rw[h1,aT (by rfl)];show G ((d.length:Int),d,())=_;rw[F _ (au _)];rfl
   .rw[h1,az (an (by omega))];have e:ahJ d.length (k:Int)=k:=by unfold ahJ;rw[ag (by omega)];omega
    rw[F _ (by omega),e]
 .have h:CU l (chP l)=false:=by simpa using h
  rw[h,aT (by rfl),ag (by decide)]
theorem ave{l}{u}(hl:l.length<=1000000):aba l u=some (zb (λc=>decide (c.1=u)) l):=by
 have j:iP u.1 u.2.1 l=some (zb (λc=>decide (c.1=u)) l,u):=by
  show dg aj u.1 u.2.1 l=_;refine uu hl (λc=>decide (c.1=u)) (λm (c:ar)=>Um c.1 c.2.1 m) u λx _=>?_
  show some (cX false ((x.1.1==u.1)&&(x.1.2.1==u.2.1)),u)=_;rw[ur]
 show tV aj l u=_;unfold tV;rw[ai j]
def apj(c:cd):cd:=(c.1,c.2.1,true,())
def EH(l:List cd)(f t:ar):List cd×Int×Unit:=if CU l (chP l)=true then(if zb (λc=>decide (c.1=f)) l<0 then([],19,())else if(l.getD (zb (λc=>decide (c.1=f)) l).toNat K_).2.1=t then(l.set (zb (λc=>decide (c.1=f)) l).toNat (apj (l.getD (zb (λc=>decide (c.1=f)) l).toNat K_)),0,())else([],11,()))else([],3,())
theorem aiX{l}{f t}(hl:l.length<=1000):ab6 l f t=some (EH l f t):=by
 show ve aj l f t=_;unfold ve EH;rw[ai (ave (by omega)),ai (agu (by omega))];by_cases h:CU l (chP l)=true
 .rw[ah h,h,az (by rfl)];rcases lx (λc:cd=>decide (c.1=f)) l with⟨h1,y⟩|⟨k,hk,h1,y,F⟩
  .rw[h1,aT (by rfl)];rfl
  .rw[h1,cV (by omega),bO hk,ag (by omega)];conv=>rhs;rw[aX,show l.getD k K_=l[k]from by rw[bV,aw hk];rfl]
   have C:cX true ((l[k].2.1.1==t.1)&&(l[k].2.1.2.1==t.2.1))=!decide (l[k].2.1=t):=by rw[<-ur];cases((l[k].2.1.1==t.1)&&(l[k].2.1.2.1==t.2.1))<;>rfl
   rw[C];by_cases j:l[k].2.1=t
   .rw[ap j,az (show(!true)=false from rfl),ah j,ai (abf (by omega)),bO hk,ij hk,aX];rfl
   .rw[an j,aT (show(!false)=true from rfl),ag j]
 .have h:CU l (chP l)=false:=by simpa using h
  rw[h,aT (by rfl),ag (by decide)]
theorem arj(x y):ab7 x y=some (decide (x<y)):=by show D4 aj x y=_;unfold D4;rw[ai (show XD x=some (x != x)from rfl),az (by simp)]
theorem axp{l}{k}(hs:pY (λx:Int=>x) l)(hl:l.length<=1000):Ba l k=some (((j2 (λx:Int=>x) l k:Nat):Int),decide (k∈l),()):=by
 show jw aj l k=_;have J:=B6 (λy:Int=>y) l k;refine iI (X:=Int×Int×Unit) (β:=Int×Bool×Unit) (λz=>(z.2.1-z.1).toNat) (λz=>∃i j:Nat,z=((i:Int),(j:Int),())/\i<=j2 (λx:Int=>x) l k/\j2 (λx:Int=>x) l k<=j/\j<=l.length) (λ_=>some (((j2 (λx:Int=>x) l k:Nat):Int),decide (k∈l),())) ⟨0,l.length,rfl,br _,J,au _⟩ (by dsimp only;omega) ?_;rintro _ ⟨i,j,rfl,h1,h2,h3⟩ C K
 show aj.af (decide ((i:Int)<(j:Int))) (aj.jb 1 (aj.aH l (i64.wrap (Int.fdiv (u64.wrap (i64.wrap ((i:Int)+(j:Int)))) (2 ^ (min (Int.toNat 1) u64.bits)))) λW=>aj.ae (ab7 W k) λv4=>
  aj.af v4 (C (i64.wrap (i64.wrap (Int.fdiv (u64.wrap (i64.wrap ((i:Int)+(j:Int)))) (2 ^ (min (Int.toNat 1) u64.bits)))+1),(j:Int),())) (C ((i:Int),i64.wrap (Int.fdiv (u64.wrap (i64.wrap ((i:Int)+(j:Int)))) (2 ^ (min (Int.toNat 1) u64.bits))),()))))
  (aj.af (decide ((i:Int)<(l.length:Int))) (aj.aH l (i:Int) λV=>aj.af (V==k) (some ((i:Int),true,())) (aj.aH l (i:Int) λR=>aj.ae (MR R) λY=>aj.af Y _ (some ((i:Int),false,())))) (some ((i:Int),false,())))=_
 rw[ate i j (by omega)];by_cases hij:i<j
 .have hh:(i+j) / 2<l.length:=by omega
  rw[eG (by omega),uz (by decide),bO hh,ai (arj _ _)];have G:=u7 k hs hh;refine de (λF=>?_) λF=>?_
  .rw[cP _];have:=G.1 F;exact K _ ⟨(i+j) / 2+1,j,rfl,by omega,h2,h3⟩ (by dsimp only;omega)
  .have:¬(i+j) / 2<j2 (λx:Int=>x) l k:=λh=>F (G.2 h)
   exact K _ ⟨i,(i+j) / 2,rfl,h1,by omega,by omega⟩ (by dsimp only;omega)
 .have hi:i=j2 (λx:Int=>x) l k:=by omega
  subst hi;rw[cV (by omega)];rcases MQ hs k with⟨hi,H,_⟩|⟨H,e2⟩
  .have:k∈l:=by have:=aE hi;rw[H]at this;exact this
   rw[eG (by omega),bO hi,pF H,ap this]
  .have hn:¬k∈l:=λh=>by have:=kv.1 H k h;simp at this
   rw[an hn];by_cases hi:j2 (λx:Int=>x) l k<l.length
   .have:=e2 hi;rw[eG (by omega),bO hi,az (by simp;omega),bO hi,ai (show MR l[j2 (λx:Int=>x) l k]=some (l[j2 (λx:Int=>x) l k] != l[j2 (λx:Int=>x) l k])from rfl),az (by simp)]
   .rw[cV (by omega)]
def aoc(k:Int):Int:=if k=1 then 0 else if k=4 then 1 else 16
def tx(a:aN)(c:Int):aN×Int×Unit:=if okA a=true then(if a.2.2.1=1 then(yU,17,())else if c<1\/16<c then(yU,2,())else if c∈a.2.2.2.1 then(yU,12,())else if aoc a.2.2.1<=a.2.2.2.1.length then(yU,10,())else((a.1,a.2.1,a.2.2.1,vR (λx:Int=>x) a.2.2.2.1 c,()),0,()))else(yU,2,())
theorem aod{a}{c}(hl:a.2.2.2.1.length<=1000)(hs:pY (λx:Int=>x) a.2.2.2.1):XL a c=some (tx a c):=by
 show Bb aj a c=_;unfold Bb tx;rw[ai (OM (by omega))];by_cases ho:okA a=true
 .rw[ah ho,ah ho,az (by rfl),ai (axp hs hl)];by_cases F:a.2.2.1=1
  .rw[ah F,pF F];rfl
  .rw[ag F,qy F];refine bz λR C=>?_
   have j:R (true,())=some (yU,2,()):=by subst C;rfl
   have H:R (false,())=some (if c∈a.2.2.2.1 then(yU,12,())else if aoc a.2.2.1<=a.2.2.2.1.length then(yU,10,())else((a.1,a.2.1,a.2.2.1,vR (λx:Int=>x) a.2.2.2.1 c,()),0,())):=by
    subst C;refine zG rfl ?_;by_cases G:c∈a.2.2.2.1
    .rw[ap G,aT rfl,ah G];rfl
    .rw[an G,az rfl,ag G,ai (show Xp a.2.2.1=some (aoc a.2.2.1)from agt _)];refine de (λhm=>?_) λhm=>?_
     .rw[ah hm];rfl
     .rw[ag hm,ai (Lu (by omega))];have J:=B6 (λy:Int=>y) a.2.2.2.1 c;have hi:Oi a.2.2.2.1 ((j2 (λx:Int=>x) a.2.2.2.1 c:Nat):Int) [c]=some (vR (λx:Int=>x) a.2.2.2.1 c,()):=by refine(OO J (by omega)).trans ?_;have:=MP (λy:Int=>y) a.2.2.2.1 c;rw[this]
      rw[ai hi]
   refine de (λV=>?_) λV=>?_
   .rw[j,ah (.inl V)]
   .by_cases K:16<c
    .rw[ap K,j,ah (.inr K)]
    .rw[an K,H,ag (show ¬(c<1\/16<c)by omega)]
 .rw[ag ho,ag ho,aT (by rfl)];rfl
def KB:List Int->List ar
 |a::b::l=>(a,b,())::KB l
 |_=>[]
def yN(l:List Int):List ar:=if l.length % 2=0 then KB l else[]
theorem Uz:∀l:List Int,(KB l).length<=l.length
 |[]=>au _
 |[_]=>br _
 |a::b::l=>by have:=Uz l;show(KB l).length+1<=l.length+1+1;omega
theorem ark{l}(hl:l.length<=1000):ab8 l=some (yN l):=by
 show zt aj l=_;refine iI (X:=Int×List ar×Unit) (β:=List ar) (λz=>l.length+1-z.1.toNat) (λz=>∃(k:Nat) (acc:List ar),2*k<=l.length/\acc.length=k/\acc++KB (l.drop (2*k))=KB l/\z=(((2*k:Nat):Int),acc,())) (λ_=>some (yN l)) ⟨0,[],by omega,rfl,rfl,rfl⟩ (by omega) ?_;rintro _ ⟨k,acc,R,V,y,rfl⟩ j C;show aj.af (decide ((i64.wrap (((2*k:Nat):Int)+1))<(l.length:Int))) (aj.aH l ((2*k:Nat):Int) λJ=>aj.aH l (i64.wrap (((2*k:Nat):Int)+1)) λH=>aj.bc (acc.length+1) 16 (j (i64.wrap (((2*k:Nat):Int)+2),acc++[(J,H,())],()))) (aj.wg 2 (aj.af ((Int.tmod (l.length:Int) 2) != 0) (some []) (some acc)))=_;rw[cP (2*k)];by_cases h:2*k+1<l.length
 .have G:2*k<l.length:=by omega
  rw[dx h,bO G,bO h,da,show i64.wrap (((2*k:Nat):Int)+2)=((2*(k+1):Nat):Int)by rw[bG _ (by omega)];omega];refine C _ ⟨k+1,_,by omega,by rw[aq];simp;omega,?_,rfl⟩ (by omega);rw[<-y,cu G,cu h,bn,show 2*(k+1)=2*k+1+1 by omega];rfl
 .rw[cV (by omega),Ye (by decide)]
  have K:KB (l.drop (2*k))=[]:=by
   have F:(l.drop (2*k)).length<=1:=by rw[dS];omega
   match hh:l.drop (2*k)with
   |[]=>rfl
   |[_]=>rfl
   |a::b::m=>rw[hh]at F;simp at F
  rw[K,bZ]at y;unfold yN;rw[ru (by omega)];by_cases hm:l.length % 2=0
  .rw[ah hm,az (by simp;omega),y]
  .rw[ag hm,aT (by simp;omega)]
def qD(f:ar):Bool:=decide (f.2.1<0)||(decide (2147483647<f.2.1)||(decide (f.1=0)||!decide (l6 f.1)))
theorem arl(f):ab9 f=some (qD f):=by
 show vf aj f=_;unfold vf qD;refine de (λC=>?_) λC=>?_
 .rw[ap C];rfl
 .rw[an C];refine de (λy=>?_) λy=>?_
  .rw[ap y];rfl
  .rw[an y];refine dM (λj=>?_) λj=>?_
   .rw[ap j];rfl
   .rw[an j,ai (Uv _)];rfl
theorem aen{s}(hs:s.length<=1000000):nh s=some (s.any qD,()):=by
 have key:∃i:Int,oM s=some (i,())/\decide (0<=i)=s.any qD:=by
  show ∃i,eC aj s=_/\_;refine oY (X:=Int×Unit) (β:=Int×Unit) (λo=>∃i:Int,o=some (i,())/\decide (0<=i)=s.any qD) (λz=>s.length+1-z.1.toNat) (λz=>∃j:Nat,j<=s.length/\z=((j:Int),())/\(s.take j).any qD=false) ⟨0,br _,rfl,by simp⟩ (by omega) ?_;rintro _ ⟨j,G,rfl,y⟩ C F;show ∃i,aj.af (decide ((j:Int)<(s.length:Int))) (aj.aH s (j:Int) _) _=_/\_;by_cases h:j<s.length
  .rw[dx h,bO h,ai (arl _)];cases hv:qD s[j]with
   |false=>rw[az rfl];rw[cP j];refine F _ ⟨j+1,by omega,rfl,?_⟩ (by omega);rw[ax h,List.any_append,y];simp[hv]
   |true=>rw[aT rfl];refine⟨(j:Int),rfl,?_⟩;have:=jt.2 ⟨s[j],aE h,hv⟩;rw[this,ap (by omega)]
  .have:j=s.length:=by omega
   subst this;rw[dV];rw[bs]at y;exact⟨-1,rfl,by rw[y];rfl⟩
 have⟨i,e,h⟩:=key;show dh aj s=_;unfold dh;rw[ai e];rw[h]
def zu(a:Int):Int:=if a<0 then -a else a
def wj(l:List ar):Int:=(l.map λf=>zu f.1).sum
def MT(l:List ar):Int:=(l.map λf=>zu f.1*f.2.1).sum
def P7(l:List ar):Bool:=l.any λf=>decide (f.1<0) != decide ((l.headD (0,0,())).1<0)
def aiY(l:List ar):Prop:=l=[]\/16<l.length\/l.any qD=true\/P7 l=true
instance (l:List ar):Decidable (aiY l):=by unfold aiY;infer_instance
def kW(l:List ar):Int×Int×Int:=if aiY l then(0,0,2)else if 1099511627776<wj l then(0,0,25)else(wj l,MT l,0)
theorem abA{f}(h:qD f=false):(0<=f.2.1/\f.2.1<=2147483647)/\f.1≠0/\l6 f.1:=by unfold qD at h;simp only[nY,pk,Bool.not_eq_false',bg]at h;have⟨F,C,y,j⟩:=h;exact⟨by omega,y,j⟩
theorem ZU{f}(h:qD f=false):(1<=zu f.1/\zu f.1<=1099511627776)/\0<=zu f.1*f.2.1/\zu f.1*f.2.1<=zu f.1*2147483647:=by
 have⟨j,F,C⟩:=abA h;unfold l6 at C;have y:1<=zu f.1/\zu f.1<=1099511627776:=by unfold zu;split<;>omega
 exact⟨y,jf (by omega) j.1,eI j.2 (by omega)⟩
theorem RM:∀{l:List ar},l.any qD=false->((l.length:Int)<=wj l/\wj l<=1099511627776*l.length)/\0<=MT l/\MT l<=wj l*2147483647
 |[],_=>by unfold wj MT;simp
 |f::l,h=>by rw[Db,nY]at h;have⟨⟨F,a2⟩,a3,a4⟩:=ZU h.1;have⟨⟨b1,C⟩,y,j⟩:=RM h.2;unfold wj MT at *;rw[bI,fG,bI,fG,aJ,n2];omega
def ZV(l:List ar):List bF:=l.map λf=>wide (zu f.1*f.2.1)
theorem arm(l):ZV l=(l.map λf=>zu f.1*f.2.1).map wide:=by rw[hJ];rfl
theorem avf{a}(h:l6 a):LH a=some (zu a,0,()):=by
 unfold l6 at h;rw[acC (by unfold cz;omega)];unfold zu;by_cases j:a<0
 .rw[ah j,ah j];unfold cW;rw[ah (by unfold cz;omega)]
 .rw[ag j,ag j]
theorem arn{l}(hl:l.length<=1000):aeo l=some ((kW l).1,wide (kW l).2.1,(kW l).2.2,()):=by
 refine bz λk9 J=>?_
 have G:k9 (true,())=some (0,wide 0,2,()):=by subst J;rfl
 have k9f:l≠[]->l.length<=16->l.any qD=false->k9 (false,())=some (if P7 l=true then(0,wide 0,2,())else if 1099511627776<wj l then(0,wide 0,25,())else(wj l,wide (MT l),0,())):=by
  intro F K C;subst J;refine zG rfl ?_;have Y:0<l.length:=gj.2 F
  have hhd:l.headD (0,0,())=l[0]:=by
   cases l with
   |nil=>exact absurd rfl F
   |cons a t=>rfl
  have wr:∀f∈l,qD f=false:=λf j=>by
   cases e:qD f with
   |false=>rfl
   |true=>have:=jt.2 ⟨f,j,e⟩;rw[C]at this;exact absurd this (by decide)
  refine iI (X:=Int×Int×List bF×Unit) (β:=Int×bF×Int×Unit) (λz=>l.length+1-z.2.1.toNat) (λz=>∃k:Nat,k<=l.length/\z=(wj (l.take k),(k:Int),ZV (l.take k),())/\∀f∈l.take k,decide (f.1<0)=decide (l[0].1<0)) (λ_=>some (if P7 l=true then(0,wide 0,2,())else if 1099511627776<wj l then(0,wide 0,25,())else(wj l,wide (MT l),0,()))) ⟨0,br _,rfl,by simp⟩ (by dsimp only;omega) ?_;rintro _ ⟨k,hk,rfl,H⟩ R ha;by_cases h:k<l.length
  .rw[dx h];show aj.aH l (k:Int) (λx4=>aj.aH l ((0:Nat):Int) _)=_;rw[bO h,bO Y];have V:=wr _ (aE h);obtain⟨p1,p2,p3⟩:=abA V;obtain⟨⟨a1,a2⟩,a3,a4⟩:=ZU V;have en:cX true (decide (l[k].1<0)==decide (l[0].1<0))=(decide (l[k].1<0) != decide (l[0].1<0)):=by cases decide (l[k].1<0)<;>cases decide (l[0].1<0)<;>rfl
   rw[en];by_cases hs:decide (l[k].1<0)=decide (l[0].1<0)
   .rw[az (by rw[hs];simp),ai (avf p3),ai (Et (a:=zu l[k].1) (b:=l[k].2.1) (by unfold cz;omega) (by unfold cz;omega))];have bt:=RM (l:=l.take k) (kZ.2 λf j=>by rw[wr f (eJ j)];decide);rw[bf]at bt;have em:wj (l.take (k+1))=wj (l.take k)+zu l[k].1:=by unfold wj;rw[ax h,cw,lr];simp
    have ew:ZV (l.take (k+1))=ZV (l.take k)++[wide (zu l[k].1*l[k].2.1)]:=by unfold ZV;rw[ax h,cw];rfl
    have lw:(ZV (l.take k)).length=k:=by unfold ZV;rw[aW,bf];omega
    show aj.bc ((ZV (l.take k)).length+1) 16 (R (i64.wrap (wj (l.take k)+zu l[k].1),i64.wrap ((k:Int)+1),ZV (l.take k)++[wide (zu l[k].1*l[k].2.1)],()))=_;rw[da (by omega) (by omega),cP k (by omega),bG _ (by omega),<-em,<-ew];refine ha _ ⟨k+1,by omega,rfl,?_⟩ (by dsimp only;omega);intro f j;rw[ax h,aQ]at j;rcases j with j|j
    .exact H f j
    .simp only[ay]at j;subst j;exact hs
   .rw[aT (by simpa using hs)];have:P7 l=true:=by unfold P7;rw[hhd];exact jt.2 ⟨l[k],aE h,by simpa using hs⟩
    rw[ah this];rfl
  .have e:k=l.length:=by omega
   subst e;rw[dV];rw[bs]at H ⊢;have hns:¬P7 l=true:=by intro hc;unfold P7 at hc;rw[hhd]at hc;obtain⟨f,j,W⟩:=jt.1 hc;rw[H f j]at W;simp at W
   rw[ag hns];refine de (λhm=>?_) λhm=>?_
   .rw[ah hm];rfl
   .rw[ag hm,arm];have ba:∀x∈(l.map λf=>zu f.1*f.2.1),0<=x/\x<=1099511627776*2147483647:=by intro x hx;obtain⟨f,j,rfl⟩:=aK.1 hx;obtain⟨⟨a1,a2⟩,a3,a4⟩:=ZU (wr f j);exact⟨a3,by omega⟩
    have e:xK ((l.map λf=>zu f.1*f.2.1).map wide)=some (wide (MT l),0,()):=by have hlm:(l.map λf=>zu f.1*f.2.1).length=l.length:=aW _;rw[NW _ (λw C=>by obtain⟨x,hx,rfl⟩:=aK.1 C;have:=ba x hx;exact mT _ (by unfold ec;omega)) (by rw[aW];omega),Oc];have bt:=RM C;unfold fit;rw[ah (show ec (l.map λf=>zu f.1*f.2.1).sum from by have h1:MT l=(l.map λf=>zu f.1*f.2.1).sum:=rfl;rw[<-h1];unfold ec;omega)];rfl
    rw[ai e]
 clear J;have y:aiY l->kW l=(0,0,2):=λh=>ah h
 by_cases F:l=[]
 .rw[y (.inl F)];subst F;rw[aT (by rfl),G]
 .have Y:0<l.length:=gj.2 F;rw[az (an (by omega))];by_cases K:16<l.length
  .rw[aT (ap (by omega)),G,y (.inr (.inl K))]
  .rw[az (an (by omega)),ai (aen (by omega))];cases C:l.any qD with
   |true=>rw[y (.inr (.inr (.inl C))),G]
   |false=>
    rw[k9f F (by omega) C];cases hs:P7 l with
    |true=>rw[y (.inr (.inr (.inr hs))),ah rfl]
    |false=>
     have hnb:¬aiY l:=by
      intro h;rcases h with h|h|h|h
      .exact F h
      .exact K h
      .rw[C]at h;exact absurd h (by decide)
      .rw[hs]at h;exact absurd h (by decide)
     rw[ag (by decide)];unfold kW;rw[ag hnb];by_cases hm:1099511627776<wj l
     .rw[ah hm,ah hm]
     .rw[ag hm,ag hm]
def KE(l:List ar):Int×Int×Int×Int:=if(kW l).2.2=0 then((if(l.headD (0,0,())).1<0 then -(kW l).1 else(kW l).1),(kW l).2.1 / (kW l).1,(kW l).2.1 % (kW l).1,0)else(0,0,0,(kW l).2.2)
theorem XM{l}(h:(kW l).2.2=0):l≠[]/\(1<=(kW l).1/\(kW l).1<=1099511627776)/\0<=(kW l).2.1/\(kW l).2.1<=(kW l).1*2147483647:=by
 unfold kW at h ⊢;by_cases hb:aiY l
 .rw[ah hb]at h;exact absurd h (by decide)
 .rw[ag hb]at h ⊢;by_cases hm:1099511627776<wj l
  .rw[ah hm]at h;exact absurd h (by decide)
  .rw[ag hm];have j:l≠[]:=λe=>hb (.inl e)
   have y:l.any qD=false:=by
    cases e:l.any qD with
    |false=>rfl
    |true=>exact absurd (.inr (.inr (.inl e))) hb
   have C:=gj.2 j;have⟨⟨F,a2⟩,a3,a4⟩:=RM y;exact⟨j,⟨by omega,by omega⟩,a3,a4⟩
theorem arG{l}(h:(KE l).2.2.2=0):(kW l).2.2=0/\(-1099511627776<=(KE l).1/\(KE l).1<=1099511627776)/\(0<=(KE l).2.1/\(KE l).2.1<=2147483647)/\0<=(KE l).2.2.1/\(KE l).2.2.1<1099511627776:=by
 unfold KE at h ⊢;by_cases j:(kW l).2.2=0
 .rw[ah j];have⟨_,⟨y,a2⟩,a3,a4⟩:=XM j;generalize (kW l).1=m at *;generalize (kW l).2.1=c at *;refine⟨j,?_,⟨fR a3 (by omega),?_⟩,iw _ (by omega),?_⟩
  .have q:∀(b:Prop) [Decidable b],-1099511627776<=(if b then -m else m)/\(if b then -m else m)<=1099511627776:=by intro b _;split<;>omega
   exact q _
  .exact Int.ediv_le_of_le_mul (by omega) (by rw[gE];exact a4)
  .have:=gG c (show 0<m by omega);dsimp only;omega
 .rw[ag j]at h;exact absurd h j
theorem XN{l}(hl:l.length<=1000):VK l=some ((KE l).1,(KE l).2.1,(KE l).2.2.1,(KE l).2.2.2,()):=by
 show pc aj l=_;unfold pc;rw[ai (arn hl)];by_cases h:(kW l).2.2=0
 .have e:KE l=((if(l.headD (0,0,())).1<0 then -(kW l).1 else(kW l).1),(kW l).2.1 / (kW l).1,(kW l).2.1 % (kW l).1,0):=ah h;have⟨H,⟨V,a2⟩,a3,a4⟩:=XM h;rw[e];have C:=gj.2 H
  have F:l.headD (0,0,())=l[0]:=by
   cases l with
   |nil=>exact absurd rfl H
   |cons a t=>rfl
  rw[F,iD h];generalize (kW l).1=m at *;generalize (kW l).2.1=c at *;have q1:0<=c / m:=fR a3 (by omega);have K:c / m<=2147483647:=Int.ediv_le_of_le_mul (by omega) (by rw[gE];exact a4);have G:cz (c / m):=by unfold cz;omega
  rw[ai (Yf a3 (by unfold ec;omega) (by omega) (by unfold cz;omega) (by omega)),ai (JD (uA G))];have J:cW (c / m)=(c / m,0,()):=by unfold cW;rw[ah G]
  rw[J];refine bz λR j=>?_
  refine tix C ?_;refine de (λy=>?_) λy=>?_
  .rw[ah y,show i64.wrap (0-m) = -m by rw[bG _ (by omega)];omega];subst j;rfl
  .rw[ag y];subst j;rfl
 .have e:KE l=(0,0,0,(kW l).2.2):=ag h;rw[e,fT h]
def agQ(j:Int)(l:List ar):Int×Int×Unit:=if(KE l).2.2.2=0 then(if j<1\/65536<j then(0,2,())else cW ((if(KE l).1<0 then -(KE l).2.2.1 else(KE l).2.2.1)*j))else(0,(KE l).2.2.2,())
theorem aro{mult}{l}(hl:l.length<=1000):aep mult l=some (agQ mult l):=by
 show yp aj mult l=_;unfold yp agQ;rw[ai (XN hl)];refine bz λV G=>?_
 by_cases h:(KE l).2.2.2=0
 .have⟨_,_,_,Y,X⟩:=arG h;rw[ah h,iD h];refine bz λK y=>?_
  have j:K (true,())=some (0,2,()):=by subst y;rfl
  have C:(1<=mult/\mult<=65536)->K (false,())=some (cW ((if(KE l).1<0 then -(KE l).2.2.1 else(KE l).2.2.1)*mult)):=by
   intro hm;have J:∀r,cz r->V (r,())=some (cW (r*mult)):=by intro r W;subst G;exact vY (Sb W (by unfold cz;omega)) rfl
   subst y;refine zG rfl ?_;refine de (λF=>?_) λF=>?_
   .rw[ah F];rw[show i64.wrap (0-(KE l).2.2.1) = -(KE l).2.2.1 by rw[bG _ (by omega)];omega];exact J _ (by unfold cz;omega)
   .rw[ag F];dsimp only;exact J _ (by unfold cz;omega)
  refine de (λR=>?_) λR=>?_
  .rw[j,ah (.inl R)]
  .by_cases H:65536<mult
   .rw[ap H,j,ah (.inr H)]
   .rw[an H,C (by omega),ag (show ¬(mult<1\/65536<mult)by omega)]
 .rw[ag h,fT h]
theorem avg{w}(h:EW w):∃v e,aoe w=some (v,e)/\EW v:=by
 show ∃v e,zR aj w=_/\_;unfold zR;have hv:=anA w h;have y:0<=kz (wv w)/\kz (wv w)<340282366920938463463374607431768211456:=by unfold ec at hv;unfold kz;split<;>omega
 rw[ai (Jz w h),ai (xq w),ai (Gi _ _ y),ai (Uh _ _)];by_cases j:ec (if(!decide (w.1<0))=true then -kz (wv w)else kz (wv w))
 .rw[ah (ap j)];exact⟨_,_,rfl,by rw[LA _ j];exact mT _ j⟩
 .rw[ag (by simpa using j)];exact⟨_,_,rfl,by unfold EW;decide⟩
theorem avh(z):EW (fit z).1:=by
 unfold fit;by_cases h:ec z
 .rw[ah h];exact mT _ h
 .rw[ag h];unfold EW;decide
theorem O1(z):cz (cW z).1:=by
 unfold cW;by_cases h:cz z
 .rw[ah h];exact h
 .rw[ag h];decide
theorem abB{t}{k}{i}(h:nv t k=some i):i∈t:=cf h
theorem aof{i}{q k:Int}(hi:i.2.2.2.2.1.length<=1000)(hm:∀x∈i.2.2.2.2.1,cz x)(y:cz q):∃v,UB i q k=some v/\EW v:=by
 show ∃v,B7 aj i q k=_/\_;show ∃v,aj.aG _ _=_/\_;rw[wA];have z:EW ((0,0,()):bF):=by unfold EW;decide
 rw[ai (RJ (by omega))];by_cases ho:Rg i
 .rw[ah ho,az (by rfl)];by_cases G:k<0
  .rw[aT (ap G)];exact⟨_,rfl,z⟩
  .rw[az (an G)];by_cases F:(i.2.2.2.2.1.length:Int)<=k
   .rw[ap F];exact⟨_,rfl,z⟩
   .rw[an F];obtain⟨n,rfl⟩:=cR (show 0<=k by omega);have C:n<i.2.2.2.2.1.length:=by omega
    show ∃v,aj.af false _ (aj.aH i.2.2.2.2.1 (n:Int) _)=_/\_;have j:cz i.2.1:=by have:=ho.2.1;unfold cz;omega
    rw[az rfl,bO C,ai (Sb (hm _ (aE C)) j),ai (Et (O1 _) y)];exact⟨_,rfl,mT _ (Yi (O1 _) y)⟩
 .rw[ag ho,aT (by rfl)];exact⟨_,rfl,z⟩
structure OkT(t:List bR):Prop where
 l:t.length<=1000
 m:∀i∈t,i.2.2.2.2.1.length<=1000/\∀x∈i.2.2.2.2.1,cz x
theorem arp{t}{y:List oF}{k:Int}(T:OkT t)(hl:y.length<=1000)(ho:Vm y):∃v e,XO t y k=some (v,e)/\EW v:=by
 show ∃v e,Bc aj t y k=_/\_;unfold Bc;have z:EW ((0,0,()):bF):=by unfold EW;decide
 rw[ai (agv (by omega))];by_cases hv:En y=true
 .rw[hv,az (by rfl)];refine oY (X:=Int×List bF×Unit) (β:=bF×Int×Unit) (λo=>∃v e,o=some (v,e)/\EW v) (λz=>y.length+1-z.1.toNat) (λz=>∃(j:Nat) (acc:List bF),j<=y.length/\acc.length=j/\(∀w∈acc,EW w)/\z=((j:Int),acc,())) ⟨0,[],br _,rfl,by simp,rfl⟩ (by omega) ?_;rintro _ ⟨j,acc,hj,H,G,rfl⟩ C V;show ∃v e,aj.af (decide ((j:Int)<(y.length:Int))) (aj.aH y (j:Int) _) (aj.ae (xK acc) _)=_/\_;by_cases h:j<y.length
  .rw[dx h,bO h,ai (X7 (by have:=T.l;omega) λi hi=>by have:=(T.m i hi).1;omega)];cases R:nv t y[j].1 with
   |none=>exact⟨_,_,rfl,z⟩
   |some i=>
    have⟨K,J⟩:=T.m i (abB R);have⟨v,e1,e2⟩:=aof (i:=i) (q:=y[j].2.1) (k:=k) K J (ho _ (aE h));show ∃v e,aj.af false _ (aj.ae (UB i y[j].2.1 k) _)=_/\_;rw[az rfl,ai e1];show ∃v' e,aj.bc (acc.length+1) 16 (C (i64.wrap ((j:Int)+1),acc++[v],()))=_/\_;rw[da,cP j];refine V _ ⟨j+1,acc++[v],by omega,by rw[aq,H];rfl,λw F=>?_,rfl⟩ (by omega);rcases aQ.1 F with F|F
    .exact G w F
    .simp only[ay]at F;subst F;exact e2
  .rw[cV (by omega),ai (NW acc G (by omega))];have⟨v,e,Y,W⟩:=avg (avh (rE acc));rw[ai Y];exact⟨_,_,rfl,W⟩
 .have hv:En y=false:=by simpa using hv
  rw[hv,aT (by rfl)];exact⟨_,_,rfl,z⟩
theorem aiZ{t}{y}(T:OkT t)(hl:y.length<=1000)(ho:Vm y):∃v e,abC t y=some (v,e)/\(∀w∈v,EW w)/\v.length<=8:=by
 show ∃v e,zv aj t y=_/\_;refine oY (X:=Int×List bF×Unit) (β:=List bF×Int×Unit) (λo=>∃v e,o=some (v,e)/\(∀w∈v,EW w)/\v.length<=8) (λz=>8+1-z.1.toNat) (λz=>∃(j:Nat) (acc:List bF),j<=8/\acc.length=j/\(∀w∈acc,EW w)/\z=((j:Int),acc,())) ⟨0,[],br _,rfl,by simp,rfl⟩ (by omega) ?_;rintro _ ⟨j,acc,Y,H,G,rfl⟩ C K;show ∃v e,aj.af (decide ((j:Int)<8)) (aj.ae (XO t y (j:Int)) _) (some (acc,0,()))=_/\_;by_cases h:j<8
 .have⟨v,e,V,R⟩:=arp (k:=(j:Int)) T hl ho;rw[eG (by omega),ai V];show ∃W e',aj.af (e.1 != 0) _ (aj.bc (acc.length+1) 16 (C (i64.wrap ((j:Int)+1),acc++[v],())))=_/\_;by_cases J:e.1=0
  .rw[az (by simpa using J),da,cP j];refine K _ ⟨j+1,acc++[v],by omega,by rw[aq,H];rfl,λw F=>?_,rfl⟩ (by omega);rcases aQ.1 F with F|F
   .exact G w F
   .simp only[ay]at F;subst F;exact R
  .rw[aT (by simpa using J)];exact⟨_,_,rfl,by simp,by simp⟩
 .rw[cV (by omega)];exact⟨_,_,rfl,G,by omega⟩
theorem arq(a b):∃n,S7 a b=some n:=by
 show ∃n,tN aj a b=_;unfold tN
 have c2:∀x y:Int,∃n,L' x y=some n:=λx y=>by
  show ∃n,oq aj x y=_;unfold oq;rw[ai (show JN x=some (x != x)from rfl),ai (show JN y=some (y != y)from rfl),az (by simp),az (by simp)];by_cases h:x<y
  .rw[aT (ap h)];exact⟨_,rfl⟩
  .rw[az (an h)];by_cases j:y<x
   .rw[aT (ap j)];exact⟨_,rfl⟩
   .rw[az (an j)];exact⟨_,rfl⟩
 have G:∀x y:Int,∃n,Ma x y=some n:=λx y=>by
  show ∃n,ot aj x y=_;unfold ot;rw[ai (show JO x=some (x != x)from rfl),ai (show JO y=some (y != y)from rfl),az (by simp),az (by simp)];by_cases h:x<y
  .rw[aT (ap h)];exact⟨_,rfl⟩
  .rw[az (an h)];by_cases j:y<x
   .rw[aT (ap j)];exact⟨_,rfl⟩
   .rw[az (an j)];exact⟨_,rfl⟩
 obtain⟨n,F⟩:=c2 a.1 b.1;obtain⟨m,j⟩:=G a.2.1 b.2.1;obtain⟨r,C⟩:=axm [n,m] (by simp);rw[ai F,ai j,ai C];exact⟨_,rfl⟩
theorem aog{l}(hl:l.length<=1000)(H:∀w∈l,EW w):∃v e,UC l=some (v,e)/\EW v:=by
 show ∃v e,B8 aj l=_/\_;have z:EW ((0,0,()):bF):=by unfold EW;decide
 refine oY (X:=Int×Int×Int×Int×Unit) (β:=bF×Int×Unit) (λo=>∃v e,o=some (v,e)/\EW v) (λz=>l.length+1-z.2.1.toNat) (λz=>∃(j:Nat) (a:Int) (w:bF),j<=l.length/\EW w/\z=(a,(j:Int),w)) ⟨0,-1,(0,0,()),br _,z,rfl⟩ (by omega) ?_;rintro _ ⟨j,a,w,R,C,rfl⟩ y K;show ∃v e,aj.af (decide ((j:Int)<(l.length:Int))) _ (some (w,a,()))=_/\_;by_cases h:j<l.length
 .rw[dx h,wA];show ∃v e,aj.aH l (j:Int) _=_/\_;rw[bO h];obtain⟨n,J⟩:=arq l[j] w;show ∃v e,aj.ae (S7 l[j] w) _=_/\_;rw[ai J];have st:∀b w',EW w'->∃v e,y (b,i64.wrap ((j:Int)+1),w')=some (v,e)/\EW v:=by intro b w' F;rw[cP j];exact K _ ⟨j+1,b,w',by omega,F,rfl⟩ (by dsimp only;omega)
  by_cases G:0<n
  .rw[aT (ap G)];exact st _ _ (H _ (aE h))
  .rw[az (an G)];exact st _ _ C
 .rw[cV (by omega)];exact⟨_,_,rfl,C⟩
theorem aja{t}{j}(T:OkT t)(hl:j.length<=1000)(ho:Vm j):∃v e,P8 t j=some (v,e)/\cz v:=by
 show ∃v e,vg aj t j=_/\_;unfold vg;have⟨v,e,J,H,R⟩:=aiZ T hl ho;rw[ai J];by_cases y:e.1=0
 .show ∃F K,aj.af (e.1 != 0) _ (aj.ae (UC v) _)=_/\_;have⟨w,V,g1,C⟩:=aog (l:=v) (by omega) H;rw[iD y,ai g1]
  have G:MF w=some (cW (wv w)):=by
   have:=JD (anA w C)
   rwa [aqW w C]at this
  rw[ai G];exact⟨_,_,rfl,O1 _⟩
 .show ∃F K,aj.af (e.1 != 0) _ _=_/\_;rw[aT (by simpa using y)];exact⟨_,_,rfl,by decide⟩
theorem aoh{f}(h:∀k∈ks,cz (f k)):Vm (T6 f):=by intro x j;unfold T6 at j;obtain⟨k,y,rfl⟩:=aK.1 j;exact h k (aI.1 y).1
theorem aoi{l}{u}(hl:l.length<=1000000):ns l u=some (decide (0<=zb (λx=>decide (u=x)) l)):=by show cT aj l u=_;unfold cT;rw[ai (ar5 hl)]
theorem UD{a}(h:a.2.2.2.1.length<=1000):∃l,aeq a=some l/\l.length<=1000:=by
 show ∃l,rj aj a=_/\_;unfold rj;by_cases j:a.2.2.1=2
 .rw[aT (by simpa using j),ai (show UE a=some (a.1,0,())from rfl)];exact⟨_,rfl,by simp⟩
 .rw[az (by simpa using j),ai (show wZ a=some (bW a)from xD h)];exact⟨_,rfl,Ep h⟩
theorem abD{a}{u}(h:a.2.2.2.1.length<=1000):∃l,UF a u=some l/\l.length<=1000:=by
 show ∃l,uc aj a u=_/\_;unfold uc;have⟨l,y,C⟩:=UD h;rw[ai y,ai (aoi (by omega))];cases decide (0<=zb (λx=>decide (u=x)) l)with
 |false=>exact⟨_,rfl,by simp⟩
 |true=>
  rw[az (show(!true)=false from rfl)];by_cases j:a.2.2.1=2
  .rw[aT (by simpa using j),ai (show wZ a=some (bW a)from xD h)];exact⟨_,rfl,Ep h⟩
  .rw[az (by simpa using j)];exact⟨_,rfl,by simp⟩
theorem avi{l}{us}(hb:okB l)(Y:us.length<=1000):∃v e,aoj l us=some (v,e)/\(e.1=0->Vm v/\v.length<=8):=by
 show ∃v e,D5 aj l us=_/\_;unfold D5;rw[ai (Gc hb)];by_cases G:sH l=true
 .rw[G,az (by rfl)];refine oY (X:=Int×List (List ar)×Unit) (β:=List ar×Int×Unit) (λo=>∃v e,o=some (v,e)/\(e.1=0->Vm v/\v.length<=8)) (λz=>us.length+1-z.1.toNat) (λz=>∃(j:Nat) (acc:List (List ar)),j<=us.length/\acc.length=j/\(∀w∈acc,Vm w/\w.length<=1000)/\z=((j:Int),acc,())) ⟨0,[],br _,rfl,by simp,rfl⟩ (by omega) ?_;rintro _ ⟨j,acc,hj,H,y,rfl⟩ C K;show ∃v e,aj.af (decide ((j:Int)<(us.length:Int))) (aj.aH us (j:Int) _) (aj.ae (agw acc) _)=_/\_;by_cases h:j<us.length
  .rw[dx h,bO h,ai (RZ hb)];have⟨o1,W⟩:=NN hb us[j];show ∃v e,aj.bc (acc.length+1) 24 (C (i64.wrap ((j:Int)+1),acc++[ql l us[j]],()))=_/\_;rw[da,cP j];refine K _ ⟨j+1,_,by omega,by rw[aq,H];rfl,λw F=>?_,rfl⟩ (by omega);rcases aQ.1 F with F|F
   .exact y w F
   .simp only[ay]at F;subst F;exact⟨o1,by omega⟩
  .rw[cV (by omega),ai (adF (by omega) (λv hv=>(y v hv).2) λv hv=>(y v hv).1)];refine⟨(vQ acc).1,(vQ acc).2,rfl,λJ=>?_⟩;have⟨_,V,R,_⟩:=Rs (l:=acc) J;rw[V];exact⟨aoh R,T7 _⟩
 .have G:sH l=false:=by simpa using G
  rw[G,aT (by rfl)];exact⟨_,_,rfl,λh=>absurd h (by decide)⟩
theorem agR{t}{l}{a}{u}(T:OkT t)(hb:okB l)(h:a.2.2.2.1.length<=1000):∃v e,agS t l a u=some (v,e)/\cz v:=by
 show ∃v e,D6 aj t l a u=_/\_;unfold D6;have z:cz 0:=by decide
 rw[ai (Gc hb)];cases sH l with
 |false=>exact⟨_,_,rfl,z⟩
 |true=>
  rw[az (show(!true)=false from rfl)];have⟨us,H,V⟩:=UD h;rw[ai H,ai (aoi (by omega))];cases decide (0<=zb (λx=>decide (u=x)) us)with
  |false=>exact⟨_,_,rfl,z⟩
  |true=>
   rw[az (show(!true)=false from rfl)];have⟨ps,G,F⟩:=abD (u:=u) h;rw[ai G];have⟨v,e,C,y⟩:=avi hb F;rw[ai C];show ∃R Y,aj.af (e.1 != 0) (some (0,e)) (aj.ae (P8 t v) _)=_/\_;by_cases j:e.1=0
   .have⟨g1,W⟩:=y j;have⟨m,X,K,J⟩:=aja T (show v.length<=1000 by omega) g1;rw[iD j,ai K];exact⟨_,_,rfl,J⟩
   .rw[fT j];exact⟨_,_,rfl,z⟩
theorem aok{t w s}(H:0<=t)(G:0<=w)(y:cz t)(j:w<=s)(hs:0<s)(J:cz s):H2 t w s=some (t*w / s,t*w % s,0,()):=by
 show qX aj t w s=_;unfold qX;have C:=J;unfold cz at C y;have K:=jf H G;have a2:t*w<=9223372036854775807*9223372036854775807:=vA (by omega) (by omega) G (by omega);have Y:t*w / s<=t:=by have:t*w / s<t+1:=i6 hs (by have:=eI j H;rw[n2];omega);omega
 have R:=fR K (gg hs);have X:=Et (a:=t) (b:=w) (by unfold cz;omega) (by unfold cz;omega);have W:=Yf (m:=t*w) (d:=s) K (by unfold ec;omega) hs J (by omega);rw[ai X,ai W];have F:cz (t*w / s):=by unfold cz;omega
 have V:JA (wide (t*w / s)) 0=some (t*w / s,0,()):=by rw[Dn (uA F),jy F]
 rw[ai V,az (by rfl)]
theorem aol{a}{q:Int}(y:ly a)(H:cz q):∃v e,abE a q=some (v,e)/\cz v:=by
 show ∃v e,vh aj a q=_/\_;unfold vh;have z:cz 0:=by decide
 rw[ai (NV y H),wA,ai (NU y),aT (by rfl)];have⟨_,⟨p1,p2⟩,V,R⟩:=y;by_cases F:q<0
 .rw[ap F];exact⟨_,_,rfl,z⟩
 .rw[an F];show ∃v e,aj.af false _ (aj.af ((cW (q*ck a)).2.1 != 0) _ (aj.ae (H2 (cW (q*ck a)).1 (i64.wrap (10000-a.2.2.1)) 10000) _))=_/\_;rw[az rfl];by_cases C:(cW (q*ck a)).2.1=0
  .have⟨J,G⟩:=N0 C;have j:0<=q*ck a:=jf (by omega) p1;rw[iD C,J,bG (10000-a.2.2.1) (by omega),ai (aok j (by omega) G (by omega) (by omega) (by decide))];refine⟨_,_,rfl,?_⟩;have q1:0<=q*ck a*(10000-a.2.2.1) / 10000:=fR (jf j (by omega)) (by omega);have K:q*ck a*(10000-a.2.2.1) / 10000<q*ck a+1:=i6 (by omega) (by have:=eI (show 10000-a.2.2.1<=10000 by omega) j;rw[n2];omega);unfold cz at G ⊢;omega
  .rw[fT C];exact⟨_,_,rfl,z⟩
theorem XP:∀{l:List fI} {k:Int},(fk l k).2.1=true->(fk l k).1∈l
 |[],_,h=>by unfold fk at h;exact absurd h (by decide)
 |a::l,k,h=>by
  unfold fk at h ⊢;by_cases e:a.1=k
  .rw[ah e];exact bU
  .rw[ag e]at h ⊢;exact bd _ (XP h)
theorem ajb{y l}(W:∀a∈y,ly a)(hl:y.length<=1000)(J:tu l):∃v e,CY y l=some ((v,e),())/\(∀x∈v,cz x)/\v.length<=20:=by
 show ∃v e,iQ aj y l=_/\_;unfold iQ;have Y:=J.1;rw[ai (Sc (by omega))];cases LD l with
 |false=>exact⟨_,_,rfl,by simp,by simp⟩
 |true=>
  rw[az (show(!true)=false from rfl)];refine oY (X:=Int×List Int×Unit) (β:=(List Int×Int×Unit)×Unit) (λo=>∃v e,o=some ((v,e),())/\(∀x∈v,cz x)/\v.length<=20) (λz=>l.length+1-z.1.toNat) (λz=>∃(j:Nat) (acc:List Int),j<=l.length/\acc.length=j/\(∀x∈acc,cz x)/\z=((j:Int),acc,())) ⟨0,[],br _,rfl,by simp,rfl⟩ (by omega) ?_;rintro _ ⟨j,acc,hj,H,G,rfl⟩ C V;show ∃v e,aj.af (decide ((j:Int)<(l.length:Int))) (aj.aH l (j:Int) _) (some ((acc,0,()),()))=_/\_;by_cases h:j<l.length
  .rw[dx h,bO h,ai (LF hl)];cases R:(fk y l[j].1).2.1 with
   |false=>exact⟨_,_,rfl,by simp,by simp⟩
   |true=>
    have⟨v,e,h1,h2⟩:=aol (W _ (XP R)) (J.2 _ (aE h));rw[az (show(!true)=false from rfl),ai h1];show ∃v' e',aj.af (e.1 != 0) _ (aj.bc (acc.length+1) 8 (C (i64.wrap ((j:Int)+1),acc++[v],())))=_/\_;by_cases K:e.1=0
    .rw[az (by simpa using K),da,cP j];refine V _ ⟨j+1,_,by omega,by rw[aq,H];rfl,λw F=>?_,rfl⟩ (by omega);rcases aQ.1 F with F|F
     .exact G w F
     .simp only[ay]at F;subst F;exact h2
    .rw[aT (by simpa using K)];exact⟨_,_,rfl,by simp,by simp⟩
  .rw[cV (by omega)];exact⟨_,_,rfl,G,by omega⟩
theorem aom{j l}{c:Int}(H:∀a∈j,ly a)(hl:j.length<=1000)(F:tu l)(G:cz c):∃v e,abF j l c=some (v,e)/\cz v:=by
 show ∃v e,vj aj j l c=_/\_;unfold vj;have⟨v,e,K,J,V⟩:=ajb H hl F;rw[ai K];show ∃R W,aj.af (e.1 != 0) (some (0,e)) (aj.bc (v.length+1) 8 (aj.ae (H5 (v++[c])) _))=_/\_;by_cases C:e.1=0
 .rw[az (by simpa using C),da,ai (tv (l:=v++[c]) (λx y=>by
   rcases aQ.1 y with y|y
   .exact J x y
   .simp only[ay]at y;subst y;exact G) (by rw[aq];simp;omega))]
  exact⟨_,_,rfl,O1 _⟩
 .rw[aT (by simpa using C)];exact⟨_,_,rfl,by decide⟩
structure GD(s:Bd):Prop where
 a:∀a∈s.1,ly a
 al:s.1.length<=1000
 t:OkT s.2.1
 b:okB s.2.2.1
 f:ta s.2.2.2.1
 fl:s.2.2.2.1.length<=1000
 h:lk s.2.2.2.2.1
theorem ajc{s}(O:GD s):∃b,O3 s=some b:=by
 show ∃b,nF aj s=_;unfold nF;rw[ai (Gc O.b)];cases sH s.2.2.1 with
 |false=>exact⟨_,rfl⟩
 |true=>
  rw[aT rfl,ai (æ (by have:=O.fl;omega))];cases wy s.2.2.2.1 with
  |false=>exact⟨_,rfl⟩
  |true=>rw[aT rfl,ai (JG O.h)];exact⟨_,rfl⟩
theorem N8{s}{a}{u}(O:GD s)(h:a.2.2.2.1.length<=1000):∃v e,EE s a u=some (v,e)/\cz v:=by
 show ∃v e,l8 aj s a u=_/\_;unfold l8;have z:cz 0:=by decide
 obtain⟨b,hb⟩:=ajc O;rw[ai hb];cases b with
 |false=>exact⟨_,_,rfl,z⟩
 |true=>
  rw[az (show(!true)=false from rfl)];obtain⟨n,e,h1,h2⟩:=agR (u:=u) O.t O.b h;rw[ai h1];show ∃v e',aj.af (e.1 != 0) (some (0,e)) (aj.ae (UF a u) _)=_/\_;by_cases V:e.1=0
  .rw[az (by simpa using V)];obtain⟨ps,h3,h4⟩:=abD (u:=u) h;rw[ai h3];refine oY (X:=Int×List Int×List ar×Unit) (β:=Int×Int×Unit) (λo=>∃v e,o=some (v,e)/\cz v) (λz=>ps.length+1-z.1.toNat) (λz=>∃(j:Nat) (acc:List Int),j<=ps.length/\acc.length=j+1/\(∀x∈acc,cz x)/\z=((j:Int),acc,ps,())) ⟨0,[i64.wrap (0-n)],br _,rfl,λx K=>by simp only[ay]at K;subst K;have:=dR (0-n);unfold cz;rw[this];omega,rfl⟩ (by omega) ?_;rintro _ ⟨j,acc,hj,H,G,rfl⟩ C W;show ∃v e,aj.af (decide ((j:Int)<(ps.length:Int))) (aj.aH ps (j:Int) λ_=>aj.cr ps (Int.toNat (j:Int)) _) (aj.ae (H5 acc) _)=_/\_;by_cases y:j<ps.length
   .rw[dx y,bO y,ij y,ai (zg O.h),ai (Gl (by have:=O.fl;omega))];obtain⟨v,J,h5,Y⟩:=aom (c:=dr s.2.2.2.1 ps[j]) O.a O.al (p9 O.h.1 ps[j]) (IE O.f _);rw[ai h5];show ∃v' e',aj.af (J.1 != 0) (some (0,J)) (aj.bc (acc.length+1) 8 (C (i64.wrap ((j:Int)+1),acc++[v],ps,())))=_/\_;by_cases R:J.1=0
    .rw[az (by simpa using R),da,cP j];refine W _ ⟨j+1,_,by omega,by rw[aq,H];rfl,λw F=>?_,rfl⟩ (by omega);rcases aQ.1 F with F|F
     .exact G w F
     .simp only[ay]at F;subst F;exact Y
    .rw[aT (by simpa using R)];exact⟨_,_,rfl,z⟩
   .rw[cV (by omega),ai (tv G (by omega))];exact⟨_,_,rfl,O1 _⟩
  .rw[aT (by simpa using V)];exact⟨_,_,rfl,z⟩
theorem aon {s} {l} (O : GD s) (h : ∀ a ∈ l, a.2.2.2.1.length <= 1000) (hl : l.length <= 1000) : ∃ v e, P9 s l = some (v, e) /\ v.length <= 1000 * l.length /\ ta v := by
  show ∃ v e, rN aj s l = _ /\ _
  unfold rN
  refine oY (X := Int × List aZ × Unit) (β := List aZ × Int × Unit) (λo => ∃ v e, o = some (v, e) /\ v.length <= 1000 * l.length /\ ta v) (λz => l.length + 1 - z.1.toNat) (λz => ∃ (j : Nat) (acc : List aZ), j <= l.length /\ acc.length <= 1000 * j /\ ta acc /\ z = ((j : Int), (acc, ()))) ⟨0, [], br _, by simp, (λx C => by cases C), rfl⟩ (by  omega) ?_
  rintro _ ⟨j, acc, hj, R, K, rfl⟩ J ha
  show ∃ v e, aj.af (decide ((j : Int) < (l.length : Int))) (aj.aH l (j : Int) _) (some (acc, (0, ()))) = _ /\ _
  by_cases F : j < l.length
  · rw [dx F, bO F]
    have hm := h _ (aE F)
    obtain ⟨us, h1, h2⟩ := UD hm
    rw [ai h1]
    refine oY (X := Int × List aZ × List ar × Unit) (β := List aZ × Int × Unit) (λo => ∃ v e, o = some (v, e) /\ v.length <= 1000 * l.length /\ ta v) (λz => us.length + 1 - z.1.toNat) (λz => ∃ (k : Nat) (a2 : List aZ), k <= us.length /\ a2.length <= 1000 * j + k /\ ta a2 /\ z = ((k : Int), (a2, (us, ())))) ⟨0, acc, br _, by omega, K, rfl⟩ (by  omega) ?_
    rintro _ ⟨k, a2, hk, hkl, H, rfl⟩ y V
    show ∃ v e, aj.af (decide ((k : Int) < (us.length : Int))) _ (J (i64.wrap ((j : Int) + 1), (a2, ()))) = _ /\ _
    by_cases G : k < us.length
    · rw [dx G, wA]
      show ∃ v e, aj.aH us (k : Int) (λ_ => aj.cr us (Int.toNat (k : Int)) _) = _ /\ _
      rw [bO G, ij G]
      obtain ⟨n, e, h3, h4⟩ := N8 (u := us[k]) O hm
      rw [ai h3]
      have st : ∀ a3 : List aZ, a3.length <= 1000 * j + (k + 1) -> ta a3 -> ∃ v e, y (i64.wrap ((k : Int) + 1), (a3, (us, ()))) = some (v, e) /\ v.length <= 1000 * l.length /\ ta v := by
        intro a3 g1 g2
        rw [cP k]
        exact V _ ⟨k + 1, a3, by omega, g1, g2, rfl⟩ (by  omega)
      show ∃ v e', aj.af (e.1 != 0) (some ([], e)) (aj.af (decide (n < 0)) (aj.bc (a2.length + 1) 24 (y (i64.wrap ((k : Int) + 1), (a2 ++ [(us[k], (n, ()))], (us, ()))))) (y (i64.wrap ((k : Int) + 1), (a2, (us, ()))))) = _ /\ _
      by_cases Y : e.1 = 0
      · rw [az (by simpa using Y)]
        by_cases W : n < 0
        · rw [aT (ap W), da]
          refine st _ (by rw [aq]; simp; omega) λx C => ?_
          rcases aQ.1 C with C | C
          · exact H x C
          · simp only [ay] at C; subst C; exact h4
        · rw [az (an W)]; exact st _ (by omega) H
      · rw [aT (by simpa using Y)]; exact ⟨_, _, rfl, by simp, (λx C => by cases C)⟩
    · rw [az (an (by omega)), cP j]
      exact ha _ ⟨j + 1, a2, by omega, by omega, H, rfl⟩ (by show _ - ((j + 1 : Nat) : Int).toNat < _ - ((j : Nat) : Int).toNat; omega)
  · rw [az (an (by omega))]
    exact ⟨_, _, rfl, by have : j = l.length := by omega
                         subst this; exact R, K⟩
theorem akO{a}{u}(h:a.2.2.2.1.length<=1000):∃v e,ajd a u=some (v,e):=by
 show ∃v e,Be aj a u=_;unfold Be;rw[ai (Js h)];cases rB a u with
 |false=>exact⟨_,_,rfl⟩
 |true=>
  rw[az (show(!true)=false from rfl)];by_cases j:a.2.2.1=2
  .rw[aT (by simpa using j),ai (show UE a=some (a.1,0,())from rfl)];exact⟨_,_,rfl⟩
  .rw[az (by simpa using j)];exact⟨_,_,rfl⟩
abbrev gB(d:aM):Int:=d.1
abbrev fm(d:aM):List bB:=d.2.1
abbrev fK(d:aM):List bR:=d.2.2.1
abbrev iR(d:aM):List bu:=d.2.2.2.1
abbrev bK(d:aM):List aN:=d.2.2.2.2.1
abbrev jC(d:aM):List cd:=d.2.2.2.2.2.1
abbrev dU(d:aM):List cU:=d.2.2.2.2.2.2.1
abbrev cC(d:aM):List dk:=d.2.2.2.2.2.2.2.1
abbrev dq(d:aM):List cj:=d.2.2.2.2.2.2.2.2.1
abbrev fW(d:aM):List cj:=d.2.2.2.2.2.2.2.2.2.1
abbrev eZ(d:aM):List aZ:=d.2.2.2.2.2.2.2.2.2.2.1
abbrev dJ(d:aM):List bp:=d.2.2.2.2.2.2.2.2.2.2.2.1
abbrev bJ(d:aM):Int:=d.2.2.2.2.2.2.2.2.2.2.2.2.1
abbrev FM(d:aM):Int:=d.2.2.2.2.2.2.2.2.2.2.2.2.2.1
abbrev sw(d:aM):Int:=d.2.2.2.2.2.2.2.2.2.2.2.2.2.2.1
abbrev wa(d:aM):Int:=d.2.2.2.2.2.2.2.2.2.2.2.2.2.2.2.1
abbrev tK(d:aM):Int:=d.2.2.2.2.2.2.2.2.2.2.2.2.2.2.2.2.1
abbrev axq(d:aM):Int:=d.2.2.2.2.2.2.2.2.2.2.2.2.2.2.2.2.2.1
abbrev axr(d:aM):Int:=d.2.2.2.2.2.2.2.2.2.2.2.2.2.2.2.2.2.2.1
abbrev ju(d:aM):Int:=d.2.2.2.2.2.2.2.2.2.2.2.2.2.2.2.2.2.2.2.1
abbrev iM(d:aM):Int:=d.2.2.2.2.2.2.2.2.2.2.2.2.2.2.2.2.2.2.2.2.1
abbrev KG(d:aM):Int:=d.2.2.2.2.2.2.2.2.2.2.2.2.2.2.2.2.2.2.2.2.2.1
abbrev uI(d:aM):Int:=d.2.2.2.2.2.2.2.2.2.2.2.2.2.2.2.2.2.2.2.2.2.2.1
abbrev dv(d:aM):Int:=d.2.2.2.2.2.2.2.2.2.2.2.2.2.2.2.2.2.2.2.2.2.2.2.1
abbrev ln(d:aM):Int:=d.2.2.2.2.2.2.2.2.2.2.2.2.2.2.2.2.2.2.2.2.2.2.2.2.1
abbrev tw(d:aM):List Int:=d.2.2.2.2.2.2.2.2.2.2.2.2.2.2.2.2.2.2.2.2.2.2.2.2.2.1
abbrev iS(d:aM):Int:=d.2.2.2.2.2.2.2.2.2.2.2.2.2.2.2.2.2.2.2.2.2.2.2.2.2.2.1
abbrev yY(d:aM):List dp:=d.2.2.2.2.2.2.2.2.2.2.2.2.2.2.2.2.2.2.2.2.2.2.2.2.2.2.2.2.1
abbrev sj(d:aM):List dY:=d.2.2.2.2.2.2.2.2.2.2.2.2.2.2.2.2.2.2.2.2.2.2.2.2.2.2.2.2.2.1
abbrev aY(d:aM):ar:=(wa d,tK d,())
abbrev cJ(d:aM):ar:=(axq d,axr d,())
abbrev bY(d:aM):aU:=xp d ()
def L7(d:aM):Int:=if FM d=0 then 0 else match mY (fm d) (FM d)with|none=>14|some m=>if m.2.2.1=0 then 0 else 15
theorem ahN{d}(hl:(fm d).length<=1000000):MV d=some (L7 d,d):=by
 show mC aj d=_;unfold mC L7;refine dM (λh=>?_) λh=>?_
 .rw[ah h]
 .rw[ag h,jc,ai (tJ hl)];cases mY (fm d) (FM d)with
  |none=>rfl
  |some m=>refine zG (show(!true)=false from rfl) ?_;rw[ai (MO m)]
def CZ(d:aM):dk:=match Aj (cC d) (uI d)with|some g=>g|none=>anT
theorem abG{d}(hl:(cC d).length<=1000000):O4 d=some (CZ d,d):=by show kX aj d=_;unfold kX CZ;rw[jc,ai (Ut hl)];cases Aj (cC d) (uI d)<;>rfl
def O5(d:aM):cU:=match Ak (dU d) (uI d)with|some g=>g|none=>asD
theorem aoo{d}(hl:(dU d).length<=1000000):O6 d=some (O5 d,d):=by show nG aj d=_;unfold nG O5;rw[jc,ai (ab2 hl)];cases Ak (dU d) (uI d)<;>rfl
theorem IK{d}{u}(h:qP (bK d)):QU d u=some (qx (bK d) u==FM d,d):=by show gR aj d u=_;unfold gR;rw[ai (L9 h)]
def Hn(d:aM)(id:Int):Bool:=match jj (bK d) id with|some a=>a.2.1==FM d|none=>false
theorem aer{d}{id:Int}(h:qP (bK d))(hs:X5 (bK d)):KI d id=some (Hn d id,d):=by show lF aj d id=_;unfold lF Hn;rw[ai (HY h hs)];cases jj (bK d) id<;>rfl
def Vn(d:aM)(u:ar):Int:=if qx (bK d) u=0 then 11 else 0
theorem WS{d}{u}(h:qP (bK d)):C0 d u=some (Vn d u,d):=by
 show jF aj d u=_;unfold jF Vn;rw[ai (L9 h)];refine dM (λj=>?_) λj=>?_
 .rw[ah j]
 .rw[ag j]
def Dv(d:aM)(u:ar):bB:=match mY (fm d) (qx (bK d) u)with|some m=>m|none=>BI
theorem MW{d}{u}(h:qP (bK d))(hl:(fm d).length<=1000000):D7 d u=some (Dv d u,d):=by
 show iV aj d u=_;unfold iV Dv;have e:(aj.ae (py aj (bK d) u) λv4=>aj.ae (iC aj (fm d) v4) λj=>some (j.1,d))=some ((match mY (fm d) (qx (bK d) u)with|some m=>m|none=>BI),d):=by rw[ai (L9 h),ai (tJ hl)];cases mY (fm d) (qx (bK d) u)<;>rfl
 refine jX ?_ e;rw[ai (L9 h),jc,ai (tJ hl)];cases mY (fm d) (qx (bK d) u)<;>rfl
def pv(d:aM):List ar->Int
 |[]=>0
 |u::l=>if Vn d u=0 then(if(Dv d u).2.2.1=0 then pv d l else 15)else Vn d u
theorem BR{d}{l}(h:qP (bK d))(hl:(fm d).length<=1000000)(R:l.length<=1000):tf d l=some (pv d l,d):=by
 show gw aj d l=_;refine gQ (l:=l) (S:=aM) (by omega) (λ_ z=>z=d) (λt _=>some (pv d t,d)) rfl ?_ ?_
 .rintro _ j rfl;refine F8 ?_;rfl
 .intro i hi z J j K;have F:=J.symm;subst F;refine HX hi ?_;rw[bO hi];refine vY (WS h) ?_;show aj.af (Vn d l[i] != 0) (some (Vn d l[i],d)) (aj.ae (D7 d l[i]) λC=>aj.ae (qU C.1) λH=>aj.af (H != 0) (some (H,C.2)) (j (IntKind.i64.wrap ((i:Int)+1),C.2)))=some ((if Vn d l[i]=0 then(if(Dv d l[i]).2.2.1=0 then pv d (l.drop (i+1))else 15)else Vn d l[i]),d);refine i7 (λG=>?_) λG=>?_
  .rw[ah G,ai (MW h hl),ai (MO _)];by_cases y:(Dv d l[i]).2.2.1=0
   .rw[ah y,ah y,az (by rfl),cP i];exact K d rfl
   .rw[ag y,ag y,aT (by rfl)]
  .rw[ag G]
def lC(d:aM):bB×Int×Unit:=match mY (fm d) (sw d)with|some m=>(m,0,())|none=>(BI,11,())
theorem zL{d}(hl:(fm d).length<=1000000):B9 d=some (lC d,d):=by show fX aj d=_;unfold fX lC;rw[jc,ai (tJ hl)];cases mY (fm d) (sw d)<;>rfl
def sx(d:aM)(id:Int):bR×Int×Unit:=match nv (fK d) id with|some m=>(m,0,())|none=>(ajw,11,())
theorem RN{d}{id}(h:Vs (fK d)):QV d id=some (sx d id,d):=by show jr aj d id=_;unfold jr sx;have j:=h.2;rw[ai (X7 (cn j (by decide)) λi hi=>by have:=h.1 i hi;omega)];cases nv (fK d) id<;>rfl
def BF(d:aM)(u:ar):Bool:=qx (bK d) u==FM d
def UG(d:aM):Bool:=if bJ d=5\/bJ d=28\/bJ d=29 then Hn d (wa d)else if bJ d=7 then(BF d (cJ d)||BF d (aY d))else if bJ d=8\/bJ d=12\/bJ d=17\/bJ d=18\/bJ d=19\/bJ d=26\/bJ d=27 then BF d (aY d)else if bJ d=9\/bJ d=10 then BF d (CZ d).2.2.1 else if bJ d=11 then BF d (CZ d).2.1 else if bJ d=13 then BF d (O5 d).2.1 else if bJ d=20 then BF d (cJ d)else if bJ d=31 then sw d==FM d else false
theorem arr{d}(h:qP (bK d))(hs:X5 (bK d))(hg:(cC d).length<=1000000)(hb:(dU d).length<=1000000):QW d=some (UG d,d):=by
 show rO aj d=_;refine bz λk4 hk4=>?_
 have K4:k4 ()=some (BF d (CZ d).2.2.1,d):=by subst hk4;refine vY (abG hg) ?_;rw[ai (IK h)];rfl
 refine bz λC hk7=>?_
 have K7:C d=some (BF d (aY d),d):=by subst hk7;refine vY (IK h) ?_;rfl
 refine bz λG Y=>?_
 have K10:G ()=some (Hn d (wa d),d):=by subst Y;exact vY (aer h hs) rfl
 refine bz λF V=>?_
 have K22:¬(bJ d=5\/bJ d=28\/bJ d=29)->F ()=some (UG d,d):=by
  intro H;unfold UG;rw[ag H];subst V;refine dM (λh7=>?_) λh7=>?_
  .rw[ah h7,ai (IK h)];show aj.af (BF d (cJ d)) (some (true,d)) (C d)=_;cases BF d (cJ d)with
   |true=>rfl
   |false=>rw[az rfl,K7];rfl
  .rw[ag h7];refine bz λj W=>?_
   have K21:¬(bJ d=8\/bJ d=12\/bJ d=17\/bJ d=18\/bJ d=19\/bJ d=26\/bJ d=27)->j ()=some ((if bJ d=9\/bJ d=10 then BF d (CZ d).2.2.1 else if bJ d=11 then BF d (CZ d).2.1 else if bJ d=13 then BF d (O5 d).2.1 else if bJ d=20 then BF d (cJ d)else if bJ d=31 then sw d==FM d else false),d):=by
    intro y;subst W;show aj.aG _ _=_;refine bz λk20 X=>?_
    have K20:k20 ()=some ((if bJ d=11 then BF d (CZ d).2.1 else if bJ d=13 then BF d (O5 d).2.1 else if bJ d=20 then BF d (cJ d)else if bJ d=31 then sw d==FM d else false),d):=by
     subst X;refine dM (λJ=>?_) λJ=>?_
     .rw[ah J,ai (abG hg),ai (IK h)];rfl
     .rw[ag J];refine dM (λK=>?_) λK=>?_
      .rw[ah K,ai (aoo hb),ai (IK h)];rfl
      .rw[ag K];refine dM (λh3=>?_) λh3=>?_
       .rw[ah h3,ai (IK h)];rfl
       .rw[ag h3];refine dM (λh4=>?_) λh4=>?_
        .rw[ah h4]
        .rw[ag h4]
    refine dM (λJ=>?_) λJ=>?_
    .rw[pF J,ah (.inl J),K4]
    .refine dM (λK=>?_) λK=>?_
     .rw[ah (.inr K),K4]
     .rw[K20,ag (show ¬(bJ d=9\/bJ d=10)from λq=>q.elim J K)]
   generalize hR:(if bJ d=9\/bJ d=10 then BF d (CZ d).2.2.1 else if bJ d=11 then BF d (CZ d).2.1 else if bJ d=13 then BF d (O5 d).2.1 else if bJ d=20 then BF d (cJ d)else if bJ d=31 then sw d==FM d else false)=R at K21 ⊢;show aj.af (bJ d==8) (aj.af (bJ d==8) (C d) (j ())) (aj.af (bJ d==12) (aj.af (bJ d==12) (C d) (j ())) (aj.af (bJ d==17) (aj.af (bJ d==17) (C d) (j ())) (aj.af (bJ d==18) (aj.af (bJ d==18) (C d) (j ())) (aj.af (bJ d==19) (aj.af (bJ d==19) (C d) (j ())) (aj.af (bJ d==26) (aj.af (bJ d==26) (C d) (j ())) (aj.af (bJ d==27) (C d) (j ())))))))=_;by_cases y:bJ d=8\/bJ d=12\/bJ d=17\/bJ d=18\/bJ d=19\/bJ d=26\/bJ d=27
   .rw[ah y,K7];rcases y with q|q|q|q|q|q|q<;>rw[q]<;>rfl
   .rw[ag y,K21 y];have e:∀n:Int,bJ d≠n->(bJ d==n)=false:=λn hn=>by simpa using hn
    rw[e 8 (λq=>y (.inl q)),e 12 (λq=>y (.inr (.inl q))),e 17 (λq=>y (.inr (.inr (.inl q)))),e 18 (λq=>y (.inr (.inr (.inr (.inl q))))),e 19 (λq=>y (.inr (.inr (.inr (.inr (.inl q)))))),e 26 (λq=>y (.inr (.inr (.inr (.inr (.inr (.inl q))))))),e 27 (λq=>y (.inr (.inr (.inr (.inr (.inr (.inr q)))))))];rfl
 show aj.af (bJ d==5) (aj.af (bJ d==5) (G ()) (F ())) (aj.af (bJ d==28) (aj.af (bJ d==28) (G ()) (F ())) (aj.af (bJ d==29) (G ()) (F ())))=_;by_cases H:bJ d=5\/bJ d=28\/bJ d=29
 .have em:UG d=Hn d (wa d):=by unfold UG;rw[ah H]
  rw[em,K10];rcases H with q|q|q<;>rw[q]<;>rfl
 .rw[K22 H];have e:∀n:Int,bJ d≠n->(bJ d==n)=false:=λn hn=>by simpa using hn
  rw[e 5 (λq=>H (.inl q)),e 28 (λq=>H (.inr (.inl q))),e 29 (λq=>H (.inr (.inr q)))];rfl
def GP(d:aM):Int:=if FM d=0\/UG d=true then 0 else 14
theorem acT{d}(h:qP (bK d))(hs:X5 (bK d))(C:(cC d).length<=1000000)(hb:(dU d).length<=1000000):KK d=some (GP d,d):=by
 show lG aj d=_;unfold lG GP;refine bz λF j=>?_
 refine dM (λy=>?_) λy=>?_
 .rw[ah (.inl y)];subst j;rfl
 .rw[ai (arr h hs C hb)];cases hm:UG d with
  |true=>rw[ah (.inr rfl)];subst j;rfl
  |false=>rw[ag (show ¬(FM d=0\/false=true)from λq=>q.elim y (by decide))];subst j;rfl
def axs(d:aM)(b:List cj)(p:List aZ):aM:=U8 d (b,fW d,p,d.2.2.2.2.2.2.2.2.2.2.2)
def Jf(d:aM)(f t x:ar)(p:Int):Int×aM:=if(sx d x.1).2.1=0 then(if(atP (dq d,eZ d,()) (sx d x.1).1 f t x.2.1 p).2.1=0 then(0,axs d (atP (dq d,eZ d,()) (sx d x.1).1 f t x.2.1 p).1.1 (atP (dq d,eZ d,()) (sx d x.1).1 f t x.2.1 p).1.2.1)else((atP (dq d,eZ d,()) (sx d x.1).1 f t x.2.1 p).2.1,d))else((sx d x.1).2.1,d)
structure ak3(d:aM):Prop where
 i:Vs (fK d)
 b:okB (dq d)
 bl:(dq d).length<=64
 p:ta (eZ d)
 pl:(eZ d).length<=94
theorem aop{d}{id}(h:Vs (fK d)):(sx d id).1.2.2.2.2.1.length<=1000:=by
 unfold sx;cases j:nv (fK d) id with
 |none=>exact br _
 |some i=>exact h.1 i (abB j)
theorem asE{d}{f t x}{p:Int}(O:ak3 d)(C:cz x.2.1):Jn d f t x p=some (Jf d f t x p):=by
 show pd aj d f t x p=_;unfold pd Jf;rw[ai (RN O.i)];show aj.af ((sx d x.1).2.1 != 0) (some ((sx d x.1).2.1,d)) (aj.two (aj.ae (ag0 (dq d,eZ d,()) (sx d x.1).1 f t x.2.1 p) _))=_;by_cases h:(sx d x.1).2.1=0
 .have hl:=aop (id:=x.1) O.i;rw[iD h,ah h,jc,ai (ayx (d:=(dq d,eZ d,())) ⟨⟨O.b,O.bl⟩,O.p,O.pl⟩ (by omega) C)];refine bz λF j=>?_
  refine dM (λy=>?_) λy=>?_
  .rw[ah y];subst j;rw[y];rfl
  .rw[ag y];subst j;rfl
 .rw[fT h,ag h]
def abH(d:aM):List ar->Int
 |[]=>0
 |u::l=>if(uY (bY d) (Dv d u).1).2.1=0 then(if(Dv d u).2.1<(uY (bY d) (Dv d u).1).1 then 16 else abH d l)else(uY (bY d) (Dv d u).1).2.1
theorem aes{d}{l}(h:qP (bK d))(C:(bK d).length<=20)(hl:(fm d).length<=1000000)(hb:okB (dq d))(K:l.length<=1000):Ho d l=some (abH d l,d):=by
 show np aj d l=_;refine gQ (l:=l) (S:=aM) (by omega) (λ_ z=>z=d) (λt _=>some (abH d t,d)) rfl ?_ ?_
 .rintro _ j rfl;refine F8 ?_;rfl
 .intro i hi z H j J;have y:=H.symm;subst y;refine HX hi ?_;rw[bO hi];refine vY (MW h hl) ?_;refine vY (adS (s:=bY d) h C hb) ?_;show aj.af ((uY (bY d) (Dv d l[i]).1).2.1 != 0) (some ((uY (bY d) (Dv d l[i]).1).2.1,d)) (aj.af (decide ((Dv d l[i]).2.1<(uY (bY d) (Dv d l[i]).1).1)) (some (16,d)) (j (IntKind.i64.wrap ((i:Int)+1),d)))=some ((if(uY (bY d) (Dv d l[i]).1).2.1=0 then(if(Dv d l[i]).2.1<(uY (bY d) (Dv d l[i]).1).1 then 16 else abH d (l.drop (i+1)))else(uY (bY d) (Dv d l[i]).1).2.1),d);refine i7 (λG=>?_) λG=>?_
  .rw[ah G];refine de (λF=>?_) λF=>?_
   .rw[ah F]
   .rw[ag F,cP i];exact J d rfl
  .rw[ag G]
structure EA(d:aM):Prop extends ak3 d where
 a:qP (bK d)
 al:(bK d).length<=20
 as:X5 (bK d)
 m:(fm d).length<=1000
 ms:pY (·.1) (fm d)
 is:pY (·.1) (fK d)
 g:(dU d).length<=64
 gs:pY (·.1) (dU d)
 gi:∀x∈dU d,0<=x.1/\x.1<=1048576
 gl:∀x∈dU d,cz x.2.2.2.2.1
 v:(cC d).length<=64
 vs:pY (·.1) (cC d)
 vi:∀x∈cC d,0<=x.1/\x.1<=1048576
 vq:∀x∈cC d,cz x.2.2.2.1.2.1
 q:cz (dv d)
def Py(d:aM):Int×aM:=if pv d [aY d,cJ d]=0 then(if(sx d (ju d)).2.1=0 then(if dv d<1 then(2,d)else(if(Jf d (cJ d) (aY d) (ju d,dv d,()) (ln d)).1=0 then(abH (Jf d (cJ d) (aY d) (ju d,dv d,()) (ln d)).2 [aY d,cJ d],(Jf d (cJ d) (aY d) (ju d,dv d,()) (ln d)).2)else Jf d (cJ d) (aY d) (ju d,dv d,()) (ln d)))else((sx d (ju d)).2.1,d))else(pv d [aY d,cJ d],d)
theorem agT{d}{f t x}{p}(O:ak3 d)(h:(Jf d f t x p).1=0):okB (dq (Jf d f t x p).2)/\bK (Jf d f t x p).2=bK d/\fm (Jf d f t x p).2=fm d:=by
 unfold Jf at h ⊢;by_cases y:(sx d x.1).2.1=0
 .rw[ah y]at h ⊢;by_cases j:(atP (dq d,eZ d,()) (sx d x.1).1 f t x.2.1 p).2.1=0
  .rw[ah j];have A:=akC j;exact⟨A.bk.ok O.b (by have:=O.bl;dsimp only;omega),rfl,rfl⟩
  .rw[ag j]at h;exact absurd h j
 .rw[ag y]at h;exact absurd h y
theorem ars{d}(O:EA d):QX d=some (Py d):=by
 show pe aj d=_;unfold pe Py;have hm:=O.m;rw[ai (BR (l:=[aY d,cJ d]) O.a (by omega) (by simp))];refine i7 (λF=>?_) λF=>?_
 .rw[ah F,ai (RN O.i)];refine i7 (λy=>?_) λy=>?_
  .rw[ah y];refine de (λC=>?_) λC=>?_
   .rw[ah C]
   .rw[ag C];refine vY (asE O.toak3 O.q) ?_;by_cases j:(Jf d (cJ d) (aY d) (ju d,dv d,()) (ln d)).1=0
    .have⟨b1,H,J⟩:=agT O.toak3 j
     have same:[aY (Jf d (cJ d) (aY d) (ju d,dv d,()) (ln d)).2,cJ (Jf d (cJ d) (aY d) (ju d,dv d,()) (ln d)).2]=[aY d,cJ d]:=by
      unfold Jf;rw[ah y];by_cases G:(atP (dq d,eZ d,()) (sx d (ju d)).1 (cJ d) (aY d) (dv d) (ln d)).2.1=0
      .rw[ah G];rfl
      .rw[ag G]
     rw[iD j,ah j,same,ai (aes (by rw[H];exact O.a) (by rw[H];exact O.al) (by rw[J];omega) b1 (by simp))]
    .rw[fT j,ag j]
  .rw[ag y]
 .rw[ag F]
def axt(d:aM)(g:List dk)(n:List Int):aM:=U7 d (g,U19 d.2.2.2.2.2.2.2.2 (n,d.2.2.2.2.2.2.2.2.2.2.2.2.2.2.2.2.2.2.2.2.2.2.2.2.2.2.2.2))
def Ai(d:aM)(g:dk):Int×aM:=if(L3 (cC d) g (gB d)).2.2.1=0 then(0,axt d (L3 (cC d) g (gB d)).1 [(L3 (cC d) g (gB d)).2.1])else((L3 (cC d) g (gB d)).2.2.1,d)
theorem agU{d}{g}(O:EA d):yO d g=some (Ai d g):=by
 show mi aj d g=_;unfold mi Ai;have hv:=O.v;rw[ai (ari (by omega) O.vi)];refine bz λy j=>?_
 refine dM (λh=>?_) λh=>?_
 .rw[ah h];subst j;rw[h];rfl
 .rw[ag h];subst j;rfl
def aoq(d:aM):dk:=(0,aY d,cJ d,(ju d,dv d,()),ln d,0,0,0,())
def Pz(d:aM):Int×aM:=if pv d [aY d,cJ d]=0 then(if(sx d (ju d)).2.1=0 then(if(dv d < -1099511627776\/1099511627776<dv d)\/ln d<0\/2147483647<ln d then(2,d)else Ai d (aoq d))else((sx d (ju d)).2.1,d))else(pv d [aY d,cJ d],d)
theorem art{d}(O:EA d):MX d=some (Pz d):=by
 show mD aj d=_;unfold mD Pz;have hm:=O.m;rw[ai (BR (l:=[aY d,cJ d]) O.a (by omega) (by simp))];refine i7 (λG=>?_) λG=>?_
 .rw[ah G,ai (RN O.i)];refine i7 (λF=>?_) λF=>?_
  .rw[ah F];refine bz λJ j=>?_
   have y:J (true,())=some (2,d):=by subst j;rfl
   have K:J (false,())=some (Ai d (aoq d)):=by subst j;show aj.af false _ (aj.ae (yO d (aoq d)) _)=_;rw[az rfl,ai (agU O)]
   refine de (λc1=>?_) λc1=>?_
   .rw[y,ah (.inl (.inl c1))]
   .refine de (λc2=>?_) λc2=>?_
    .rw[y,ah (.inl (.inr c2))]
    .refine de (λH=>?_) λH=>?_
     .rw[y,ah (.inr (.inl H))]
     .by_cases C:2147483647<ln d
      .rw[ap C,y,ah (.inr (.inr C))]
      .rw[an C,K,ag (show ¬((dv d < -1099511627776\/1099511627776<dv d)\/ln d<0\/2147483647<ln d)from λq=>q.elim (λq=>q.elim c1 c2) λq=>q.elim H C)]
  .rw[ag F]
 .rw[ag G]
def BC(d:aM)(g:List dk):aM:=U7 d (g,d.2.2.2.2.2.2.2.2)
theorem Rv{α}{f}{g:α->α}(h:∀y,f (g y)=f y){l:List α}(hs:pY f l):pY f (l.map g):=by unfold pY at *;rw[hJ,show(f ∘ g)=f from funext h];exact hs
theorem afs{l}{id st}(h:(eM l id st).2.1=0):(eM l id st).1=l.map λy=>if y.1=id then SJ st y else y:=by
 unfold eM at h ⊢;cases j:Aj l id with
 |none=>rw[j]at h;exact absurd (show(11:Int)=0 from h) (by decide)
 |some g=>
  rw[j]at h;dsimp only at h ⊢;by_cases c:st<2\/5<st
  .rw[ah c]at h;exact absurd h (by decide)
  .rw[ag c]at h ⊢;by_cases e:g.2.2.2.2.2.2.2.1=1
   .rw[ah e]
   .rw[ag e]at h;exact absurd h (by decide)
theorem aft{l}{id q}(h:(yM l id q).2.1=0):∃n,l6 n/\(yM l id q).1=l.map λy=>if y.1=id then kT n y else y:=by
 unfold yM at h ⊢;cases j:Ak l id with
 |none=>rw[j]at h;exact absurd (show(11:Int)=0 from h) (by decide)
 |some g=>
  rw[j]at h;dsimp only at h ⊢;by_cases c:cz (g.2.2.2.2.1+q)/\l6 (g.2.2.2.2.1+q)
  .rw[ah c];exact⟨_,c.2,rfl⟩
  .rw[ag c]at h;exact absurd h (by decide)
theorem EA.BC{d}(O:EA d){id st:Int}(h:(eM (cC d) id st).2.1=0):EA (BC d (eM (cC d) id st).1):=by
 have e:=afs h;have F:∀y:dk,(if y.1=id then SJ st y else y).1=y.1:=λy=>by split<;>rfl
 have G:∀y:dk,(if y.1=id then SJ st y else y).2.2.2.1.2.1=y.2.2.2.1.2.1:=λy=>by split<;>rfl
 refine { O with v:=?_,vs:=?_,vi:=?_,vq:=?_ }
 .show(eM (cC d) id st).1.length<=64;rw[e,aW];exact O.v
 .show pY (·.1) (eM (cC d) id st).1;rw[e];exact Rv F O.vs
 .show ∀x∈(eM (cC d) id st).1,_;rw[e];intro x C;obtain⟨y,j,rfl⟩:=aK.1 C;rw[F];exact O.vi y j
 .show ∀x∈(eM (cC d) id st).1,_;rw[e];intro x C;obtain⟨y,j,rfl⟩:=aK.1 C;rw[G];exact O.vq y j
def Fx(d:aM)(b:List cU):aM:=U6 d (b,d.2.2.2.2.2.2.2)
theorem EA.Fx{d}(O:EA d){id q:Int}(h:(yM (dU d) id q).2.1=0):EA (Fx d (yM (dU d) id q).1):=by
 have⟨n,G,e⟩:=aft h;have F:∀y:cU,(if y.1=id then kT n y else y).1=y.1:=λy=>by split<;>rfl
 refine { O with g:=?_,gs:=?_,gi:=?_,gl:=?_ }
 .show(yM (dU d) id q).1.length<=64;rw[e,aW];exact O.g
 .rw[e];exact Rv F O.gs
 .rw[e];intro x C;obtain⟨y,j,rfl⟩:=aK.1 C;rw[F];exact O.gi y j
 .rw[e];intro x C;obtain⟨y,j,rfl⟩:=aK.1 C;by_cases c:y.1=id
  .rw[ah c];show cz n;unfold l6 at G;unfold cz;omega
  .rw[ag c];exact O.gl y j
def gOf(l:List dk)(id:Int):dk:=match Aj l id with|some g=>g|none=>anT
def Dx(d:aM)(id st:Int):Int×aM:=if(eM (cC d) id st).2.1=0 then(if(gOf (eM (cC d) id st).1 id).2.2.2.2.2.1=0 then(0,BC d (eM (cC d) id st).1)else(if(yM (dU d) (gOf (eM (cC d) id st).1 id).2.2.2.2.2.1 (gOf (eM (cC d) id st).1 id).2.2.2.1.2.1).2.1=0 then(0,Fx (BC d (eM (cC d) id st).1) (yM (dU d) (gOf (eM (cC d) id st).1 id).2.2.2.2.2.1 (gOf (eM (cC d) id st).1 id).2.2.2.1.2.1).1)else((yM (dU d) (gOf (eM (cC d) id st).1 id).2.2.2.2.2.1 (gOf (eM (cC d) id st).1 id).2.2.2.1.2.1).2.1,BC d (eM (cC d) id st).1)))else((eM (cC d) id st).2.1,d)
theorem aje{t}{id}(hl:t.length<=1000000):∃b,XJ t id=some (gOf t id,b):=by rw[Ut hl];unfold gOf;cases Aj t id<;>exact⟨_,rfl⟩
theorem axu{l}(h:∀x∈l,cz x.2.2.2.1.2.1)(id):cz (gOf l id).2.2.2.1.2.1:=by
 unfold gOf;cases j:Aj l id with
 |none=>decide
 |some g=>exact h g (cf j)
theorem aet{d}{id st}(O:EA d):Hp d id st=some (Dx d id st):=by
 show lq aj d id st=_;unfold lq Dx;have hv:=O.v;have K:=O.g;rw[ai (ab1 (by omega) O.vs)];by_cases h:(eM (cC d) id st).2.1=0
 .have F:=O.BC h;have G:(eM (cC d) id st).1.length<=64:=F.v;have⟨b,hb⟩:=aje (t:=(eM (cC d) id st).1) (id:=id) (by omega);rw[iD h,ah h,ai hb];have H:cz (gOf (eM (cC d) id st).1 id).2.2.2.1.2.1:=axu F.vq id;refine dM (λC=>?_) λC=>?_
  .rw[ah C];rfl
  .rw[ag C,ai (anZ (by omega) O.gs O.gl H)];refine bz λJ j=>?_
   refine dM (λy=>?_) λy=>?_
   .rw[ah y];subst j;rw[y];rfl
   .rw[ag y];subst j;rfl
 .rw[fT h,ag h]
theorem aru{d}{id st}(O:EA d)(h:(Dx d id st).1=0):EA (Dx d id st).2:=by
 unfold Dx at h ⊢;by_cases y:(eM (cC d) id st).2.1=0
 .rw[ah y]at h ⊢;have F:=O.BC y;by_cases C:(gOf (eM (cC d) id st).1 id).2.2.2.2.2.1=0
  .rw[ah C];exact F
  .rw[ag C]at h ⊢;by_cases j:(yM (dU d) (gOf (eM (cC d) id st).1 id).2.2.2.2.2.1 (gOf (eM (cC d) id st).1 id).2.2.2.1.2.1).2.1=0
   .rw[ah j];exact F.Fx j
   .rw[ag j]at h;exact absurd h j
 .rw[ag y]at h;exact absurd h y
def yX(st:Int):List Int->aM->Int×aM
 |[],d=>(0,d)
 |id::l,d=>if(Dx d id st).1=0 then yX st l (Dx d id st).2 else Dx d id st
theorem afv{d}{ids}{st}(O:EA d)(F:ids.length<=1000000):tc d ids st=some (yX st ids d):=by
 refine gQ (l:=ids) (S:=aM) (by omega) (λ_ z=>EA z) (λt z=>some (yX st t z)) O ?_ ?_
 .intro z j _;refine F8 ?_;rfl
 .intro i hi z y j C;refine HX hi ?_;rw[bO hi];show aj.ae (Hp z ids[i] st) _=some (if(Dx z ids[i] st).1=0 then yX st (ids.drop (i+1)) (Dx z ids[i] st).2 else Dx z ids[i] st);rw[ai (aet y)];refine i7 (λh=>?_) λh=>?_
  .rw[ah h];rw[cP i];exact C _ (aru y h)
  .rw[ag h]
def BQ(d:aM):Int×aM:=
 match Aj (cC d) (uI d)with
 |none=>(11,d)
 |some g=>if pv d [g.2.1,g.2.2.1]=0 then(
  if(eM (cC d) g.1 2).2.1=0 then(
   if(Jf (BC d (eM (cC d) g.1 2).1) g.2.1 g.2.2.1 g.2.2.2.1 g.2.2.2.2.1).1=0 then(abH (Jf (BC d (eM (cC d) g.1 2).1) g.2.1 g.2.2.1 g.2.2.2.1 g.2.2.2.2.1).2 [g.2.1,g.2.2.1],(Jf (BC d (eM (cC d) g.1 2).1) g.2.1 g.2.2.1 g.2.2.2.1 g.2.2.2.2.1).2)
   else Jf (BC d (eM (cC d) g.1 2).1) g.2.1 g.2.2.1 g.2.2.2.1 g.2.2.2.2.1)
  else((eM (cC d) g.1 2).2.1,d))
  else(pv d [g.2.1,g.2.2.1],d)
theorem ajf{d}(O:EA d):MY d=some (BQ d):=by
 show mE aj d=_;unfold mE BQ;have hv:=O.v;have hm:=O.m;rw[jc,ai (Ut (show(cC d).length<=1000000 by omega))];cases K:Aj (cC d) (uI d)with
 |none=>rfl
 |some g=>
  have F:=O.vq g (cf K);refine zG (show(!true)=false from rfl) ?_;rw[ai (BR (l:=[g.2.1,g.2.2.1]) O.a (by omega) (by simp))]
  show _=some (if pv d [g.2.1,g.2.2.1]=0 then(
   if(eM (cC d) g.1 2).2.1=0 then(
    if(Jf (BC d (eM (cC d) g.1 2).1) g.2.1 g.2.2.1 g.2.2.2.1 g.2.2.2.2.1).1=0 then(abH (Jf (BC d (eM (cC d) g.1 2).1) g.2.1 g.2.2.1 g.2.2.2.1 g.2.2.2.2.1).2 [g.2.1,g.2.2.1],(Jf (BC d (eM (cC d) g.1 2).1) g.2.1 g.2.2.1 g.2.2.2.1 g.2.2.2.2.1).2)
    else Jf (BC d (eM (cC d) g.1 2).1) g.2.1 g.2.2.1 g.2.2.2.1 g.2.2.2.2.1)
   else((eM (cC d) g.1 2).2.1,d))
  else(pv d [g.2.1,g.2.2.1],d))
  refine i7 (λG=>?_) λG=>?_
  .rw[ah G,ai (ab1 (by show(cC d).length<=1000;omega) O.vs)];by_cases y:(eM (cC d) g.1 2).2.1=0
   .have C:=O.BC y;rw[iD y,ah y];show aj.ae (Jn (BC d (eM (cC d) g.1 2).1) g.2.1 g.2.2.1 g.2.2.2.1 g.2.2.2.2.1) _=_;rw[ai (asE C.toak3 F)];by_cases j:(Jf (BC d (eM (cC d) g.1 2).1) g.2.1 g.2.2.1 g.2.2.2.1 g.2.2.2.2.1).1=0
    .obtain⟨b1,H,R⟩:=agT C.toak3 j;have J:=C.m;rw[az (by simpa using j),ah j,ai (aes (l:=[g.2.1,g.2.2.1]) (by rw[H];exact C.a) (by rw[H];exact C.al) (by rw[R];omega) b1 (by simp))]
    .rw[aT (by simpa using j),ag j]
   .rw[aT (by simpa using y),ag y]
  .rw[ag G]
def SA(d:aM)(l:List bB):aM:=(gB d,l,d.2.2)
def tL(d:aM)(m:bB):Int×aM:=if(CO (fm d) m).2.1=0 then(0,SA d (CO (fm d) m).1)else((CO (fm d) m).2.1,d)
theorem YF{d}{m}(O:EA d):Fy d m=some (tL d m):=by
 show kg aj d m=_;unfold kg tL;rw[ai (abx O.m O.ms)];refine bz λy j=>?_
 refine dM (λh=>?_) λh=>?_
 .rw[ah h];subst j;rw[h];rfl
 .rw[ag h];subst j;rfl
def zn(d:aM):Int:=if dv d<1\/(iM d=0/\KG d≠0)then 2 else 0
theorem WO(d):MZ d=some (zn d,d):=by
 show kh aj d=_;unfold kh zn;refine bz λJ j=>?_
 have G:J (true,())=some (2,d):=by subst j;rfl
 have H:J (false,())=some (0,d):=by subst j;rfl
 refine de (λC=>?_) λC=>?_
 .rw[G,ah (.inl C)]
 .refine dM (λF=>?_) λF=>?_
  .by_cases y:KG d=0
   .rw[show(KG d != 0)=false by simpa using y,H,ag (show ¬(dv d<1\/(iM d=0/\KG d≠0))from λq=>q.elim C λq=>q.2 y)]
   .rw[show(KG d != 0)=true by simpa using y,G,ah (.inr ⟨F,y⟩)]
  .rw[H,ag (show ¬(dv d<1\/(iM d=0/\KG d≠0))from λq=>q.elim C λq=>F q.1)]
def aeu(g:cU)(d:aM):dk:=(0,g.2.1,cJ d,(g.2.2.1,dv d,()),g.2.2.2.1,g.1,0,0,())
def GI(d:aM):Int×aM:=
 match Ak (dU d) (uI d)with
 |none=>(11,d)
 |some g=>if pv d [g.2.1,cJ d]=0 then(
  if(kD (dU d) g.1 (dv d)).2.1=0 then Ai (Fx d (kD (dU d) g.1 (dv d)).1) (aeu g d)else((kD (dU d) g.1 (dv d)).2.1,d))
  else(pv d [g.2.1,cJ d],d)
theorem aor{l}{id q:Int}(C:∀x∈l,cz x.2.2.2.2.1)(F:cz q)(h:(kD l id q).2.1=0):∃n,cz n/\(kD l id q).1=l.map λy=>if y.1=id then kT n y else y:=by
 unfold kD at h ⊢;cases j:Ak l id with
 |none=>rw[j]at h;exact absurd (show(11:Int)=0 from h) (by decide)
 |some g=>
  have G:=C g (cf j);rw[j]at h;dsimp only at h ⊢;by_cases c:q=0\/(g.2.2.2.2.1≠0/\decide (q<0)≠decide (g.2.2.2.2.1<0))
  .rw[ah c]at h;exact absurd h (by decide)
  .rw[ag c]at h ⊢;by_cases c2:(0<q/\g.2.2.2.2.1<q)\/(q<0/\q<g.2.2.2.2.1)
   .rw[ah c2]at h;exact absurd h (by decide)
   .rw[ag c2];refine⟨_,?_,rfl⟩;unfold cz at *;by_cases z:g.2.2.2.2.1=0
    .omega
    .have:decide (q<0)=decide (g.2.2.2.2.1<0):=by
      by_cases e:decide (q<0)=decide (g.2.2.2.2.1<0)
      .exact e
      .exact absurd (.inr ⟨z,e⟩) c
     rw[eA]at this;omega
theorem ajg{d}(O:EA d){id:Int}(h:(kD (dU d) id (dv d)).2.1=0):EA (Fx d (kD (dU d) id (dv d)).1):=by
 have⟨n,G,e⟩:=aor O.gl O.q h;have F:∀y:cU,(if y.1=id then kT n y else y).1=y.1:=λy=>by split<;>rfl
 refine { O with g:=?_,gs:=?_,gi:=?_,gl:=?_ }
 .show(kD (dU d) id (dv d)).1.length<=64;rw[e,aW];exact O.g
 .show pY (·.1) (kD (dU d) id (dv d)).1;rw[e];exact Rv F O.gs
 .show ∀x∈(kD (dU d) id (dv d)).1,_;rw[e];intro x C;obtain⟨y,j,rfl⟩:=aK.1 C;rw[F];exact O.gi y j
 .show ∀x∈(kD (dU d) id (dv d)).1,_;rw[e];intro x C;obtain⟨y,j,rfl⟩:=aK.1 C;by_cases c:y.1=id
  .rw[ah c];exact G
  .rw[ag c];exact O.gl y j
theorem aos{d}(O:EA d):O7 d=some (GI d):=by
 show nH aj d=_;unfold nH GI;have F:=O.g;have hm:=O.m;rw[jc,ai (ab2 (show(dU d).length<=1000000 by omega))];cases G:Ak (dU d) (uI d)with
 |none=>rfl
 |some g=>
  show aj.af (!true) _ (aj.ae (tf d [g.2.1,cJ d]) λj=>aj.af (j.1 != 0) (some j) (aj.ae (P6 (dU j.2) g.1 (dv j.2)) λv3=>aj.af (v3.2.1 != 0) (some (v3.2.1,j.2)) (aj.ae (yO (Fx j.2 v3.1) (aeu g j.2)) λv4=>some v4)))=some (if pv d [g.2.1,cJ d]=0 then(if(kD (dU d) g.1 (dv d)).2.1=0 then Ai (Fx d (kD (dU d) g.1 (dv d)).1) (aeu g d)else((kD (dU d) g.1 (dv d)).2.1,d))else(pv d [g.2.1,cJ d],d));rw[az (show(!true)=false from rfl),ai (BR (l:=[g.2.1,cJ d]) O.a (by omega) (by simp))];refine i7 (λC=>?_) λC=>?_
  .rw[ah C,ai (aiV (by show(dU d).length<=1000;omega) O.gs O.gl O.q)];refine i7 (λy=>?_) λy=>?_
   .rw[ah y,ai (agU (ajg O y))]
   .rw[ag y]
  .rw[ag C]
def axv(d:aM)(g:List cU)(p:List aZ)(n:List Int):aM:=U6 d (g,U3 d.2.2.2.2.2.2.2 (p,U16 d.2.2.2.2.2.2.2.2.2.2.2 (n,d.2.2.2.2.2.2.2.2.2.2.2.2.2.2.2.2.2.2.2.2.2.2.2.2.2.2.2.2)))
def SL:ar:=(0,1,())
def Vv(d:aM):cU:=(0,aY d,ju d,(KE (yN (tw d))).2.1,(KE (yN (tw d))).1,())
def UI(d:aM):Int×Int×Unit:=agQ (sx d (ju d)).1.2.1 (yN (tw d))
def GJ(d:aM):Int×aM:=if pv d [aY d]=0 then(if(sx d (ju d)).2.1=0 then(if(KE (yN (tw d))).2.2.2=0 then(if(UI d).2.1=0 then(if(GK (dU d) (Vv d)).2.2.1=0 then(if(ig (eZ d) SL (aY d) (UI d).1).2.1=0 then(0,axv d (GK (dU d) (Vv d)).1 (ig (eZ d) SL (aY d) (UI d).1).1 [(GK (dU d) (Vv d)).2.1,(KE (yN (tw d))).2.1,(UI d).1])else((ig (eZ d) SL (aY d) (UI d).1).2.1,d))else((GK (dU d) (Vv d)).2.2.1,d))else((UI d).2.1,d))else((KE (yN (tw d))).2.2.2,d))else((sx d (ju d)).2.1,d))else(pv d [aY d],d)
theorem aev{l}(h:l.length<=1000):(yN l).length<=1000:=by
 unfold yN;by_cases c:l.length % 2=0
 .rw[ah c];exact cn (Uz l) h
 .rw[ag c];exact br _
theorem avj(d):cz (UI d).1:=by
 unfold UI agQ;have z:cz 0:=by decide
 by_cases h:(KE (yN (tw d))).2.2.2=0
 .rw[ah h];by_cases j:(sx d (ju d)).1.2.1<1\/65536<(sx d (ju d)).1.2.1
  .rw[ah j];exact z
  .rw[ag j];exact O1 _
 .rw[ag h];exact z
theorem aot{d}(O:EA d)(K:(tw d).length<=1000):O8 d=some (GJ d):=by
 show nJ aj d=_;unfold nJ GJ;have hm:=O.m;have V:=O.g;have R:=O.pl;have j:=aev K;rw[ai (BR (l:=[aY d]) O.a (by omega) (by simp))];refine i7 (λJ=>?_) λJ=>?_
 .rw[ah J,ai (RN O.i)];refine i7 (λH=>?_) λH=>?_
  .rw[ah H];refine vY (ark K) ?_;rw[ai (XN j)];refine i7 (λG=>?_) λG=>?_
   .rw[ah G,ai (aro j)];show aj.af ((UI d).2.1 != 0) (some ((UI d).2.1,d)) (aj.ae (Uw (dU d) (Vv d)) _)=_;refine i7 (λF=>?_) λF=>?_
    .rw[ah F,ai (aoa (by omega) O.gi)];refine i7 (λC=>?_) λC=>?_
     .rw[ah C,ai (show xr=some SL from rfl)];show aj.ae (qV (eZ d) SL (aY d) (UI d).1) _=_;rw[ai (NO O.p (avj d) (by omega))];refine i7 (λy=>?_) λy=>?_
      .rw[ah y];rfl
      .rw[ag y]
     .rw[ag C]
    .rw[ag F]
   .rw[ag G]
  .rw[ag H]
 .rw[ag J]
def Al(d:aM):Int×aM:=if bJ d=7 then Py d else if bJ d=8 then Pz d else if bJ d=9 then BQ d else if bJ d=10 then Dx d (uI d) 3 else if bJ d=11 then Dx d (uI d) 4 else if bJ d=12 then GJ d else GI d
theorem akV{d}(O:EA d)(J:(tw d).length<=1000):O9 d=some (Al d):=by
 show nK aj d=_;unfold nK Al;refine dM (λH=>?_) λH=>?_
 .rw[ah H,ai (ars O)]
 .rw[ag H];refine dM (λG=>?_) λG=>?_
  .rw[ah G,ai (art O)]
  .rw[ag G];refine dM (λF=>?_) λF=>?_
   .rw[ah F,ai (ajf O)]
   .rw[ag F];refine dM (λC=>?_) λC=>?_
    .rw[ah C,ai (aet O)]
    .rw[ag C];refine dM (λy=>?_) λy=>?_
     .rw[ah y,ai (aet O)]
     .rw[ag y];refine dM (λj=>?_) λj=>?_
      .rw[ah j,ai (aot O J)]
      .rw[ag j,ai (aos O)]
structure OkN(d:aM):Prop extends EA d where
 ss:pY (·.1) (iR d)
 sl:(iR d).length<=1000
 n:(tw d).length<=1000
 cc:∀a∈bK d,pY (λx:Int=>x) a.2.2.2.1/\a.2.2.2.1.length<=16
def arv(d:aM)(l:List aN):aM:=U4 d (l,d.2.2.2.2.2)
def LZ(d:aM):Int:=if(lC d).2.1=0 then(if(lC d).1.2.2.1=0 then 0 else 15)else(lC d).2.1
def L1(d:aM):aN:=(wa d,sw d,uI d,[],())
def GG(d:aM):Int×aM:=if tK d=0 then(if LZ d=0 then((SG (bK d) (L1 d)).2.1,arv d (SG (bK d) (L1 d)).1)else(LZ d,d))else(2,d)
theorem aou{d}(O:EA d):wk d=some (GG d):=by
 show jG aj d=_;unfold jG GG;have hm:=O.m;refine i7 (λF=>?_) λF=>?_
 .rw[ah F,ai (zL (by omega))];refine bz λy C=>?_
  have G:∀e:Int,y (e,())=some (if e=0 then((SG (bK d) (L1 d)).2.1,arv d (SG (bK d) (L1 d)).1)else(e,d)):=by
   intro e;subst C;refine bz λJ j=>?_
   refine dM (λh=>?_) λh=>?_
   .rw[ah h,ai (are O.a O.as (br _))];subst j;rfl
   .rw[ag h];subst j;rfl
  show aj.af ((lC d).2.1==0) (aj.ae (qU (lC d).1) λH=>y (H,())) (y ((lC d).2.1,()))=_;unfold LZ;refine dM (λh=>?_) λh=>?_
  .rw[ah h,ai (MO _),G]
  .rw[ag h,G]
 .rw[ag F]
def x_(d:aM)(id:Int):bB:=match mY (fm d) id with|some m=>m|none=>BI
theorem aew{t}{id}(hl:t.length<=1000000):∃b,BJ t id=some ((match mY t id with|some m=>m|none=>BI),b):=by rw[tJ hl];cases mY t id<;>exact⟨_,rfl⟩
def Px(d:aM):Int×aM:=
 match jj (bK d) (wa d)with
 |none=>(11,d)
 |some a=>if(x_ d a.2.1).2.2.1=0 then(
  if(tx a (tK d)).2.1=0 then((SH (bK d) (tx a (tK d)).1).2.1,arv d (SH (bK d) (tx a (tK d)).1).1)else((tx a (tK d)).2.1,d))
  else(15,d)
theorem aov{a}{c}(h:a.2.2.2.1.length<=16):(tx a c).1.2.2.2.1.length<=1000:=by
 unfold tx;split
 .split
  .exact br _
  .split
   .exact br _
   .split
    .exact br _
    .split
     .exact br _
     .rw[y_];omega
 .exact br _
theorem arw{d}(O:OkN d):FN d=some (Px d):=by
 show pg aj d=_;unfold pg Px;have hm:=O.m;rw[jc,ai (HY O.a O.as)];cases G:jj (bK d) (wa d)with
 |none=>rfl
 |some a=>
  have⟨c1,c2⟩:=O.cc a (cf G);have⟨b,hb⟩:=aew (t:=fm d) (id:=a.2.1) (by omega);show aj.af (!true) _ (aj.two (aj.ae (BJ (fm d) a.2.1) λF=>aj.ae (qU F.1) λv3=>aj.af (v3 != 0) (some (v3,d)) (aj.two (aj.ae (XL a (tK d)) _))))=some (if(x_ d a.2.1).2.2.1=0 then(if(tx a (tK d)).2.1=0 then((SH (bK d) (tx a (tK d)).1).2.1,arv d (SH (bK d) (tx a (tK d)).1).1)else((tx a (tK d)).2.1,d))
  else(15,d))
  rw[az (show(!true)=false from rfl),jc,ai hb];show aj.ae (qU (x_ d a.2.1)) _=_;rw[ai (MO _)];by_cases y:(x_ d a.2.1).2.2.1=0
  .rw[ah y,ah y,az (by rfl),jc,ai (aod (by omega) c1)];refine bz λH j=>?_
   refine dM (λC=>?_) λC=>?_
   .rw[ah C,ai (arf O.a O.as (aov c2))];subst j;rfl
   .rw[ag C];subst j;rfl
  .rw[ag y,ag y,aT (by rfl)]
def ak8(d:aM)(l:List bR):aM:=(gB d,fm d,l,d.2.2.2)
def SE(d:aM)(l:List bu):aM:=U3 d (l,d.2.2.2.2)
def avk(d:aM):bB:=(sw d,dv d,0,0,())
def avl(d:aM):bR:=(ju d,dv d,ln d,ln d,tw d,())
def avm(d:aM):bu:=(iM d,ln d,dv d,())
def avn(d:aM):bB:=((lC d).1.1,dv d,(lC d).1.2.2)
def CP(d:aM):Int×aM:=if bJ d=1 then((JJ (fm d) (avk d)).2.1,SA d (JJ (fm d) (avk d)).1)else if bJ d=2 then((JK (fK d) (avl d)).2.1,ak8 d (JK (fK d) (avl d)).1)else if bJ d=3 then((SC (iR d) (avm d)).2.1,SE d (SC (iR d) (avm d)).1)else if bJ d=4 then GG d else if bJ d=5 then Px d else if bJ d=6 then(if(lC d).2.1=0 then((CO (fm d) (avn d)).2.1,SA d (CO (fm d) (avn d)).1)else((lC d).2.1,d))else(0,d)
theorem akU{d}(O:OkN d):O' d=some (CP d):=by
 show nL aj d=_;unfold nL CP;have hm:=O.m;refine bz λj C=>?_
 have y:∀x:Int×aM,j x=some x:=λx=>by subst C;rfl
 show aj.af (bJ d==1) (aj.ae (Uq (fm d) (avk d)) λv3=>j (v3.2.1,SA d v3.1)) (aj.af (bJ d==2) (aj.ae (aby (fK d) (avl d)) λv4=>j (v4.2.1,ak8 d v4.1)) (aj.af (bJ d==3) (aj.ae (XH (iR d) (avm d)) λW=>j (W.2.1,SE d W.1)) (aj.af (bJ d==4) (aj.ae (wk d) λY=>j Y) (aj.af (bJ d==5) (aj.ae (FN d) λX=>j X) (aj.af (bJ d==6) (aj.ae (B9 d) _) (j (0,d)))))))=_;refine dM (λV=>?_) λV=>?_
 .rw[ah V,ai (anP O.m O.ms),y]
 .rw[ag V];refine dM (λR=>?_) λR=>?_
  .rw[ah R,ai (anS O.i O.is O.n),y]
  .rw[ag R];refine dM (λK=>?_) λK=>?_
   .rw[ah K,ai (ard O.sl O.ss),y]
   .rw[ag K];refine dM (λJ=>?_) λJ=>?_
    .rw[ah J,ai (aou O.toEA),y]
    .rw[ag J];refine dM (λH=>?_) λH=>?_
     .rw[ah H,ai (arw O),y]
     .rw[ag H];refine dM (λG=>?_) λG=>?_
      .rw[ah G,ai (zL (by omega))];show aj.af ((lC d).2.1 != 0) (some ((lC d).2.1,d)) (aj.ae (Ur (fm d) (avn d)) λv9=>j (v9.2.1,SA d v9.1))=_;refine i7 (λF=>?_) λF=>?_
       .rw[ah F,ai (abx O.m O.ms),y]
       .rw[ag F]
      .rw[ag G,y]
def VL(d:aM)(l:List aZ):aM:=U10 d (l,d.2.2.2.2.2.2.2.2.2.2.2)
def xR(d:aM)(n:Int):Int×aM:=if(qw (eZ d) [(aY d,n,())]).2.1=0 then(0,VL d (qw (eZ d) [(aY d,n,())]).1)else((qw (eZ d) [(aY d,n,())]).2.1,d)
theorem agV{d}{n:Int}(O:ak3 d)(F:cz n):QY d n=some (xR d n):=by
 show mj aj d n=_;unfold mj xR;have C:=O.pl;show aj.ae (zQ (eZ d) [(aY d,n,())]) _=_;rw[ai (aaY O.p (λx y=>by simp only[ay]at y;subst y;exact F) (by simp;omega))];refine bz λG j=>?_
 refine dM (λh=>?_) λh=>?_
 .rw[ah h];subst j;rw[h];rfl
 .rw[ag h];subst j;rfl
def GS(d:aM)(l:List bp):aM:=U11 d (l,d.2.2.2.2.2.2.2.2.2.2.2.2)
def qz(d:aM):bu:=(iM d,KG d,dv d,())
def gq(d:aM):Int×aM:=if iM d=0 then(if dr (eZ d) (aY d)<dv d then(23,d)else xR d (-dv d))else if(kS (dJ d) (aY d) (qz d)).2.1=0 then(0,GS d (kS (dJ d) (aY d) (qz d)).1)else((kS (dJ d) (aY d) (qz d)).2.1,d)
theorem akN{d:aM}(O:EA d)(hh:lk (dJ d))(W:0<=dv d):Pa d=some (gq d):=by
 show nM aj d=_;unfold nM gq;have R:=O.pl;have F:=O.q;refine dM (λG=>?_) λG=>?_
 .rw[ah G];show aj.ae (nl (eZ d) (aY d)) _=_;rw[ai (Gl (by omega))];by_cases y:dr (eZ d) (aY d)<dv d
  .rw[eG y,ah y]
  .have K:IntKind.i64.wrap (0-dv d) = -dv d:=by rw[bG _ (by unfold cz at F;omega)];omega
   rw[cV y,ag y,K,ai (agV O.toak3 (by unfold cz at F ⊢;omega))]
 .rw[ag G];refine bz λJ C=>?_
  have e:J ((kS (dJ d) (aY d) (qz d)).2.1,xv d ((kS (dJ d) (aY d) (qz d)).1,()))=some (if(kS (dJ d) (aY d) (qz d)).2.1=0 then(0,GS d (kS (dJ d) (aY d) (qz d)).1)else((kS (dJ d) (aY d) (qz d)).2.1,d)):=by
   subst C;refine bz λV j=>?_
   by_cases h:(kS (dJ d) (aY d) (qz d)).2.1=0
   .rw[ah h];refine tqy h ?_;subst j;rw[h];rfl
   .rw[ag h];refine tqn h ?_;subst j;rfl
  have c:(aj.ae (WB (dJ d) (aY d) (qz d)) λH=>J (H.2.1,xv d (H.1,())))=some (if(kS (dJ d) (aY d) (qz d)).2.1=0 then(0,GS d (kS (dJ d) (aY d) (qz d)).1)else((kS (dJ d) (aY d) (qz d)).2.1,d)):=by rw[ai (afb hh F)];exact e
  repeat' (first|exact c|refine jX ?_ ?_)
def akM(d:aM):Int:=if aY d=fU then 0 else pv d [aY d]
def SP(d:aM):Int×aM:=if akM d=0 then(if zn d=0 then(if iM d=0 then xR d (dv d)else(if(fk (iR d) (iM d)).2.1=true then(if(tq (dJ d) (aY d) (qz d)).2.1=0 then(0,GS d (tq (dJ d) (aY d) (qz d)).1)else((tq (dJ d) (aY d) (qz d)).2.1,d))else(11,d)))else(zn d,d))else(akM d,d)
theorem atw{d}(O:OkN d)(hh:lk (dJ d)):KL d=some (SP d):=by
 show lH aj d=_;unfold lH SP;have hm:=O.m;have Y:=O.q;refine bz λy G=>?_
 have K:y d=some (if zn d=0 then(
  if iM d=0 then xR d (dv d)else(
   if(fk (iR d) (iM d)).2.1=true then(if(tq (dJ d) (aY d) (qz d)).2.1=0 then(0,GS d (tq (dJ d) (aY d) (qz d)).1)else((tq (dJ d) (aY d) (qz d)).2.1,d))
   else(11,d)))
  else(zn d,d)):=by
  subst G;refine vY (WO d) ?_;refine i7 (λC=>?_) λC=>?_
  .rw[ah C];refine dM (λV=>?_) λV=>?_
   .rw[ah V,ai (agV O.toak3 Y)]
   .rw[ag V];refine bz λk20 H=>?_
    refine(jc _).trans ?_;rw[ai (LF O.sl)];subst H;show aj.af (!(fk (iR d) (iM d)).2.1) (some (11,d)) (aj.aG _ _)=_;cases hf:(fk (iR d) (iM d)).2.1 with
    |false=>rw[aT (show(!false)=true from rfl),ag (by decide)]
    |true=>
     rw[az (show(!true)=false from rfl),ah rfl];refine bz λX R=>?_
     have e:X ((tq (dJ d) (aY d) (qz d)).2.1,xv d ((tq (dJ d) (aY d) (qz d)).1,()))=some (if(tq (dJ d) (aY d) (qz d)).2.1=0 then(0,GS d (tq (dJ d) (aY d) (qz d)).1)else((tq (dJ d) (aY d) (qz d)).2.1,d)):=by
      subst R;refine bz λk5 F=>?_
      by_cases h:(tq (dJ d) (aY d) (qz d)).2.1=0
      .rw[ah h];refine tqy h ?_;subst F;rw[h];rfl
      .rw[ag h];refine tqn h ?_;subst F;rfl
     have c:(aj.ae (ý (dJ d) (aY d) (qz d)) λW=>X (W.2.1,xv d (W.1,())))=some (if(tq (dJ d) (aY d) (qz d)).2.1=0 then(0,GS d (tq (dJ d) (aY d) (qz d)).1)else((tq (dJ d) (aY d) (qz d)).2.1,d)):=by rw[ai (akg hh Y)];exact e
     repeat' (first|exact c|refine jX ?_ ?_)
  .rw[ag C]
 rw[ai acE];have en:cX true ((wa d==fU.1)&&(tK d==fU.2.1))=!decide (aY d=fU):=by rw[<-ur];cases((wa d==fU.1)&&(tK d==fU.2.1))<;>rfl
 show aj.af (cX true ((wa d==fU.1)&&(tK d==fU.2.1))) (aj.ae (tf d [aY d]) λj=>aj.af (j.1 != 0) (some j) (y j.2)) (y d)=_;rw[en];unfold akM;by_cases J:aY d=fU
 .rw[ap J,az (show(!true)=false from rfl),ah J,K,ah rfl]
 .rw[an J,aT (show(!false)=true from rfl),ag J,ai (BR (l:=[aY d]) O.a (by omega) (by simp))];refine i7 (λC=>?_) λC=>?_
  .rw[ah C];exact K
  .rw[ag C]
def axw(d:aM)(id:Int):aN:=match jj (bK d) id with|some a=>a|none=>yU
theorem WQ{t}{id:Int}(h:qP t)(hs:X5 t):∃b,NM t id=some ((match jj t id with|some a=>a|none=>yU),b):=by rw[HY h hs];cases jj t id<;>exact⟨_,rfl⟩
def J_(d:aM)(u:ar):Int:=if Vn d u=0 then(if(axw d u.1).2.2.1=1 then 17 else 0)else Vn d u
theorem XQ{d}{u}(O:EA d):M0 d u=some (J_ d u,d):=by
 show ki aj d u=_;unfold ki J_;rw[ai (WS O.a)];show aj.af (Vn d u != 0) (some (Vn d u,d)) _=_;by_cases h:Vn d u=0
 .have⟨b,hb⟩:=WQ (id:=u.1) O.a O.as;rw[iD h,ah h,jc];refine vY hb ?_;show aj.af ((axw d u.1).2.2.1==1) _ _=_;refine dM (λj=>?_) λj=>?_
  .rw[ah j]
  .rw[ag j]
 .rw[fT h,ag h]
def axx(d:aM)(l:List cd):aM:=U5 d (l,d.2.2.2.2.2.2)
def GM(d:aM):Int×aM:=if J_ d (aY d)=0 then(if 1<(Dv d (aY d)).2.2.1 then(13,d)else(if J_ d (cJ d)=0 then(if(EG (jC d) (aY d) (cJ d)).2.1=0 then(0,axx d (EG (jC d) (aY d) (cJ d)).1)else((EG (jC d) (aY d) (cJ d)).2.1,d))else(J_ d (cJ d),d)))else(J_ d (aY d),d)
theorem akT{d}(O:EA d)(G:(jC d).length<=1000):Pb d=some (GM d):=by
 show nN aj d=_;unfold nN GM;have hm:=O.m;refine vY (XQ O) ?_;refine i7 (λF=>?_) λF=>?_
 .rw[ah F,ai (MW O.a (by omega))];refine de (λC=>?_) λC=>?_
  .rw[ah C]
  .rw[ag C,ai (XQ O)];refine i7 (λy=>?_) λy=>?_
   .rw[ah y,ai (aiW G)];refine bz λH j=>?_
    refine dM (λh=>?_) λh=>?_
    .rw[ah h];subst j;rw[h];rfl
    .rw[ag h];subst j;rfl
   .rw[ag y]
 .rw[ag F]
def PD(d:aM):Int×aM:=if pv d [cJ d]=0 then(if(EH (jC d) (aY d) (cJ d)).2.1=0 then(0,axx d (EH (jC d) (aY d) (cJ d)).1)else((EH (jC d) (aY d) (cJ d)).2.1,d))else(pv d [cJ d],d)
theorem apo{d}(O:EA d)(C:(jC d).length<=1000):KM d=some (PD d):=by
 show lI aj d=_;unfold lI PD;have hm:=O.m;rw[ai (BR (l:=[cJ d]) O.a (by omega) (by simp))];refine i7 (λy=>?_) λy=>?_
 .rw[ah y,ai (aiX C)];refine bz λF j=>?_
  refine dM (λh=>?_) λh=>?_
  .rw[ah h];subst j;rw[h];rfl
  .rw[ag h];subst j;rfl
 .rw[ag y]
theorem aow{d}(O:EA d):∃l e,D8 d=some ((l,e,()),d):=by
 show ∃l e,nO aj d=_;unfold nO;have hm:=O.m;rw[ai (zL (by omega))];show ∃l e,aj.af ((lC d).2.1 != 0) (some (([],(lC d).2.1,()),d)) (aj.ae (Xt (bY d) (lC d).1.1) _)=_;by_cases h:(lC d).2.1=0
 .rw[az (by simpa using h),ai (adS (s:=bY d) O.a O.al O.b)];exact⟨_,_,rfl⟩
 .rw[aT (by simpa using h)];exact⟨_,_,rfl⟩
theorem avo{d}(O:EA d):∃l e,I4 d=some ((l,e,()),d):=by
 show ∃l e,nP aj d=_;show ∃l e,aj.ae (Lw (dq d) (aY d)) _=_;have⟨_,J⟩:=NN O.b (aY d);rw[ai (RZ O.b)];generalize ql (dq d) (aY d)=v at *;refine oY (X:=Int×List ar×List Int×Unit) (β:=(List Int×Int×Unit)×aM) (λo=>∃l e,o=some ((l,e,()),d)) (λz=>v.length+1-z.1.toNat) (λz=>∃(j:Nat) (acc:List Int),j<=v.length/\acc.length<=2*j/\z=((j:Int),v,acc,())) ⟨0,[],br _,au _,rfl⟩ (by omega) ?_;rintro _ ⟨j,acc,K,G,rfl⟩ y H;show ∃l e,aj.af (decide ((j:Int)<(v.length:Int))) (aj.aH v (j:Int) λ_=>aj.cr v (Int.toNat (j:Int)) λC=>aj.bc (acc.length+2) 8 (y (IntKind.i64.wrap ((j:Int)+1),v,acc++[C.1,C.2.1],()))) (aj.ae (C0 d (aY d)) λF=>some ((acc,F.1,()),F.2))=_;by_cases h:j<v.length
 .rw[dx h,bO h,ij h,da,cP j];exact H _ ⟨j+1,_,by omega,by rw[aq];simp;omega,rfl⟩ (by omega)
 .rw[cV (by omega),ai (WS O.a)];exact⟨_,_,rfl⟩
theorem VM{d}(O:EA d)(T:OkT (fK d))(S:GD (iR d,fK d,dq d,eZ d,dJ d,())):∃l e,Ca d=some ((l,e,()),d):=by
 show ∃l e,mF aj d=_;unfold mF;rw[jc,ai (HY O.a O.as)];cases G:jj (bK d) (wa d)with
 |none=>exact⟨_,_,rfl⟩
 |some a=>
  have hl:=O.a.1 a (cf G);show ∃l e,aj.af (!true) _ (aj.af (bJ d==28) (aj.ae (agS (fK d) (dq d) a (aY d)) _) (aj.aG _ _))=_;rw[az (show(!true)=false from rfl)];by_cases h:bJ d=28
  .have⟨v,e,C,_⟩:=agR (u:=aY d) T O.b hl;rw[pF h,ai C];exact⟨_,_,rfl⟩
  .rw[qy h];have⟨v,e,C,_⟩:=N8 (u:=aY d) S hl;have c:∀j:Int×Int×aM->Option ((List Int×Int×Unit)×aM),(aj.ae (EE (iR d,fK d,dq d,eZ d,dJ d,()) a (aY d)) λF=>j (F.1,F.2.1,d))=j (v,e.1,d):=λj=>by rw[ai C]
   refine⟨[v],e.1,?_⟩;refine bz λj y=>?_
   have r:j (v,e.1,d)=some (([v],e.1,()),d):=by subst y;rfl
   refine jX ((c j).trans r) ((c j).trans r)
theorem BS{X β}{k}{f:(X->Option β)->Option β}{P:Option β->Prop}(h:∀j,j=k->P (f j)):P (aj.aG k f):=h k rfl
theorem arx{d:aM}(O:EA d):∃l e,QZ d=some ((l,e,()),d):=by
 show ∃l e,rP aj d=_;have R:=O.pl;refine BS (P:=λo=>∃l e,o=some ((l,e,()),d)) λj C=>?_
 have K:∀b:Bool,∃l e,j (b,())=some ((l,e,()),d):=by
  intro b;subst C;show ∃l e,aj.ae (C0 d (aY d)) _=_;rw[ai (WS O.a)];refine BS (P:=λo=>∃l e,o=some ((l,e,()),d)) λy F=>?_
  have J:∀c:Bool,∃l e,y (c,())=some ((l,e,()),d):=by
   intro c;subst F;show ∃l e,aj.af c (some (([],Vn d (aY d),()),d)) (aj.ae (nl (eZ d) (aY d)) _)=_;cases c with
   |true=>exact⟨_,_,rfl⟩
   |false=>rw[az rfl,ai (Gl (by omega))];exact⟨_,_,rfl⟩
  show ∃l e,aj.af (Vn d (aY d) != 0) (y (!b,())) (y (false,()))=_;by_cases h:Vn d (aY d)=0
  .rw[az (by simpa using h)];exact J _
  .rw[aT (by simpa using h)];exact J _
 show ∃l e,aj.ae WD (λH=>aj.af (cX false ((wa d==H.1)&&(tK d==H.2.1))) (aj.two (j (true,()))) (aj.two (aj.ae xr λG=>j (cX false ((wa d==G.1)&&(tK d==G.2.1)),()))))=_;rw[ai acE,jc,jc,ai (show xr=some SL from rfl)];cases cX false ((wa d==fU.1)&&(tK d==fU.2.1))with
 |true=>exact K _
 |false=>exact K _
theorem ZW{d}(O:EA d)(S:GD (iR d,fK d,dq d,eZ d,dJ d,())):∃l e,D9 d=some ((l,e,()),d):=by
 show ∃l e,qM aj d=_;have⟨v,e,h1,h2,_⟩:=aon S O.a.1 O.a.2;have W:=O.al;refine BS (P:=λo=>∃l e,o=some ((l,e,()),d)) λG H=>?_
 have K:∃l C,G (e.1,xv d (v,()))=some ((l,C,()),d):=by
  subst H;refine oY (X:=Int×List aZ×List Int×Unit) (β:=(List Int×Int×Unit)×aM) (λo=>∃l e,o=some ((l,e,()),d)) (λz=>v.length+1-z.1.toNat) (λz=>∃(j:Nat) (acc:List Int),j<=v.length/\acc.length<=3*j/\z=((j:Int),v,acc,())) ⟨0,[],br _,au _,rfl⟩ (by omega) ?_;rintro _ ⟨j,acc,hj,V,rfl⟩ y Y;show ∃l C,aj.af (decide ((j:Int)<(v.length:Int))) (aj.aH v (j:Int) λ_=>aj.cr v (Int.toNat (j:Int)) λF=>aj.bc (acc.length+3) 8 (y (IntKind.i64.wrap ((j:Int)+1),v,acc++[F.1.1,F.1.2.1,F.2.1],()))) (some ((acc,e.1,()),d))=_;by_cases h:j<v.length
  .rw[dx h,bO h,ij h,da,cP j];exact Y _ ⟨j+1,_,by omega,by rw[aq];simp;omega,rfl⟩ (by omega)
  .rw[cV (by omega)];exact⟨_,_,rfl⟩
 have c:(aj.ae (P9 (iR d,fK d,dq d,eZ d,dJ d,()) (bK d)) λJ=>G (J.2.1,xv d (J.1,())))=G (e.1,xv d (v,())):=by rw[ai h1]
 have⟨l,C,R⟩:=K;exact⟨l,C,jX (c.trans R) (c.trans R)⟩
theorem aox{d}(O:EA d)(T:OkT (fK d))(S:GD (iR d,fK d,dq d,eZ d,dJ d,())):∃l e,Pc d=some ((l,e,()),d):=by
 show ∃l e,nQ aj d=_;unfold nQ;have j:∀o:Option ((List Int×Int×Unit)×aM),(∃l e,o=some ((l,e,()),d))->∃l e,(aj.ae o λv=>some v)=some ((l,e,()),d):=by rintro _ ⟨l,e,rfl⟩;exact⟨l,e,rfl⟩
 by_cases G:bJ d=26
 .rw[aT (by simpa using G)];exact j _ (avo O)
 .rw[az (by simpa using G)];by_cases F:bJ d=27
  .rw[aT (by simpa using F)];exact j _ (arx O)
  .rw[az (by simpa using F)];refine BS (P:=λo=>∃l e,o=some ((l,e,()),d)) λR C=>?_
   have K:∀b:Bool,∃l e,R (b,())=some ((l,e,()),d):=by
    intro b;subst C;show ∃l e,aj.af b (aj.ae (Ca d) λv4=>some v4) (aj.af (bJ d==30) (aj.ae (D9 d) λJ=>some J) (aj.ae (D8 d) λH=>some H))=_;cases b with
    |true=>exact j _ (VM O T S)
    |false=>
     rw[az rfl];cases(bJ d==30)with
     |true=>exact j _ (ZW O S)
     |false=>exact j _ (aow O)
   refine BS (P:=λo=>∃l e,o=some ((l,e,()),d)) λV y=>?_
   subst y;cases(bJ d==28)with
   |true=>exact K _
   |false=>exact K _
def arH(d:aM)(n:List Int):aM:=U27 d (n,d.2.2.2.2.2.2.2.2.2.2.2.2.2.2.2.2.2.2.2.2.2.2.2.2.2.2.2.2)
theorem atz{d}(O:EA d)(T:OkT (fK d))(S:GD (iR d,fK d,dq d,eZ d,dJ d,())):∃e j,UJ d=some (e,j)/\bY j=bY d/\(e=0->∃n,j=arH d n):=by
 show ∃e j,qc aj d=_/\_;unfold qc;have⟨l,e,h⟩:=aox O T S;rw[ai h,wA];by_cases y:e=0
 .rw[aT (by simpa using y)];exact⟨_,_,rfl,rfl,λ_=>⟨l,rfl⟩⟩
 .rw[az (by simpa using y)];exact⟨e,d,rfl,rfl,λq=>absurd q y⟩
def wJ(d:aM):List aZ×Int×Unit:=zk (fK d) (dq d) (eZ d)
def ED(d:aM):List aZ×Int×Unit:=zk (fK d) (fW d) (wJ d).1
def G_(d:aM):aM:=(gB d+1,fm d,(fK d).map Ap,U24 (VL d (ED d).1).2.2.2 ([gB d+1],yY d,sj d,()))
def YH(d:aM):Int×aM:=if 1048576<=gB d then(25,d)else(if(wJ d).2.1=0 then(if(ED d).2.1=0 then yX 5 (xQ (cC d) λg=>decide (g.2.2.2.2.2.2.1<gB d+1)) (G_ d)else((ED d).2.1,VL d (wJ d).1))else((wJ d).2.1,d))
theorem ats{d}(O:EA d)(hd:0<=gB d)(G:Vt (fK d))(hs:okB (fW d))(Y:(wJ d).2.1=0->ta (wJ d).1/\(wJ d).1.length<=1000)(X:(wJ d).2.1=0->(ED d).2.1=0->EA (G_ d)):GL d=some (YH d):=by
 show qd aj d=_;unfold qd YH;have W:=O.pl;have hv:=O.v;by_cases C:1048576<=gB d
 .rw[aT (ap C),ah C]
 .rw[az (an C),ag C];have V:i64.wrap (gB d+1)=gB d+1:=bG _ (by omega);refine iI (β:=Int×aM) (λz=>3-z.1.toNat) (λz=>(z=(0,xv d ([dq d,fW d],())))\/(z=(1,xv (VL d (wJ d).1) ([dq d,fW d],()))/\(wJ d).2.1=0)\/(z=(2,xv (VL d (ED d).1) ([dq d,fW d],()))/\(wJ d).2.1=0/\(ED d).2.1=0)) (λz=>some (if(wJ d).2.1=0 then(if(ED d).2.1=0 then yX 5 (xQ (cC d) λg=>decide (g.2.2.2.2.2.2.1<gB d+1)) (G_ d)else((ED d).2.1,VL d (wJ d).1))else((wJ d).2.1,d))) (.inl rfl) (by omega) ?_;rintro _ (rfl|⟨rfl,y⟩|⟨rfl,y,H⟩) j F
  .show aj.ae (Hi (fK d) (dq d) (eZ d)) _=_;rw[ai (aaX G O.b O.p (by omega))];show aj.af ((wJ d).2.1 != 0) (some ((wJ d).2.1,d)) (j (1,xv (VL d (wJ d).1) ([dq d,fW d],())))=_;refine i7 (λc=>?_) λc=>?_
   .exact F _ (.inr (.inl ⟨rfl,c⟩)) (by dsimp only;decide)
   .rw[ag c]
  .obtain⟨f1,f2⟩:=Y y;show aj.ae (Hi (fK d) (fW d) (wJ d).1) _=_;rw[ai (aaX G hs f1 f2)];show aj.af ((ED d).2.1 != 0) (some ((ED d).2.1,VL d (wJ d).1)) (j (2,xv (VL d (ED d).1) ([dq d,fW d],())))=_;refine i7 (λc=>?_) λc=>?_
   .exact F _ (.inr (.inr ⟨rfl,y,c⟩)) (by dsimp only;decide)
   .rw[ah y,ag c]
  .show aj.ae (P5 (fK d)) (λR=>aj.ae (XK (cC d) (i64.wrap (gB d+1))) λK=>aj.ae (tc (i64.wrap (gB d+1),fm d,R,U24 (VL d (ED d).1).2.2.2 ([i64.wrap (gB d+1)],yY d,sj d,())) K 5) λJ=>some J)=_;rw[V,ai (abz O.i),ai (anX (by omega)),ah y,ah H];show aj.ae (tc (G_ d) _ 5) _=_;rw[ai (afv (X y H) (cn (Dy _ _) (by omega)))]
def SR(d:aM):Int×aM:=if(GN (bY d) (aY d)).2.2.1=0 then(0,xp (GN (bY d) (aY d)).1 (U15 d.2.2.2.2.2.2.2.2.2.2.2.2 ([(GN (bY d) (aY d)).2.1.1,(GN (bY d) (aY d)).2.1.2.1],d.2.2.2.2.2.2.2.2.2.2.2.2.2.2.2.2.2.2.2.2.2.2.2.2.2.2.2.2)))else((GN (bY d) (aY d)).2.2.1,d)
theorem app{d}(O:OkP (bY d)):Q0 d=some (SR d):=by
 have j:=auS O (aY d);refine jX ?_ ?_
 .rw[ai j,jc,wA];unfold SR;refine dM (λh=>?_) λh=>?_
  .rw[jc,ah h,h]
  .rw[ag h]
 .rw[jc,jc,ai j,wA];unfold SR;refine dM (λh=>?_) λh=>?_
  .rw[jc,ah h,h]
  .rw[ag h]
def PF(d:aM)(s:aU):aM:=xp s d.2.2.2.2.2.2.2.2.2.2.2.2
def EI(d:aM):bB×Int×Unit:=if(lC d).2.1=0 then agP (lC d).1 (gB d)else lC d
def q7(d:aM):Int×aM:=if(EI d).2.1=0 then tL d (EI d).1 else((EI d).2.1,d)
def N9(d:aM):Int×aM:=if(q7 d).1=0 then(if(Gb (bY (q7 d).2) (EI d).1.1).2.1=0 then(0,PF (q7 d).2 (Gb (bY (q7 d).2) (EI d).1.1).1)else((Gb (bY (q7 d).2) (EI d).1.1).2.1,(q7 d).2))else q7 d
theorem ary(d):dq (q7 d).2=dq d/\fW (q7 d).2=fW d/\bK (q7 d).2=bK d:=by
 unfold q7 tL;split
 .split<;>exact⟨rfl,rfl,rfl⟩
 .exact⟨rfl,rfl,rfl⟩
theorem atx{d}(O:EA d)(hs:okB (fW d))(R:(dq d).length+(fW d).length<=90):Hq d=some (N9 d):=by
 show j3 aj d=_;unfold j3;have hm:=O.m;obtain⟨b1,V,W⟩:=ary d;rw[ai (zL (by omega))];refine bz λC j=>?_
 have K:C ((EI d).2.1,(EI d).1)=some (N9 d):=by
  subst j;refine bz λJ y=>?_
  have G:J (q7 d)=some (N9 d):=by
   subst y;show aj.af ((q7 d).1 != 0) (some (q7 d)) (aj.two (aj.ae (Jt (bY (q7 d).2) (EI d).1.1) _))=_;unfold N9;by_cases h:(q7 d).1=0
   .have e:Jt (bY (q7 d).2) (EI d).1.1=some (Gb (bY (q7 d).2) (EI d).1.1):=ao6 (by show qP (bK (q7 d).2);rw[W];exact O.a) (by show okB (dq (q7 d).2);rw[b1];exact O.b) (by show okB (fW (q7 d).2);rw[V];exact hs) (by show(dq (q7 d).2).length+(fW (q7 d).2).length<=90;rw[b1,V];exact R);rw[az (by simpa using h),ah h,jc,ai e,wA];refine dM (λH=>?_) λH=>?_
    .rw[ah H,H];rfl
    .rw[ag H]
   .rw[aT (by simpa using h),ag h]
  clear y;refine dM (λh=>?_) λh=>?_
  .rw[ai (YF O)];have e:tL d (EI d).1=q7 d:=by unfold q7;rw[ah h]
   rw[e];exact G
  .have e:((EI d).2.1,d)=q7 d:=by unfold q7;rw[ag h]
   rw[e];exact G
 clear j;show aj.af ((lC d).2.1==0) (aj.ae (Uy (lC d).1 (gB d)) λF=>C (F.2.1,F.1)) (C ((lC d).2.1,(lC d).1))=_;by_cases h:(lC d).2.1=0
 .have e:EI d=agP (lC d).1 (gB d):=by unfold EI;rw[ah h]
  rw[aT (by simpa using h),ai (aob _ _),<-e];exact K
 .have e:EI d=lC d:=by unfold EI;rw[ag h]
  rw[e]at K;rw[az (by simpa using h)];exact K
def RW(s:aU)(u:ar):Int:=
 match jj s.2.2.2.2.1 u.1 with
 |none=>11
 |some a=>if rB a u=true then(if a.2.2.1=1 then(match mY s.2.1 a.2.1 with|none=>15|some m=>if m.2.2.1=0 then 0 else 15)else 17)else 11
def ahg(all ie:Int):Bool:=decide (0<ie/\ie<=all)||decide (ie<0/\all<=ie)
def zW(s:aU)(u to:ar)(id ie e8:Int):Int:=
 if(sH (bk s)=true/\sH (sa s)=true)/\wy (pu s)=true then(
  match nv s.2.2.1 id with
  |none=>11
  |some _=>if ie=0\/e8<0\/2147483647<e8 then 2 else if ahg (fZ (ql (sa s) u) id) ie=true then RW s to else 23)else 3
def å(s:aU)(u to:ar)(id ie g:Int):aU×Int×Unit:=if(fJ (sa s) u [(id,-ie,())]).2.1=0 then(if(fJ (bk s) to [(id,ie,())]).2.1=0 then(if(ig (pu s) u to g).2.1=0 then(asG s (fJ (bk s) to [(id,ie,())]).1 (fJ (sa s) u [(id,-ie,())]).1 (ig (pu s) u to g).1,0,())else(Jr,(ig (pu s) u to g).2.1,()))else(Jr,(fJ (bk s) to [(id,ie,())]).2.1,()))else(Jr,(fJ (sa s) u [(id,-ie,())]).2.1,())
def BL(s:aU)(u to:ar)(id ie e8:Int):aU×Int×Unit:=
 if zW s u to id ie e8=0 then(
  match nv s.2.2.1 id with
  |none=>(Jr,11,())
  |some i=>if cz (gZ i ie e8 i.2.2.1)then(if cz (-ie)then å s u to id ie (gZ i ie e8 i.2.2.1)else(Jr,7,()))else(Jr,7,()))
 else(Jr,zW s u to id ie e8,())
theorem ajv{s}{u to}{id ie e8 e}(h:zW s u to id ie e8=e)(j:e≠0):BL s u to id ie e8=(Jr,e,()):=by unfold BL;rw[h,ag j]
theorem X6{s}{u to}{id ie e8}{i}(h:zW s u to id ie e8=0)(hi:nv s.2.2.1 id=some i):
 BL s u to id ie e8=if cz (gZ i ie e8 i.2.2.1)then(if cz (-ie)then å s u to id ie (gZ i ie e8 i.2.2.1)else(Jr,7,()))else(Jr,7,()):=by
 unfold BL;rw[ah h,hi]
theorem RX{s}{u to}{id ie e8}(h:zW s u to id ie e8=0):((sH (bk s)=true/\sH (sa s)=true)/\wy (pu s)=true)/\(∃i,nv s.2.2.1 id=some i)/\(ie≠0/\0<=e8/\e8<=2147483647)/\ahg (fZ (ql (sa s) u) id) ie=true/\RW s to=0:=by
 unfold zW at h;split at h
 .rename_i y;refine⟨y,?_⟩;split at h
  .cases h
  .rename_i i hi;split at h
   .cases h
   .rename_i C;split at h
    .rename_i j;exact⟨⟨i,hi⟩,⟨by omega,by omega,by omega⟩,j,h⟩
    .cases h
 .cases h
theorem RY{t}{id}{i}(h:nv t id=some i):i∈t/\i.1=id:=by unfold nv at h;exact⟨cf h,by simpa using jS h⟩
theorem ahh{t}{id}{i}(h:jj t id=some i):i∈t/\i.1=id:=by unfold jj at h;exact⟨cf h,by simpa using jS h⟩
structure OkF(s:aU):Prop where
 iT:ao7 s.2.2.1
 mL:s.2.1.length<=1000
 aA:qP s.2.2.2.2.1
 aS:X5 s.2.2.2.2.1
 hb:okB (bk s)
 hs:okB (sa s)
 bl:(bk s).length<=64
 sl:(sa s).length<=64
 pf:ta (pu s)
 pl:(pu s).length<=94
theorem OkF.inst{s}(F:OkF s){id}{i}(h:nv s.2.2.1 id=some i):Rg i/\i.2.2.2.2.1.length<=1000000/\1<=id/\id<=8:=by have⟨y,H⟩:=RY h;have j:=F.iT.1 _ y;have G:=j.1;have C:=j.2.2.2.2.1;exact⟨j,by omega,by omega,by omega⟩
theorem aeN{s}(F:OkF s){id}:Wq s.2.2.1 id=some (match nv s.2.2.1 id with|some i=>(i,true,())|none=>(ajw,false,())):=X7 (by have:=F.iT.2;omega) λi hi=>by have:=(F.iT.1 i hi).2.2.2.2.1;omega
theorem asI(all ie):ajx all ie=some (ahg all ie):=by
 show Dg aj all ie=_;unfold Dg ahg;refine de (λj=>?_) λj=>?_
 .refine de (λC=>?_) λC=>?_
  .simp[j,C]
  .rw[cV (by omega)];congr 1;rw[an (by omega),an (by omega)];rfl
 .refine de (λy=>?_) λy=>?_
  .simp[j,y]
  .simp[j,y]
theorem ao8{s}(F:OkF s)(u):ac1 s u=some (RW s u):=by
 show xF aj s u=_;unfold xF RW;rw[ai (HY F.aA F.aS)];cases G:jj s.2.2.2.2.1 u.1 with
 |none=>exact yC true (λk=>aT rfl _ _) rfl
 |some a=>
  have H:=F.aA.1 _ (ahh G).1;refine yC (!(rB a u)) (λk=>?_) ?_
  .refine zG rfl ?_;rw[ai (Js H)]
  .show aj.af (!(rB a u)) (some (11:Int)) (aj.af (a.2.2.1 != 1) (some (17:Int)) (aj.ae (BJ s.2.1 a.2.1) _))=some (if rB a u=true then(if a.2.2.1=1 then(match mY s.2.1 a.2.1 with|none=>(15:Int)|some m=>if m.2.2.1=0 then 0 else 15)else 17)else 11);by_cases j:rB a u=true
   .rw[j,az (by rfl),ah rfl];refine i7 (λC=>?_) λC=>?_
    .rw[ah C,ai (tJ (by have:=F.mL;omega))];cases hm:mY s.2.1 a.2.1 with
     |none=>rfl
     |some m=>
      show aj.af (!true) _ (aj.ae (qU m) _)=_
      have e:qU m=some (if m.2.2.1=0 then 0 else 15):=by
       show jP aj m=_;refine i7 (λy=>?_) λy=>?_
       .rw[ah y]
       .rw[ag y]
      rw[az (by rfl),ai e]
    .rw[ag C]
   .have j:rB a u=false:=by simpa using j
    rw[j];rfl
theorem ahi{s}(F:OkF s)(u to)(id ie e8):ac2 s u to id ie e8=some (zW s u to id ie e8):=by
 show xG aj s u to id ie e8=_;unfold xG zW;have J:=F.pl;have K:Lv s.2.2.2.2.2.2.2.2.2.2.1=some (wy (pu s)):=æ (by show(pu s).length<=_;omega);rw[ai (aeN F)];refine yC (!((sH (bk s)&&sH (sa s))&&wy (pu s))) (λk=>?_) ?_
 .refine vY (aeM F.hb F.hs) ?_;cases sH (bk s)&&sH (sa s)with
  |false=>rfl
  |true=>rw[az (by rfl),ai K];rfl
 .show aj.af (!((sH (bk s)&&sH (sa s))&&wy (pu s))) (some 3) _=_;by_cases y:(sH (bk s)=true/\sH (sa s)=true)/\wy (pu s)=true
  .rw[ah y,y.1.1,y.1.2,y.2,az (by rfl)];cases hi:nv s.2.2.1 id with
   |none=>rfl
   |some i=>
    refine zG rfl ?_;refine yC (decide (ie=0\/e8<0\/2147483647<e8)) (λk=>?_) ?_
    .refine dM (λj=>?_) λj=>?_
     .rw[ap (.inl j)]
     .refine de (λH=>?_) λH=>?_
      .rw[ap (.inr (.inl H))]
      .congr 2;exact eA.2 ⟨λh=>.inr (.inr h),λh=>by omega⟩
    .show aj.af (decide (ie=0\/e8<0\/2147483647<e8)) (some 2) (aj.ae (Lw (sa s) u) _)=_;refine de (λj=>?_) λj=>?_
     .rw[ah j]
     .rw[ag j,ai (RZ F.hs)];obtain⟨_,R⟩:=NN F.hs u;rw[ai (ajy (by omega)),ai (asI _ _)];by_cases C:ahg (fZ (ql (sa s) u) id) ie=true
      .rw[C,az (by rfl),ai (ao8 F to)];rfl
      .have C:ahg (fZ (ql (sa s) u) id) ie=false:=by simpa using C
       rw[C,aT (by rfl)];rfl
  .have G:((sH (bk s)&&sH (sa s))&&wy (pu s))=false:=by cases j:sH (bk s)<;>cases H:sH (sa s)<;>cases C:wy (pu s)<;>simp_all
   rw[ag y,G,aT (by rfl)]
theorem ac3{k q}(G:1<=k/\k<=8)(F:q≠0)(H:cz q)(j:¬cz (-q)):X8 [(k,q,())]=some ([],7,()):=by
 show sJ aj [(k,q,())]=_;unfold sJ;have hv:En [(k,q,())]=true:=ap ⟨λx C=>by simp only[ay]at C;subst C;exact⟨G,F⟩,by simp⟩;rw[ai (R0 (l:=[(k,q,())]) (by simp)),hv,az (by rfl)];have e:=Jv (a:=0) (b:=q) (by unfold cz;omega) H;rw[zC]at e;unfold cW at e;rw[ag j]at e;refine mS (l:=[(k,q,())]) (s0:=()) (by simp) (λi (_:Unit)=>((i:Int),([]:List oF),())) (λi _=>i=0) (λ_ _=>some ([],7,())) rfl rfl ?_ ?_
 .intro _ h;simp at h
 .intro i hi _ J y _;subst J;show aj.af (decide ((0:Int)<1)) (aj.aH [(k,q,())] ((0:Nat):Int) _) _=_;rw[aT (by decide),bO (by simp)];refine vY e ?_;rw[aT (by rfl)]
def asJ(s:aU)(a:List cj):aU:=(s.1,s.2.1,s.2.2.1,s.2.2.2.1,s.2.2.2.2.1,s.2.2.2.2.2.1,s.2.2.2.2.2.2.1,s.2.2.2.2.2.2.2.1,s.2.2.2.2.2.2.2.2.1,a,s.2.2.2.2.2.2.2.2.2.2)
def ajz(s:aU)(b:List cj):aU:=(s.1,s.2.1,s.2.2.1,s.2.2.2.1,s.2.2.2.2.1,s.2.2.2.2.2.1,s.2.2.2.2.2.2.1,s.2.2.2.2.2.2.2.1,b,s.2.2.2.2.2.2.2.2.2)
def asK(s:aU)(p:List aZ):aU:=(s.1,s.2.1,s.2.2.1,s.2.2.2.1,s.2.2.2.2.1,s.2.2.2.2.2.1,s.2.2.2.2.2.2.1,s.2.2.2.2.2.2.2.1,s.2.2.2.2.2.2.2.2.1,s.2.2.2.2.2.2.2.2.2.1,p,s.2.2.2.2.2.2.2.2.2.2.2)
abbrev SLf:=Int×List bB×List bR×List bu×List aN×List cd×List cU×List dk×List cj×List cj×List aZ×List bp×List ar×Unit
abbrev asL(s:aU)(v:List ar):SLf:=xp s (v,())
abbrev asM(z:SLf):aU:=xp z ()
theorem ao9{s}(F:OkF s)(u to)(id ie e8:Int)(hq:cz ie):ahj s u to id ie e8=some (BL s u to id ie e8):=by
 show zX aj s u to id ie e8=_;unfold zX;have hpl:=F.pl;have R2:=F.bl;have hsl:=F.sl;rw[ai (ahi F u to id ie e8)];by_cases hc:zW s u to id ie e8=0
 .have⟨hB,⟨i,hi⟩,⟨c1,c2,c3⟩,_,_⟩:=RX hc;have⟨i1,i2,i3,i4⟩:=F.inst hi;rw[iD hc,ai (aeN F),hi,X6 hc hi];refine vY (aeO i2 i1 hq ⟨c2,c3⟩ i1.2.2.1) ?_;generalize gZ i ie e8 i.2.2.1=g at *;unfold cW;by_cases hg:cz g
  .rw[ah hg,ah hg,az (by rfl)];have R:∀(k:Int×aU->Option (aU×Int×Unit)),(k=λC=>aj.af (C.1 != 0) (some (Jr,C.1,())) (some (C.2,0,())))->(∀st,k (0,st)=some (st,0,()))/\∀e,e≠0->∀st,k (e,st)=some (Jr,e,()):=by intro k J;subst J;exact⟨λst=>rfl,λe V st=>fT V _ _⟩
   have H:∀(k:Int×aU->Option (aU×Int×Unit)),(k=λK=>aj.aG (λC:Int×aU=>aj.af (C.1 != 0) (some (Jr,C.1,())) (some (C.2,0,()))) λR=>aj.af (K.1==0) (aj.ae (qV (pu K.2) u to g) λv9=>R (v9.2.1,asK K.2 v9.1)) (R K))->
    (∀st,pu st=pu s->k (0,st)=some (if(ig (pu s) u to g).2.1=0 then(asK st (ig (pu s) u to g).1,0,())else(Jr,(ig (pu s) u to g).2.1,())))/\∀e,e≠0->∀st,k (e,st)=some (Jr,e,()):=by
    intro k J;subst J;refine⟨λst hst=>?_,λe V st=>?_⟩
    .refine bz λk J=>?_
     have⟨a1,a2⟩:=R k J;refine Vq rfl ?_;rw[hst,ai (NO F.pf hg (by omega))];by_cases h:(ig (pu s) u to g).2.1=0
     .rw[ah h,h,a1]
     .rw[ag h,a2 _ h]
    .refine bz λk J=>?_
     have⟨a1,a2⟩:=R k J;refine tqn V ?_;rw[a2 _ V]
   have bad:∀j:Int×SLf->Option (aU×Int×Unit),(j=λW=>aj.aG (λK:Int×aU=>aj.aG (λC:Int×aU=>aj.af (C.1 != 0) (some (Jr,C.1,())) (some (C.2,0,()))) λR=>aj.af (K.1==0) (aj.ae (qV (pu K.2) u to g) λv9=>R (v9.2.1,asK K.2 v9.1)) (R K)) λH=>aj.af (W.1==0) (aj.ae (wx (bk (asM W.2)) to W.2.2.2.2.2.2.2.2.2.2.2.2.2.1) λG=>H (G.2.1,ajz (asM W.2) G.1)) (H (W.1,asM W.2)))->∀e,e≠0->∀st v,j (e,asL st v)=some (Jr,e,()):=by
    intro j y e V st v;subst y;refine bz λk J=>?_
    have⟨a1,a2⟩:=H k J;refine tqn V ?_;rw[a2 _ V]
   by_cases Y:cz (-ie)
   .rw[ah Y,ai (aj0 ⟨i3,i4⟩ c1 hq Y)];refine bz λj y=>?_
    show aj.af true (aj.ae (wx (sa s) u [(id,-ie,())]) λX=>j (X.2.1,asL (asJ s X.1) [(id,ie,())])) _=_;rw[aT rfl,ai (Er F.hs (by omega) (aoA Y) (by simp))];unfold å;by_cases h1:(fJ (sa s) u [(id,-ie,())]).2.1=0
    .rw[ah h1,h1];subst y;refine bz λk J=>?_
     have⟨a1,a2⟩:=H k J;show aj.af true (aj.ae (wx (bk s) to [(id,ie,())]) λG=>k (G.2.1,ajz (asJ s (fJ (sa s) u [(id,-ie,())]).1) G.1)) _=_;rw[aT rfl,ai (Er F.hb (by omega) (aoA hq) (by simp))];by_cases h2:(fJ (bk s) to [(id,ie,())]).2.1=0
     .rw[ah h2,h2,a1 (ajz (asJ s (fJ (sa s) u [(id,-ie,())]).1) (fJ (bk s) to [(id,ie,())]).1) rfl];rfl
     .rw[ag h2,a2 _ h2]
    .rw[ag h1,bad j y _ h1]
   .rw[ag Y,ai (ac3 ⟨i3,i4⟩ c1 hq Y)];refine bz λj y=>?_
    show aj.af false _ (j (7,asL s [(id,ie,())]))=_;rw[az (by rfl),bad j y 7 (by decide)]
  .rw[ag hg,ag hg,aT (by rfl)];rfl
 .rw[fT hc,ajv rfl hc];rfl
def Vw(d:aM):aU×Int×Unit:=BL (bY d) (aY d) (cJ d) (ju d) (dv d) (ln d)
def N'(d:aM):Int×aM:=if Vn d (aY d)=0 then(if(Dv d (aY d)).2.2.1=2 then(if(Vw d).2.1=0 then(abH (PF d (Vw d).1) [cJ d],PF d (Vw d).1)else((Vw d).2.1,d))else(13,d))else(Vn d (aY d),d)
theorem apm{d}(O:EA d)(F:OkF (bY d))(h:(Vw d).2.1=0->okB (dq (PF d (Vw d).1))/\bK (PF d (Vw d).1)=bK d/\fm (PF d (Vw d).1)=fm d):FB d=some (N' d):=by
 show ka aj d=_;unfold ka N';have hm:=O.m;refine vY (WS O.a) ?_;refine i7 (λC=>?_) λC=>?_
 .rw[ah C,ai (MW O.a (by omega))];refine i7 (λy=>?_) λy=>?_
  .rw[ah y,jc,ai (ao9 F _ _ _ _ _ O.q)];show aj.af ((Vw d).2.1 != 0) (some ((Vw d).2.1,d)) (aj.ae (Ho (PF d (Vw d).1) [cJ d]) _)=_;by_cases j:(Vw d).2.1=0
   .have⟨b1,G,H⟩:=h j;rw[iD j,ah j,ai (aes (l:=[cJ d]) (by rw[G];exact O.a) (by rw[G];exact O.al) (by rw[H];omega) b1 (by simp))]
   .rw[fT j,ag j]
  .rw[ag y]
 .rw[ag C]
structure QB(N:ar->Prop)(p:List aZ):Prop where
 i:wy p=true
 f:ta p
 n:∀x∈p,N x.1
structure Ln(N:ar->Prop)(A:Int->Prop)(h:List bp):Prop where
 i:Bz h=true
 f:∀x∈h,tu x.2.1
 n:∀x∈h,N x.1
 a:∀x∈h,∀y∈x.2.1,A y.1
structure Lo(N:ar->Prop)(K:Int->Prop)(b:List cj):Prop where
 i:sH b=true
 o:∀p∈b,Vm p.2.1
 n:∀p∈b,N p.1
 k:∀p∈b,∀x∈p.2.1,K x.1
theorem Gy{α}[DecidableEq α]:∀{l U:List α},l.Nodup->(∀x∈l,x∈U)->l.length<=U.length
 |[],_,_,_=>br _
 |x::l,U,F,h=>by
  have⟨H,G⟩:=dK.1 F;have C:=h x (by simp);have:=Gy (l:=l) (U:=U.erase x) G λy j=>(List.mem_erase_of_ne λe=>H (by rw[<-e];exact j)).2 (h y (by simp[j]))
  rw[List.length_erase_of_mem C]at this;have J:=List.length_pos_of_mem C;simp only[aJ];omega
theorem QB.nil(N):QB N []:=⟨ap ⟨λ_ h=>(by cases h),List.Pairwise.nil⟩,λ_ h=>(by cases h),λ_ h=>(by cases h)⟩
theorem QB.mono{N M}{p:List aZ}(P:QB N p)(h:∀u,N u->M u):QB M p:=⟨P.i,P.f,λx j=>h _ (P.n x j)⟩
theorem Ln.mono{N M}{A B}{p:List bp}(P:Ln N A p)(h:∀u,N u->M u)(g:∀k,A k->B k):Ln M B p:=⟨P.i,P.f,λx j=>h _ (P.n x j),λx j y C=>g _ (P.a x j y C)⟩
theorem Lo.mono{N M}{K L}{p:List cj}(P:Lo N K p)(h:∀u,N u->M u)(g:∀k,K k->L k):Lo M L p:=⟨P.i,P.o,λx j=>h _ (P.n x j),λx j y C=>g _ (P.k x j y C)⟩
theorem QB.pay{N}{p fl:List aZ}(P:QB N p)(H:∀x∈fl,N x.1)(h:(qw p fl).2.1=0):QB N (qw p fl).1:=by have⟨K,C,J⟩:=H9 h;refine⟨by rw[C];exact Rr (wG _),afc h,λx j=>?_⟩;rw[C]at j;obtain⟨u,G,rfl⟩:=aK.1 j;have⟨y,F,e⟩:=(Ic _ _).1 (aI.1 G).1;rw[<-e];exact(aQ.1 F).elim (P.n y) (H y)
theorem QB.move{N}{p}{f t}{n:Int}(P:QB N p)(C:N f)(y:N t)(h:(ig p f t n).2.1=0):QB N (ig p f t n).1:=by
 have⟨_,e⟩:=Sg h;rw[e]at h ⊢;refine P.pay (λx j=>?_) h;simp only[aB,dD,kO]at j;rcases j with rfl|rfl
 .exact C
 .exact y
theorem QB.settle{N}{t}{l:List cj}{p:List aZ}(P:QB N p)(hl:∀x∈l,N x.1)(h:(zk t l p).2.1=0):QB N (zk t l p).1:=by have⟨_,F,e⟩:=N2 h;rw[e]at h ⊢;refine P.pay (λx j=>?_) h;have⟨_,C,_⟩:=Ss F;rw[C]at j;obtain⟨q,y,rfl⟩:=aK.1 j;exact hl q (aI.1 y).1
theorem QB.len{N}{p}(P:QB N p){U:List ar}(h:∀u,N u->u∈U):p.length<=U.length:=by
 have:=Gy (l:=p.map (·.1)) (U:=U) (Sm P.i) λx C=>by obtain⟨y,j,rfl⟩:=aK.1 C;exact h _ (P.n y j)
 rwa [aW]at this
theorem Lo.len{N}{K}{p:List cj}(P:Lo N K p){U:List ar}(h:∀u,N u->u∈U):p.length<=U.length:=by
 have:=Gy (l:=p.map (·.1)) (U:=U) (aku (bA P.i:Gz p).2) λx C=>by obtain⟨y,j,rfl⟩:=aK.1 C;exact h _ (P.n y j)
 rwa [aW]at this
theorem Ln.len{N}{K}{p:List bp}(P:Ln N K p){U:List ar}(h:∀u,N u->u∈U):p.length<=U.length:=by
 have:=Gy (l:=p.map (·.1)) (U:=U) (akv (bA P.i:Yo p).2) λx C=>by obtain⟨y,j,rfl⟩:=aK.1 C;exact h _ (P.n y j)
 rwa [aW]at this
theorem av2{l}(h:xM l):l.length<=8:=by
 have:=Gy (l:=l.map (·.1)) (U:=ks) (vD (λ{a b} (j:a<b)=>Int.ne_of_lt j) h.2) λx F=>by obtain⟨y,C,rfl⟩:=aK.1 F;have:=(h.1 y C).1;unfold ks;simp only[aB,dD,kO];omega
 rwa [aW]at this
theorem Lo.okB{N}{K}{b:List cj}(P:Lo N K b)(h:b.length<=100):okB b:=⟨λp j=>⟨P.o p j,by have:=av2 ((bA P.i:Gz b).1 p j).2;omega⟩,h⟩
theorem Ln.lk{N}{K}{b:List bp}(P:Ln N K b)(h:b.length<=400000):lk b:=⟨P.f,h⟩
theorem Lo.of{N}{K}{b:List cj}(P:Lo N K b)(u:ar):∀x∈ql b u,K x.1:=by
 have:∀l:List cj,(∀p∈l,∀x∈p.2.1,K x.1)->∀x∈ql l u,K x.1:=by
  intro l;induction l with
  |nil=>intro _ x y;cases y
  |cons p l j=>
   intro h;rw[ql];split
   .exact h p (by simp)
   .exact j λq C=>h q (by simp[C])
 exact this b P.k
theorem l_{l}{k}(h:fZ l k≠0):∃x∈l,x.1=k:=cZ λy=>h (Ie λx j e=>y ⟨x,j,e⟩)
theorem Lo.shift{N}{K}{b}(P:Lo N K b){u:ar}{j:List oF}(V:N u)(W:∀x∈j,K x.1)(h:(fJ b u j).2.1=0):Lo N K (fJ b u j).1:=by
 have S:=pZ h;unfold fJ at h ⊢;rw[ah P.i]at h ⊢;by_cases H:(vQ [ql b u,j]).2.1=0;case neg=>rw[ag H]at h;exact absurd h H
 rw[ah H];have⟨_,R,Y,_⟩:=Rs H;refine⟨ap ?_,λp F=>?_,λp F=>?_,λp F=>?_⟩
 .exact akw (bA P.i) u (by rw[R];exact Yy _)
 .rcases uG.1 F with⟨G,_⟩|⟨_,rfl⟩
  .exact P.o p G
  .intro x C;have C:=C;rw[R]at C;obtain⟨v,hv,rfl⟩:=aK.1 C;exact Y v (aI.1 hv).1
 .rcases uG.1 F with⟨G,_⟩|⟨_,rfl⟩
  .exact P.n p G
  .exact V
 .rcases uG.1 F with⟨G,_⟩|⟨_,rfl⟩
  .exact P.k p G
  .intro x C;have C:=C;rw[R]at C;obtain⟨v,hv,rfl⟩:=aK.1 C;have hs:=(aI.1 hv).2;simp only[bg]at hs;rw[akx]at hs;by_cases X:fZ (ql b u) v=0
   .have⟨y,J,e⟩:=l_ (l:=j) (k:=v) (by omega);rw[<-e];exact W y J
   .have⟨y,J,e⟩:=l_ X;rw[<-e];exact P.of u y J
theorem Lo.av3{N}{K}{b:List cj}(P:Lo N K b){f t:ar}{k q:Int}(G:N f)(C:N t)(F:K k)(h:(yW b f t k q).2.1=0):Lo N K (yW b f t k q).1:=by
 unfold yW at h ⊢;rw[ah P.i]at h ⊢;by_cases j:(fJ b f [(k,-q,())]).2.1=0;case neg=>rw[ag j]at h;exact absurd h j
 rw[ah j]at h ⊢;have one:∀n:Int,∀x∈([(k,n,())]:List oF),K x.1:=λn x y=>by rw[ay.1 y];exact F
 exact(P.shift G (one _) j).shift C (one _) h
theorem Lo.Je{N}{K}{b:List cj}(P:Lo N K b){f t:ar}{C:List oF}(X:N f)(W:N t)(H:∀x∈C,K x.1)(h:(Je b f t C).2.1=0):Lo N K (Je b f t C).1/\(Je b f t C).1.length<=b.length+2/\∀j,li (Je b f t C).1 j=li b j:=by
 unfold Go.Proofs.YthghpahghjppjaaGreat.Je at h ⊢;rw[ah P.i]at h ⊢;by_cases G:(IV C).2.1=0;case neg=>rw[ag G]at h;exact absurd h G
 rw[ah G]at h ⊢;have⟨_,J,_⟩:=afl G;rw[J]at h ⊢;by_cases F:(fJ b f (Su C)).2.1=0;case neg=>rw[ag F]at h;exact absurd h F
 rw[ah F]at h ⊢;have S:=pZ F;have T:=pZ h;refine⟨(P.shift X (λx V=>?_) F).shift W H h,by have:=S.len;have:=T.len;omega,λj=>?_⟩
 .obtain⟨y,R,rfl⟩:=aK.1 V;exact H y R
 .rw[T.opn,S.opn,m_];omega
theorem GA{N}{K:Int->Prop}(own:ar->Bool):∀(l j stays:List cj),(gD own l j stays).2.2=0->(∀p∈l,N p.1)->(∀p∈l,∀x∈p.2.1,K x.1)->Lo N K j->
 Lo N K (gD own l j stays).1/\(gD own l j stays).2.1=stays++l.filter (λp=>!own p.1)/\(gD own l j stays).1.length+(gD own l j stays).2.1.length<=j.length+stays.length+l.length
 |[],j,stays,_,_,_,P=>⟨P,by simp[gD],by simp[gD]⟩
 |p::l,j,stays,he,H,hk,P=>by
  unfold gD at he ⊢;by_cases ho:own p.1=true
  .rw[ah ho]at he ⊢;by_cases hs:(fJ j p.1 p.2.1).2.1=0
   .rw[ah hs]at he ⊢;have hl:=(pZ hs).len;have⟨G,F,C⟩:=GA own l _ stays he (λq y=>H q (by simp[y])) (λq y=>hk q (by simp[y])) (P.shift (H p (by simp)) (hk p (by simp)) hs);exact⟨G,by rw[F,bi,ag (by simp[ho])],by simp only[aJ];omega⟩
   .rw[ag hs]at he;exact absurd he hs
  .rw[ag ho]at he ⊢;have⟨G,F,C⟩:=GA own l j (stays++[p]) he (λq y=>H q (by simp[y])) (λq y=>hk q (by simp[y])) P;exact⟨G,by rw[F,bi,ah (by simpa using ho),bn];rfl,by rw[aq]at C;simp only[aJ,eV]at C ⊢;omega⟩
theorem Lo.filter{N}{K}{b:List cj}(P:Lo N K b)(q:cj->Bool):Lo N K (b.filter q):=by have y:=bA P.i;refine⟨ap ⟨λp j=>y.1 p (aI.1 j).1,?_⟩,λp j=>P.o p (aI.1 j).1,λp j=>P.n p (aI.1 j).1,λp j=>P.k p (aI.1 j).1⟩;exact dt (sb _ fF) y.2
theorem n_{l}(h:LB l)(x:bu):LB (Eu l x):=by
 have C:∀y∈fM x l,CJ y x:=λy F=>by simpa using(aI.1 F).2
 have j:∀y∈Ad x l,CJ x y:=λy F=>by simpa using(aI.1 F).2
 have hm:∀y∈(if x.2.2.1=0 then([]:List bu)else[x]),y=x:=λy F=>by
  split at F
  .cases F
  .simpa using F
 refine dF.2 ⟨h.filter _,dF.2 ⟨?_,h.filter _,λa G b hb=>?_⟩,λa G b hb=>?_⟩
 .split<;>simp
 .rw[hm a G];exact j b hb
 .rcases aQ.1 hb with hb|hb
  .rw[hm b hb];exact C a G
  .have:=C a G;have:=j b hb;unfold CJ at *;omega
theorem WI{l}(h:LB l)(x:bu)(n:Nat)(G:tp l x.1 x.2.1≠0/\l.length<=n\/l.length<n):(Eu l x).length<=n:=by
 have j:=bS List.length (Yg x h);rw[aq,aq]at j;unfold Eu;rw[aq,aq];have J:(if x.2.2.1=0 then([]:List bu)else[x]).length<=1:=by split<;>simp
 rcases G with⟨F,H⟩|F
 .rcases LC h x with C|⟨y,C,_⟩
  .exact absurd (H3 C) F
  .rw[C]at j;simp only[aJ,eV]at j;omega
 .omega
theorem aky{l:List bu}{x:bu}(j:(IU l x).2.1=0):Dq l/\j8 x/\Dq (IU l x).1/\∀y∈(IU l x).1,y∈l\/y.1=x.1:=by
 unfold IU at j ⊢;by_cases H:LD l=true;case neg=>rw[ag H]at j;cases j
 have hi:=H7 H;rw[ah H]at j ⊢;by_cases F:j8 x;case neg=>rw[ag F]at j;cases j
 rw[ah F]at j ⊢;by_cases K:cz (tp l x.1 x.2.1+x.2.2.1);case neg=>rw[ag K]at j;cases j
 rw[ah K]at j ⊢;by_cases G:tp l x.1 x.2.1=0/\l.length=16;case pos=>rw[ah G]at j;cases j
 rw[ag G];have R:=akf hi.1 x.1 x.2.1;refine⟨hi,F,⟨λy C=>?_,n_ hi.2.1 _,WI hi.2.1 _ 16 ?_⟩,λy C=>?_⟩
 .rcases LJ C with C|rfl
  .exact hi.1 y C
  .exact⟨F.1,F.2.1,by have:=F.2.2;dsimp only;omega⟩
 .by_cases J:tp l x.1 x.2.1=0
  .exact .inr (by have:=hi.2.2;have:l.length≠16:=λe=>G ⟨J,e⟩;omega)
  .exact .inl ⟨J,hi.2.2⟩
 .rcases LJ C with C|rfl
  .exact .inl C
  .exact .inr rfl
theorem ah0{l:List bu}{x:bu}(C:(xI l x).2.1=0):Dq l/\j8 x/\Dq (xI l x).1/\∀y∈(xI l x).1,y∈l\/y.1=x.1:=by
 unfold xI at C ⊢;by_cases G:LD l=true;case neg=>rw[ag G]at C;cases C
 have hi:=H7 G;rw[ah G]at C ⊢;by_cases F:j8 x;case neg=>rw[ag F]at C;cases C
 rw[ah F]at C ⊢;by_cases J:tp l x.1 x.2.1<x.2.2.1;case pos=>rw[ah J]at C;cases C
 rw[ag J];have K:=F.2.2;refine⟨hi,F,⟨λy j=>?_,n_ hi.2.1 _,WI hi.2.1 _ 16 (.inl ⟨by dsimp only;omega,hi.2.2⟩)⟩,λy j=>?_⟩
 .unfold Eu at j;rw[aQ,aQ]at j;rcases j with j|j|j
  .exact hi.1 y (aI.1 j).1
  .split at j
   .cases j
   .rename_i H;rw[ay.1 j];have H:tp l x.1 x.2.1-x.2.2.1≠0:=H;exact⟨F.1,F.2.1,by dsimp only;omega⟩
  .exact hi.1 y (aI.1 j).1
 .rcases LJ j with j|rfl
  .exact .inl j
  .exact .inr rfl
theorem Ln.o_{N}{A}{h:List bp}(P:Ln N A h)(u:ar):∀x∈cE h u,A x.1:=by
 have:∀l:List bp,(∀p∈l,∀x∈p.2.1,A x.1)->∀x∈cE l u,A x.1:=by
  intro l;induction l with
  |nil=>intro _ x y;cases y
  |cons p l j=>
   intro h;rw[cE];split
   .exact h p (by simp)
   .exact j λq C=>h q (by simp[C])
 exact this h P.a
theorem Ln.set{N}{A}{h}(P:Ln N A h){u:ar}{j:List bu}(G:j≠[]->N u)(hi:Dq j)(ho:tu j)(H:∀x∈j,A x.1):Ln N A (Ev h u j):=by
 have F:=bA P.i;refine⟨ap ⟨λp y=>?_,LV F.2 u j⟩,λp y=>?_,λp y=>?_,λp y=>?_⟩
 .rcases uH.1 y with⟨h1,_⟩|⟨C,rfl⟩
  .exact F.1 p h1
  .exact⟨C,hi⟩
 .rcases uH.1 y with⟨h1,_⟩|⟨C,rfl⟩
  .exact P.f p h1
  .exact ho
 .rcases uH.1 y with⟨h1,_⟩|⟨C,rfl⟩
  .exact P.n p h1
  .exact G C
 .rcases uH.1 y with⟨h1,_⟩|⟨C,rfl⟩
  .exact P.a p h1
  .exact H
theorem Ln.put{N:ar->Prop}{A:Int->Prop}{h:List bp}(P:Ln N A h){u:ar}{x:bu}(H:N u)(G:A x.1)(j:(tq h u x).2.1=0):Ln N A (tq h u x).1:=by
 unfold tq at j ⊢;rw[ah P.i]at j ⊢;by_cases C:(IU (cE h u) x).2.1=0;case neg=>rw[ag C]at j;exact absurd j C
 rw[ah C];have⟨_,_,K,J⟩:=aky C;exact P.set (λ_=>H) K (Yn (p9 P.f u)) λy F=>(J y F).elim (P.o_ u y) λe=>by rw[e];exact G
theorem Ln.take{N}{A}{h}(P:Ln N A h){u:ar}{x:bu}(F:(kS h u x).2.1=0):Ln N A (kS h u x).1/\A x.1/\N u:=by
 unfold kS at F ⊢;rw[ah P.i]at F ⊢;by_cases j:(xI (cE h u) x).2.1=0;case neg=>rw[ag j]at F;exact absurd F j
 rw[ah j];have⟨V,R,h4,h5⟩:=ah0 j
 have X:∃y∈cE h u,y.1=x.1:=by
  unfold xI at j;rw[ah (show LD (cE h u)=true from ap V),ah R]at j;by_cases C:tp (cE h u) x.1 x.2.1<x.2.2.1;case pos=>rw[ah C]at j;cases j
  rcases LC V.2.1 x with K|⟨y,K,h8,h9⟩
  .rw[H3 K]at C;exact absurd R.2.2 C
  .exact⟨y,h9,h8.1⟩
 have⟨y,G,e⟩:=X;have J:A x.1:=by rw[<-e];exact P.o_ u y G
 have H:N u:=by
  have Y:=bA P.i;rcases Sn Y.2 u with⟨_,_,C⟩|⟨_,C⟩
  .rw[C]at G;cases G
  .exact P.n _ C
 exact⟨P.set (λ_=>H) h4 (Sd (p9 P.f u)) λz W=>(h5 z W).elim (P.o_ u z) λe=>by rw[e];exact J,J,H⟩
theorem Ln.pass{N:ar->Prop}{A:Int->Prop}{h:List bp}(P:Ln N A h){f t:ar}{x:bu}{tag:Int}(F:N t)(j:(uB h f t x tag).2.1=0):Ln N A (uB h f t x tag).1:=by
 unfold uB at j ⊢;rw[ah P.i]at j ⊢;by_cases C:f=t;case pos=>rw[ah C]at j;cases j
 rw[ag C]at j ⊢;by_cases y:(kS h f x).2.1=0;case neg=>rw[ag y]at j;exact absurd j y
 rw[ah y]at j ⊢;have⟨H,G,_⟩:=P.take y;exact H.put F G j
theorem akz:Dq []:=⟨λ_ h=>(by cases h),List.Pairwise.nil,br _⟩
theorem Ln.GB{N}{A}{h}(P:Ln N A h){f t:ar}(F:N t)(j:(GB h f t).2.1=0):Ln N A (GB h f t).1:=by
 unfold Go.Proofs.YthghpahghjppjaaGreat.GB at j ⊢;rw[ah P.i]at j ⊢;by_cases C:f=t;case pos=>rw[ah C]at j;cases j
 rw[ag C]at j ⊢;by_cases y:cE h t=[];case neg=>rw[ag y]at j;cases j
 rw[ah y];exact(P.set (λh=>absurd rfl h) akz zh λ_ h=>by cases h).set (λ_=>F) (Ex P.i f) (p9 P.f f) (P.o_ f)
theorem Ln.aoS{N}{A}{h:List bp}(P:Ln N A h)(u:ar):Ln N A (eB h u):=by have y:=bA P.i;refine⟨ap ⟨λp j=>y.1 p (aI.1 j).1,?_⟩,λp j=>P.f p (aI.1 j).1,λp j=>P.n p (aI.1 j).1,λp j=>P.a p (aI.1 j).1⟩;exact dt (sb _ fF) y.2
end Go.Proofs.YthghpahghjppjaaGreat