import Derived.Test.YthghpahghjppjaaGreatB7
namespace Go.Proofs.YthghpahghjppjaaGreat
open Go Go.Vc Go.RowKit sH uj uk ul um uo
set_option synthInstance.maxSize 100000
theorem ah6{C}{u}(h:sT C u≠0):pQ C u:=by
 unfold sT at h;cases j:C.find? (λa=>zE a u)with
 |none=>rw[j]at h;exact absurd rfl h
 |some a=>have F:=bV j;have y:=jM j;exact cE.2 ⟨a,F,bD y⟩
theorem RJ{d}{u}(h:Uh d u=0):pQ (bs d) u:=by
 unfold Uh at h;by_cases j:sT (bs d) u=0
 .rw[ah j]at h;cases h
 .exact ah6 j
theorem pS{d}:∀{l:List ar},o9 d l=0->∀u∈l,pQ (bs d) u
 |[],_,u,hu=>by cases hu
 |v::l,h,u,hu=>by
  unfold o9 at h;by_cases j:Uh d v=0;case neg=>rw[ag j]at h;exact absurd h j
  rw[ah j]at h;by_cases y:(vE d v).2.2.1=0;case neg=>rw[ag y]at h;cases h
  rw[ah y]at h;rcases aG.1 hu with rfl|hu
  .exact RJ j
  .exact pS h u hu
theorem RK{d}{id}(h:(rR d id).2.1=0):(rR d id).1∈fD d/\(rR d id).1.1=id:=by
 unfold rR at h ⊢;cases j:oE (fD d) id with
 |none=>rw[j]at h;cases h
 |some m=>exact Re j
theorem ak2{d}{f t x}{p:Int}(L:sb (bM d))(H:pQ (bs d) f)(G:pQ (bs d) t)(h:(IG d f t x p).1=0):Kp 0 1 d (IG d f t x p).2:=by
 unfold IG at h ⊢;by_cases C:(rR d x.1).2.1=0;case neg=>rw[ag C]at h;exact absurd h C
 rw[ah C]at h ⊢;by_cases y:(atP (cf d,fN d,()) (rR d x.1).1 f t x.2.1 p).2.1=0;case neg=>rw[ag y]at h;exact absurd h y
 rw[ah y];have K:=RK C;generalize (rR d x.1).1=i at *;have T:=ak3 y;have F:kC (·.1) (fD d) i.1:=⟨i,K.1,rfl⟩
 have hb:(yH (cf d) f t i.1 x.2.1).2.1=0/\(ja (fN d) f t (gZ i x.2.1 p i.2.2.1)).2.1=0/\
  (atP (cf d,fN d,()) i f t x.2.1 p).1=((yH (cf d) f t i.1 x.2.1).1,(ja (fN d) f t (gZ i x.2.1 p i.2.2.1)).1,()):=by
  unfold atP at y ⊢;split;case isFalse g=>rw[ag g]at y;cases y
  rename_i g1;rw[ah g1]at y;rw[ah T.right,ag T.ne,ah T.fit]at y ⊢;split;case isFalse g=>rw[ag g]at y;exact absurd y g
  rename_i J;rw[ah J]at y;split;case isFalse g=>rw[ag g]at y;exact absurd y g
  rename_i W;exact⟨J,W,rfl⟩
 have⟨b1,Y,X⟩:=hb;have V:=(bZ.b L).av8 H G F b1;have R:=(bZ.p L).move (.inl H) (.inl G) Y;have M:=aft b1;rw[X];exact⟨{ L with b:=V,p:=R,bal:=λj=>(bQ (· + kS (eU d) j) (M.opn j)).trans (bZ.bal L j) },au _,by have:=M.len;show(yH (cf d) f t i.1 x.2.1).1.length+(eU d).length<=(cf d).length+(eU d).length+2*1;omega⟩
theorem ak4{d}(L:sb (bM d))(h:(Lg d).1=0):Kp 0 1 d (Lg d).2:=by
 unfold Lg at h ⊢;split;case isFalse g=>rw[ag g]at h;exact absurd h g
 rename_i j;rw[ah j]at h;split;case isFalse g=>rw[ag g]at h;exact absurd h g
 rename_i F;rw[ah F]at h;split;case isTrue g=>rw[ah g]at h;cases h
 rename_i C;rw[ag C]at h;split;case isFalse g=>rw[ag g]at h;exact absurd h g
 rename_i y;exact ak2 L (pS j _ (by simp)) (pS j _ (by simp)) y
theorem ah7{l}(h:Idx (·.1) l):C8 l=(l.length:Int):=by
 unfold C8;cases hl:l.getLast? with
 |none=>rw[List.getLast?_eq_none_iff]at hl;subst hl;rfl
 |some g=>
  have j:l≠[]:=λe=>by subst e;cases hl
  have e:=yg j;rw[e]at hl;injection hl with hl;rw[<-hl,tI];have y:=fQ.2 j;have:=h (l.length-1) (by omega);dsimp only;have this:(l[l.length-1]).1=((l.length-1:Nat):Int)+1:=this;omega
theorem ah8{l}(h:Idx (·.1) l):Gc l=(l.length:Int):=by
 unfold Gc;cases hl:l.getLast? with
 |none=>rw[List.getLast?_eq_none_iff]at hl;subst hl;rfl
 |some g=>
  have j:l≠[]:=λe=>by subst e;cases hl
  have e:=yg j;rw[e]at hl;injection hl with hl;rw[<-hl,tI];have y:=fQ.2 j;have this:(l[l.length-1]).1=((l.length-1:Nat):Int)+1:=h (l.length-1) (by omega);dsimp only;omega
structure avC(d:aK)(y:cj):Prop where
 f:pQ (bs d) y.2.1
 t:pQ (bs d) y.2.2.1
 i:kC (·.1) (fD d) y.2.2.2.1.1
 q:lH y.2.2.2.1.2.1
 p:0<=y.2.2.2.2.1/\y.2.2.2.2.1<=2147483647
 g:0<=y.2.2.2.2.2.1/\y.2.2.2.2.2.1<=((dR d).length:Int)
theorem v_{d}{g}(L:sb (bM d))(N:avC d g)(h:(C9 d g).1=0):Kp 0 0 d (C9 d g).2:=by
 unfold C9 at h ⊢;by_cases j:(Lh (cx d) g (gb d)).2.2.1=0;case neg=>rw[ag j]at h;exact absurd h j
 rw[ah j];have hi:Idx (·.1) (cx d):=bZ.vI L
 have e:(Lh (cx d) g (gb d)).1=cx d++[ak5 (1+C8 (cx d)) g (gb d)]/\g.2.1≠g.2.2.1/\g.2.2.2.1.2.1≠0/\(0<=gb d/\gb d<=1048576)/\(cx d).length<64:=by
  unfold Lh at j ⊢;split;case isTrue g1=>rw[ah g1]at j;cases j
  rename_i g1;rw[ag g1]at j;split;case isTrue F=>rw[ah F]at j;cases j
  rename_i F;rw[ag F]at j;split;case isTrue G=>rw[ah G]at j;cases j
  rename_i G;exact⟨rfl,g1,λe=>F (.inl e),by omega,by omega⟩
 have⟨e,J,H,R,K⟩:=e;rw[e];refine⟨{ L with vI:=?_,vO:=λy C=>?_,vL:=?_ },au _,au _⟩
 .refine o_ hi ?_;show 1+C8 (cx d)=((cx d).length:Int)+1;rw[ah7 hi];omega
 .rcases aX.1 C with C|C
  .exact bZ.vO L y C
  .rw[ax.1 C];exact⟨N.f,N.t,J,N.i,H,N.q,N.p,N.g,by show 0<=gb d+8/\gb d+8<=2097152;omega,by show(1:Int)<=1/\(1:Int)<=5;omega⟩
 .show(cx d++[ak5 (1+C8 (cx d)) g (gb d)]).length<=64;rw[aq];simp only[aJ,dB];omega
theorem ak6{d}(L:sb (bM d))(h:(RL d).1=0):Kp 0 0 d (RL d).2:=by
 unfold RL at h ⊢;split;case isFalse g=>rw[ag g]at h;exact absurd h g
 rename_i j;rw[ah j]at h;split;case isFalse g=>rw[ag g]at h;exact absurd h g
 rename_i C;rw[ah C]at h;split;case isTrue g=>rw[ah g]at h;cases h
 rename_i F;rw[ag F]at h;have y:=RK C;exact v_ L ⟨pS j (aT d) (by simp),pS j (cu d) (by simp),⟨_,y.1,y.2⟩,by show lH (dA d);unfold lH;omega,by show 0<=kM d/\kM d<=2147483647;omega,by show(0:Int)<=0/\(0:Int)<=_;omega⟩ h
theorem w_{d}{id st:Int}(L:sb (bM d))(h:(eL (cx d) id st).2.1=0):sb (bM (Cn d (eL (cx d) id st).1)):=by
 have F:2<=st/\st<=5:=by
  unfold eL at h;split at h
  .cases h
  .split at h
   .cases h
   .omega
 rw[afu h];have G:∀y:cj,(if y.1=id then RM st y else y).1=y.1:=λy=>by split<;>rfl
 refine { L with vI:=afp G (bZ.vI L),vO:=λy C=>?_,vL:=by have:=bZ.vL L;show((cx d).map _).length<=64;rw[bp];exact this };obtain⟨z,j,rfl⟩:=aN.1 C;have O:=bZ.vO L z j;split
 .exact⟨O.f,O.t,O.ne,O.i,O.q0,O.q,O.p,O.g,O.d,by show 1<=st/\st<=5;omega⟩
 .exact O
theorem x_{d}{id n:Int}(L:sb (bM d))(F:lH n):sb (bM (Fg d ((dR d).map λy=>if y.1=id then kD n y else y))):=by
 have G:∀y:bR,(if y.1=id then kD n y else y).1=y.1:=λy=>by split<;>rfl
 have hl:((dR d).map λy:bR=>if y.1=id then kD n y else y).length=(dR d).length:=bp ..;refine { L with gI:=afp G (bZ.gI L),gO:=λy j=>?_,gL:=?_,vO:=λy j=>(bZ.vO L y j).mono (λ_ h=>h) (λ_ h=>h) (E7 hl.symm) }
 .obtain⟨z,C,rfl⟩:=aN.1 j;have O:=bZ.gO L z C;split
  .exact⟨O.u,O.i,O.p,F⟩
  .exact O
 .have:=bZ.gL L;show((dR d).map λy:bR=>if y.1=id then kD n y else y).length<=64;rw[hl];exact this
theorem XB{d}{id st:Int}(L:sb (bM d))(h:(FF d id st).1=0):Kp 0 0 d (FF d id st).2:=by
 unfold FF at h ⊢;split;case isFalse g=>rw[ag g]at h;exact absurd h g
 rename_i j;rw[ah j]at h;have y:=w_ L j;split;case isTrue=>exact⟨y,au _,au _⟩
 rename_i G;rw[ag G]at h;split;case isFalse g=>rw[ag g]at h;exact absurd h g
 rename_i F;have⟨n,C,e⟩:=afv F;rw[e];exact⟨x_ (d:=Cn d (eL (cx d) id st).1) y C,au _,au _⟩
theorem Kp.trans{x y}{d e f}(K:Kp 0 0 d e)(J:Kp x y e f):Kp x y d f:=⟨J.1,by have:=K.2.1;have:=J.2.1;omega,by have:=K.2.2;have:=J.2.2;omega⟩
theorem RN{st:Int}:∀{ids:List Int} {d:aK},sb (bM d)->(BB st ids d).1=0->Kp 0 0 d (BB st ids d).2
 |[],d,L,_=>Kp.uv L
 |id::l,d,L,h=>by
  unfold BB at h ⊢;split;case isFalse g=>rw[ag g]at h;exact absurd h g
  rename_i j;rw[ah j]at h;have K:=XB L j;exact K.trans (RN K.1 h)
theorem ah9{l}{id}{m}(h:zR l id=some m):m∈l/\m.1=id:=⟨bV h,by have:=jM h;simpa using this⟩
theorem VL{l}{id}{m}(h:zT l id=some m):m∈l/\m.1=id:=⟨bV h,by have:=jM h;simpa using this⟩
theorem acM{d}(L:sb (bM d))(h:(y7 d).1=0):Kp 0 1 d (y7 d).2:=by
 unfold y7 at h ⊢;cases j:zR (cx d) (ux d)with
 |none=>rw[j]at h;cases h
 |some g=>
  rw[j]at h;dsimp only at h ⊢;have O:=bZ.vO L g (ah9 j).1;split;case isFalse g1=>rw[ag g1]at h;exact absurd h g1
  rename_i G;rw[ah G]at h;split;case isFalse g1=>rw[ag g1]at h;exact absurd h g1
  rename_i y;rw[ah y]at h;have C:=w_ L y;split;case isFalse g1=>rw[ag g1]at h;exact absurd h g1
  rename_i F;have H:Kp 0 0 d (Cn d (eL (cx d) g.1 2).1):=⟨C,au _,au _⟩;exact H.trans (ak2 C O.f O.t F)
theorem acN{l}{id q}(H:∀x∈l,lH x.2.2.2.2.1)(h:(kh l id q).2.1=0):lH q/\∃n,lH n/\(kh l id q).1=l.map λy=>if y.1=id then kD n y else y:=by
 unfold kh at h ⊢;cases C:zT l id with
 |none=>rw[C]at h;cases h
 |some g=>
  rw[C]at h;dsimp only at h ⊢;have K:=H g (VL C).1;split;case isTrue g1=>rw[ah g1]at h;cases h
  rename_i F;rw[ag F]at h;split;case isTrue g1=>rw[ah g1]at h;cases h
  rename_i R
  have J:q≠0/\(g.2.2.2.2.1≠0->(q<0↔g.2.2.2.2.1<0)):=by
   refine⟨λe=>F (.inl e),λj=>?_⟩;have:=cT λG=>F (.inr ⟨j,G⟩)
   exact dM.1 this
  unfold lH at *;exact⟨by omega,g.2.2.2.2.1-q,by omega,rfl⟩
theorem ahA{d}(L:sb (bM d))(h:(Ji d).1=0):Kp 0 0 d (Ji d).2:=by
 unfold Ji at h ⊢;cases j:zT (dR d) (ux d)with
 |none=>rw[j]at h;cases h
 |some g=>
  rw[j]at h;dsimp only at h ⊢;have⟨C,_⟩:=VL j;have O:=bZ.gO L g C;split;case isFalse g1=>rw[ag g1]at h;exact absurd h g1
  rename_i G;rw[ah G]at h;split;case isFalse g1=>rw[ag g1]at h;exact absurd h g1
  rename_i F;rw[ah F]at h;have⟨K,n,R,e⟩:=acN (λx J=>(bZ.gO L x J).l) F;rw[e]at h ⊢;have H:sb (bM (Fg d ((dR d).map λy=>if y.1=g.1 then kD n y else y))):=x_ L R;have V:Kp 0 0 d (Fg d ((dR d).map λy=>if y.1=g.1 then kD n y else y)):=⟨H,au _,au _⟩;refine V.trans (v_ H ⟨O.u,pS G (cu d) (by simp),O.i,K,O.p,?_⟩ h);have:=XA (bZ.gI L) g C;show 0<=g.1/\g.1<=(((dR d).map λy=>if y.1=g.1 then kD n y else y).length:Int);rw[bp];have this:1<=g.1/\g.1<=((dR d).length:Int):=this;omega
theorem ahB{d}(L:sb (bM d))(h:(Jj d).1=0):Kp 0 0 d (Jj d).2:=by
 unfold Jj at h ⊢;split;case isFalse g1=>rw[ag g1]at h;exact absurd h g1
 rename_i R;rw[ah R]at h;split;case isFalse g1=>rw[ag g1]at h;exact absurd h g1
 rename_i K;rw[ah K]at h;split;case isFalse g1=>rw[ag g1]at h;exact absurd h g1
 rename_i J;rw[ah J]at h;split;case isFalse g1=>rw[ag g1]at h;exact absurd h g1
 rename_i h4;rw[ah h4]at h;split;case isFalse g1=>rw[ag g1]at h;exact absurd h g1
 rename_i C;rw[ah C]at h;split;case isFalse g1=>rw[ag g1]at h;exact absurd h g1
 rename_i h6;have G:=pS R _ (ax.2 rfl);have H:=RK K;have W:=(arH J).2.2.1;have Y:=(bZ.p L).move (f:=RP) (.inr (.inr rfl)) (.inl G) h6;have hi:=bZ.gI L
 have e:(Gd (dR d) (Ur d)).1=dR d++[(Gc (dR d)+1,(Ur d).2)]/\lH (Ur d).2.2.2.2.1/\(dR d).length<64:=by
  unfold Gd at C ⊢;split;case isTrue F=>rw[ah F]at C;cases C
  rename_i F;rw[ag F]at C;split;case isTrue V=>rw[ah V]at C;cases C
  rename_i V;exact⟨rfl,cT λX=>F (.inr X),by omega⟩
 have⟨e,e2,e3⟩:=e;rw[e];refine⟨{ L with gI:=?_,gO:=λy j=>?_,gL:=?_,vO:=λy j=>(bZ.vO L y j).mono (λ_ h=>h) (λ_ h=>h) ?_,p:=Y },au _,au _⟩
 .refine o_ hi ?_;dsimp only;rw[ah8 hi]
 .rcases aX.1 j with j|j
  .exact bZ.gO L y j
  .rw[ax.1 j];exact⟨G,⟨_,H.1,H.2⟩,W,e2⟩
 .show(dR d++[(Gc (dR d)+1,(Ur d).2)]).length<=64;rw[aq];simp only[aJ,dB];omega
 .show(dR d).length<=(dR d++[(Gc (dR d)+1,(Ur d).2)]).length;rw[aq];omega
theorem Kp.b1{d e}(K:Kp 0 0 d e):Kp 0 1 d e:=K.up
theorem ahC{d}(L:sb (bM d))(h:(Ek d).1=0):Kp 0 1 d (Ek d).2:=by
 unfold Ek at h ⊢;split;case isTrue g=>rw[ah g]at h;exact ak4 L h
 rename_i g;rw[ag g]at h;split;case isTrue g=>rw[ah g]at h;exact(ak6 L h).b1
 rename_i g;rw[ag g]at h;split;case isTrue g=>rw[ah g]at h;exact acM L h
 rename_i g;rw[ag g]at h;split;case isTrue g=>rw[ah g]at h;exact(XB L h).b1
 rename_i g;rw[ag g]at h;split;case isTrue g=>rw[ah g]at h;exact(XB L h).b1
 rename_i g;rw[ag g]at h;split;case isTrue g=>rw[ah g]at h;exact(ahB L h).b1
 rename_i g;rw[ag g]at h;exact(ahA L h).b1
theorem y_(x):∀l:List Int,(IH x l).length=l.length+1
 |[]=>rfl
 |y::l=>by
  unfold IH;cases decide (x<=y)with
  |true=>rfl
  |false=>show(y::IH x l).length=_;rw[aJ,y_ x l];rfl
theorem z_:∀l:List Int,(xC l).length=l.length
 |[]=>rfl
 |x::l=>by rw[xC,y_,z_ l];rfl
theorem zr:∀(l:List Int) (p:Option Int),(xD p l).length<=l.length
 |[],_=>au _
 |x::l,p=>by
  unfold xD;have:=zr l (some x);cases ahD p x with
  |true=>show(xD (some x) l).length<=_;rw[aJ];omega
  |false=>show(x::xD (some x) l).length<=_;rw[aJ,aJ];omega
def ofU(d:aK)(u:ar):List Int:=xE (cx d) λg=>decide (g.2.1=u)||decide (g.2.2.1=u)
def OP(d:aK)(l:List ar):List Int:=l.flatMap (ofU d)
def zU(d:aK)(l:List az):List Int:=l.flatMap λa=>OP d (cd a)
def RQ(d:aK)(id:Int):List Int:=uy (xC (zU d ((bs d).filter (p9 id))))
theorem VM{d}(hv:(cx d).length<=64)(l):(OP d l).length<=64*l.length:=by
 induction l with
 |nil=>exact bE _
 |cons u l j=>
  have:=Da (cx d) λg=>decide (g.2.1=u)||decide (g.2.2.1=u)
  unfold OP at j ⊢;rw[cp,aq,aJ];have:(ofU d u).length<=(cx d).length:=this;omega
theorem RR{a}(h:a.2.2.2.1.length<=16):(cd a).length<=16:=by
 unfold cd;split
 .simp
 .rw[bp];exact h
theorem Np{d}(hv:(cx d).length<=64)(l)(h:∀a∈l,a.2.2.2.1.length<=16):(zU d l).length<=1024*l.length:=by
 induction l with
 |nil=>exact bE _
 |cons a l j=>
  have F:=VM hv (cd a);have C:=RR (h a (by simp));have y:=j λb hb=>h b (by simp[hb])
  unfold zU at y ⊢;rw[cp,aq,aJ];omega
theorem aoY{d}(O:OkN d)(id):zV d id=some (RQ d id,d):=by
 show kU aj d id=_;unfold kU;have hv:=O.v;have hal:=O.al;have Y:((bs d).filter (p9 id)).length<=(bs d).length:=cR _ _;have F:∀a∈(bs d).filter (p9 id),a.2.2.2.1.length<=16:=λa H=>(O.cc a (aM.1 H).1).2
 rw[ai (ZH O.a)];unfold RQ;generalize (bs d).filter (p9 id)=A at *;refine qp (N:=A.length) (by omega) (λi=>((i:Int),A,zU d (A.take i),())) _ rfl ?_ ?_
 .intro G;have hA:=Np hv A F;refine FQ ?_;rw[bq]
  have e1:XC (zU d A)=some (xC (zU d A)):=by
   show(bif Nat.blt (zU d A).length 4611686018427387904 then some (xC (zU d A))else none)=_;have:Nat.blt (zU d A).length 4611686018427387904=true:=by rw[Nat.blt_eq];omega
   rw[this];rfl
  rw[ai e1];rfl
 .intro i hi G H;have J:=Np hv (A.take i) λa h=>F a (dw h)
  rw[aY]at J;have X:=F _ (aF hi);have W:=RR X;have e:=xt (a:=A[i]) (by omega);refine Ii hi ?_;rw[bN hi,iI hi,ai e];refine qp (N:=(cd A[i]).length) (by omega) (λj=>((j:Int),A,zU d (A.take i)++OP d ((cd A[i]).take j),cd A[i],())) _ (by simp[OP]) ?_ ?_
  .intro y;refine FQ ?_;rw[bq,cJ i];rw[aw hi]at H;unfold zU at H ⊢;rw[jF]at H;simpa using H
  .intro j R y C;have V:=VM hv ((cd A[i]).take j);rw[aY]at V;have K:=Da (cx d) λg=>decide (g.2.1=(cd A[i])[j])||decide (g.2.2.1=(cd A[i])[j])
   refine Ii R ?_;rw[bN R,iI R];show aj.ae (afw (cx d) (cd A[i])[j]) _=_;rw[ai (atv (by omega)),cJ j];show aj.bg ((zU d (A.take i)++OP d ((cd A[i]).take j)).length+(ofU d (cd A[i])[j]).length) 8 (y (((j+1:Nat):Int),A,(zU d (A.take i)++OP d ((cd A[i]).take j))++ofU d (cd A[i])[j],cd A[i],()))=_;have K:(ofU d (cd A[i])[j]).length<=(cx d).length:=K;rw[c9 (by rw[aq];omega) (by rw[aq];omega)];rw[aw R]at C;unfold OP at C ⊢;rw[jF]at C;simpa using C
theorem ahE{d}(O:OkN d)(id):(RQ d id).length<=1000000:=by
 have y:=O.al;have j:((bs d).filter (p9 id)).length<=(bs d).length:=cR _ _;have:=Np O.v ((bs d).filter (p9 id)) λa C=>(O.cc a (aM.1 C).1).2
 have F:=zr (xC (zU d ((bs d).filter (p9 id)))) none;rw[z_]at F;show(xD none (xC (zU d ((bs d).filter (p9 id))))).length<=_;omega
theorem yq.RD{d}(Z:yq d){l:List aW}(K:Kp 0 0 d (RD d l)):yq (RD d l):=⟨K.1,Z.u,Z.t,Z.b,Z.s,Z.q,Z.n⟩
theorem Db{d}{m:aW}(L:sb (bM d))(h:(vQ d m).1=0):Kp 0 0 d (vQ d m).2:=by
 unfold vQ at h ⊢;split;case isFalse g=>rw[ag g]at h;exact absurd h g
 rename_i g;exact RE L g
theorem yq.atw{d}(Z:yq d){m:aW}(h:(vQ d m).1=0):yq (vQ d m).2:=by
 have K:=Db Z.L h;unfold vQ at h K ⊢;split;case isFalse g=>rw[ag g]at h;exact absurd h g
 rename_i g;rw[ah g]at K;exact Z.RD K
def Ge(d:aK):aW×Int×Unit:=afx (iQ d).1 (gb d) (dA d)
def tN(d:aK):Int×aK:=if(Ge d).2.1=0 then vQ d (Ge d).1 else((Ge d).2.1,d)
def acO(d:aK):Int×aK:=if(iQ d).2.1=0 then(if dA d<0\/16<dA d then(2,d)else(if(tN d).1=0 then BB 4 (RQ (tN d).2 (Ge d).1.1) (tN d).2 else tN d))else((iQ d).2.1,d)
theorem atx{d}(Z:yq d):Im d=some (acO d):=by
 show kr aj d=_;unfold kr;have O:=Z.Nn;have hm:=O.m;rw[ai (zt (by omega))];show aj.af ((iQ d).2.1 != 0) (some ((iQ d).2.1,d)) _=_;unfold acO;by_cases G:(iQ d).2.1=0;case neg=>rw[fz G,ag G]
 rw[gY G,ah G];refine bB λF y=>?_
 have R:F (true,())=some (2,d):=by subst y;rfl
 have Y:F (false,())=some (if(tN d).1=0 then BB 4 (RQ (tN d).2 (Ge d).1.1) (tN d).2 else tN d):=by
  subst y;show aj.ae (RS (iQ d).1 (gb d) (dA d)) _=_;rw[ai (ak7 _ _ _)];refine bB λH C=>?_
  have W:H (tN d)=some (if(tN d).1=0 then BB 4 (RQ (tN d).2 (Ge d).1.1) (tN d).2 else tN d):=by
   subst C;show aj.af ((tN d).1 != 0) (some (tN d)) (aj.ae (zV (tN d).2 (Ge d).1.1) _)=_;by_cases j:(tN d).1=0;case neg=>rw[aQ (by simpa using j),ag j]
   have K:yq (tN d).2:=by
    unfold tN at j ⊢;split
    .rename_i g;rw[ah g]at j;exact Z.atw j
    .rename_i g;rw[ag g]at j;exact absurd j g
   rw[aB (by simpa using j),ah j,ai (aoY K.okN _)];show aj.ae (sI (tN d).2 (RQ (tN d).2 (Ge d).1.1) 4) _=_;rw[ai (afy K.Nn (ahE K.okN _))]
  clear C;show aj.af ((Ge d).2.1==0) (aj.ae (Fh d (Ge d).1) λX=>H X) (H ((Ge d).2.1,d))=_;by_cases h:(Ge d).2.1=0
  .have e:tN d=vQ d (Ge d).1:=by unfold tN;rw[ah h]
   rw[aQ (by simpa using h),ai (XD O),<-e];exact W
  .have e:tN d=((Ge d).2.1,d):=by unfold tN;rw[ag h]
   rw[aB (by simpa using h),<-e];exact W
 clear y;show aj.af (decide (dA d<0)) (F (true,())) (F (decide (16<dA d),()))=_;refine dh (λV=>?_) λV=>?_
 .rw[ah (.inl V)];exact R
 .by_cases J:16<dA d
  .rw[ah (.inr J),ap J];exact R
  .rw[ag (by omega),an J];exact Y
theorem aoZ{d}(L:sb (bM d))(h:(acO d).1=0):Kp 0 0 d (acO d).2:=by
 unfold acO at h ⊢;split;case isFalse g=>rw[ag g]at h;exact absurd h g
 rename_i C;rw[ah C]at h;split;case isTrue g=>rw[ah g]at h;cases h
 rename_i y;rw[ag y]at h;split;case isFalse g=>rw[ag g]at h;exact absurd h g
 rename_i j;rw[ah j]at h
 have K:Kp 0 0 d (tN d).2:=by
  unfold tN at j ⊢;split
  .rename_i g;rw[ah g]at j;exact Db L j
  .rename_i g;rw[ag g]at j;exact absurd j g
 exact K.trans (RN K.1 h)
def ZA(d:aK):aW×Int×Unit:=if(iQ d).2.1=0 then rK (iQ d).1 (gb d) 2 else iQ d
def Ui(d:aK):Int×aK:=if(ZA d).2.1=0 then vQ d (ZA d).1 else((ZA d).2.1,d)
def II(e:aK)(id:Int):Ng:=om (Hw (bM e) id) (fN e) (eY e) []
def clG(e:aK)(id:Int):aV×List fI×Int×Unit:=OQ (fX (bM e) (II e id).1 (II e id).2.1) id
def arI(e:aK)(s:aV)(b:List fH)(r:List fI):aK:=xc s (U16 e.2.2.2.2.2.2.2.2.2.2.2.2 (b,r,()))
def clR(e:aK)(id:Int):Int×aK:=if ZI (bM e) id=[]then(if(II e id).2.2.2=0 then(if(clG e id).2.2.1=0 then(0,arI e (clG e id).1 (II e id).2.2.1 (clG e id).2.1)else((clG e id).2.2.1,e))else((II e id).2.2.2,e))else(21,e)
def XE(d:aK):Int×aK:=if(Ui d).1=0 then clR (Ui d).2 (ZA d).1.1 else Ui d
theorem yq.phi{d}(Z:yq d):OL (F9 (bs d)) (kC (·.1) (jc d)) (fN d) (eY d):=⟨bZ.p Z.L,bZ.h Z.L⟩
theorem A_{C}:∀a∈C,∀u∈cd a,F9 C u:=λa y u j=>.inl (cE.2 ⟨a,y,j⟩)
theorem afz{d}(Z:yq d){id}(h:(II d id).2.2.2=0):OL (F9 (bs d)) (kC (·.1) (jc d)) (II d id).1 (II d id).2.1:=ah1 (t:=bM d) (λa y u j=>A_ a y u j) (.inr (.inr rfl)) (.inr (.inl rfl)) Z.phi h
theorem avD{d}(Z:yq d)(id):(aj.ae (M2 (bM d) id) λv4=>aj.af (decide (0<(v4.length:Int))) (some ((21:Int),d)) (aj.two (aj.ae (La (bM d) id) λC=>
 aj.af (C.2.2.1 != 0) (some (C.2.2.1,d)) (aj.ae (HB C.1 id) λy=>aj.aH (λR=>some (y.2.2.1,R)) λK=>aj.af (y.2.2.1==0) (K (arI d y.1 C.2.1 y.2.1)) (K d)))))=some (clR d id):=by
 have hs:=Z.s;have e1:M2 (bM d) id=some (ZI (bM d) id):=asQ (bZ.qC Z.L) (by show(eU d).length<=100;omega);have e2:La (bM d) id=some (rb (bM d) (II d id)):=akl Z.okS id;rw[ai e1];unfold clR;by_cases G:ZI (bM d) id=[];case neg=>have:=fQ.2 G;rw[eA (by omega),ag G]
 rw[aB (by rw[G];rfl),ah G,iW,ai e2];unfold rb;by_cases j:(II d id).2.2.2=0;case neg=>rw[ag j,ag j];exact tby j rfl
 rw[ah j,ah j];have I:=afz Z j;have H:=I.1.len bZ.Rz;have hol:=I.2.len bZ.Rz;rw[aq]at H hol;have hu:=Z.u;have X:([fU,tU]:List ar).length=2:=rfl;have V:(II d id).1.length<=1000:=by omega
 have hh:(II d id).2.1.length<=400000:=by omega
 have J:=Z.Nn.al;have Y:HB (fX (bM d) (II d id).1 (II d id).2.1) id=some (clG d id):=apa (s:=fX (bM d) (II d id).1 (II d id).2.1) I.1.f V (I.2.kL hh) (λa W=>by have:=(bZ.cO Z.L a W).len;omega) J;show aj.af ((0:Int) != 0) (some ((0:Int),d)) (aj.ae (HB (fX (bM d) (II d id).1 (II d id).2.1) id) _)=_;rw[aB (by decide),ai Y,ub];refine dE (λF=>?_) λF=>?_
 .rw[ah F,F]
 .rw[ag F]
theorem aty{d}(Z:yq d):Nq d=some (XE d):=by
 show mY aj d=_;unfold mY;have O:=Z.Nn;have hm:=O.m;rw[ai (zt (by omega))];refine bB λj C=>?_
 have K:j ((ZA d).2.1,(ZA d).1)=some (XE d):=by
  subst C;refine bB λH F=>?_
  have G:H (Ui d)=some (XE d):=by
   subst F;show aj.af ((Ui d).1 != 0) (some (Ui d)) _=_;unfold XE;by_cases h:(Ui d).1=0;case neg=>rw[fz h,ag h]
   have J:yq (Ui d).2:=by
    unfold Ui at h ⊢;split
    .rename_i g;rw[ah g]at h;exact Z.atw h
    .rename_i g;rw[ag g]at h;exact absurd h g
   rw[gY h,ah h];exact avD J _
  refine dE (λh=>?_) λh=>?_
  .rw[ai (XD O)];have e:vQ d (ZA d).1=Ui d:=by unfold Ui;rw[ah h]
   rw[e];exact G
  .have e:((ZA d).2.1,d)=Ui d:=by unfold Ui;rw[ag h]
   rw[e];exact G
 show aj.af ((iQ d).2.1==0) (aj.ae (OR (iQ d).1 (gb d)) λy=>j (y.2.1,y.1)) (j ((iQ d).2.1,(iQ d).1))=_;by_cases h:(iQ d).2.1=0
 .have e:ZA d=rK (iQ d).1 (gb d) 2:=by unfold ZA;rw[ah h]
  rw[oJ h,ai (ahF _ _),<-e];exact K
 .have e:ZA d=iQ d:=by unfold ZA;rw[ag h]
  rw[e]at K;rw[pq h];exact K
theorem apb{d}(Z:yq d)(h:(XE d).1=0):Kp 0 0 d (XE d).2:=by
 unfold XE at h ⊢;split;case isFalse g=>rw[ag g]at h;exact absurd h g
 rename_i j;rw[ah j]at h
 have F:yq (Ui d).2:=by
  unfold Ui at j ⊢;split
  .rename_i g;rw[ah g]at j;exact Z.atw j
  .rename_i g;rw[ag g]at j;exact absurd j g
 have K:Kp 0 0 d (Ui d).2:=by
  unfold Ui at j ⊢;split
  .rename_i g;rw[ah g]at j;exact Db Z.L j
  .rename_i g;rw[ag g]at j;exact absurd j g
 refine K.trans ?_;generalize (Ui d).2=e at *;generalize (ZA d).1.1=id at *;unfold clR at h ⊢;split;case isFalse g=>rw[ag g]at h;cases h
 rename_i g1;rw[ah g1]at h;split;case isFalse g=>rw[ag g]at h;exact absurd h g
 rename_i C;rw[ah C]at h;split;case isFalse g=>rw[ag g]at h;exact absurd h g
 rename_i y;have I:=afz F C;have J:=ah3 (s:=fX (bM e) (II e id).1 (II e id).2.1) (id:=id) (λa H u G=>A_ a H u G) I
 have R:(clG e id).1=fX (fX (bM e) (II e id).1 (II e id).2.1) (jI (fX (bM e) (II e id).1 (II e id).2.1) (gj id (bs e))).1 (jI (fX (bM e) (II e id).1 (II e id).2.1) (gj id (bs e))).2.1:=by
  unfold clG OQ at y ⊢;split
  .rfl
  .rename_i g;rw[ag g]at y;cases y
 have L:=F.L;rw[R];exact⟨{ L with p:=J.1,h:=J.2 },au _,au _⟩
theorem B_{d}{id p:Int}(L:sb (bM d))(h:(Em (fD d) id p).2.1=0):Kp 0 0 d (akz d (Em (fD d) id p).1):=by
 unfold Em at h ⊢;split;case isTrue g=>rw[ah g]at h;cases h
 rename_i g;rw[ag g]at h;split;case isFalse C=>rw[ag C]at h;cases h
 rename_i C;have F:∀y:bH,(if y.1=id then ak8 p y else y).1=y.1:=λy=>by split<;>rfl
 refine⟨bZ.aoV L (Ld F (bZ.iA L)) (λy H=>?_) λk j=>QA F j,au _,au _⟩;obtain⟨z,G,rfl⟩:=aN.1 H;have O:=bZ.iO L z G;split
 .unfold Ql at O ⊢;exact⟨O.1,O.2.1,O.2.2.1,C,O.2.2.2.2⟩
 .exact O
theorem XF{d}{id p:Int}(L:sb (bM d))(h:(zW (jc d) id p).2.1=0):Kp 0 0 d (RG d (zW (jc d) id p).1):=by
 unfold zW at h ⊢;split;case isTrue g=>rw[ah g]at h;cases h
 rename_i g;rw[ag g]at h;split;case isFalse C=>rw[ag C]at h;cases h
 rename_i C;have F:∀y:bh,(if y.1=id then af0 p y else y).1=y.1:=λy=>by split<;>rfl
 refine⟨bZ.avA L (Ld F (bZ.aA L)) (λy H=>?_) λk j=>QA F j,au _,au _⟩;obtain⟨z,G,rfl⟩:=aN.1 H;have O:=bZ.aO L z G;split
 .exact⟨O.1,C,O.2.2⟩
 .exact O
theorem ak9{d}(L:sb (bM d))(h:(zX d).2.1=0):PL (F9 (bs d)) (zX d).1:=PL.settle (bZ.p L) (λx j=>.inl ((bZ.b L).n x j)) h
theorem akA{d}(L:sb (bM d))(h:(zX d).2.1=0)(y:(Jk d).2.1=0):PL (F9 (bs d)) (Jk d).1:=PL.settle (ak9 L h) (λx j=>.inl ((bZ.s L).n x j)) y
theorem akB{d}(L:sb (bM d))(R:¬1048576<=gb d)(h:(zX d).2.1=0)(H:(Jk d).2.1=0):sb (bM (C_ d)):=by
 have C:∀y:bH,(zY y).1=y.1:=λ_=>rfl
 have J:=bZ.aoV L (Ld C (bZ.iA L)) (λy G=>by obtain⟨z,F,rfl⟩:=aN.1 G;have O:=bZ.iO L z F;unfold Ql at O ⊢;exact⟨O.1,O.2.1,O.2.2.2.1,O.2.2.2.1,O.2.2.2.2⟩) λk j=>QA C j
 have K:0<=gb d/\gb d<=1048576:=bZ.dy L;exact { J with dy:=by show 0<=gb d+1/\gb d+1<=1048576;omega,p:=akA L h H }
theorem apc{d}(L:sb (bM d))(h:(D_ d).1=0):Kp 0 0 d (D_ d).2:=by
 unfold D_ at h ⊢;split;case isTrue g=>rw[ah g]at h;cases h
 rename_i g0;rw[ag g0]at h;split;case isFalse g=>rw[ag g]at h;exact absurd h g
 rename_i g1;rw[ah g1]at h;split;case isFalse g=>rw[ag g]at h;exact absurd h g
 rename_i j;rw[ah j]at h;have y:=akB L g0 g1 j;have K:Kp 0 0 d (C_ d):=⟨y,au _,au _⟩;exact K.trans (RN y h)
theorem apd{d:aK}(Z:yq d):Gf d=some (D_ d):=by
 refine atz Z.Nn (bZ.dy Z.L).1 (bZ.Uq Z.L) Z.akv (λh=>?_) λh J=>?_
 .have P:=ak9 Z.L h;have:=P.len bZ.Rz;rw[aq]at this;have H:([fU,tU]:List ar).length=2:=rfl;have:=Z.u;exact⟨P.f,by omega⟩
 .have C:∀y:bH,(zY y).1=y.1:=λ_=>rfl
  have L:=Z.L;have V:=bZ.aoV L (Ld C (bZ.iA L)) (λy G=>by obtain⟨z,F,rfl⟩:=aN.1 G;have O:=bZ.iO L z F;unfold Ql at O ⊢;exact⟨O.1,O.2.1,O.2.2.2.1,O.2.2.2.1,O.2.2.2.2⟩) λk j=>QA C j
  have R:={ V with p:=akA L h J };have K:yq (gb d,(C_ d).2):=⟨R,Z.u,Z.t,Z.b,Z.s,Z.q,Z.n⟩;exact { K.Nn with }
theorem E_{d}{n:Int}(L:sb (bM d))(y:F9 (bs d) (aT d))(h:(Gg d n).1=0):Kp 0 0 d (Gg d n).2:=by
 unfold Gg at h ⊢;split;case isFalse g=>rw[ag g]at h;exact absurd h g
 rename_i g;have P:=(bZ.p L).pay (fl:=[(aT d,n,())]) (λx j=>by rw[ax.1 j];exact y) g;exact⟨{ L with p:=P },au _,au _⟩
theorem ape{d}(h:akC d=0):F9 (bs d) (aT d):=by
 unfold akC at h;split at h
 .rename_i g;exact .inr (.inl g)
 .exact .inl (pS h _ (ax.2 rfl))
theorem ahG{as}{k}(h:(iD as k).2.1=true):kC (·.1) as k:=by
 induction as with
 |nil=>cases h
 |cons a l j=>
  rw[iD]at h;split at h
  .rename_i e;exact⟨a,by simp,e⟩
  .have⟨b,hb,e⟩:=j h;exact⟨b,by simp[hb],e⟩
theorem apf{d}(L:sb (bM d))(h:(acP d).1=0):Kp 0 0 d (acP d).2:=by
 unfold acP at h ⊢;split;case isFalse g=>rw[ag g]at h;exact absurd h g
 rename_i g0;rw[ah g0]at h;have j:=ape g0;split;case isFalse g=>rw[ag g]at h;exact absurd h g
 rename_i g1;rw[ah g1]at h;split;case isTrue g=>rw[ah g]at h;exact E_ L j h
 rename_i F;rw[ag F]at h;split;case isFalse g=>rw[ag g]at h;cases h
 rename_i y;rw[ah y]at h;split;case isFalse g=>rw[ag g]at h;exact absurd h g
 rename_i C;have H:=(bZ.h L).put (u:=aT d) (x:=sU d) j (ahG y) C;exact⟨{ L with h:=H },au _,au _⟩
theorem VN{d}(L:sb (bM d))(j:F9 (bs d) (aT d))(h:(gH d).1=0):Kp 0 0 d (gH d).2:=by
 unfold gH at h ⊢;split
 case isTrue g=>
  rw[ah g]at h;split;case isTrue g1=>rw[ah g1]at h;cases h
  rename_i g1;rw[ag g1]at h;exact E_ L j h
 rename_i g;rw[ag g]at h;split;case isFalse g1=>rw[ag g1]at h;exact absurd h g1
 rename_i g1;have H:=(bZ.h L).take (u:=aT d) (x:=sU d) g1;exact⟨{ L with h:=H.1 },au _,au _⟩
theorem apg{d:aK}(Z:yq d)(y:F9 (bs d) (aT d))(h:(gH d).1=0):yq (gH d).2:=by
 have K:=VN Z.L y h
 have C:bs (gH d).2=bs d/\cf (gH d).2=cf d/\eU (gH d).2=eU d/\dA (gH d).2=dA d/\sS (gH d).2=sS d/\aT (gH d).2=aT d:=by
  unfold gH Gg
  repeat' split
  all_goals exact⟨rfl,rfl,rfl,rfl,rfl,rfl⟩
 have⟨c1,c2,j,G,F,_⟩:=C;exact⟨K.1,by rw[c1];exact Z.u,by rw[c2,j];exact Z.t,by rw[c2];exact Z.b,by rw[j];exact Z.s,by rw[G];exact Z.q,by rw[F];exact Z.n⟩
def WdR(d e:aK):Prop:=o9 d [aT d]=0/\y8 d=0/\gH d=(0,e)
theorem avE{d}(Z:yq d):∃r,Io d=some r/\(r.1=0->WdR d r.2):=by
 show ∃r,ku aj d=some r/\_;unfold ku;have O:=Z.Nn;have hm:=O.m;have e1:sJ d [aT d]=some (o9 d [aT d],d):=BC O.a (by omega) (by simp);rw[ai e1];by_cases V:o9 d [aT d]=0;case neg=>rw[fz V];exact⟨_,rfl,λh=>absurd h V⟩
 rw[gY V,ai (VO d)];by_cases C:y8 d=0;case neg=>rw[fz C];exact⟨_,rfl,λh=>absurd h C⟩
 have hq:0<=dA d:=by
  unfold y8 at C;split at C
  .cases C
  .omega
 rw[gY C,ai (akD O Z.hs hq)];by_cases R:(gH d).1=0;case neg=>rw[fz R];exact⟨_,rfl,λh=>absurd h R⟩
 have Z2:=apg Z (.inl (pS V _ (ax.2 rfl))) R;have O2:=Z2.Nn;have⟨b,F⟩:=VP (t:=bs (gH d).2) (id:=uw (gH d).2) O2.a O2.as
 have H:∃a,a.2.2.2.1.length<=1000/\M3 (bs (gH d).2) (uw (gH d).2)=some (a,b):=by
  cases Y:fj (bs (gH d).2) (uw (gH d).2)with
  |none=>rw[Y]at F;exact⟨_,bE _,F⟩
  |some a=>rw[Y]at F;exact⟨a,O2.a.1 a (wq Y).1,F⟩
 clear F;have⟨a,K,F⟩:=H;have⟨u,e5,h5⟩:=akE (a:=a) (u:=aT (gH d).2) K;have⟨n,e6,h6,_⟩:=Nr (s:=(jc (gH d).2,fD (gH d).2,cf (gH d).2,fN (gH d).2,eY (gH d).2,())) (a:=a) (u:=u) Z2.akw K;rw[gY R,iW,ai F,iW,ai h5];show ∃r,(aj.ae (En (jc (gH d).2,fD (gH d).2,cf (gH d).2,fN (gH d).2,eY (gH d).2,()) a u) _)=some r/\_;rw[ai h6];have W:∀x:Int,∃r,some (x,(gH d).2)=some r/\(r.1=0->WdR d r.2):=λx=>⟨_,rfl,λ_=>⟨V,C,by rw[<-R]⟩⟩
 refine BD (P:=λo=>∃r:Int×aK,o=some r/\(r.1=0->WdR d r.2)) λk9 J=>?_
 have G:∀z:Int×Unit,k9 z=some (z.1,(gH d).2):=λz=>by subst J;rfl
 clear J;refine BD (P:=λo=>∃r:Int×aK,o=some r/\(r.1=0->WdR d r.2)) λX y=>?_
 have j:∀c:Bool,∃x,X (c,())=some (x,(gH d).2):=λc=>by
  subst y;cases c with
  |true=>exact⟨_,(aQ rfl _ _).trans (G _)⟩
  |false=>exact⟨_,(aB rfl _ _).trans (G _)⟩
 clear y;by_cases h7:(e6.1==0)=true
 .rw[aQ h7];have⟨x,H⟩:=j (decide (n<0));rw[H];exact W x
 .rw[aB (by simpa using h7)];have⟨x,H⟩:=j false;rw[H];exact W x
theorem at0{α}{p}{l:List α}{k:Nat}(h:yU p l=(k:Int)):k<l.length/\(∀K:k<l.length,p l[k]=true)/\∀j (F:j<l.length),j<k->p l[j]=false:=by
 unfold yU at h;cases y:l.findIdx? p with
 |none=>rw[y]at h;simp only at h;omega
 |some m=>
  rw[y]at h;have h:(m:Int)=(k:Int):=h;have:m=k:=by omega
  subst this;rw[ez]at y;have⟨J,H,G⟩:=y;exact⟨J,λ_=>H,λj F C=>by simpa using G j C⟩
theorem at1{α}{p:α->Bool}{l:List α}(h:yU p l<0):∀y∈l,p y=false:=by
 unfold yU at h;cases j:l.findIdx? p with
 |none=>exact λy C=>by rw[gg]at j;exact j y C
 |some m=>rw[j]at h;simp only at h;omega
theorem ahH{l}(hs:jP (l.map (·.1))){f t:ar}(X:∀c∈l,c.1≠f):jP ((Li l f t).map (·.1)):=by
 have key:∃k,k<=l.length/\Li l f t=l.take k++(f,t,false,())::l.drop k/\(∀c∈l.take k,nV c.1 f)/\∀c∈l.drop k,nV f c.1:=by
  have C:∀c∈l,¬nV f c.1->nV c.1 f:=λc y W=>cT λhm=>X c y (Eo hm W)
  rcases kT (λc:bA=>decide (nV f c.1)) l with⟨F,_⟩|⟨k,hk,F,_,_⟩
  .refine⟨l.length,au _,?_,λc y=>?_,λc y=>?_⟩
   .unfold Li ahI;rw[F];rfl
   .rw[bq]at y;exact C c y (of_decide_eq_false (at1 (by rw[F];decide) c y))
   .rw[fu]at y;cases y
  .have⟨_,G,h3⟩:=at0 F;refine⟨k,Nat.le_of_lt hk,?_,λc y=>?_,λc y=>?_⟩
   .unfold Li ahI;rw[F,ag (by omega),aP]
   .obtain⟨j,J,rfl⟩:=jG y;rw[aY]at J;rw[jC];exact C _ (aF _) (by simpa using h3 j (by omega) (by omega))
   .have K:nV f l[k].1:=by simpa using G hk
    rw[cn hk]at y;rcases aG.1 y with rfl|y
    .exact K
    .obtain⟨j,J,rfl⟩:=jG y;rw[dP]at J;rw[Ca];unfold jP at hs;rw[nO,bP]at hs;exact rS K (hs k (k+1+j) hk (by omega) (by omega))
 have⟨k,_,e,F,G⟩:=key;rw[e,cC,bK];have V:jP ((l.take k).map (·.1)):=de ((List.take_sublist _ _).map _) hs;have R:jP ((l.drop k).map (·.1)):=de ((B8 _ _).map _) hs;refine dv.2 ⟨V,bz.2 ⟨λx H=>?_,R⟩,λa Y b hb=>?_⟩
 .obtain⟨c,y,rfl⟩:=aN.1 H;exact G c y
 .obtain⟨c,y,rfl⟩:=aN.1 Y;rcases aG.1 hb with rfl|hb
  .exact F c y
  .obtain⟨x,H,rfl⟩:=aN.1 hb;exact rS (F c y) (G x H)
theorem ahJ{l}{f t}{c}(h:c∈Li l f t):c=(f,t,false,())\/c∈l:=by
 unfold Li at h;rcases aX.1 h with h|h
 .exact .inr (dw h)
 .rcases aG.1 h with h|h
  .exact .inl h
  .exact .inr (kz h)
theorem F_{l}(hs:jP (l.map (·.1)))(u:ar):jP ((Fi l u).map (·.1)):=de (rG _ fh) hs
theorem af1{d}{u}(h:G_ d u=0):pQ (bs d) u:=by
 unfold G_ at h;split at h
 .rename_i g;exact RJ g
 .rename_i g;exact absurd h g
theorem ahK{d}(L:sb (bM d))(h:(Jl d).1=0):Kp 0 0 d (Jl d).2:=by
 unfold Jl at h ⊢;split;case isFalse g=>rw[ag g]at h;exact absurd h g
 rename_i g0;rw[ah g0]at h;split;case isTrue g=>rw[ah g]at h;cases h
 rename_i g1;rw[ag g1]at h;split;case isFalse g=>rw[ag g]at h;exact absurd h g
 rename_i F;rw[ah F]at h;split;case isFalse g=>rw[ag g]at h;exact absurd h g
 rename_i j
 have e:(Ep (jt d) (aT d) (cu d)).1=Li (Fi (jt d) (aT d)) (aT d) (cu d)/\aT d≠cu d:=by
  unfold Ep at j ⊢;split;case isFalse g=>rw[ag g]at j;cases j
  rename_i J;rw[ah J]at j;split;case isTrue g=>rw[ah g]at j;cases j
  rename_i H;exact⟨rfl,H⟩
 have⟨e,C⟩:=e;rw[e];refine⟨{ L with hO:=λx y=>?_,hS:=ahH (F_ (bZ.hS L) _) λc G=>bD (aM.1 G).2 },au _,au _⟩;rcases ahJ y with rfl|y
 .exact⟨⟨af1 g0,af1 F⟩,C⟩
 .exact bZ.hO L x (aM.1 y).1
theorem akF{d}(L:sb (bM d))(h:(RT d).1=0):Kp 0 0 d (RT d).2:=by
 unfold RT at h ⊢;split;case isFalse g=>rw[ag g]at h;exact absurd h g
 rename_i g0;rw[ah g0]at h;split;case isFalse g=>rw[ag g]at h;exact absurd h g
 rename_i g1
 have e:∃k,∃j:k<(jt d).length,(Er (jt d) (aT d) (cu d)).1=(jt d).set k (aph (jt d)[k]):=by
  unfold Er at g1 ⊢;split;case isFalse g=>rw[ag g]at g1;cases g1
  rename_i J;rw[ah J]at g1;split;case isTrue g=>rw[ah g]at g1;cases g1
  rename_i F;rw[ag F]at g1;split;case isFalse g=>rw[ag g]at g1;cases g1
  rcases kT (λc:bA=>decide (c.1=aT d)) (jt d)with⟨y,_⟩|⟨k,j,y,_,_⟩
  .rw[y]at F;exact absurd (by decide) F
  .refine⟨k,j,?_⟩;rw[y,aP,show(jt d).getD k H_=(jt d)[k]from by rw[eF,ay j];rfl]
 have⟨k,j,e⟩:=e;rw[e];refine⟨{ L with hO:=λx C=>?_,hS:=?_ },au _,au _⟩
 .rcases rO C with C|rfl
  .exact bZ.hO L x C
  .have G:=bZ.hO L (jt d)[k] (aF j);exact G
 .show jP (((jt d).set k (aph (jt d)[k])).map (·.1))
  have K:((jt d).set k (aph (jt d)[k])).map (·.1)=(jt d).map (·.1):=by
   rw[List.map_set];refine D6 (by simp) λi y R=>?_
   rw[D7];split
   .rename_i H;subst H;rw[oZ];rfl
   .rfl
  rw[K];exact bZ.hS L
theorem RU{s}{u}(h:uz s u=0):pQ s.2.2.2.2.1 u:=by
 unfold uz at h;cases j:fj s.2.2.2.2.1 u.1 with
 |none=>rw[j]at h;cases h
 |some a=>
  rw[j]at h;dsimp only at h;split at h
  .rename_i g;exact cE.2 ⟨a,(wq j).1,bD g⟩
  .cases h
theorem api{s}{f}(h:(lI s f).2.1=0):pQ s.2.2.2.2.1 f/\pQ s.2.2.2.2.1 (lI s f).1:=by
 unfold lI at h ⊢;split;case isFalse g=>rw[ag g]at h;exact absurd h g
 rename_i g0;rw[ah g0]at h;split;case isFalse g=>rw[ag g]at h;exact absurd h g
 rename_i g1;rw[ah g1]at h;split;case isFalse g=>rw[ag g]at h;exact absurd h g
 rename_i j;constructor
 .unfold HC at g0;split at g0
  .rename_i g;exact RU g
  .rename_i g;exact absurd g0 g
 .unfold Es at j;split at j
  .rename_i g;exact RU g
  .rename_i g;exact absurd j g
theorem akG{d}(L:sb (bM d))(h:(Ut d).1=0):Kp 0 1 d (Ut d).2:=by
 unfold Ut at h ⊢;split;case isFalse g=>rw[ag g]at h;exact absurd h g
 rename_i g
 have e:(Gh (bM d) (aT d)).1=vR (bM d) (Fi (jt d) (aT d)) (uA (bM d) (aT d)).1 (Dc (bM d) (aT d)).1 (yI (bM d) (aT d)).1/\(lI (bM d) (aT d)).2.1=0/\
  (uA (bM d) (aT d)).2.1=0/\(Dc (bM d) (aT d)).2.1=0/\(yI (bM d) (aT d)).2.1=0:=by
  unfold Gh at g ⊢;split;case isFalse g1=>rw[ag g1]at g;exact absurd g g1
  rename_i g1;rw[ah g1]at g;split;case isFalse C=>rw[ag C]at g;exact absurd g C
  rename_i C;rw[ah C]at g;split;case isFalse y=>rw[ag y]at g;exact absurd g y
  rename_i y;rw[ah y]at g;split;case isFalse F=>rw[ag F]at g;exact absurd g F
  rename_i F;exact⟨rfl,g1,C,y,F⟩
 have⟨e,X,W,V,R⟩:=e;rw[e];have⟨J,G⟩:=api X;have B:=KK.ur (bZ.b L) J G ((bZ.b L).of (aT d)) W;have P:=PL.move (bZ.p L) (.inl J) (.inl G) V;have H:=KI.OK (bZ.h L) (.inl G) R;refine⟨{ L with hO:=λx K=>bZ.hO L x (aM.1 K).1,hS:=F_ (bZ.hS L) _,b:=B.1,p:=P,h:=H,bal:=λj=>(bQ (· + kS (eU d) j) (B.2.2 j)).trans (bZ.bal L j) },au _,?_⟩;have hb:(uA (bM d) (aT d)).1.length<=(cf d).length+2:=B.2.1;show(uA (bM d) (aT d)).1.length+(eU d).length<=(cf d).length+(eU d).length+2*1;omega
theorem Gi(own):∀(l j stays:List bC),(fk own l j stays).2.2=0->∀k,kS (fk own l j stays).2.1 k+kS (fk own l j stays).1 k=kS stays k+kS l k+kS j k
 |[],j,stays,_,k=>by show kS stays k+kS j k=kS stays k+0+kS j k;omega
 |p::l,j,stays,he,k=>by
  unfold fk at he ⊢;by_cases ho:own p.1=true
  .rw[ah ho]at he ⊢;by_cases hs:(fm j p.1 p.2.1).2.1=0
   .rw[ah hs]at he ⊢;rw[Gi own l _ stays he k,(l6 hs).opn,M1];omega
   .rw[ag hs]at he;exact absurd he hs
  .rw[ag ho]at he ⊢;rw[Gi own l j (stays++[p]) he k,ajs,M1,M1];show kS stays k+(fM p.2.1 k+0)+kS l k+kS j k=_;omega
theorem af2{d}(L:sb (bM d))(h:(RV d).1=0):Kp 0 0 d (RV d).2:=by
 unfold RV at h ⊢;split;case isFalse g=>rw[ag g]at h;exact absurd h g
 rename_i g0;rw[ah g0]at h;split;case isFalse g=>rw[ag g]at h;exact absurd h g
 rename_i g1
 have K:Kp 0 0 d (qz d).2:=by
  unfold qz at g0 ⊢;split
  .rename_i g;rw[ah g]at g0;exact Db L g0
  .rename_i g;rw[ag g]at g0;exact absurd g0 g
 refine K.trans ?_;have L:=K.1;generalize (qz d).2=e at *;generalize (zZ d).1.1=id at *;unfold FV at g1 ⊢;split;case isFalse g=>rw[ag g]at g1;cases g1
 rename_i R;rw[ah R]at g1;split;case isFalse g=>rw[ag g]at g1;exact absurd g1 g
 rename_i y;have⟨H,G,F⟩:=BA (N:=pQ (bs e)) (K:=kC (·.1) (fD e)) (wa (bs e) id) (cf e) (eU e) [] y (bZ.b L).n (bZ.b L).k (bZ.s L);have C:=Gi (wa (bs e) id) (cf e) (eU e) [] y;have J:KK (pQ (bs e)) (kC (·.1) (fD e)) (fk (wa (bs e) id) (cf e) (eU e) []).2.1:=by rw[G,da];exact(bZ.b L).filter _
 refine⟨{ L with b:=J,s:=H,bal:=λj=>?_ },au _,?_⟩
 .refine(C j).trans ?_;have:kS (cf e) j+kS (eU e) j=0:=bZ.bal L j;show 0+kS (cf e) j+kS (eU e) j=0;omega
 .show(fk (wa (bs e) id) (cf e) (eU e) []).2.1.length+(fk (wa (bs e) id) (cf e) (eU e) []).1.length<=(cf e).length+(eU e).length+2*0;simp only[dB]at F;omega
theorem Ns{s:aV}(L:sb s){u to:ar}{id i6 eT:Int}(J:pQ s.2.2.2.2.1 u)(h:(Bu s u to id i6 eT).2.1=0):
 sb (Bu s u to id i6 eT).1/\(Bu s u to id i6 eT).1.2.2.2.2.1=s.2.2.2.2.1/\(Bu s u to id i6 eT).1.2.1=s.2.1/\(bk (Bu s u to id i6 eT).1).length<=(bk s).length+1/\(sa (Bu s u to id i6 eT).1).length<=(sa s).length+1:=by
 have K:zG s u to id i6 eT=0:=by
  unfold Bu at h;split at h
  .assumption
  .rename_i g;exact absurd h g
 have⟨_,⟨i,hi⟩,hq,_,y⟩:=Rc K;rw[Xc K hi]at h ⊢;split;case isFalse g=>rw[ag g]at h;cases h
 rename_i g1;rw[ah g1]at h;split;case isFalse g=>rw[ag g]at h;cases h
 rename_i Y;rw[ah Y]at h;unfold ZK at h ⊢;split;case isFalse g=>rw[ag g]at h;exact absurd h g
 rename_i H;rw[ah H]at h;split;case isFalse g=>rw[ag g]at h;exact absurd h g
 rename_i G;rw[ah G]at h;split;case isFalse g=>rw[ag g]at h;exact absurd h g
 rename_i X
 have C:pQ s.2.2.2.2.1 to:=by
  unfold M4 at y;cases F:fj s.2.2.2.2.1 to.1 with
  |none=>rw[F]at y;cases y
  |some a=>
   rw[F]at y;dsimp only at y;split at y
   .rename_i g;exact cE.2 ⟨a,(wq F).1,bD g⟩
   .cases y
 have W:kC (·.1) s.2.2.1 id:=⟨i,Re hi⟩;have one:∀n:Int,∀x∈([(id,n,())]:List nU),kC (·.1) s.2.2.1 x.1:=λn x R=>by rw[ax.1 R];exact W
 have S:=KK.shift (bZ.s L) J (one _) H;have B:=KK.shift (bZ.b L) C (one _) G;have P:=PL.move (bZ.p L) (.inl J) (.inl C) X;have T:=l6 H;have V:=l6 G;refine⟨{ L with b:=B,s:=S,p:=P,bal:=λj=>?_ },rfl,rfl,V.len,T.len⟩;have h1:=V.opn j;have h2:=T.opn j;have h3:kS (bk s) j+kS (sa s) j=0:=bZ.bal L j;have h4:fM [((id,i6,()):nU)] j+fM [((id,-i6,()):nU)] j=0:=by simp only[fM];split<;>omega
 show kS (fm (bk s) to [(id,i6,())]).1 j+kS (fm (sa s) u [(id,-i6,())]).1 j=0;omega
theorem akH{d:aK}(L:sb (bM d))(h:(RW d).1=0):Kp 0 1 d (RW d).2:=by
 unfold RW at h ⊢;split;case isFalse g=>rw[ag g]at h;exact absurd h g
 rename_i g0;rw[ah g0]at h;split;case isFalse g=>rw[ag g]at h;cases h
 rename_i g1;rw[ah g1]at h;split;case isFalse g=>rw[ag g]at h;exact absurd h g
 rename_i F;have⟨G,j,_,C,y⟩:=Ns L (RJ g0) F;refine⟨G,?_,?_⟩
 .show(Il (Uj d).1.2.2.2.2.1).length<=_;have j:(Uj d).1.2.2.2.2.1=bs d:=j;rw[j];omega
 .have C:(bk (Uj d).1).length<=(cf d).length+1:=C;have y:(sa (Uj d).1).length<=(eU d).length+1:=y;show(bk (Uj d).1).length+(sa (Uj d).1).length<=(cf d).length+(eU d).length+2*1;omega
theorem akI{d:aK}(Z:yq d):Fj d=some (RW d):=by
 by_cases g0:Uh d (aT d)=0
 .refine apj Z.Nn Z.tT λh=>?_
  have⟨F,C,y,j,_⟩:=Ns Z.L (RJ g0) h;have j:(bk (Uj d).1).length<=(cf d).length+1:=j;have:=Z.b;exact⟨(bZ.b F).okB (by show(bk (Uj d).1).length<=100;omega),C,y⟩
 .have O:=Z.Nn;show jX aj d=_;unfold jX RW;refine vC (VQ O.a) ?_;refine tby g0 ?_;rw[ag g0]
def ahL(d:aK):Int×aK:=if bT d=14 then((Em (fD d) (jl d) (kM d)).2.1,akz d (Em (fD d) (jl d) (kM d)).1)else if bT d=15 then((zW (jc d) (mZ d) (kM d)).2.1,RG d (zW (jc d) (mZ d) (kM d)).1)else if bT d=16 then D_ d else if bT d=17 then acP d else(0,d)
theorem at2{d}(Z:yq d):∃r,Nt d=some r/\((bT d≠18/\r=ahL d)\/(bT d=18/\(r.1=0->WdR d r.2))):=by
 have N:=Z.okN;refine BD (P:=λo=>∃r:Int×aK,o=some r/\((bT d≠18/\r=ahL d)\/(bT d=18/\(r.1=0->WdR d r.2)))) λk K=>?_
 have j:∀z,k z=some z:=λz=>by subst K;rfl
 unfold ahL;by_cases H:bT d=14
 .rw[oJ H,ai (ahM N.i N.is),j,ah H];exact⟨_,rfl,.inl ⟨by omega,rfl⟩⟩
 rw[pq H,ag H];by_cases G:bT d=15
 .rw[oJ G,ai (I_ N.sl N.ss),j,ah G];exact⟨_,rfl,.inl ⟨by omega,rfl⟩⟩
 rw[pq G,ag G];by_cases F:bT d=16
 .rw[oJ F,ai (apd Z),j,ah F];exact⟨_,rfl,.inl ⟨by omega,rfl⟩⟩
 rw[pq F,ag F];by_cases C:bT d=17
 .rw[oJ C,ai (at3 N Z.hs),j,ah C];exact⟨_,rfl,.inl ⟨by omega,rfl⟩⟩
 rw[pq C,ag C];by_cases y:bT d=18
 .have⟨r,J,h⟩:=avE Z;rw[oJ y,ai J,j];exact⟨_,rfl,.inr ⟨y,h⟩⟩
 rw[pq y,j];exact⟨_,rfl,.inl ⟨y,rfl⟩⟩
def akJ(d:aK):Int×aK:=if bT d=19 then Jl d else if bT d=20 then RT d else if bT d=21 then acO d else if bT d=22 then Ut d else if bT d=23 then RV d else if bT d=24 then RW d else XE d
theorem apk{d}(Z:yq d):PM d=some (akJ d):=by
 show oK aj d=_;unfold oK akJ;have O:=Z.Nn;have y:(jt d).length<=1000:=by have h:(jt d).length<=(Il (bs d)).length:=bZ.hL Z.L;have:=Z.u;omega
 by_cases j:bT d=19
 .rw[oJ j,ai (akK O y),ah j]
 rw[pq j,ag j];by_cases j:bT d=20
 .rw[oJ j,ai (apl O y),ah j]
 rw[pq j,ag j];by_cases j:bT d=21
 .rw[oJ j,ai (atx Z),ah j]
 rw[pq j,ag j];by_cases j:bT d=22
 .rw[oJ j,ai (apm Z.okP),ah j]
 rw[pq j,ag j];by_cases j:bT d=23
 .rw[oJ j,ai (at4 O Z.akv Z.t),ah j]
 rw[pq j,ag j];by_cases j:bT d=24
 .rw[oJ j,ai (akI Z),ah j]
 rw[pq j,ag j,ai (aty Z)]
def ahN(d e:aK):Prop:=(bT d<=6/\Ej d=(0,e))\/(6<bT d/\bT d<=13/\Ek d=(0,e))\/(13<bT d/\bT d<=17/\ahL d=(0,e))\/(bT d=18/\WdR d e)\/(18<bT d/\bT d<=25/\akJ d=(0,e))\/(25<bT d/\∃n,e=arJ d n)
theorem at5{d}(Z:yq d):∃r,RX d=some r/\(r.1=0->ahN d r.2):=by
 show ∃r,pT aj d=some r/\_;unfold pT;have y:∀{r:Int×aK},r.1=0->r=(0,r.2):=λ{r} h=>by rw[<-h]
 by_cases J:bT d<=6
 .rw[eA J,ai (akL Z.okN)];exact⟨_,rfl,λh=>.inl ⟨J,y h⟩⟩
 rw[cQ J];by_cases H:bT d<=13
 .rw[eA H,ai (akM Z.Nn Z.n)];exact⟨_,rfl,λh=>.inr (.inl ⟨by omega,H,y h⟩)⟩
 rw[cQ H];by_cases K:bT d<=18
 .have⟨r,F,h⟩:=at2 Z;rw[eA K,ai F];refine⟨_,rfl,λC=>?_⟩;rcases h with⟨j,G⟩|⟨j,G⟩
  .exact .inr (.inr (.inl ⟨by omega,by omega,by rw[<-G];exact y C⟩))
  .exact .inr (.inr (.inr (.inl ⟨j,G C⟩)))
 rw[cQ K];by_cases j:bT d<=25
 .rw[eA j,ai (apk Z)];exact⟨_,rfl,λh=>.inr (.inr (.inr (.inr (.inl ⟨by omega,j,y h⟩))))⟩
 rw[cQ j];have⟨x,e,F,_,h⟩:=at6 Z.Nn (bZ.tM Z.L) Z.akw;rw[ai F];exact⟨_,rfl,λC=>.inr (.inr (.inr (.inr (.inr ⟨by omega,h C⟩))))⟩
theorem apn{d e}(Z:yq d)(h:ahN d e):Kp 1 0 d e\/Kp 0 1 d e:=by
 have L:=Z.L;have j:∀{f:Int×aK},f=(0,e)->f.1=0/\f.2=e:=λh=>by rw[h];exact⟨rfl,rfl⟩
 rcases h with⟨_,h⟩|⟨_,_,h⟩|⟨h1,F,h⟩|⟨_,h⟩|⟨_,_,h⟩|⟨_,n,h⟩
 .obtain⟨a,rfl⟩:=j h;exact .inl (ah5 L a)
 .obtain⟨a,rfl⟩:=j h;exact .inr (ahC L a)
 .obtain⟨a,rfl⟩:=j h;left;unfold ahL at a ⊢;split;case isTrue g=>rw[ah g]at a;exact(B_ L a).up
  rename_i g;rw[ag g]at a;split;case isTrue g=>rw[ah g]at a;exact(XF L a).up
  rename_i g;rw[ag g]at a;split;case isTrue g=>rw[ah g]at a;exact(apc L a).up
  rename_i g;rw[ag g]at a;split;case isTrue g=>rw[ah g]at a;exact(apf L a).up
  exact(Kp.uv L).up
 .have⟨w1,C,y⟩:=h;obtain⟨a,rfl⟩:=j y;exact .inl (VN L (.inl (pS w1 _ (ax.2 rfl))) a).up
 .obtain⟨a,rfl⟩:=j h;right;unfold akJ at a ⊢;split;case isTrue g=>rw[ah g]at a;exact(ahK L a).up
  rename_i g;rw[ag g]at a;split;case isTrue g=>rw[ah g]at a;exact(akF L a).up
  rename_i g;rw[ag g]at a;split;case isTrue g=>rw[ah g]at a;exact(aoZ L a).up
  rename_i g;rw[ag g]at a;split;case isTrue g=>rw[ah g]at a;exact akG L a
  rename_i g;rw[ag g]at a;split;case isTrue g=>rw[ah g]at a;exact(af2 L a).up
  rename_i g;rw[ag g]at a;split;case isTrue g=>rw[ah g]at a;exact akH L a
  rename_i g;rw[ag g]at a;exact(apb Z a).up
 .subst h;exact .inl (Kp.up ⟨L,au _,au _⟩)
def mkD(s:aV)(c:cr):aK:=xc s (U3 c (c.2.2.2.1.1,c.2.2.2.1.2.1,c.2.2.2.2.1.1,c.2.2.2.2.1.2.1,U7 c.2.2.2.2.2 (0,[],[],[],())))
abbrev arK(d:aK):XG:=d.2.2.2.2.2.2.2.2.2.2.2.2.2.2.2.2.2.2.2.2.2.2.2.2.2.2
def noR(e:Int):XG:=(e,[],[],[],())
structure GoR(s:aV)(c:cr)(e:aK):Prop where
 k:ajP c=0
 sn:Lj (mkD s c)=0
 al:Gj (mkD s c)=0
 a:ahN (mkD s c) e
theorem akN{d}(Z:yq d)(x):∃r,OS d x=some r/\(r.1=0->x=0/\Lj d=0/\Gj d=0/\ahN d r.2):=by
 show ∃r,uB aj d x=some r/\_;unfold uB;have O:=Z.Nn;have hm:=O.m;have H:=O.g;have hv:=O.v;rw[aQ (by rfl)];by_cases C:x=0;case neg=>rw[fz C];exact⟨_,rfl,λh=>absurd h C⟩
 rw[gY C,ai (ahO (by omega)),aQ (by rfl)];by_cases y:Lj d=0;case neg=>rw[fz y];exact⟨_,rfl,λh=>absurd h y⟩
 rw[gY y,ai (acQ O.a O.as (by omega) (by omega)),aQ (by rfl)];by_cases j:Gj d=0;case neg=>rw[fz j];exact⟨_,rfl,λh=>absurd h j⟩
 have⟨r,F,h⟩:=at5 Z;rw[gY j,ai F,aB (by rfl)];exact⟨r,rfl,λG=>⟨C,y,j,h G⟩⟩
theorem akO{s}{c}(C:Un c)(Z:yq (mkD s c)):∃t r,OU s c=some (t,r,())/\((r.1≠0/\t=s/\r=noR r.1)\/∃e,GoR s c e/\t=bM e/\r=arK e):=by
 show ∃t r,na aj s c=some (t,r,())/\_;unfold na;rw[ai (ajR C)];have⟨r,y,h⟩:=akN Z (ajP c);show ∃t r,aj.ae (OS (mkD s c) (ajP c)) _=some (t,r,())/\_;rw[ai y];by_cases j:r.1=0
 .have⟨F,a2,a3,a4⟩:=h j;rw[gY j];exact⟨_,_,rfl,.inr ⟨r.2,⟨F,a2,a3,a4⟩,rfl,rfl⟩⟩
 .rw[fz j];exact⟨_,_,rfl,.inl ⟨j,rfl,rfl⟩⟩
end Go.Proofs.YthghpahghjppjaaGreat