import Derived.Test.YtllkmncnmlmefaaGreatB3
namespace Go.Vc
open Go Go.RowKit
variable {β:Type} {r:β}
def relC:List R→List DV→Prop
 |[],vs=>vs=[]
 |q::qs,vs=>∃v vs',vs=v::vs'∧(∀K:RP,K v.p→r2pK q K)∧relC qs vs'
theorem ykk:∀{qs qs':List R} {vs vs':List DV},relC qs vs→relC qs' vs'→relC (qs++qs') (vs++vs')
 |[],qs',vs,vs',h,h'=>by simp only[relC]at h; subst h; exact h'
 |q::qs,qs',vs,vs',h,h'=>by
  simp only[relC]at h
  obtain⟨v,vs1,rfl,h1,h2⟩:=h
  exact⟨v,_,rfl,h1,ykk h2 h'⟩
theorem zym(t:DT)(x:t.den)(l:List DV):t.cells x l=t.cells x []++l:=by
 induction t generalizing l with
 |pair a b iha ihb=>simp only[DT.cells]; rw[iha,ihb,iha x.1 (b.cells x.2 [])]; simp
 |_=>rfl
theorem zse(t:DT)(x:t.den):relC (t.enc x) (t.cells x []):=by
 induction t with
 |pair a b iha ihb=>simp only[DT.enc,DT.cells]; rw[zym]; exact ykk (iha x.1) (ihb x.2)
 |unit=>rfl
 |_=>exact⟨_,_,rfl,fun K k=>k,rfl⟩
theorem relC_K:∀{qs:List R} {vs:List DV} {K:List PV→Prop},relC qs vs→K (pL vs)→r2pLK qs K
 |[],vs,K,h,k=>by simp only[relC]at h; subst h; exact k
 |q::qs,vs,K,h,k=>by
  simp only[relC]at h
  obtain⟨v,vs1,rfl,h1,h2⟩:=h
  exact h1 _ (relC_K h2 k)
theorem zuv:∀{qs:List R} {vs:List DV} {o n:Nat} {l:List DV},relC qs vs→subV vs o n=some l→∃ls,relC ls l∧∀K:List R→Prop,K ls→subR qs o n K
 |q::qs,vs,o+1,n,l,h,hs=>by
  simp only[relC]at h
  obtain⟨v,vs1,rfl,h1,h2⟩:=h
  simp only[subV]at hs
  obtain⟨ls,h3,h4⟩:=zuv h2 hs
  exact⟨ls,h3,fun K k=>by simp only[subR]; exact h4 K k⟩
 |[],vs,o,n,l,h,hs=>by
  simp only[relC]at h; subst h
  cases o<;>cases n<;>simp[subV]at hs
  subst hs
  exact⟨[],rfl,fun K k=>k⟩
 |q::qs,vs,0,0,l,h,hs=>by
  simp only[relC]at h
  obtain⟨v,vs1,rfl,h1,h2⟩:=h
  simp only[subV,Option.some.injEq]at hs; subst hs
  exact⟨[],rfl,fun K k=>k⟩
 |q::qs,vs,0,n+1,l,h,hs=>by
  simp only[relC]at h
  obtain⟨v,vs1,rfl,h1,h2⟩:=h
  simp only[subV]at hs
  split at hs
  ·rename_i l' hl
   simp only[Option.some.injEq]at hs; subst hs
   obtain⟨ls,h3,h4⟩:=zuv h2 hl
   exact⟨q::ls,⟨_,_,rfl,h1,h3⟩,fun K k=>by simp only[subR]; exact h4 _ k⟩
  ·cases hs
theorem enc_one(t:DT)(x:t.den):(t.enc x).all oneR=true:=by
 induction t with
 |pair a b iha ihb=>simp only[DT.enc,List.all_append,iha,ihb,Bool.and_self]
 |_=>rfl
theorem cells_len(t:DT)(x:t.den):(t.cells x []).length=t.size:=by
 induction t with
 |pair a b iha ihb=>simp only[DT.cells]; rw[zym]; simp[DT.size,iha,ihb]
 |_=>rfl
theorem castL_enc{a b:DT}(h:a=b)(l:List a.den):(DT.castL h l).map (fun x=>b.enc x)=l.map fun x=>a.enc x:=by subst h; rfl
theorem ydb{t:DT}:∀{cs:List DV} {x:t.den} {rest:List DV},t.of cs=some (x,rest)→∃hd,cs=hd++rest∧argsOk (pL hd) (t.enc x)∧rOkL (t.enc x) (pL hd)∧hd.length=t.size∧oneDL hd=true∧
  (∀(kr:List Nat) (rs:List R) (K:List R→Prop),(∀K',K' rs→toRK kr (pL rest) K')→K (t.enc x++rs)→toRK (t.ks kr) (pL cs) K):=by
 induction t with
 |int k=>
  intro cs x rest h
  unfold DT.of at h
  split at h
  ·rename_i k' n r'
   split at h
   ·rename_i hk
    have:=eqk_eq hk; subst this
    simp only[Option.some.injEq,Prod.mk.injEq]at h
    obtain⟨rfl,rfl⟩:=h
    exact⟨[_],rfl,⟨rfl,trivial⟩,⟨rfl,trivial⟩,rfl,rfl,fun kr rs K m k=>m _ k⟩
   ·cases h
  ·cases h
 |bool=>
  intro cs x rest h
  unfold DT.of at h
  split at h
  ·simp only[Option.some.injEq,Prod.mk.injEq]at h
   obtain⟨rfl,rfl⟩:=h
   exact⟨[_],rfl,⟨rfl,trivial⟩,⟨rfl,trivial⟩,rfl,rfl,fun kr rs K m k=>m _ k⟩
  ·simp only[Option.some.injEq,Prod.mk.injEq]at h
   obtain⟨rfl,rfl⟩:=h
   exact⟨[_],rfl,⟨rfl,trivial⟩,⟨rfl,trivial⟩,rfl,rfl,fun kr rs K m k=>m _ k⟩
  ·cases h
 |str=>
  intro cs x rest h
  unfold DT.of at h
  split at h
  ·simp only[Option.some.injEq,Prod.mk.injEq]at h
   obtain⟨rfl,rfl⟩:=h
   exact⟨[_],rfl,⟨rfl,trivial⟩,⟨rfl,trivial⟩,rfl,rfl,fun kr rs K m k=>m _ k⟩
  ·cases h
 |slc t ih=>
  intro cs x rest h
  unfold DT.of at h
  split at h
  ·rename_i t' l r'
   split at h
   ·rename_i he _
    subst he
    simp only[Option.some.injEq,Prod.mk.injEq]at h
    obtain⟨rfl,rfl⟩:=h
    exact⟨[_],rfl,⟨⟨rfl,rfl⟩,trivial⟩,⟨⟨rfl,rfl⟩,trivial⟩,rfl,rfl,fun kr rs K m k=>m _ k⟩
   ·cases h
  ·simp only[Option.some.injEq,Prod.mk.injEq]at h
   obtain⟨rfl,rfl⟩:=h
   exact⟨[_],rfl,⟨⟨trivial,rfl⟩,trivial⟩,⟨⟨trivial,rfl⟩,trivial⟩,rfl,rfl,fun kr rs K m k=>m _ k⟩
  ·cases h
 |unit=>
  intro cs x rest h
  simp only[DT.of,Option.some.injEq,Prod.mk.injEq]at h
  obtain⟨_,rfl⟩:=h
  exact⟨[],rfl,trivial,trivial,rfl,rfl,fun kr rs K m k=>m K k⟩
 |pair a b iha ihb=>
  intro cs x rest h
  simp only[DT.of]at h
  split at h
  ·rename_i x1 r1 h1
   split at h
   ·rename_i x2 r2 h2
    simp only[Option.some.injEq,Prod.mk.injEq]at h
    obtain⟨rfl,rfl⟩:=h
    obtain⟨hd1,rfl,a1,a2,a3,a4,a5⟩:=iha h1
    obtain⟨hd2,rfl,b1,b2,b3,b4,b5⟩:=ihb h2
    have A:∀{ps qs:List PV} {rs ss:List R},argsOk ps rs→argsOk qs ss→argsOk (ps++qs) (rs++ss):=by
     intro ps
     induction ps with
     |nil=>intro qs rs ss h h'; cases rs with|nil=>exact h'|cons _ _=>exact h.elim
     |cons p ps ih=>intro qs rs ss h h'; cases rs with|nil=>exact h.elim|cons r rs=>exact⟨h.1,ih h.2 h'⟩
    have B:∀{rs ss:List R} {ps qs:List PV},rOkL rs ps→rOkL ss qs→rOkL (rs++ss) (ps++qs):=by
     intro rs
     induction rs with
     |nil=>intro ss ps qs h h'; cases ps with|nil=>exact h'|cons _ _=>exact h.elim
     |cons r rs ih=>intro ss ps qs h h'; cases ps with|nil=>exact h.elim|cons p ps=>exact⟨h.1,ih h.2 h'⟩
    have D:∀{xs ys:List DV},oneDL xs=true→oneDL ys=true→oneDL (xs++ys)=true:=by
     intro xs
     induction xs with
     |nil=>intro ys _ h; exact h
     |cons x xs ih=>
      intro ys h h'
      simp only[List.cons_append,oneDL]at h ⊢
      split at h
      ·exact ih h h'
      ·cases h
    refine⟨hd1++hd2,by simp,by rw[pL_app]; exact A a1 b1,by rw[pL_app]; exact B a2 b2,by simp[DT.size,a3,b3],D a4 b4,fun kr rs K m k=>?_⟩
    simp only[DT.ks]
    simp only[DT.enc,List.append_assoc]at k
    exact a5 _ _ K (fun K' k'=>b5 kr rs K' m k') k
   ·cases h
  ·cases h
theorem zqn{t:DT}{v:DV}{x:t.den}(h:t.ofV v=some x):argOk v.p (t.encA x)∧rOk (t.encA x) v.p∧(∀K:List PV→Prop,(∀cs,cs.length=t.size→(∀(K:List R→Prop),K (t.enc x)→toRK (t.ks []) cs K)→K cs)→cellsP v.p K):=by
 unfold DT.ofV at h
 have key:∀{cs:List DV} {y:t.den},t.of cs=some (y,[])→argsOk (pL cs) (t.enc y)∧rOkL (t.enc y) (pL cs)∧cs.length=t.size∧oneDL cs=true∧∀(K:List R→Prop),K (t.enc y)→toRK (t.ks []) (pL cs) K:=by
  intro cs y h
  obtain⟨hd,rfl,h1,h2,h3,h3',h4⟩:=ydb h
  simp only[List.append_nil]at*
  exact⟨h1,h2,h3,h3',fun K k=>h4 [] [] K (fun K' k'=>k') (by simpa using k)⟩
 split at h
 ·rename_i ha
  split at h
  ·rename_i cs
   split at h
   ·rename_i y rest hy
    split at h
    ·simp only[Option.some.injEq]at h; subst h
     obtain⟨h1,h2,h3,h3',h4⟩:=key hy
     have e:t.encA y=.agg (t.enc y):=by cases t<;>first|rfl|cases ha
     rw[e]
     exact⟨h1,h2,fun K m=>m _ (by rw[pL_len]; exact h3) h4⟩
    ·cases h
   ·cases h
  ·cases h
 ·rename_i ha
  split at h
  ·rename_i y rest hy
   split at h
   ·simp only[Option.some.injEq]at h; subst h
    obtain⟨h1,h2,h3,h3',h4⟩:=key hy
    have e:t.enc y=[t.encA y]:=by cases t<;>first|rfl|cases ha
    rw[e]at h1 h2
    refine⟨h1.1,h2.1,fun K m=>zrk (cs:=[v]) ?_ (m _ (by rw[pL_len]; exact h3) h4)⟩
    simp only[oneDL]at h3'
    split at h3'
    ·rename_i ho; unfold cellsV; cases v<;>first|(cases ho; done)|simp[ho]
    ·cases h3'
   ·cases h
  ·cases h
theorem nzF_p{b:Int}{K:Option β}(h:nzF b K=some r):b≠0∧K=some r:=by
 unfold nzF at h
 by_cases hb:b=0
 ·simp[hb]at h
 ·simp[hb]at h; exact⟨hb,h⟩
theorem intBinD_p{op:BinOp}{k:IntKind}{a b:Int}{ret:XV→Option β}(h:yiu stdW op k a b ret=some r):∃y,ret y=some r∧∀R:XV→Prop,R y→intBin op k a b R:=by
 unfold yiu at h
 split at h
 case h_4=>replace h:=nzF_p h; obtain⟨h1,h2⟩:=h; exact⟨_,h2,fun R k=>⟨h1,k⟩⟩
 case h_5=>replace h:=nzF_p h; obtain⟨h1,h2⟩:=h; exact⟨_,h2,fun R k=>⟨h1,k⟩⟩
 all_goals first|(cases h; done)|exact⟨_,h,fun R k=>k⟩
theorem leafV_p{l:LK}{x y:XV}{b:Bool}(h:leafV l x y=some b){K:Bool→Prop}(k:K b):leafK l x y K:=by
 unfold leafV at h
 split at h
 ·rename_i k1 a k2 b'
  split at h
  ·rename_i hk; simp only[Option.some.injEq]at h; subst h; simp only[leafK,hk]; exact k
  ·cases h
 all_goals first|(cases h; done)|(simp only[Option.some.injEq]at h; subst h; exact k)
theorem cmpXV_p:∀{ls:List LK} {xs ys:List XV} {b:Bool},cmpXV ls xs ys=some b→∀{K:Bool→Prop},K b→cmpXK ls xs ys K
 |[],xs,ys,b,h,K,k=>by simp[cmpXV]at h
 |l::ls,xs,ys,b,h,K,k=>by
  unfold cmpXV at h
  split at h
  ·rename_i h1
   injection h1 with h1 h2
   subst h1; subst h2
   simp only[cmpXK]; exact leafV_p h k
  ·rename_i l' ls' x xs' y ys' hne h1
   injection h1 with h1 h2
   subst h1; subst h2
   split at h
   ·rename_i b1 hb1
    split at h
    ·rename_i b2 hb2
     simp only[Option.some.injEq]at h; subst h
     unfold cmpXK
     split
     ·rename_i he1 he2 he3
      injection he1 with _ he1; injection he2 with _ he2; injection he3 with _ he3
      subst he1; subst he2; subst he3
      exact(hne rfl rfl rfl).elim
     ·rename_i he1 he2 he3
      injection he1 with e1 e2; injection he2 with e3 e4; injection he3 with e5 e6
      subst e1; subst e2; subst e3; subst e4; subst e5; subst e6
      exact leafV_p hb1 (cmpXV_p hb2 k)
     ·rename_i hh; exact(hh _ _ _ _ _ _ rfl rfl rfl).elim
    ·cases h
   ·cases h
  ·cases h
theorem eqXV_p{T:List TI}{neg:Bool}{t:TypeId}{a b c:XV}(h:eqXV T neg t a b=some c){R:XV→Prop}(k:R c):eqX T neg t a b R:=by
 unfold eqXV at h
 split at h
 case h_1=>simp only[Option.some.injEq]at h; subst h; exact k
 case h_2=>
  split at h
  ·rename_i ti hti
   split at h
   ·rename_i ls fs h1 h2
    split at h
    ·rename_i b' hb
     simp only[Option.some.injEq]at h; subst h
     simp only[eqX]
     refine tiV_p hti ?_
     rw[h1,h2]
     exact cmpXV_p hb k
    ·cases h
   ·cases h
  ·cases h
 case h_9=>cases h
 all_goals
  split at h
  ·rename_i ht
   simp only[Option.some.injEq]at h; subst h
   simp only[eqX]
   refine tdV_p ht fun ti hti=>?_
   rw[hti]; exact k
  ·cases h
theorem binXE_p{T:List TI}{op:BinOp}{t:TypeId}{a b:XV}{ret:XV→Option β}(h:binXE stdW T op t a b ret=some r):∃y,ret y=some r∧∀R:XV→Prop,R y→binX T op t a b R:=by
 unfold binXE at h
 split at h
 ·replace h:=zdn h; obtain⟨h1,h2⟩:=h; exact⟨_,h2,fun R k=>⟨of_decide_eq_true h1,k⟩⟩
 ·replace h:=zdn h; obtain⟨h1,h2⟩:=h; exact⟨_,h2,fun R k=>⟨of_decide_eq_true h1,k⟩⟩
 ·rename_i k x k' y hn1 hn2
  split at h
  ·rename_i hk
   replace h:=intBinD_p h; obtain⟨z,h1,h2⟩:=h
   refine⟨z,h1,fun R hR=>?_⟩
   have h3:=h2 R hR
   cases op<;>first|(exact(hn1 rfl).elim)|(exact(hn2 rfl).elim)|(simp only[binX,hk]; exact h3)
  ·cases h
 ·replace h:=zdn h; obtain⟨h1,h2⟩:=h; exact⟨_,h2,fun R k=>⟨of_decide_eq_true h1,k⟩⟩
 ·rename_i hn1
  split at h
  ·rename_i y hy
   refine⟨y,h,fun R k=>?_⟩
   have:=eqXV_p hy k
   cases a<;>cases b<;>first|exact this|(simp[eqXV]at hy; done)
  ·cases h
 ·rename_i hn1
  split at h
  ·rename_i y hy
   refine⟨y,h,fun R k=>?_⟩
   have:=eqXV_p hy k
   cases a<;>cases b<;>first|exact this|(simp[eqXV]at hy; done)
  ·cases h
 ·cases h
theorem binE_p{T:List TI}{op:BinOp}{t:TypeId}{a b:DV}{ret:DV→Option β}(h:binE stdW T op t a b ret=some r):∃v,ret v=some r∧∀R:RP,R v.p→binP T op t a.p b.p R:=by
 unfold binE at h
 split at h
 ·replace h:=binXE_p h; obtain⟨y,h1,h2⟩:=h; exact⟨_,h1,fun R k=>by simp only[DV.p,binP]; exact h2 _ k⟩
 ·split at h
  ·rename_i h1 h2
   replace h:=binXE_p h; obtain⟨y,h3,h4⟩:=h
   exact⟨_,h3,fun R k=>by simp only[DV.p,binP]; exact yjd h1 (yjd h2 (h4 _ k))⟩
  ·cases h
 ·split at h
  ·rename_i h1; exact⟨_,h,fun R k=>by simp only[DV.p,binP]; exact tdV_p h1 fun ti hti=>by rw[hti]; exact k⟩
  ·rename_i h1; exact⟨_,h,fun R k=>by simp only[DV.p,binP]; exact tdV_p h1 fun ti hti=>by rw[hti]; exact k⟩
  ·cases h
 ·cases h
theorem zvy{T:List TI}{ats:Array TypeId}{d:TD}(h:argTyV T ats=some d){K:TI→Prop}(k:∀ti,ti.td=d→K ti):argTy T ats K:=by
 unfold argTyV at h
 unfold argTy
 split at h
 ·rename_i he; rw[he]; exact tdV_p h k
 ·cases h
theorem yax{T:List TI}{b:Builtin}{ats:Array TypeId}{xs:List DV}{rw:List DR}{ret:DV→Option β}(h:zvu T b ats xs rw ret=some r):∃v,ret v=some r∧∀R:RP,R v.p→zec T b ats (pL xs) (rP rw) R:=by
 unfold zvu at h
 split at h
 ·split at h
  ·rename_i e ht
   split at h
   ·rename_i n hn
    refine⟨_,h,fun R k=>?_⟩
    unfold lenV at hn
    split at hn
    ·simp only[Option.some.injEq]at hn; subst hn
     simp only[pL,DV.p,zec]
     exact zvy ht fun ti hti=>by rw[hti,List.length_map]; exact k
    ·rename_i j
     split at hn
     ·rename_i hd
      simp only[Option.some.injEq]at hn; subst hn
      simp only[pL,DV.p,zec]
      exact drV_p hd (zvy ht fun ti hti=>by rw[hti,List.length_map]; exact k)
     ·cases hn
    ·simp only[Option.some.injEq]at hn; subst hn
     simp only[pL,DV.p,zec]
     exact zvy ht fun ti hti=>by rw[hti]; exact k
    ·cases hn
   ·cases h
  ·rename_i ht
   split at h
   ·exact⟨_,h,fun R k=>by simp only[pL,DV.p,zec]; exact zvy ht fun ti hti=>by rw[hti]; exact k⟩
   ·cases h
  ·cases h
 ·split at h
  ·exact⟨_,h,fun R k=>by simpa only[pL,DV.p,zec]using k⟩
  ·cases h
 ·split at h
  ·exact⟨_,h,fun R k=>by simpa only[pL,DV.p,zec]using k⟩
  ·cases h
 ·cases h
theorem pickV_p{g:Bool}{a b c:XV}(h:pickV g a b=some c){R:XV→Prop}(k:R c):pickK g a b R:=by
 unfold pickV at h
 split at h
 all_goals first|(cases h; done)|(simp only[Option.some.injEq]at h; subst h; exact k)|(simp only[Option.some.injEq]at h; subst h; unfold pickK; split<;>first|exact k|(simp_all; done))
theorem o1_p{o:Option DV}{K:DV→Option β}(h:o1 o K=some r):∃v,o=some v∧K v=some r:=by
 unfold o1 at h; cases o with
 |none=>cases h
 |some v=>exact⟨v,rfl,h⟩
theorem purE_p{T:List TI}{op:Op}{ts:List DV}{rw:List DR}{ret:DV→Option β}(h:purE stdW T op ts rw ret=some r):∃v,ret v=some r∧∀R:RP,R v.p→purP T op (pL ts) (rP rw) R:=by
 unfold purE at h
 split at h
 ·replace h:=o1_p h; obtain⟨v,h1,h2⟩:=h; exact⟨v,h2,fun R k=>opV_p h1 k⟩
 ·replace h:=o1_p h; obtain⟨v,h1,h2⟩:=h; exact⟨v,h2,fun R k=>opV_p h1 k⟩
 ·-- pick
  replace h:=o1_p h; obtain⟨c,h1,h⟩:=h
  split at h
  ·replace h:=o1_p h; obtain⟨v,h2,h⟩:=h; exact⟨v,h,fun R k=>opV_p h1 (opV_p h2 k)⟩
  ·replace h:=o1_p h; obtain⟨v,h2,h⟩:=h; exact⟨v,h,fun R k=>opV_p h1 (opV_p h2 k)⟩
  ·replace h:=o1_p h; obtain⟨a,h2,h⟩:=h
   replace h:=o1_p h; obtain⟨b,h3,h⟩:=h
   split at h
   ·split at h
    ·rename_i hp
     exact⟨_,h,fun R k=>opV_p h1 (opV_p h2 (opV_p h3 (pickV_p (R:=fun r=>R (.x r)) hp k)))⟩
    ·cases h
   ·cases h
  ·cases h
 ·-- nilCheck
  replace h:=o1_p h; obtain⟨p,h1,h⟩:=h
  split at h
  all_goals first|(cases h; done)|exact⟨_,h,fun R k=>opV_p h1 k⟩
 ·replace h:=o1_p h; obtain⟨a,h1,h⟩:=h
  replace h:=o1_p h; obtain⟨b,h2,h⟩:=h
  replace h:=binE_p h; obtain⟨v,h3,h4⟩:=h
  exact⟨v,h3,fun R k=>opV_p h1 (opV_p h2 (h4 R k))⟩
 ·-- unOp
  replace h:=o1_p h; obtain⟨a,h1,h⟩:=h
  split at h
  ·split at h
   ·rename_i hu
    refine⟨_,h,fun R k=>opV_p h1 ?_⟩
    unfold unV at hu
    split at hu
    all_goals first|(cases hu; done)|(simp only[Option.some.injEq]at hu; subst hu; exact k)
   ·cases h
  ·cases h
 ·-- convert
  replace h:=o1_p h; obtain⟨a,h1,h⟩:=h
  split at h
  ·rename_i h2 h3
   exact⟨_,h,fun R k=>opV_p h1 (tiV_p h2 (tdV_p h3 fun ti hti=>by rw[hti]; exact k))⟩
  ·rename_i h2 h3
   exact⟨_,h,fun R k=>opV_p h1 (tiV_p h2 (tdV_p h3 fun ti hti=>by rw[hti]; exact k))⟩
  ·cases h
 ·-- fieldAddr
  replace h:=o1_p h; obtain⟨a,h1,h⟩:=h
  split at h
  ·rename_i h2
   split at h
   ·rename_i h3
    split at h
    all_goals first|(cases h; done)|exact⟨_,h,fun R k=>opV_p h1 (tdV_p h2 fun ti hti=>by rw[hti]; exact fldV_p h3 k)⟩
   ·cases h
  ·cases h
 ·-- field
  replace h:=o1_p h; obtain⟨a,h1,h⟩:=h
  split at h
  ·rename_i h2
   split at h
   ·rename_i h3
    split at h
    ·rename_i tf h4
     split at h
     ·rename_i ha
      split at h
      ·rename_i hs
       refine⟨_,h,fun R k=>opV_p h1 (tdV_p h2 fun ti hti=>?_)⟩
       rw[hti]
       refine fldV_p h3 (tiV_p h4 ?_)
       rw[ha]; exact subV_p hs k
      ·cases h
     ·rename_i ha
      split at h
      ·rename_i hs
       refine⟨_,h,fun R k=>opV_p h1 (tdV_p h2 fun ti hti=>?_)⟩
       rw[hti]
       refine fldV_p h3 (tiV_p h4 ?_)
       rw[ha]; exact subV_p hs k
      ·cases h
    ·cases h
   ·cases h
  ·cases h
 ·-- indexAddr
  replace h:=o1_p h; obtain⟨a,h1,h⟩:=h
  replace h:=o1_p h; obtain⟨i,h2,h⟩:=h
  split at h
  ·rename_i e t' l k i h3
   split at h
   ·rename_i te h4
    split at h
    ·rename_i h5 h6
     replace h:=idxF_p h; obtain⟨x,h7,h8,h9,h⟩:=h
     refine⟨_,h,fun R hR=>opV_p h1 (opV_p h2 (tdV_p h3 fun ti hti=>?_))⟩
     rw[hti]
     have h5:=Nat.eq_of_beq_eq_true h5
     have h6:1≤t'.size:=by simpa[Nat.blt]using h6
     obtain⟨n,hn⟩:∃n,t'.size=n+1:=⟨t'.size - 1,by omega⟩
     simp only[DV.p,hn]
     exact tiV_p h4 ⟨by rw[h5,hn]; exact Nat.beq_refl _,h7,by simpa using h8,t'.enc x,by simp[h9],hR⟩
    ·cases h
   ·cases h
  ·rename_i e j k i h3
   split at h
   ·rename_i te e' t' l h4 h5
    split at h
    ·rename_i h6 h6'
     replace h:=idxF_p h; obtain⟨x,h7,h8,h9,h⟩:=h
     refine⟨_,h,fun R hR=>opV_p h1 (opV_p h2 (tdV_p h3 fun ti hti=>?_))⟩
     rw[hti]
     exact tiV_p h4 (drV_p h5 ⟨h6,(show 1≤t'.size by simpa[Nat.blt]using h6'),h7,by simpa using h8,hR⟩)
    ·cases h
   ·cases h
  ·cases h
 ·-- extract
  replace h:=o1_p h; obtain⟨a,h1,h⟩:=h
  split at h
  ·split at h
   ·rename_i hs; exact⟨_,h,fun R k=>opV_p h1 (subV_p hs k)⟩
   ·cases h
  ·cases h
 ·-- slice
  replace h:=o1_p h; obtain⟨a,h1,h⟩:=h
  split at h
  ·rename_i lo hi h2 h3
   split at h
   ·rename_i e t' l h4
    split at h
    ·rename_i te h5
     split at h
     ·rename_i h6
      split at h
      ·replace h:=bndD_p h; obtain⟨n,h,h7⟩:=h
       refine⟨_,h,fun R k=>opV_p h1 (opOV_p h2 (opOV_p h3 (tdV_p h4 fun ti hti=>?_)))⟩
       rw[hti]
       refine tiV_p h5 ⟨h6,?_⟩
       simp only[Option.map_none,List.length_map]
       refine h7 _ ?_
       rw[←List.map_take]; exact k
      ·replace h:=bndD_p h; obtain⟨n,h,h7⟩:=h
       replace h:=bndD_p h; obtain⟨m,h,h8⟩:=h
       refine⟨_,h,fun R k=>opV_p h1 (opOV_p h2 (opOV_p h3 (tdV_p h4 fun ti hti=>?_)))⟩
       rw[hti]
       refine tiV_p h5 ⟨h6,?_⟩
       simp only[Option.map_some,List.length_map]
       refine h7 _ (h8 _ ?_)
       rw[←List.map_take,←List.map_drop]; exact k
     ·cases h
    ·cases h
   ·rename_i s h4
    replace h:=bndD_p h; obtain⟨n,h,h7⟩:=h
    replace h:=bndD_p h; obtain⟨m,h,h8⟩:=h
    refine⟨_,h,fun R k=>opV_p h1 (opOV_p h2 (opOV_p h3 (tdV_p h4 fun ti hti=>?_)))⟩
    rw[hti]
    exact h7 _ (h8 _ k)
   ·cases h
  ·cases h
 ·-- build
  split at h
  ·rename_i ps h1
   split at h
   ·rename_i ti h2
    split at h
    ·rename_i fs z zs h3 h4
     split at h
     ·rename_i h5
      replace h:=fillE_p h; obtain⟨out,h,h6⟩:=h
      refine⟨_,h,fun R k=>?_⟩
      refine ycy h1 (tiV_p h2 ?_)
      rw[h3,h4]
      refine posV_p h5 ?_
      have:=h6 (fun cells=>R (.agg cells)) k
      rwa [zvr]at this
     ·cases h
    ·cases h
   ·cases h
  ·cases h
 ·-- makeFunc
  split at h
  ·rename_i f h1
   split at h
   ·rename_i cs h2
    refine⟨_,h,fun R k=>?_⟩
    simp only[purP]
    rw[h1]
    exact opsV_p h2 k
   ·cases h
  ·cases h
 ·-- call
  rename_i c
  split at h
  ·rename_i b hb
   split at h
   ·rename_i xs hx
    replace h:=yax h; obtain⟨v,h,h1⟩:=h
    refine⟨v,h,fun R k=>?_⟩
    simp only[purP]
    rw[hb]
    exact opsV_p hx (h1 R k)
   ·cases h
  ·cases h
 ·cases h
theorem ydl{T:List TI}{t:TypeId}{A:DV}{pb:DBs}{rw:List DR}{ret:DV→Option β}(h:loadE stdW T t A pb rw ret=some r):∃v,ret v=some r∧∀R:RP,R v.p→loadP T t A.p (bP pb) (rP rw) R:=by
 unfold loadE at h
 have one:∀{t':DT} {x:t'.den} {off:Nat} {v:DV},subV (t'.cells x []) off 1=some [v]→∀R:RP,R v.p→subR (t'.enc x) off 1 fun l=>match l with|[r]=>r2pK r R|_=>False:=by
  intro t' x off v hs R k
  obtain⟨ls,h1,h2⟩:=zuv (zse t' x) hs
  refine h2 _ ?_
  cases ls with
  |nil=>simp[relC]at h1
  |cons q ls=>
   obtain⟨v',vs',he,h3,h4⟩:=h1
   simp only[List.cons.injEq]at he
   obtain⟨rfl,rfl⟩:=he
   cases ls with
   |nil=>exact h3 R k
   |cons q' ls=>obtain⟨_,_,he,_⟩:=h4; cases he
 have many:∀{t':DT} {x:t'.den} {off n:Nat} {l:List DV},subV (t'.cells x []) off (n+1)=some l→∀R:RP,R (.agg (pL l))→subR (t'.enc x) off (n+1) fun l=>r2pLK l fun l=>R (.agg l):=by
  intro t' x off n l hs R k
  obtain⟨ls,h1,h2⟩:=zuv (zse t' x) hs
  exact h2 _ (relC_K h1 k)
 split at h
 ·rename_i ti h1
  split at h
  ·split at h
   ·rename_i b hb
    split at h
    ·rename_i ha
     split at h
     ·rename_i hs
      refine⟨_,h,fun R k=>tiV_p h1 (dbV_p hb ?_)⟩
      rw[ha]; exact subV_p hs k
     ·cases h
    ·rename_i ha
     split at h
     ·rename_i hs
      refine⟨_,h,fun R k=>tiV_p h1 (dbV_p hb ?_)⟩
      rw[ha]; exact subV_p hs k
     ·cases h
   ·cases h
  ·split at h
   ·rename_i n ha hn
    split at h
    ·rename_i hs
     refine⟨_,h,fun R k=>tiV_p h1 ?_⟩
     simp only[DV.p,ha,hn]; exact many hs R k
    ·cases h
   ·rename_i ha
    split at h
    ·rename_i hs
     refine⟨_,h,fun R k=>tiV_p h1 ?_⟩
     simp only[DV.p,ha]; exact one hs R k
    ·cases h
   ·cases h
  ·split at h
   ·rename_i hd
    replace h:=idxR_p h; obtain⟨x,hx,h⟩:=h
    split at h
    ·rename_i n ha hn
     split at h
     ·rename_i hs
      refine⟨_,h,fun R k=>tiV_p h1 (drV_p hd ⟨_,(by rw[List.getElem?_map,hx]; rfl),?_⟩)⟩
      simp only[ha,hn]; exact many hs R k
     ·cases h
    ·rename_i ha
     split at h
     ·rename_i hs
      refine⟨_,h,fun R k=>tiV_p h1 (drV_p hd ⟨_,(by rw[List.getElem?_map,hx]; rfl),?_⟩)⟩
      simp only[ha]; exact one hs R k
     ·cases h
    ·cases h
   ·cases h
  ·cases h
 ·cases h
end Go.Vc

namespace Go.Vc
open Go Go.RowKit
def selR(k:Nat):PV→Option R
 | .x (.slc none 0 0)=>some (.sl k [])
 | .x (.int k n)=>some (.val (.int k n))
 | .x (.bool b)=>some (.val (.bool b))
 | .x (.lit b)=>some (.val (.bool b))
 | .x (.str s)=>some (.val (.string s))
 | .sl k els=>some (.sl k els)
 |_=>none
def selL:List Nat→List PV→Option (List R)
 |_,[]=>some []
 |ks,p::ps=>match selR ks.head! p with
  |some r=>match selL ks.tail ps with|some rs=>some (r::rs)|none=>none
  |none=>none
theorem ybp:∀(ps:List PV) (ks:List Nat) (K:List R→Prop),toRK ks ps K↔∃rs,selL ks ps=some rs∧K rs
 |[],ks,K=>by
  have:toRK ks [] K↔K []:=by cases ks<;>exact Iff.rfl
  rw[this]
  exact⟨fun h=>⟨[],rfl,h⟩,fun ⟨rs,h,k⟩=>by simp only[selL,Option.some.injEq]at h; subst h; exact k⟩
 |p::ps,ks,K=>by
  have step:∀r,selR ks.head! p=some r→((∃rs,selL ks (p::ps)=some rs∧K rs)↔toRK ks.tail ps fun l=>K (r::l)):=by
   intro r hr
   rw[ybp ps]
   simp only[selL,hr]
   constructor
   ·rintro⟨rs,h,k⟩
    cases hs:selL ks.tail ps with
    |none=>rw[hs]at h; cases h
    |some l=>rw[hs]at h; simp only[Option.some.injEq]at h; subst h; exact⟨l,rfl,k⟩
   ·rintro⟨l,h,k⟩
    rw[h]; exact⟨_,rfl,k⟩
  have stop:selR ks.head! p=none→((∃rs,selL ks (p::ps)=some rs∧K rs)↔False):=by
   intro hr
   simp only[selL,hr]
   exact⟨(fun ⟨_,h,_⟩=>by cases h),fun h=>h.elim⟩
  unfold toRK
  split
  ·exact(step _ rfl).symm
  ·split
   ·exact(step _ rfl).symm
   ·exact(step _ rfl).symm
   ·exact(step _ rfl).symm
   ·exact(step _ rfl).symm
   ·rename_i y hne y2 h1 h2 h3 h4
    refine(stop ?_).symm
    unfold selR
    split
    ·rename_i e; cases e; exact(hne rfl).elim
    ·rename_i e; cases e; exact(h1 _ _ rfl).elim
    ·rename_i e; cases e; exact(h2 _ rfl).elim
    ·rename_i e; cases e; exact(h3 _ rfl).elim
    ·rename_i e; cases e; exact(h4 _ rfl).elim
    ·rename_i e; cases e
    ·rfl
  ·exact(step _ rfl).symm
  ·rename_i h1 h2 h3
   refine(stop ?_).symm
   unfold selR
   split
   ·exact(h1 rfl).elim
   ·exact(h2 _ rfl).elim
   ·exact(h2 _ rfl).elim
   ·exact(h2 _ rfl).elim
   ·exact(h2 _ rfl).elim
   ·exact(h3 _ _ rfl).elim
   ·rfl
theorem zut:∀{ps:List PV} {ks:List Nat} {rs:List R},selL ks ps=some rs→rs.length=ps.length
 |[],ks,rs,h=>by simp only[selL,Option.some.injEq]at h; subst h; rfl
 |p::ps,ks,rs,h=>by
  simp only[selL]at h
  split at h
  ·split at h
   ·rename_i l hl
    simp only[Option.some.injEq]at h; subst h
    simp[zut hl]
   ·cases h
  ·cases h
theorem zpu:∀{a b:List PV} {ks:List Nat} {rs:List R},selL ks (a++b)=some rs→∃ra rb,selL ks a=some ra∧selL (ks.drop a.length) b=some rb∧rs=ra++rb
 |[],b,ks,rs,h=>⟨[],rs,rfl,h,rfl⟩
 |p::a,b,ks,rs,h=>by
  simp only[List.cons_append,selL]at h
  split at h
  ·rename_i r hr
   split at h
   ·rename_i l hl
    simp only[Option.some.injEq]at h; subst h
    obtain⟨ra,rb,h1,h2,rfl⟩:=zpu hl
    refine⟨r::ra,rb,by simp only[selL,hr,h1],?_,rfl⟩
    rw[List.length_cons,←List.drop_tail]; exact h2
   ·cases h
  ·cases h
theorem sel_cells{t:DT}:∀(y:t.den) (r:List DV) (kr:List Nat) (rs:List R),selL kr (pL r)=some rs→selL (t.ks kr) (pL (t.cells y r))=some (t.enc y++rs):=by
 induction t with
 |pair a b iha ihb=>
  intro y r kr rs h
  simp only[DT.ks,DT.cells,DT.enc,List.append_assoc]
  exact iha y.1 _ _ _ (ihb y.2 r kr rs h)
 |unit=>intro y r kr rs h; exact h
 |int k=>intro y r kr rs h; simp only[DT.ks,DT.cells,DT.enc,pL,DV.p,selL,List.tail_cons,h]; rfl
 |bool=>intro y r kr rs h; simp only[DT.ks,DT.cells,DT.enc,pL,DV.p,selL,List.tail_cons,h]; rfl
 |str=>intro y r kr rs h; simp only[DT.ks,DT.cells,DT.enc,pL,DV.p,selL,List.tail_cons,h]; rfl
 |slc t ih=>intro y r kr rs h; simp only[DT.ks,DT.cells,DT.enc,pL,DV.p,selL,List.tail_cons,h]; rfl
theorem yjq{α:Type}:∀(vs xs:List α) (off:Nat),off+vs.length≤xs.length→wr xs off vs=xs.take off++(vs++xs.drop (off+vs.length))
 |[],xs,off,h=>by simp[wr]
 |v::vs,xs,off,h=>by
  simp only[List.length_cons]at h
  simp only[wr]
  rw[yjq vs _ (off+1) (by rw[List.length_set]; omega)]
  have e1:(xs.set off v).take (off+1)=xs.take off++[v]:=by
   rw[List.set_eq_take_append_cons_drop,if_pos (by omega),List.take_append,List.take_of_length_le (by rw[List.length_take]; omega),List.length_take,Nat.min_eq_left (by omega),show off+1 - off=1 by omega]
   rfl
  have e2:(xs.set off v).drop (off+1+vs.length)=xs.drop (off+(v::vs).length):=by
   rw[List.drop_set_of_lt (by omega),List.length_cons]
   congr 1; omega
  rw[e1,e2,List.append_assoc]; rfl
theorem pL_ln(xs:List DV):(pL xs).length=xs.length:=by
 induction xs with
 |nil=>rfl
 |cons x xs ih=>simp[pL,ih]
theorem of_part{t:DT}{y y':t.den}{cs:List DV}{off:Nat}(h:t.of (wr (t.cells y []) off cs)=some (y',[]))(hk:off+cs.length≤t.size):
  ∃rs,(∀K:List R→Prop,K rs→toRK ((t.ks []).drop off) (pL cs) K)∧rs.length=cs.length∧t.enc y'=(t.enc y).take off++rs++(t.enc y).drop (off+rs.length):=by
 obtain⟨hd,e1,_,_,_,_,h6⟩:=ydb h
 have h7:=h6 [] [] (fun l=>l=t.enc y') (fun K' k=>k) (by simp)
 obtain⟨rs,h8,rfl⟩:=(ybp _ _ _).1 h7
 have hcl:=cells_len t y
 rw[yjq _ _ _ (by omega),pL_app,pL_app]at h8
 obtain⟨ra,rx,a1,a2,a3⟩:=zpu h8
 obtain⟨rc,rb,b1,b2,b3⟩:=zpu a2
 have h9:=sel_cells (t:=t) y [] [] [] rfl
 rw[List.append_nil]at h9
 have e2:t.cells y []=(t.cells y []).take off++(((t.cells y []).drop off).take cs.length++(t.cells y []).drop (off+cs.length)):=by
  conv=>lhs; rw[←List.take_append_drop off (t.cells y [])]
  congr 1
  conv=>lhs; rw[←List.take_append_drop cs.length ((t.cells y []).drop off)]
  rw[List.drop_drop]
 rw[e2,pL_app,pL_app]at h9
 obtain⟨ra',rx',a1',a2',a3'⟩:=zpu h9
 obtain⟨rc',rb',b1',b2',b3'⟩:=zpu a2'
 rw[a1]at a1'
 obtain rfl:=Option.some.inj a1'
 have lra:=zut a1
 have lrc:=zut b1
 have lrc':=zut b1'
 rw[pL_ln,List.length_take,Nat.min_eq_left (by omega)]at lra
 rw[pL_ln]at lrc lrc'
 rw[List.length_take,List.length_drop,Nat.min_eq_left (by omega)]at lrc'
 have eb:rb=rb':=by
  have hl:(pL (((t.cells y []).drop off).take cs.length)).length=(pL cs).length:=by rw[pL_ln,pL_ln,List.length_take,List.length_drop,Nat.min_eq_left (by omega)]
  rw[hl]at b2'
  rw[b2]at b2'
  exact Option.some.inj b2'
 refine⟨rc,fun K k=>(ybp _ _ _).2 ⟨rc,?_,k⟩,lrc,?_⟩
 ·rw[pL_ln,List.length_take,Nat.min_eq_left (by omega)]at b1
  exact b1
 ·rw[a3,b3,a3',b3',←eb,←lra,List.take_left,List.append_assoc]
  congr 2
  rw[←lra]at*
  rw[List.drop_append,List.drop_eq_nil_of_le (by omega),List.nil_append,show ra.length+rc.length - ra.length=rc'.length by omega,List.drop_left]
end Go.Vc
namespace Go.Vc
open Go Go.RowKit
variable {β:Type}
def guardD(W:Wd)(ops:List Oper)(ts:List DV)(j:Nat)(want:Bool)(yes no:List DV→Option β):Option β:=
 match nthDst ops j with
 |none=>none
 |some d=>match gtV ts d with
  |some (.x (.lit true))=>match want with|true=>yes ts|false=>no ts
  |some (.x (.lit false))=>match want with|true=>no ts|false=>yes ts
  |some (.x (.bool b))=>W.cnd b
   (setE ts d (.x (.lit true)) fun ts=>match want with|true=>yes ts|false=>no ts)
   (setE ts d (.x (.lit false)) fun ts=>match want with|true=>no ts|false=>yes ts)
  |some (.x .und)=>no ts
  |_=>none
def evList(W:Wd)(T:List TI)(C:ESs)(nl:Nat)(al:Nat→Bool)(av:List (Nat×Nat))(ops:List Oper):List Oper→List DV→DBs→List DR→DK β→Option β
 |[],ts,pb,rw,K=>K ts pb rw
 |o::rest,ts,pb,rw,K=>match o.guard with
  |none=>evOpT W T C nl al av o rest ts pb rw fun ts pb rw=>evList W T C nl al av ops rest ts pb rw K
  |some (j,want)=>guardD W ops ts j want
   (fun ts=>evOpN W T C nl al av o ts pb rw fun ts pb rw=>evList W T C nl al av ops rest ts pb rw K)
   (fun ts=>retE o.dst (.x .und) ts pb rw fun ts pb rw=>evList W T C nl al av ops rest ts pb rw K)
def stepD(W:Wd)(T:List TI)(C:ESs)(nl:Nat)(al:Nat→Bool)(av:List (Nat×Nat))(ops:List Oper)(o:Oper)(ts:List DV)(pb:DBs)(rw:List DR)(K:DK β):Option β:=
 match o.guard with
 |none=>evOpN W T C nl al av o ts pb rw K
 |some (j,want)=>guardD W ops ts j want (fun ts=>evOpN W T C nl al av o ts pb rw K) (fun ts=>retE o.dst (.x .und) ts pb rw K)
def awayV(Ia:List Nat):DV→Bool
 | .own i _=>match memN i Ia with|false=>true|true=>false
 | .el _ _ _=>true
 |_=>false
def seenV(sn:Nat→Bool):DV→Bool
 | .own i _=>sn i
 |_=>false
def rdE(W:Wd)(T:List TI)(Ia:List Nat)(sn:Nat→Bool)(ph:Bool)(o:Oper)(ts:List DV)(pb:DBs)(rw:List DR)(ret:DV→Option β):Option β:=
 match o.op with
 | .load t a=>match ph with
  |false=>o1 (opV ts a) fun A=>match awayV Ia A with|true=>loadE W T t A pb rw ret|false=>none
  |true=>o1 (opV ts a) fun A=>match seenV sn A with|true=>loadE W T t A pb rw ret|false=>none
 |op=>purE W T op ts rw ret
def nthO:List Oper→Nat→Option Oper
 |[],_=>none
 |o::_,0=>some o
 |_::os,n+1=>nthO os n
def evT(W:Wd)(T:List TI)(C:ESs)(nl:Nat)(al:Nat→Bool)(av:List (Nat×Nat))(Ia:List Nat)(sn:Nat→Bool)(ops:List Oper):Bool→OT→List DV→DBs→List DR→DK β→Option β
 |_,.nil,ts,pb,rw,K=>K ts pb rw
 |ph,.rd i t,ts,pb,rw,K=>match nthO ops i with
  |some o=>match o.guard with
   |none=>rdE W T Ia sn ph o ts pb rw fun x=>retE o.dst x ts pb rw fun ts pb rw=>evT W T C nl al av Ia sn ops ph t ts pb rw K
   |some (j,want)=>guardD W ops ts j want
    (fun ts=>rdE W T Ia sn ph o ts pb rw fun x=>retE o.dst x ts pb rw fun ts pb rw=>evT W T C nl al av Ia sn ops ph t ts pb rw K)
    (fun ts=>retE o.dst (.x .und) ts pb rw fun ts pb rw=>evT W T C nl al av Ia sn ops ph t ts pb rw K)
  |none=>none
 |_,.op i t,ts,pb,rw,K=>match nthO ops i with
  |some o=>stepD W T C nl al av ops o ts pb rw fun ts pb rw=>evT W T C nl al av Ia sn ops true t ts pb rw K
  |none=>none
 |_,.two i j ti tj,ts,pb,rw,K=>match nthO ops i,nthO ops j with
  |some o,some o'=>W.both (stepD W T C nl al av ops o ts pb rw fun ts pb rw=>evT W T C nl al av Ia sn ops true ti ts pb rw K)
   (stepD W T C nl al av ops o' ts pb rw fun ts pb rw=>evT W T C nl al av Ia sn ops true tj ts pb rw K)
  |_,_=>none
 |_,.three i j k ti tj tk,ts,pb,rw,K=>match nthO ops i,nthO ops j,nthO ops k with
  |some o,some o',some o2=>W.both (stepD W T C nl al av ops o ts pb rw fun ts pb rw=>evT W T C nl al av Ia sn ops true ti ts pb rw K)
   (W.both (stepD W T C nl al av ops o' ts pb rw fun ts pb rw=>evT W T C nl al av Ia sn ops true tj ts pb rw K)
    (stepD W T C nl al av ops o2 ts pb rw fun ts pb rw=>evT W T C nl al av Ia sn ops true tk ts pb rw K))
  |_,_,_=>none
def zli:List Oper→DBs→Nat→(List (Nat×Nat)→DBs→Option β)→Option β
 |[],pb,_,K=>K [] pb
 |o::os,pb,n,K=>match o.op,o.dst with
  | .alloc _,some d=>pushE pb none fun pb=>zli os pb (n+1) fun av pb=>litE n fun m=>K ((d,m)::av) pb
  | .box _ _,some d=>pushE pb none fun pb=>zli os pb (n+1) fun av pb=>litE n fun m=>K ((d,m)::av) pb
  |_,_=>zli os pb n K
abbrev DTs:=List (Nat×List Nat×OT)
def treeV:DTs→Nat→Option (List Nat×OT)
 |[],_=>none
 |(k,o)::os,n=>match Nat.beq k n with|true=>some o|false=>treeV os n
def hasE:DBs→Nat→Bool
 |[],_=>false
 |o::_,0=>match o with|some _=>true|none=>false
 |_::pb,n+1=>hasE pb n
def drawD(W:Wd)(T:List TI)(C:ESs)(O:DTs)(nl:Nat)(id:Nat)(ops:Array Oper)(ts:List DV)(pb:DBs)(rw:List DR)(K:DK β):Option β:=
 match treeV O id with
 |some (Ia,t)=>match Region.noSelect ops&&okT ops ops.size t (Array.replicate ops.size false) with
  |true=>litE pb.length fun n=>zli ops.toList pb n fun av pb'=>evT W T C nl (alOf Ia n) av Ia (snOf Ia (hasE pb)) ops.toList false t ts pb' rw K
  |false=>none
 |none=>none
inductive RKd where
 |dead
 |own (e:TypeId) (t:DT)
 |itr
inductive DS where
 |t (t:DT)
 |row (j:Nat)
 |ob (j:Nat)
 |own (i off:Nat)
 |nil
structure DJ where
 sl:List (Nat×DS)
 bo:List (Nat×List DS)
 ro:List RKd
def dsS:List (Nat×DS)→List DS
 |[]=>[]
 |(_,d)::l=>d::dsS l
def dsN:List (Nat×DS)→List Nat
 |[]=>[]
 |(n,_)::l=>n::dsN l
def boN:List (Nat×List DS)→List Nat
 |[]=>[]
 |(n,_)::l=>n::boN l
def vsT:List DS→DT→DT
 |[],r=>r
 |d::l,r=>match d with
  | .t t=>.pair t (vsT l r)
  |_=>vsT l r
def boT:List (Nat×List DS)→DT→DT
 |[],r=>r
 |(_,cs)::l,r=>vsT cs (boT l r)
def roT:List RKd→DT
 |[]=>.unit
 | .own _ t::l=>.pair (.slc t) (roT l)
 | .itr::l=>.pair .str (.pair (.int .i64) (roT l))
 | .dead::l=>roT l
@[reducible] def DJ.T(j:DJ):DT:=vsT (dsS j.sl) (boT j.bo (roT j.ro))
def vsV:(l:List DS)→(r:DT)→(vsT l r).den→List DV×r.den
 |[],_,z=>([],z)
 | .t t::l,r,z=>match vsV l r z.2 with|(vs,y)=>(t.val z.1::vs,y)
 | .row j::l,r,z=>match vsV l r z with|(vs,y)=>(.row j::vs,y)
 | .ob j::l,r,z=>match vsV l r z with|(vs,y)=>(.ob j::vs,y)
 | .own i o::l,r,z=>match vsV l r z with|(vs,y)=>(.own i o::vs,y)
 | .nil::l,r,z=>match vsV l r z with|(vs,y)=>(.x (.slc none 0 0)::vs,y)
def boV:(l:List (Nat×List DS))→(r:DT)→(boT l r).den→List (List DV)×r.den
 |[],_,z=>([],z)
 |(_,cs)::l,r,z=>match vsV cs (boT l r) z with
  |(vs,y)=>match boV l r y with|(vss,y)=>(vs::vss,y)
def roV:(l:List RKd)→(roT l).den→List DR
 |[],_=>[]
 | .own e t::l,z=>.own e t z.1::roV l z.2
 | .itr::l,z=>.itr z.1 z.2.1::roV l z.2.2
 | .dead::l,z=>.dead::roV l z
def roN:List RKd→Nat→Bool
 |[],_=>false
 |o::_,0=>match o with | .own _ _=>true|_=>false
 |_::l,n+1=>roN l n
def roI:List RKd→Nat→Bool
 |[],_=>false
 |o::_,0=>match o with | .itr=>true|_=>false
 |_::l,n+1=>roI l n
def okObV(ro:List RKd)(rw:List DR)(j:Nat)(v:DV):Bool:=
 roI ro j&&match v with
 | .ob j'=>match Nat.beq j j',drV rw j with|true,some (.itr _ _)=>true|_,_=>false
 |_=>false
def okRowV(ro:List RKd)(rw:List DR)(j:Nat)(v:DV):Bool:=
 roN ro j&&match v with
 | .row j'=>match Nat.beq j j',drV rw j with|true,some (.own _ _ _)=>true|_,_=>false
 | .x (.slc none 0 0)=>match drV rw j with|some (.own _ _ _)=>false|_=>true
 |_=>false
def okOwnV(i o:Nat)(v:DV):Bool:=
 match v with
 | .own i' o'=>Nat.beq i i'&&Nat.beq o o'
 |_=>false
def okNilV(v:DV):Bool:=
 match v with
 | .x (.slc none 0 0)=>true
 |_=>false
def vsX(ro:List RKd)(rw:List DR):(l:List DS)→(r:DT)→List DV→r.den→Option (vsT l r).den
 |[],_,vs,y=>match vs with|[]=>some y|_=>none
 | .t t::l,r,vs,y=>match vs with
  |v::vs=>match t.ofV v,vsX ro rw l r vs y with
   |some x,some z=>some (x,z)
   |_,_=>none
  |_=>none
 | .row j::l,r,vs,y=>match vs with
  |v::vs=>match okRowV ro rw j v with
   |true=>vsX ro rw l r vs y
   |false=>none
  |_=>none
 | .ob j::l,r,vs,y=>match vs with
  |v::vs=>match okObV ro rw j v with
   |true=>vsX ro rw l r vs y
   |false=>none
  |_=>none
 | .own i o::l,r,vs,y=>match vs with
  |v::vs=>match okOwnV i o v with
   |true=>vsX ro rw l r vs y
   |false=>none
  |_=>none
 | .nil::l,r,vs,y=>match vs with
  |v::vs=>match okNilV v with
   |true=>vsX ro rw l r vs y
   |false=>none
  |_=>none
def boX(ro:List RKd)(pb:DBs)(rw:List DR):(l:List (Nat×List DS))→(r:DT)→r.den→Option (boT l r).den
 |[],_,y=>some y
 |(i,cs)::l,r,y=>match dbV pb i,boX ro pb rw l r y with
  |some b,some z=>vsX ro rw cs (boT l r) b.cells z
  |_,_=>none
def roX:(l:List RKd)→List DR→Option (roT l).den
 |[],_=>some ()
 | .own e t::l,rw=>match rw with
  | .own e' t' xs::rw=>match Nat.beq e e',t'.same t,roX l rw with
   |true,some ⟨h⟩,some y=>some (DT.castL h xs,y)
   |_,_,_=>none
  | .itr _ _::_=>none
  | .dead::rw=>match roX l rw with|some y=>some ([],y)|none=>none
  |[]=>match roX l []with|some y=>some ([],y)|none=>none
 | .itr::l,rw=>match rw with
  | .itr s p::rw=>match roX l rw with|some y=>some (s,p,y)|none=>none
  |_=>none
 | .dead::l,rw=>roX l rw.tail
def deadL:List RKd→List DR→Nat→List Nat
 |ro,rw,n=>match rw with
  |[]=>[]
  | .own _ _ _::rw=>match ro with
   | .own _ _::ro=>deadL ro rw (n+1)
   |_::ro=>n::deadL ro rw (n+1)
   |[]=>n::deadL [] rw (n+1)
  | .itr _ _::rw=>deadL ro.tail rw (n+1)
  | .dead::rw=>deadL ro.tail rw (n+1)
def gtVs(ts:List DV):List Nat→Option (List DV)
 |[]=>some []
 |n::ns=>match gtV ts n,gtVs ts ns with
  |some v,some vs=>some (v::vs)
  |_,_=>none
mutual
def DV.nr:DV→Bool
 | .row _=>false
 | .ob _=>false
 | .re _ _ _=>false
 | .rt _ _=>false
 | .fn _ cs=>nrL cs
 | .agg cs=>nrL cs
 | .tup cs=>nrL cs
 |_=>true
def nrL:List DV→Bool
 |[]=>true
 |p::ps=>p.nr&&nrL ps
end
def rfX(y:XV):Bool:=
 match y with
 | .own _ _ _=>false
 | .fn _ _=>false
 | .agg _=>false
 | .tup _=>false
 | .junk=>false
 |_=>true
mutual
def DV.rf(pb:DBs):DV→Bool
 | .x y=>rfX y
 | .sl _ _=>true
 | .el _ _ _=>true
 | .own i _=>(dbV pb i).isSome
 | .fn _ cs=>rfL pb cs
 | .agg cs=>rfL pb cs
 | .tup cs=>rfL pb cs
 |_=>false
def rfL(pb:DBs):List DV→Bool
 |[]=>true
 |p::ps=>p.rf pb&&rfL pb ps
end
def topJ:DV→Bool
 | .row _=>true
 | .ob _=>true
 | .re _ _ _=>true
 | .rt _ _=>true
 | .junk=>true
 |_=>false
def rfSl(pb:DBs):List DV→List Bool→Bool
 |[],[]=>true
 |v::vs,b::bs=>(b||(topJ v||(v.nr&&v.rf pb)))&&rfSl pb vs bs
 |_,_=>false
def rfBo(pb0:DBs)(l:List Nat):Nat→DBs→Bool
 |_,[]=>true
 |n,none::pb=>rfBo pb0 l (n+1) pb
 |n,some b::pb=>(memN n l||(nrL b.cells&&rfL pb0 b.cells))&&rfBo pb0 l (n+1) pb
def okSl(ts:List DV)(wr:List Nat):List (Nat×DS)→Bool
 |[]=>true
 |(n,_)::l=>(memN n wr||(match ts[n]? with|some v=>!v.nr|none=>false))&&okSl ts wr l
def ownDS(pb:DBs):List DS→Bool
 |[]=>true
 |d::l=>(match d with | .own i _=>(dbV pb i).isSome|_=>true)&&ownDS pb l
def ownBo(pb:DBs):List (Nat×List DS)→Bool
 |[]=>true
 |(i,cs)::l=>(dbV pb i).isSome&&ownDS pb cs&&ownBo pb l
def maskOf(ws:List Nat):Nat→Nat→List Bool
 |0,_=>[]
 |n+1,i=>memN i ws::maskOf ws n (i+1)
def badS:Nat→List DV→List Nat
 |_,[]=>[]
 |n,v::vs=>match v.nr with|true=>badS (n+1) vs|false=>n::badS (n+1) vs
def wrJ(x:Code)(ts:List DV):List Nat:=writes x++badS 0 ts
def nodupN:List Nat→Bool
 |[]=>true
 |n::l=>!memN n l&&nodupN l
def okJ(j:DJ)(x:Code)(ts:List DV)(pb:DBs):Bool:=
 okWr ts.length x (wrOf 0 (maskOf (wrJ x ts) ts.length 0))&&rfSl pb ts (maskOf (wrJ x ts) ts.length 0)&&rfBo pb (boN j.bo) 0 pb&&okSl ts (writes x) j.sl&&ownDS pb (dsS j.sl)&&ownBo pb j.bo&&nodupN (dsN j.sl)&&nodupN (boN j.bo)
def cleanB(l:List Nat):Nat→DBs→DBs→Bool
 |_,[],_=>true
 |n,o::pb,pb'=>match o,pb' with
  |none,[]=>false
  |none,_::pb'=>cleanB l (n+1) pb pb'
  |some b,some b'::pb'=>Nat.beq b.ty b'.ty&&(memN n l||!b'.w)&&cleanB l (n+1) pb pb'
  |some _,_=>false
def outD(nl:Nat)(j:DJ)(pb0:DBs)(ts:List DV)(pb:DBs)(rw:List DR)(k:j.T.den→Option β):Option β:=
 match cleanB (boN j.bo) 0 pb0 pb with
 |true=>frzE nl (deadL j.ro rw 0) ts pb rw [] fun ts pb rw _=>match gtVs ts (dsN j.sl),roX j.ro rw with
  |some vs,some y=>match boX j.ro pb rw j.bo (roT j.ro) y with
   |some y=>match vsX j.ro rw (dsS j.sl) (boT j.bo (roT j.ro)) vs y with
    |some z=>k z
    |none=>none
   |none=>none
  |_,_=>none
 |false=>none
def junkE:List DV→List Bool→(List DV→Option β)→Option β
 |[],[],K=>K []
 |x::xs,b::bs,K=>match b with
  |true=>junkE xs bs fun l=>K (.junk::l)
  |false=>junkE xs bs fun l=>K (x::l)
 |_,_,_=>none
def setsE:List DV→List Nat→List DV→(List DV→Option β)→Option β
 |ts,[],[],K=>K ts
 |ts,s::ss,v::vs,K=>setE ts s v fun ts=>setsE ts ss vs K
 |_,_,_,_=>none
def setBs:DBs→List Nat→List (List DV)→(DBs→Option β)→Option β
 |pb,[],[],K=>K pb
 |pb,i::is,c::cs,K=>match dbV pb i with
  |some b=>setDB pb i (some ⟨b.ty,c,true⟩) fun pb=>setBs pb is cs K
  |none=>none
 |_,_,_,_=>none
def headD(j:DJ)(x:Code)(ts:List DV)(pb:DBs)(z:j.T.den)(K:DK β):Option β:=
 match vsV (dsS j.sl) (boT j.bo (roT j.ro)) z with
 |(vs,y)=>match boV j.bo (roT j.ro) y with
  |(vss,y)=>subLE norowD ts fun ts'=>junkE ts' (maskOf (wrJ x ts) ts.length 0) fun ts=>setsE ts (dsN j.sl) vs fun ts=>subBE norowD pb fun pb=>setBs pb (boN j.bo) vss fun pb=>K ts pb (roV j.ro y)
def clrB:DBs→DBs
 |[]=>[]
 |some b::pb=>some ⟨b.ty,b.cells,false⟩::clrB pb
 |none::pb=>none::clrB pb
def orW:DBs→DBs→DBs
 |_,[]=>[]
 |[],pb=>pb
 |_::ps,none::pb=>none::orW ps pb
 |o::ps,some b::pb=>some ⟨b.ty,b.cells,b.w||(match o with|some a=>a.w|none=>true)⟩::orW ps pb
def djV:List (Nat×DJ)→Nat→Option DJ
 |[],_=>none
 |(k,j)::l,n=>match Nat.beq k n with|true=>some j|false=>djV l n
def fitD(d:DS)(v:DV):Bool:=
 match d,v with
 | .row k,.row k'=>Nat.beq k k'
 | .ob k,.ob k'=>Nat.beq k k'
 |_,_=>true
def fitS(ts:List DV):List (Nat×DS)→Bool
 |[]=>true
 |(n,d)::l=>(match gtV ts n with|some v=>fitD d v|none=>true)&&fitS ts l
def fitC:List DS→List DV→Bool
 |d::l,v::vs=>fitD d v&&fitC l vs
 |_,_=>true
def fitB(pb:DBs):List (Nat×List DS)→Bool
 |[]=>true
 |(i,cs)::l=>(match dbV pb i with|some b=>fitC cs b.cells|none=>true)&&fitB pb l
def djF:List (Nat×DJ)→Nat→List DV→DBs→Option DJ
 |[],_,_,_=>none
 |(k,j)::l,n,ts,pb=>match Nat.beq k n&&(fitS ts j.sl&&fitB pb j.bo) with|true=>some j|false=>djF l n ts pb
def djW(J:List (Nat×DJ))(n:Nat)(ts:List DV)(pb:DBs):Option DJ:=
 match djV J n with
 |none=>none
 |some j=>match djF J n ts pb with|some j=>some j|none=>some j
def ev(W:Wd)(T:List TI)(C:ESs)(O:DTs)(JC JL:List (Nat×DJ))(nl:Nat):Code→(Exit→DK β)→List DV→DBs→List DR→Option β
 | .skip,Q,ts,pb,rw=>Q .normal ts pb rw
 | .label _,Q,ts,pb,rw=>Q .normal ts pb rw
 | .exit id,Q,ts,pb,rw=>Q (.exit id) ts pb rw
 | .ret,Q,ts,pb,rw=>Q .ret ts pb rw
 | .seq x y,Q,ts,pb,rw=>match djW JC (zdr y) ts pb with
  |none=>ev W T C O JC JL nl x (fun e ts pb rw=>match e with
   | .normal=>ev W T C O JC JL nl y Q ts pb rw
   | .exit i=>Q (.exit i) ts pb rw
   | .ret=>Q .ret ts pb rw
   |_=>none) ts pb rw
  |some j=>match okJ j x ts pb with
   |true=>W.join (X:=j.T.den) (fun z=>headD j x ts pb z fun ts1 pb1 rw1=>ev W T C O JC JL nl y Q ts1 pb1 rw1) fun k=>
    ev W T C O JC JL nl x (fun e ts' pb' rw'=>match e with
     | .normal=>outD nl j pb ts' pb' rw' k
     | .exit i=>Q (.exit i) ts' (orW pb pb') rw'
     | .ret=>Q .ret ts' (orW pb pb') rw'
     |_=>none) ts (clrB pb) rw
   |false=>none
 | .cond c x y,Q,ts,pb,rw=>match opV ts c with
  |some (.x (.lit true))=>ev W T C O JC JL nl x Q ts pb rw
  |some (.x (.lit false))=>ev W T C O JC JL nl y Q ts pb rw
  |some (.x (.bool b))=>W.cnd b (ev W T C O JC JL nl x Q ts pb rw) (ev W T C O JC JL nl y Q ts pb rw)
  |_=>none
 | .block id x,Q,ts,pb,rw=>ev W T C O JC JL nl x (fun e ts pb rw=>match e with
  | .normal=>Q .normal ts pb rw
  | .exit i=>match Nat.beq i id with|true=>Q .normal ts pb rw|false=>Q (.exit i) ts pb rw
  | .ret=>Q .ret ts pb rw
  |_=>none) ts pb rw
 | .scope x,Q,ts,pb,rw=>ev W T C O JC JL nl x Q ts pb rw
 | .region id ops draw,Q,ts,pb,rw=>match draw with
  |false=>evList W T C nl (fun _=>true) [] ops.toList ops.toList ts pb rw (Q .normal)
  |true=>drawD W T C O nl id ops ts pb rw (Q .normal)
 | .loop x,Q,ts,pb,rw=>match djW JL (zdr x) ts pb with
  |none=>none
  |some j=>match okJ j x ts pb with
   |true=>outD nl j pb ts (clrB pb) rw fun z0=>W.loop (X:=j.T.den) (fun z again=>headD j x ts (clrB pb) z fun ts1 pb1 rw1=>
    ev W T C O JC JL nl x (fun e ts' pb' rw'=>match e with
     | .normal=>outD nl j pb ts' pb' rw' again
     | .exit i=>Q (.exit i) ts' (orW pb pb') rw'
     | .ret=>Q .ret ts' (orW pb pb') rw'
     |_=>none) ts1 pb1 rw1) z0
   |false=>none
 |_,_,_,_,_=>none
def resE(W:Wd)(T:List TI):List ResultVar→List DV→DBs→List DR→(List DV→Option β)→Option β
 |[],_,_,_,K=>K []
 | .tmp t::rs,ts,pb,rw,K=>match gtV ts t with
  |some x=>resE W T rs ts pb rw fun xs=>K (x::xs)
  |none=>none
 | .cell c t::rs,ts,pb,rw,K=>match gtV ts c with
  |some A=>loadE W T t A pb rw fun x=>resE W T rs ts pb rw fun xs=>K (x::xs)
  |none=>none
mutual
def qOf:(Q:QT)→DV→List DR→Option (Q.den×List DR)
 | .v t,p,rw=>match t.ofV p with|some x=>some (x,rw)|none=>none
 | .own e t,p,rw=>match p with
  | .row j=>match drV rw j with
   |some (.own e' t' l)=>match Nat.beq e' e,t'.same t with
    |true,some ⟨h⟩=>some (DT.castL h l,rw.set j .dead)
    |_,_=>none
   |_=>none
  | .x (.slc none 0 0)=>some ([],rw)
  |_=>none
 | .unit,p,rw=>match p with | .tup []=>some ((),rw)|_=>none
 | .pair a b,p,rw=>match p with
  | .tup (p::ps)=>match qOf a p rw with
   |some (x,rw)=>match qOfs b ps rw with
    |some (y,rw)=>some ((x,y),rw)
    |none=>none
   |none=>none
  |_=>none
def qOfs:(Q:QT)→List DV→List DR→Option (Q.den×List DR)
 | .unit,ps,rw=>match ps with|[]=>some ((),rw)|_=>none
 | .pair a b,ps,rw=>match ps with
  |p::ps=>match qOf a p rw with
   |some (x,rw)=>match qOfs b ps rw with
    |some (y,rw)=>some ((x,y),rw)
    |none=>none
   |none=>none
  |_=>none
 |_,_,_=>none
end
def oneV(xs:List DV):DV:=match xs with|[x]=>x|xs=>.tup xs
mutual
def frowsT:QT→DV→List Nat→List Nat
 | .v _,p,acc=>p.rows acc
 | .own _ _,_,acc=>acc
 | .unit,_,acc=>acc
 | .pair a b,p,acc=>match p with | .tup (p::ps)=>frowsT a p (zox b ps acc)|_=>acc
def zox:QT→List DV→List Nat→List Nat
 | .pair a b,ps,acc=>match ps with|p::ps=>frowsT a p (zox b ps acc)|_=>acc
 |_,_,acc=>acc
end
def retD(W:Wd)(T:List TI)(rs:List ResultVar)(nl:Nat)(Q:QT)(e:Exit)(ts:List DV)(pb:DBs)(rw:List DR):Option Q.den:=
 match e with
 | .normal=>resE W T rs ts pb rw fun xs=>frzE nl (frowsT Q (oneV xs) []) ts pb rw [oneV xs] fun _ _ rw ps=>match ps with
  |[p]=>match qOf Q p rw with|some (q,_)=>some q|none=>none
  |_=>none
 | .ret=>resE W T rs ts pb rw fun xs=>frzE nl (frowsT Q (oneV xs) []) ts pb rw [oneV xs] fun _ _ rw ps=>match ps with
  |[p]=>match qOf Q p rw with|some (q,_)=>some q|none=>none
  |_=>none
 |_=>none
def initE:List DV→Nat→(List DV→Option β)→Option β
 |[],n,K=>K (List.replicate n (.x .und))
 |x::xs,n+1,K=>initE xs n fun l=>K (x::l)
 |_::_,0,_=>none
def evF(W:Wd)(T:List TI)(C:ESs)(O:DTs)(JC JL:List (Nat×DJ))(fn:Func)(P:DT)(Q:QT)(x:P.den):Option Q.den:=
 match fn.body with
 |some c=>initE (argVs P x) fn.ntmps fun ts=>ev W T C O JC JL 0 c (retD W T fn.results.toList 0 Q) ts [] []
 |none=>none
end Go.Vc

namespace Go.Vc
open Go Go.RowKit
variable {β:Type} {r:β}
mutual
theorem DV.sub_nr(f:Nat→Option DV):(v:DV)→v.nr=true→v.sub f=v
 | .row i,h=>by cases h
 | .re i a b,h=>by cases h
 | .rt i a,h=>by cases h
 | .fn g cs,h=>by simp only[DV.sub,zgh f cs h]
 | .agg cs,h=>by simp only[DV.sub,zgh f cs h]
 | .tup cs,h=>by simp only[DV.sub,zgh f cs h]
 | .x y,h=>rfl
 | .sl t l,h=>rfl
 | .el t x o,h=>rfl
 | .own i o,h=>rfl
 | .junk,h=>rfl
theorem zgh(f:Nat→Option DV):(vs:List DV)→nrL vs=true→subDL f vs=vs
 |[],_=>rfl
 |v::vs,h=>by
  simp only[nrL,Bool.and_eq_true]at h
  simp only[subDL,DV.sub_nr f v h.1,zgh f vs h.2]
end
theorem zlb(f:Nat→Option DV)(l:List DV):subDL f l=l.map (DV.sub f):=by induction l with|nil=>rfl|cons x l ih=>simp[subDL,ih]
theorem zfe(f:Nat→Option DV):∀(pb:DBs) (i:Nat),(subDB f pb)[i]?=(pb[i]?).map fun o=>o.map fun b=>⟨b.ty,subDL f b.cells,b.w⟩
 |[],i=>by simp[subDB]
 |some ⟨t,cs,w⟩::ps,i=>by cases i<;>simp[subDB,zfe]
 |none::ps,i=>by cases i<;>simp[subDB,zfe]
structure Pres(S:List Nat)(ts:List DV)(pb:DBs)(ts':List DV)(pb':DBs):Prop where
 len:ts'.length=ts.length
 sl:∀(i:Nat) (v:DV),ts[i]?=some v→i∉S→v.nr=true→ts'[i]?=some v
 bx:∀(i:Nat) (b:DB),pb[i]?=some (some b)→∃b':DB,pb'[i]?=some (some b')∧b'.ty=b.ty∧(b'.w=false→b.w=false∧(nrL b.cells=true→b'.cells=b.cells))
theorem Pres.refl(S:List Nat)(ts:List DV)(pb:DBs):Pres S ts pb ts pb:=
 ⟨rfl,fun _ _ h _ _=>h,fun _ b h=>⟨b,h,rfl,fun hw=>⟨hw,fun _=>rfl⟩⟩⟩
theorem Pres.trans{S:List Nat}{ts ts1 ts2:List DV}{pb pb1 pb2:DBs}(h:Pres S ts pb ts1 pb1)(h':Pres S ts1 pb1 ts2 pb2):Pres S ts pb ts2 pb2:=by
 refine⟨h'.len.trans h.len,fun i v hv hi hn=>h'.sl i v (h.sl i v hv hi hn) hi hn,fun i b hb=>?_⟩
 obtain⟨b1,h1,h2,h3⟩:=h.bx i b hb
 obtain⟨b2,h4,h5,h6⟩:=h'.bx i b1 h1
 refine⟨b2,h4,h5.trans h2,fun hw=>?_⟩
 obtain⟨h7,h8⟩:=h6 hw
 obtain⟨h9,h10⟩:=h3 h7
 exact⟨h9,fun hn=>by have e:=h10 hn; rw[h8 (by rw[e]; exact hn),e]⟩
theorem Pres.mono{S S':List Nat}{ts ts':List DV}{pb pb':DBs}(h:Pres S ts pb ts' pb')(hs:∀i∈S,i∈S'):Pres S' ts pb ts' pb':=
 ⟨h.len,fun i v hv hi hn=>h.sl i v hv (fun hm=>hi (hs i hm)) hn,h.bx⟩
theorem Pres.set{S:List Nat}{ts:List DV}{pb:DBs}{d:Nat}(v:DV)(hd:d∈S):Pres S ts pb (ts.set d v) pb:=by
 refine⟨by simp,fun i u hu hi hn=>?_,fun i b hb=>⟨b,hb,rfl,fun hw=>⟨hw,fun _=>rfl⟩⟩⟩
 rw[List.getElem?_set]
 split
 ·rename_i he; subst he; exact absurd hd hi
 ·exact hu
theorem Pres.sub{S:List Nat}{ts:List DV}{pb:DBs}(f:Nat→Option DV):Pres S ts pb (subDL f ts) (subDB f pb):=by
 refine⟨by simp[zlb],fun i u hu hi hn=>?_,fun i b hb=>?_⟩
 ·rw[zlb,List.getElem?_map,hu]; simp[DV.sub_nr f u hn]
 ·refine⟨⟨b.ty,subDL f b.cells,b.w⟩,by rw[zfe,hb]; rfl,rfl,fun hw=>⟨hw,fun hn=>zgh f _ hn⟩⟩
theorem Pres.setB{S:List Nat}{ts:List DV}{pb:DBs}{i:Nat}{b:DB}(cs:List DV)(hb:pb[i]?=some (some b)):Pres S ts pb ts (pb.set i (some ⟨b.ty,cs,true⟩)):=by
 refine⟨rfl,fun i u hu hi hn=>hu,fun j c hc=>?_⟩
 rw[List.getElem?_set]
 split
 ·rename_i he; subst he
  rw[hb]at hc; simp only[Option.some.injEq]at hc; subst hc
  have:=(List.getElem?_eq_some_iff.1 hb).1
  exact⟨⟨b.ty,cs,true⟩,by simp[this],rfl,fun hw=>by cases hw⟩
 ·exact⟨c,hc,rfl,fun hw=>⟨hw,fun _=>rfl⟩⟩
theorem Pres.setU{S:List Nat}{ts:List DV}{pb:DBs}{i:Nat}(o:Option DB)(hb:pb[i]?=some none):Pres S ts pb ts (pb.set i o):=by
 refine⟨rfl,fun i u hu hi hn=>hu,fun j c hc=>?_⟩
 rw[List.getElem?_set]
 split
 ·rename_i he; subst he; rw[hb]at hc; cases hc
 ·exact⟨c,hc,rfl,fun hw=>⟨hw,fun _=>rfl⟩⟩
theorem Pres.push{S:List Nat}{ts:List DV}{pb:DBs}(l:DBs):Pres S ts pb ts (pb++l):=by
 refine⟨rfl,fun i u hu hi hn=>hu,fun j c hc=>⟨c,?_,rfl,fun hw=>⟨hw,fun _=>rfl⟩⟩⟩
 rw[List.getElem?_append_left (List.getElem?_eq_some_iff.1 hc).1]; exact hc
abbrev DKs(β:Type):=List DV→DBs→List DR→List DV→Option β
structure FrzB(pb pb':DBs):Prop where
 len:pb'.length=pb.length
 bx:∀(i:Nat) (b:DB),pb[i]?=some (some b)→∃b':DB,pb'[i]?=some (some b')∧b'.ty=b.ty∧(nrL b.cells=true→b'.cells=b.cells)
theorem zpo(f:Nat→Option DV):∀(pb:DBs),(subDB f pb).length=pb.length
 |[]=>rfl
 |some ⟨t,cs,w⟩::ps=>by simp[subDB,zpo f ps]
 |none::ps=>by simp[subDB,zpo f ps]
theorem frzE_b{nl:Nat}:∀{js:List Nat} {ts:List DV} {pb:DBs} {rw:List DR} {ps:List DV} {K:DKs β},frzE nl js ts pb rw ps K=some r→
  ∃ts' pb' rw' ps',K ts' pb' rw' ps'=some r∧ps'.length=ps.length∧(∀S,Pres S ts pb ts' pb')∧FrzB pb pb'∧∀K':List PV→PBs→List RS→List PV→Prop,K' (pL ts') (bP pb') (rP rw') (pL ps')→frzK nl js (pL ts) (bP pb) (rP rw) (pL ps) K'
 |[],ts,pb,rw,ps,K,h=>⟨ts,pb,rw,ps,h,rfl,fun S=>Pres.refl S ts pb,⟨rfl,fun i b hb=>⟨b,hb,rfl,fun _=>rfl⟩⟩,fun _ k=>k⟩
 |j::js,ts,pb,rw,ps,K,h=>by
  simp only[frzE]at h
  split at h
  ·rename_i e t l hd
   split at h
   ·rename_i hn
    rw[zel,zij,zel,zik]at h
    obtain⟨ts',pb',rw',ps',h1,h2,h3,hB,h4⟩:=frzE_b h
    refine⟨ts',pb',rw',ps',h1,by rw[h2,zlb,List.length_map],fun S=>(Pres.sub _).trans (h3 S),⟨by rw[hB.len,zpo],fun i b hb=>?_⟩,fun K' k=>?_⟩
    ·obtain⟨b',h5,h6,h7⟩:=hB.bx i ⟨b.ty,subDL (oneD j (.sl t l)) b.cells,b.w⟩ (by rw[zfe,hb]; rfl)
     exact⟨b',h5,h6,fun hn=>by have e:=zgh (oneD j (.sl t l)) b.cells hn; rw[h7 (by simp only[e]; exact hn)]; exact e⟩
    ·have h5:=h4 K' k
     rw[pL_sub,bP_sub,pL_sub,fP_one,rP_set]at h5
     simp only[frzK]
     refine drV_d hd ?_
     rw[hn]
     simp only
     rw[zcm,zdl,zcm,zbv]
     exact h5
   ·cases h
  ·rename_i hd
   obtain⟨ts',pb',rw',ps',h1,h2,h3,hB,h4⟩:=frzE_b h
   refine⟨ts',pb',rw',ps',h1,h2,h3,hB,fun K' k=>?_⟩
   simp only[frzK]
   exact drV_n (fun e t l he=>hd e t l he) (h4 K' k)
theorem frzE_p{nl:Nat}{js:List Nat}{ts:List DV}{pb:DBs}{rw:List DR}{ps:List DV}{K:DKs β}(h:frzE nl js ts pb rw ps K=some r):
  ∃ts' pb' rw' ps',K ts' pb' rw' ps'=some r∧ps'.length=ps.length∧(∀S,Pres S ts pb ts' pb')∧∀K':List PV→PBs→List RS→List PV→Prop,K' (pL ts') (bP pb') (rP rw') (pL ps')→frzK nl js (pL ts) (bP pb) (rP rw) (pL ps) K':=
 let ⟨a,b,c,d,h1,h2,h3,_,h4⟩:=frzE_b h; ⟨a,b,c,d,h1,h2,h3,h4⟩
def dstS(d:Option Tmp):List Nat:=match d with|none=>[]|some d=>[d]
theorem retE_p{dst:Option Tmp}{x:DV}{ts:List DV}{pb:DBs}{rw:List DR}{K:DK β}(h:retE dst x ts pb rw K=some r):
  ∃ts',K ts' pb rw=some r∧Pres (dstS dst) ts pb ts' pb∧∀K':KP,K' (pL ts') (bP pb) (rP rw)→retP dst x.p (pL ts) (bP pb) (rP rw) K':=by
 unfold retE at h
 cases dst with
 |none=>exact⟨ts,h,Pres.refl _ _ _,fun _ k=>k⟩
 |some d=>
  simp only at h
  rw[zwl]at h
  refine⟨_,h,Pres.set x (by simp[dstS]),fun K' k=>?_⟩
  simp only[retP]
  rw[zdb,←pL_set]; exact k
mutual
theorem DV.p_rows:(v:DV)→(acc:List Nat)→v.p.rows acc=v.rows acc
 | .row i,acc=>rfl
 | .re i a b,acc=>rfl
 | .rt i a,acc=>rfl
 | .ob i,acc=>rfl
 | .fn g cs,acc=>by simp only[DV.p,PV.rows,DV.rows,zlj cs acc]
 | .agg cs,acc=>by simp only[DV.p,PV.rows,DV.rows,zlj cs acc]
 | .tup cs,acc=>by simp only[DV.p,PV.rows,DV.rows,zlj cs acc]
 | .x y,acc=>rfl
 | .sl t l,acc=>rfl
 | .el t x o,acc=>rfl
 | .own i o,acc=>rfl
 | .junk,acc=>rfl
theorem zlj:(vs:List DV)→(acc:List Nat)→rowsL (pL vs) acc=rowsDL vs acc
 |[],acc=>rfl
 |v::vs,acc=>by simp only[pL,rowsL,rowsDL,zlj vs acc,DV.p_rows v]
end
theorem avV_p{av:List (Nat×Nat)}{n:Nat}{K:Nat→Prop}{N:Prop}(h:match avV av n with|some i=>K i|none=>N):avK av n K N:=by
 induction av with
 |nil=>exact h
 |cons a av ih=>
  obtain⟨d,i⟩:=a
  simp only[avV]at h
  simp only[avK]
  split
  ·rename_i hb; rw[hb]at h; exact h
  ·rename_i hb; rw[hb]at h; exact ih h
theorem newDB_p{av:List (Nat×Nat)}{dst:Option Tmp}{ty:TypeId}{cs ts:List DV}{pb:DBs}{rw:List DR}{K:DK β}(h:newDB av dst ty cs ts pb rw K=some r):
  ∃ts' pb',K ts' pb' rw=some r∧Pres (dstS dst) ts pb ts' pb'∧∀K':KP,K' (pL ts') (bP pb') (rP rw)→newPB av dst ⟨ty,pL cs⟩ (pL ts) (bP pb) (rP rw) K':=by
 unfold newDB at h
 cases dst with
 |none=>cases h
 |some d=>
  simp only at h
  split at h
  ·rename_i i hi
   split at h
   ·rename_i hu
    rw[zus]at h
    obtain⟨ts',h1,h2,h3⟩:=retE_p h
    refine⟨ts',_,h1,(Pres.setU _ (zwg hu)).trans h2,fun K' k=>?_⟩
    unfold newPB
    simp only
    refine avV_p ?_
    rw[hi]
    simp only
    refine yew hu ?_
    rw[zeg]
    have h4:=h3 K' k
    rw[bP_set]at h4
    exact h4
   ·cases h
  ·rename_i hi
   rw[zdy,zfp]at h
   obtain⟨ts',h1,h2,h3⟩:=retE_p h
   refine⟨ts',_,h1,(Pres.push _).trans h2,fun K' k=>?_⟩
   unfold newPB
   simp only
   refine avV_p ?_
   rw[hi]
   simp only
   rw[zbn,zby,bP_len]
   have h4:=h3 K' k
   rwa [bP_app]at h4
mutual
def QT.q:(Q:QT)→Q.den→QR
 | .v t,x=>.r (t.encA x)
 | .own e t,l=>.own e t.size (l.map fun x=>t.enc x)
 | .unit,_=>.tup []
 | .pair a b,x=>.tup (a.q x.1::b.qs x.2)
def QT.qs:(Q:QT)→Q.den→List QR
 | .pair a b,x=>a.q x.1::b.qs x.2
 |_,_=>[]
end
def encAs:(P:DT)→P.den→List R
 | .pair a b,x=>a.encA x.1::encAs b x.2
 |_,_=>[]
def ES.spec(s:ES):Spec:=ctS (s.P.den×s.Q.den) (fun z=>encAs s.P z.1) (fun z=>s.fn z.1=some z.2) (fun z=>s.Q.q z.2)
def laP:(l:List PK)→(r:DT)→(pkT l r).den→Nat→(ckT (rowC l) .unit).den→List LA
 |[],_,_,_,_=>[]
 | .v t::l,r,z,n,d=>.r (t.encA z.1)::laP l r z.2 n d
 | .ptr::l,r,z,n,d=>.ptr n::laP l r z (n+1) d
 | .fn g k::l,r,z,n,d=>.fn g (List.range' n k)::laP l r z (n+k) d
 | .row e t::l,r,z,n,d=>.row e t.size (d.1.map fun x=>t.enc x)::laP l r z n d.2
def pkR:(l:List PK)→(r:DT)→(pkT l r).den→r.den
 |[],_,z=>z
 | .v _::l,r,z=>pkR l r z.2
 | .ptr::l,r,z=>pkR l r z
 | .fn _ _::l,r,z=>pkR l r z
 | .row _ _::l,r,z=>pkR l r z
def ckQ:(l:List CK)→(r:DT)→(ckT l r).den→List QR
 |[],_,_=>[]
 | .v t::l,r,z=>.r (t.encA z.1)::ckQ l r z.2
 | .row e t::l,r,z=>.own e t.size (z.1.map fun x=>t.enc x)::ckQ l r z.2
def ckR:(l:List CK)→(r:DT)→(ckT l r).den→r.den
 |[],_,z=>z
 | .v _::l,r,z=>ckR l r z.2
 | .row _ _::l,r,z=>ckR l r z.2
def bkQ:(l:List BK)→(r:DT)→(bkT l r).den→List LB
 |[],_,_=>[]
 |B::l,r,z=>⟨B.ty,ckQ B.cells (bkT l r) z⟩::bkQ l r (ckR B.cells (bkT l r) z)
def bkR:(l:List BK)→(r:DT)→(bkT l r).den→r.den
 |[],_,z=>z
 |B::l,r,z=>bkR l r (ckR B.cells (bkT l r) z)
def LQT.lq:(Q:LQT)→Q.den→LQ
 | .q Q,x=>.q (Q.q x)
 | .ptr k,_=>.ptr k
 | .obj B,x=>.obj ⟨B.ty,ckQ B.cells .unit x⟩
abbrev inT(P:List PK)(B:List BK):DT:=bkT B (ckT (rowC P) .unit)
def laZ(P:List PK)(B:List BK)(z:(pkT P (inT P B)).den):List LA:=laP P (inT P B) z 0 (bkR B (ckT (rowC P) .unit) (pkR P (inT P B) z))
def bkZ(P:List PK)(B:List BK)(z:(pkT P (inT P B)).den):List LB:=bkQ B (ckT (rowC P) .unit) (pkR P (inT P B) z)
def LS.spec(s:LS):Spec:=lentS ((pkT s.P (inT s.P s.B)).den×(s.Q.den×(bkT s.E .unit).den)) (fun z=>laZ s.P s.B z.1) (fun z=>bkZ s.P s.B z.1) (fun z=>s.fn z.1=some z.2) (fun z=>s.Q.lq z.2.1) (fun z=>bkQ s.E .unit z.2.2)
def EC.spec:EC→Spec
 | .es s=>s.spec
 | .ls s=>s.spec
 | .lb s=>s.spec
def noS:Spec:=fun _ _ _ _ _=>False
def csP(C:ESs):Specs:=C.map (fun z=>(z.1,z.2.spec))++(keysE C).map fun n=>(n,noS)
theorem ygn:∀(C:Specs) (n:Nat),keyIn C n=memN n (C.map fun c=>c.1)
 |[],_=>rfl
 |(m,s)::C,n=>by
  simp only[keyIn,List.map_cons,memN,ygn C n]
  cases n.beq m<;>rfl
theorem ygm:∀(C:ESs),C.map (fun z=>z.1)=keysF C
 |[]=>rfl
 |(n,s)::C=>by simp only[List.map_cons,keysF,ygm C]
theorem keyIn_p(C:ESs)(n:Nat):keyIn (csP C) n=memN n (keysF C++keysE C):=by
 have e:((fun c:Nat×Spec=>c.1) ∘ fun z:Nat×EC=>(z.1,z.2.spec))=fun z=>z.1:=rfl
 have e2:((fun c:Nat×Spec=>c.1) ∘ fun n:Nat=>(n,noS))=fun n=>n:=rfl
 rw[ygn,csP,List.map_append,List.map_map,List.map_map,e,e2,ygm,List.map_id']
theorem ykg(C:ESs)(g:Nat):∀(i:Nat) (xs:List DV) (acc:List Nat),rowsA (csP C) g i (pL xs) acc=rowsAV C g i xs acc
 |_,[],_=>rfl
 |i,x::xs,acc=>by
  simp only[pL,rowsA,rowsAV,keyIn_p,ykg C g (i+1) xs acc]
  cases memN (takesN g i) (keysF C++keysE C)
  ·exact DV.p_rows _ _
  ·rfl
theorem esV_p{C:ESs}{g:Nat}{s:EC}{K:Spec→Prop}(h:esV C g=some s)(k:K s.spec):specK (csP C) g K:=by
 induction C with
 |nil=>cases h
 |cons c C ih=>
  obtain⟨n,s'⟩:=c
  simp only[esV]at h
  have app:∀{A B:Specs} {K:Spec→Prop},specK A g K→specK (A++B) g K:=by
   intro A B K
   induction A with
   |nil=>intro h; exact h.elim
   |cons a A ih=>intro h; simp only[List.cons_append,specK]at h ⊢; split<;>rename_i hb<;>rw[hb]at h<;>first|exact h|exact ih h
  have cut:∀{C:ESs},esV C g=some s→specK (C.map fun z=>(z.1,z.2.spec)) g K:=by
   intro C
   induction C with
   |nil=>intro h; cases h
   |cons c C ih=>
    obtain⟨n,s'⟩:=c
    intro h
    simp only[esV]at h
    simp only[List.map_cons,specK]
    split
    ·rename_i hb; rw[hb]at h; simp only[Option.some.injEq]at h; subst h; exact k
    ·rename_i hb; rw[hb]at h; exact ih h
  exact app (cut (C:=(n,s')::C) (by simpa only[esV]using h))
theorem ofA_p:∀{P:DT} {vs:List DV} {x:P.den},ofA P vs=some x→argsOk (pL vs) (encAs P x)
 | .unit,vs,x,h=>by
  simp only[ofA]at h
  split at h
  ·trivial
  ·cases h
 | .pair a b,vs,x,h=>by
  simp only[ofA]at h
  split at h
  ·rename_i v vs
   split at h
   ·rename_i y z hy hz
    simp only[Option.some.injEq]at h; subst h
    exact⟨(zqn hy).1,ofA_p hz⟩
   ·cases h
  ·cases h
 | .int k,vs,x,h=>by simp[ofA]at h
 | .bool,vs,x,h=>by simp[ofA]at h
 | .str,vs,x,h=>by simp[ofA]at h
 | .slc t,vs,x,h=>by simp[ofA]at h
theorem ycm(t:DT)(x:t.den){K:RP}(k:K (t.val x).p):r1pK (t.encA x) K:=by
 cases t with
 |pair a b=>
  exact relC_K (zse (.pair a b) x) k
 |unit=>exact k
 |_=>exact k
theorem r2p_val(t:DT)(x:t.den)(ht:t.agg=false){K:RP}(k:K (t.val x).p):r2pK (t.encA x) K:=by
 cases t<;>first|(cases ht; done)|exact k
def QT.cellOk:QT→Bool
 | .v _=>true
 | .own _ _=>true
 |_=>false
def QT.oks:QT→Bool
 | .unit=>true
 | .pair a b=>a.cellOk&&b.oks
 |_=>false
def QT.ok(Q:QT):Bool:=Q.cellOk||Q.oks
theorem resQ_p{Q:QT}{q:Q.den}{rw:List DR}{K:DV→List DR→Option β}(h:resQ Q q rw K=some r):∃v rw',K v rw'=some r∧∀K':PV→List RS→Prop,K' v.p (rP rw')→q1K (Q.q q) (rP rw) K':=by
 cases Q with
 |v t=>exact⟨_,_,h,fun K' k=>by simp only[QT.q,q1K]; exact ycm t q k⟩
 |own e t=>
  simp only[resQ]at h
  rw[zdy,zfp]at h
  refine⟨_,_,h,fun K' k=>?_⟩
  simp only[QT.q,q1K]
  rw[zbn,zby,rP_len]
  rwa [rP_app]at k
 |unit=>cases h
 |pair a b=>cases h
theorem resQs_p:∀{Q:QT} {q:Q.den} {rw:List DR} {K:List DV→List DR→Option β},resQs Q q rw K=some r→∃vs rw',K vs rw'=some r∧∀K':List PV→List RS→Prop,K' (pL vs) (rP rw')→q1LK (Q.qs q) (rP rw) K'
 | .unit,q,rw,K,h=>⟨[],rw,h,fun K' k=>k⟩
 | .pair a b,q,rw,K,h=>by
  simp only[resQs]at h
  obtain⟨v,rw1,h1,h2⟩:=resQ_p h
  obtain⟨vs,rw2,h3,h4⟩:=resQs_p h1
  exact⟨v::vs,rw2,h3,fun K' k=>by simp only[QT.qs,q1LK]; exact h2 _ (h4 _ k)⟩
 | .v t,q,rw,K,h=>by cases h
 | .own e t,q,rw,K,h=>by cases h
theorem resT_p{Q:QT}{q:Q.den}{rw:List DR}{K:DV→List DR→Option β}(h:resT Q q rw K=some r):∃v rw',K v rw'=some r∧∀K':PV→List RS→Prop,K' v.p (rP rw')→qK (Q.q q) (rP rw) K':=by
 cases Q with
 |v t=>exact⟨_,_,h,fun K' k=>by simp only[QT.q,qK,q1K]; exact ycm t q k⟩
 |own e t=>exact resQ_p (Q:=.own e t) h
 |unit=>exact⟨_,_,h,fun K' k=>k⟩
 |pair a b=>
  obtain⟨vs,rw',h1,h2⟩:=resQs_p (Q:=.pair a b) (K:=fun vs rw=>K (.tup vs) rw) (show resQs (.pair a b) q rw _=some r from h)
  exact⟨_,_,h1,fun K' k=>by simp only[QT.q,qK]; exact h2 _ k⟩
theorem pkX_v{t:DT}{l:List PK}{r:DT}{v:DV}{vs:List DV}{y:r.den}{z:(pkT (.v t::l) r).den}(h:pkX (.v t::l) r (v::vs) y=some z):
  ∃z',t.ofV v=some z.1∧pkX l r vs y=some z'∧z.2=z':=by
 replace h:(match t.ofV v,pkX l r vs y with|some x,some z=>some (x,z)|_,_=>none:Option (t.den×(pkT l r).den))=some z:=h
 split at h
 ·rename_i x z' h1 h2
  have h:=Option.some.inj h; subst h
  exact⟨z',h1,h2,rfl⟩
 ·cases h
theorem ckX_v{t:DT}{l:List CK}{r:DT}{c:DV}{cs:List DV}{rw rw':List DR}{k:List DR→Option (r.den×List DR)}{z:(ckT (.v t::l) r).den}(h:ckX (.v t::l) r (c::cs) rw k=some (z,rw')):
  t.ofV c=some z.1∧ckX l r cs rw k=some (z.2,rw'):=by
 replace h:(match t.ofV c,ckX l r cs rw k with|some x,some (y,rw)=>some ((x,y),rw)|_,_=>none:Option ((t.den×(ckT l r).den)×List DR))=some (z,rw'):=h
 split at h
 ·rename_i x y rw2 h1 h2
  have h:=Option.some.inj h
  have e1:=congrArg Prod.fst h
  have e2:=congrArg Prod.snd h
  simp only at e1 e2
  subst e1 e2
  exact⟨h1,h2⟩
 ·cases h
theorem ckX_row{e:TypeId}{t:DT}{l:List CK}{r:DT}{j:Nat}{cs:List DV}{rw rw':List DR}{k:List DR→Option (r.den×List DR)}{z:(ckT (.row e t::l) r).den}(h:ckX (.row e t::l) r (.row j::cs) rw k=some (z,rw')):
  drV rw j=some (.own e t z.1)∧ckX l r cs (rw.set j .dead) k=some (z.2,rw'):=by
 replace h:(match drV rw j with
   |some (.own e' t' xs)=>match Nat.beq e' e,t'.same t,ckX l r cs (rw.set j .dead) k with
    |true,some ⟨h⟩,some (y,rw)=>some ((DT.castL h xs,y),rw)
    |_,_,_=>none
   |_=>none:Option ((List t.den×(ckT l r).den)×List DR))=some (z,rw'):=h
 split at h
 ·rename_i e' t' xs hd
  split at h
  ·rename_i hh y rw2 h1 h2 h3
   have h:=Option.some.inj h
   have e1:=congrArg Prod.fst h
   have e2:=congrArg Prod.snd h
   simp only at e1 e2
   subst e1 e2
   subst hh
   have:=Nat.eq_of_beq_eq_true h1
   subst this
   exact⟨hd,h3⟩
  ·cases h
 ·cases h
theorem ckX_nil{e:TypeId}{t:DT}{l:List CK}{r:DT}{cs:List DV}{rw rw':List DR}{k:List DR→Option (r.den×List DR)}{z:(ckT (.row e t::l) r).den}(h:ckX (.row e t::l) r (.x (.slc none 0 0)::cs) rw k=some (z,rw')):
  z.1=[]∧ckX l r cs rw k=some (z.2,rw'):=by
 replace h:(match ckX l r cs rw k with|some (y,rw)=>some (([],y),rw)|none=>none:Option ((List t.den×(ckT l r).den)×List DR))=some (z,rw'):=h
 split at h
 ·rename_i y rw2 h2
  have h:=Option.some.inj h
  have e1:=congrArg Prod.fst h
  have e2:=congrArg Prod.snd h
  simp only at e1 e2
  subst e1 e2
  exact⟨rfl,h2⟩
 ·cases h
theorem zgw{x:PV}{p:PV}{ps:List PV}(h:x∈zaz ps):x∈zaz (p::ps):=by
 simp only[zaz]
 split
 ·exact List.mem_append.2 (.inr h)
 ·exact List.mem_cons_of_mem _ h
theorem zfa:∀(xs:List DV),zaz (pL xs)=pL (zdj xs)
 |[]=>rfl
 |x::xs=>by
  cases x with
  |fn g cs=>simp only[pL,DV.p,zaz,zdj,pL_app,zfa xs]
  |_=>simp only[pL,DV.p,zaz,zdj,zfa xs]
theorem idsC_p:∀{n:Nat} {cs:List DV} {ids:List Nat} (pre suf:List Nat),idsC n cs=some ids→ids.length=n∧ptrsOk (pre++ids++suf) (pL cs) (List.range' pre.length n)∧∀i∈ids,PV.own i 0∈pL cs
 |0,cs,ids,pre,suf,h=>by
  simp only[idsC]at h
  cases cs with
  |nil=>simp only[Option.some.injEq]at h; subst h; exact⟨rfl,trivial,by simp⟩
  |cons _ _=>cases h
 |n+1,cs,ids,pre,suf,h=>by
  cases cs with
  |nil=>simp[idsC]at h
  |cons v cs=>
   cases v with
   |own i o=>
    cases o with
    |succ o=>simp only[idsC]at h; cases h
    |zero=>
     rcases h2:idsC n cs with _|ids'
     ·simp[idsC,h2]at h
     ·simp only[idsC,h2,Option.some.injEq]at h; subst h
      obtain⟨g1,g2,g3⟩:=idsC_p (pre++[i]) suf h2
      refine⟨by simp[g1],⟨⟨rfl,by simp⟩,?_⟩,fun i' hi=>?_⟩
      ·simp only[List.append_assoc,List.singleton_append,List.length_append,List.length_singleton]at g2
       simpa using g2
      ·simp only[pL]
       rcases List.mem_cons.1 hi with rfl|hi
       ·simp[DV.p]
       ·exact List.mem_cons_of_mem _ (g3 i' hi)
   |_=>simp[idsC]at h
theorem idsV_p:∀{l:List PK} {r:DT} {vs:List DV} {y:r.den} {z:(pkT l r).den} {ids:List Nat} (pre:List Nat),idsV l vs=some ids→pkX l r vs y=some z→
  (∀d,laOk (pre++ids) (pL vs) (laP l r z pre.length d))∧(∀i∈ids,PV.own i 0∈zaz (pL vs))∧pkR l r z=y
 |[],r,vs,y,z,ids,pre,h,hx=>by
  simp only[idsV]at h
  cases vs with
  |nil=>simp only[Option.some.injEq]at h; subst h; have hx:=Option.some.inj hx; subst hx; exact⟨fun _=>trivial,by simp,rfl⟩
  |cons _ _=>cases h
 | .v t::l,r,vs,y,z,ids,pre,h,hx=>by
  cases vs with
  |nil=>simp only[idsV]at h; cases h
  |cons v vs=>
   simp only[idsV]at h
   obtain⟨z',h1,h2,e2⟩:=pkX_v hx
   obtain⟨g1,g2,g3⟩:=idsV_p pre h h2
   refine⟨fun d=>⟨?_,?_⟩,fun i hi=>by simp only[pL]; exact zgw (g2 i hi),?_⟩
   ·exact(zqn h1).1
   ·show laOk (pre++ids) (pL vs) (laP l r z.2 pre.length d); rw[e2]; exact g1 d
   ·show pkR l r z.2=y; rw[e2]; exact g3
 | .ptr::l,r,vs,y,z,ids,pre,h,hx=>by
  cases vs with
  |nil=>simp[idsV]at h
  |cons v vs=>
   cases v with
   |own i o=>
    cases o with
    |succ o=>simp only[idsV]at h; cases h
    |zero=>
     rcases h2:idsV l vs with _|ids'
     ·simp[idsV,h2]at h
     ·simp only[idsV,h2,Option.some.injEq]at h; subst h
      have hx':pkX l r vs y=some z:=hx
      obtain⟨g1,g2,g3⟩:=idsV_p (pre++[i]) h2 hx'
      simp only[List.append_assoc,List.singleton_append,List.length_append,List.length_singleton]at g1
      refine⟨fun d=>⟨⟨rfl,by simp⟩,g1 d⟩,fun i' hi=>?_,g3⟩
      simp only[pL]
      rcases List.mem_cons.1 hi with rfl|hi
      ·simp[DV.p,zaz]
      ·exact zgw (g2 i' hi)
   |_=>simp[idsV]at h
 | .fn g n::l,r,vs,y,z,ids,pre,h,hx=>by
  cases vs with
  |nil=>simp[idsV]at h
  |cons v vs=>
   cases v with
   |fn g' cs=>
    simp only[idsV]at h
    split at h
    ·rename_i a b h1 h2 h3
     simp only[Option.some.injEq]at h; subst h
     have hx':pkX l r vs y=some z:=hx
     obtain⟨c1,c2,c3⟩:=idsC_p pre b h2
     obtain⟨g1,g2,g3⟩:=idsV_p (pre++a) h3 hx'
     simp only[List.length_append,c1]at g1
     rw[List.append_assoc]at g1 c2
     refine⟨fun d=>⟨⟨Nat.eq_of_beq_eq_true h1,c2⟩,g1 d⟩,fun i hi=>?_,g3⟩
     simp only[pL,DV.p]
     rcases List.mem_append.1 hi with hi|hi
     ·simp only[zaz]; exact List.mem_append.2 (.inl (c3 i hi))
     ·exact zgw (g2 i hi)
    ·cases h
   |_=>simp[idsV]at h
 | .row e t::l,r,vs,y,z,ids,pre,h,hx=>by
  cases vs with
  |nil=>simp only[idsV]at h; cases h
  |cons v vs=>
   simp only[idsV]at h
   have hx':pkX l r vs y=some z:=hx
   obtain⟨g1,g2,g3⟩:=idsV_p pre h hx'
   exact⟨fun d=>g1 d.2,fun i hi=>by simp only[pL]; exact zgw (g2 i hi),g3⟩
theorem zwp:∀(l:List PK) (r:DT) (z:(pkT l r).den) (n:Nat) (d:(ckT (rowC l) .unit).den),rowQs (laP l r z n d)=ckQ (rowC l) .unit d
 |[],_,_,_,_=>rfl
 | .v t::l,r,z,n,d=>zwp l r z.2 n d
 | .ptr::l,r,z,n,d=>zwp l r z (n+1) d
 | .fn g k::l,r,z,n,d=>zwp l r z (n+k) d
 | .row e t::l,r,z,n,d=>by
  show _::rowQs (laP l r z n d.2)=_::ckQ (rowC l) .unit d.2
  rw[zwp l r z n d.2]
theorem zsd:∀(l:List PK) (r:DT) (z:(pkT l r).den) (n:Nat) (d:(ckT (rowC l) .unit).den) (xs:List DV),rowPs (laP l r z n d) (pL xs)=pL (rowVs l xs)
 |[],_,_,_,_,_=>rfl
 | .v t::l,r,z,n,d,xs=>by cases xs with|nil=>rfl|cons x xs=>exact zsd l r z.2 n d xs
 | .ptr::l,r,z,n,d,xs=>by cases xs with|nil=>rfl|cons x xs=>exact zsd l r z (n+1) d xs
 | .fn g k::l,r,z,n,d,xs=>by cases xs with|nil=>rfl|cons x xs=>exact zsd l r z (n+k) d xs
 | .row e t::l,r,z,n,d,xs=>by
  cases xs with
  |nil=>rfl
  |cons x xs=>show _::rowPs (laP l r z n d.2) (pL xs)=_::pL (rowVs l xs); rw[zsd l r z n d.2 xs]
theorem ndV_p:∀{l:List Nat},ndV l=true→l.Nodup
 |[],_=>List.nodup_nil
 |n::l,h=>by
  simp only[ndV,Bool.and_eq_true]at h
  exact List.nodup_cons.2 ⟨(fun hm=>by have:=h.1; rw[zcc.2 hm]at this; cases this),ndV_p h.2⟩
theorem bkQ_ty:∀(l:List BK) (r:DT) (z:(bkT l r).den),(bkQ l r z).map (·.ty)=l.map (·.ty)
 |[],_,_=>rfl
 |B::l,r,z=>by simp only[bkQ,List.map_cons,bkQ_ty l r]
theorem lgetV_p:∀{l:List BK} {ids:List Nat} {pb:DBs} {olds:List DV} {Bs:List LB} {K:List PV→Prop},lgetV l ids pb=some olds→Bs.map (·.ty)=l.map (·.ty)→K (pL olds)→lgetK Bs ids (bP pb) K
 |[],ids,pb,olds,Bs,K,h,ht,k=>by
  cases Bs with
  |cons _ _=>simp at ht
  |nil=>
   simp only[lgetV]at h
   cases ids with
   |nil=>simp only[Option.some.injEq]at h; subst h; exact k
   |cons _ _=>cases h
 |B::l,ids,pb,olds,Bs,K,h,ht,k=>by
  cases Bs with
  |nil=>simp at ht
  |cons B' Bs=>
   simp only[lgetV]at h
   cases ids with
   |nil=>cases h
   |cons i ids=>
    simp only at h
    split at h
    ·rename_i b hb
     split at h
     ·rename_i vs h1 h2
      simp only[Option.some.injEq]at h; subst h
      simp only[List.map_cons,List.cons.injEq]at ht
      simp only[lgetK]
      exact dbV_p hb ⟨(Nat.eq_of_beq_eq_true h1).trans ht.1.symm,lgetV_p h2 ht.2 k⟩
     ·cases h
    ·cases h
theorem ckX_p:∀{l:List CK} {r:DT} {cs:List DV} {rw rw':List DR} {k:List DR→Option (r.den×List DR)} {z:(ckT l r).den},ckX l r cs rw k=some (z,rw')→
  ∃rw1 y,k rw1=some (y,rw')∧ckR l r z=y∧∀K:List RS→Prop,K (rP rw1)→qOkL (ckQ l r z) (pL cs) (rP rw) K
 |[],r,cs,rw,rw',k,z,h=>by
  cases cs with
  |nil=>exact⟨rw,z,h,rfl,fun K kk=>kk⟩
  |cons _ _=>cases h
 | .v t::l,r,cs,rw,rw',k,z,h=>by
  cases cs with
  |nil=>cases h
  |cons c cs=>
   obtain⟨h1,h2⟩:=ckX_v h
   obtain⟨rw1,y1,g1,g2,g3⟩:=ckX_p h2
   refine⟨rw1,y1,g1,g2,fun K kk=>?_⟩
   show qOkL (.r (t.encA z.1)::ckQ l r z.2) (pL (c::cs)) (rP rw) K
   exact⟨(zqn h1).2.1,g3 K kk⟩
 | .row e t::l,r,cs,rw,rw',k,z,h=>by
  cases cs with
  |nil=>cases h
  |cons c cs=>
   cases c with
   |row j=>
    obtain⟨hd,h2⟩:=ckX_row h
    obtain⟨rw1,y1,g1,g2,g3⟩:=ckX_p h2
    refine⟨rw1,y1,g1,g2,fun K kk=>?_⟩
    show qOkL (.own e t.size (z.1.map fun x=>t.enc x)::ckQ l r z.2) (pL (.row j::cs)) (rP rw) K
    simp only[pL,DV.p,qOkL,qOk]
    refine drV_p hd ⟨rfl,rfl,rfl,?_⟩
    rw[zbv]
    have e4:(RS.dead)=DR.p .dead:=rfl
    rw[e4,←rP_set]
    exact g3 K kk
   |x y0=>
    have hy:y0=.slc none 0 0:=by
     cases y0 with
     |slc a b c=>
      cases a with
      |none=>cases b with
       |zero=>cases c with
        |zero=>rfl
        |succ c=>cases h
       |succ b=>cases h
      |some a=>cases h
     |_=>cases h
    subst hy
    obtain⟨hd,h2⟩:=ckX_nil h
    obtain⟨rw1,y1,g1,g2,g3⟩:=ckX_p h2
    refine⟨rw1,y1,g1,g2,fun K kk=>?_⟩
    show qOkL (.own e t.size (z.1.map fun x=>t.enc x)::ckQ l r z.2) (pL (.x (.slc none 0 0)::cs)) (rP rw) K
    rw[hd]
    exact⟨trivial,rfl,g3 K kk⟩
   |_=>cases h
theorem bkX_p:∀{l:List BK} {r:DT} {olds:List DV} {rw rw':List DR} {k:List DR→Option (r.den×List DR)} {z:(bkT l r).den},bkX l r olds rw k=some (z,rw')→
  ∃rw1 y,k rw1=some (y,rw')∧bkR l r z=y∧∀K:List RS→Prop,K (rP rw1)→qOkL (aggQ (bkQ l r z)) (pL olds) (rP rw) K
 |[],r,olds,rw,rw',k,z,h=>by
  cases olds with
  |nil=>exact⟨rw,z,h,rfl,fun K kk=>kk⟩
  |cons _ _=>cases h
 |B::l,r,olds,rw,rw',k,z,h=>by
  cases olds with
  |nil=>cases h
  |cons c olds=>
   cases c with
   |agg cs=>
    replace h:ckX B.cells (bkT l r) cs rw (fun rw=>bkX l r olds rw k)=some (z,rw'):=h
    obtain⟨rw1,y1,g1,g2,g3⟩:=ckX_p h
    obtain⟨rw2,y2,k1,k2,k3⟩:=bkX_p g1
    refine⟨rw2,y2,k1,by rw[←g2]at k2; exact k2,fun K kk=>?_⟩
    simp only[bkQ,aggQ,pL,DV.p,qOkL,qOk]
    refine g3 _ ?_
    rw[g2]
    exact k3 K kk
   |_=>cases h
theorem ckF_p:∀{l:List CK} {r:DT} {z:(ckT l r).den} {cs:List DV} {rw:List DR} {K:List DV→r.den→List DR→Option β} {b:β},ckF l r z cs rw K=some b→
  ∃vs rw',K vs (ckR l r z) rw'=some b∧∀K':List PV→List RS→Prop,K' (pL vs) (rP rw')→fillQ (ckQ l r z) (pL cs) (rP rw) K'
 |[],r,z,cs,rw,K,b,h=>by
  cases cs with
  |nil=>exact⟨[],rw,h,fun K' k=>k⟩
  |cons _ _=>cases h
 | .v t::l,r,z,cs,rw,K,b,h=>by
  cases cs with
  |nil=>cases h
  |cons c cs=>
   replace h:(match t.agg with|false=>ckF l r z.2 cs rw fun vs y rw=>K (t.val z.1::vs) y rw|true=>none)=some b:=h
   split at h
   ·rename_i ha
    obtain⟨vs,rw',g1,g2⟩:=ckF_p h
    exact⟨_,rw',g1,fun K' k=>by simp only[ckQ,pL,fillQ,fill1]; exact r2p_val t z.1 ha (g2 _ k)⟩
   ·cases h
 | .row e t::l,r,z,cs,rw,K,b,h=>by
  cases cs with
  |nil=>cases h
  |cons c cs=>
   have notrow:(∀j,c≠.row j)→∃vs rw',K vs (ckR (.row e t::l) r z) rw'=some b∧∀K':List PV→List RS→Prop,K' (pL vs) (rP rw')→fillQ (ckQ (.row e t::l) r z) (pL (c::cs)) (rP rw) K':=by
    intro hne
    have h':(pushE rw (.own e t z.1) fun rw'=>litE rw.length fun n=>ckF l r z.2 cs rw' fun vs y rw=>K (.row n::vs) y rw)=some b:=by
     cases c<;>first|exact(hne _ rfl).elim|exact h
    rw[zdy,zfp]at h'
    obtain⟨vs,rw',g1,g2⟩:=ckF_p h'
    refine⟨_,rw',g1,fun K' k=>?_⟩
    have hp:pushK (rP rw) (.own e t.size (z.1.map fun x=>t.enc x)) fun rw'=>litK (rP rw).length fun n=>fillQ (ckQ l r z.2) (pL cs) rw' fun ps' rw=>K' (.row n::ps') rw:=by
     rw[zbn,zby,rP_len]
     have:=g2 (fun ps rw2=>K' (.row rw.length::ps) rw2) k
     rw[rP_app]at this
     exact this
    show fillQ (.own e t.size (z.1.map fun x=>t.enc x)::ckQ l r z.2) (c.p::pL cs) (rP rw) K'
    cases c<;>first|exact(hne _ rfl).elim|exact hp
   cases c with
   |row j=>
    replace h:(match drV rw j with
     |some .dead=>setDR rw j (.own e t z.1) fun rw=>ckF l r z.2 cs rw fun vs y rw=>K (.row j::vs) y rw
     |_=>none)=some b:=h
    split at h
    ·rename_i hd
     rw[zik]at h
     obtain⟨vs,rw',g1,g2⟩:=ckF_p h
     refine⟨_,rw',g1,fun K' k=>?_⟩
     show fillQ (.own e t.size (z.1.map fun x=>t.enc x)::ckQ l r z.2) (.row j::pL cs) (rP rw) K'
     simp only[fillQ,fill1]
     refine⟨?_,?_⟩
     ·have h0:rw[j]?=some DR.dead:=by
       have:∀{rw:List DR} {j:Nat} {x:DR},drV rw j=some x→rw[j]?=some x:=by
        intro rw
        induction rw with
        |nil=>intro j x h; cases h
        |cons y rw ih=>intro j x h; cases j with
         |zero=>simpa[drV]using h
         |succ j=>simpa using ih (by simpa[drV]using h)
       exact this hd
      rw[rP_map,List.getElem?_map,h0]; rfl
     ·rw[zbv]
      have:=g2 (fun ps rw=>K' (.row j::ps) rw) k
      rw[rP_set]at this
      exact this
    ·cases h
   |_=>exact notrow (fun j hj=>by cases hj)
theorem ckS_p:∀{l:List CK} {r:DT} {z:(ckT l r).den} {rw:List DR} {K:List DV→r.den→List DR→Option β} {b:β},ckS l r z rw K=some b→
  ∃vs rw',K vs (ckR l r z) rw'=some b∧∀K':List PV→List RS→Prop,K' (pL vs) (rP rw')→q0LK (ckQ l r z) (rP rw) K'
 |[],r,z,rw,K,b,h=>⟨[],rw,h,fun K' k=>k⟩
 | .v t::l,r,z,rw,K,b,h=>by
  replace h:(match t.agg with|false=>ckS l r z.2 rw fun vs y rw=>K (t.val z.1::vs) y rw|true=>none)=some b:=h
  split at h
  ·rename_i ha
   obtain⟨vs,rw',g1,g2⟩:=ckS_p h
   exact⟨_,rw',g1,fun K' k=>by simp only[ckQ,q0LK,q0K]; exact r2p_val t z.1 ha (g2 _ k)⟩
  ·cases h
 | .row e t::l,r,z,rw,K,b,h=>by
  replace h:(pushE rw (.own e t z.1) fun rw'=>litE rw.length fun n=>ckS l r z.2 rw' fun vs y rw=>K (.row n::vs) y rw)=some b:=h
  rw[zdy,zfp]at h
  obtain⟨vs,rw',g1,g2⟩:=ckS_p h
  refine⟨_,rw',g1,fun K' k=>?_⟩
  simp only[ckQ,q0LK,q0K]
  rw[zbn,zby,rP_len]
  have:=g2 (fun ps rw2=>K' (.row rw.length::ps) rw2) k
  rw[rP_app]at this
  exact this
structure PresB(pb pb':DBs):Prop where
 bx:∀(i:Nat) (b:DB),pb[i]?=some (some b)→∃b':DB,pb'[i]?=some (some b')∧b'.ty=b.ty∧(b'.w=false→b.w=false∧(nrL b.cells=true→b'.cells=b.cells))
theorem PresB.pres{pb pb':DBs}(h:PresB pb pb')(S:List Nat)(ts:List DV):Pres S ts pb ts pb':=⟨rfl,fun _ _ h _ _=>h,h.bx⟩
theorem Pres.b{S:List Nat}{ts ts':List DV}{pb pb':DBs}(h:Pres S ts pb ts' pb'):PresB pb pb':=⟨h.bx⟩
theorem PresB.trans{pb pb1 pb2:DBs}(h:PresB pb pb1)(h':PresB pb1 pb2):PresB pb pb2:=((h.pres [] []).trans (h'.pres [] [])).b
theorem bkF_p:∀{l:List BK} {r:DT} {z:(bkT l r).den} {ids:List Nat} {olds:List DV} {pb:DBs} {rw:List DR} {K:r.den→DBs→List DR→Option β} {b:β},bkF l r z ids olds pb rw K=some b→
  ∃pb' rw',K (bkR l r z) pb' rw'=some b∧PresB pb pb'∧∀K':PBs→List RS→Prop,K' (bP pb') (rP rw')→fillB (bkQ l r z) ids (pL olds) (bP pb) (rP rw) K'
 |[],r,z,ids,olds,pb,rw,K,b,h=>⟨pb,rw,h,(Pres.refl [] [] pb).b,fun K' k=>k⟩
 |B::l,r,z,ids,olds,pb,rw,K,b,h=>by
  simp only[bkF]at h
  split at h
  ·rename_i i ids' cs olds'
   obtain⟨vs,rw1,g1,g2⟩:=ckF_p h
   split at g1
   ·rename_i bx hb
    rw[zus]at g1
    obtain⟨pb',rw',k1,k2,k3⟩:=bkF_p g1
    refine⟨pb',rw',k1,(Pres.setB (S:=[]) (ts:=[]) vs (ztk hb)).b.trans k2,fun K' k=>?_⟩
    simp only[bkQ,pL,DV.p,fillB]
    refine g2 _ (dbV_p hb ?_)
    rw[zeg]
    have:=k3 K' k
    rw[bP_set]at this
    exact this
   ·cases g1
  ·cases h
theorem boxCs_p:∀(pb:DBs) (i:Nat),zkp (bP pb) i=pL (boxCs pb i)
 |[],i=>rfl
 |o::pb,0=>by cases o<;>rfl
 |o::pb,i+1=>by cases o<;>simp only[bP,zkp,boxCs,boxCs_p pb i]
theorem zvd(pb:DBs):∀(xs:List DV),lentR (bP pb) (pL xs)=lentRV pb xs
 |[]=>rfl
 |x::xs=>by
  have o:(∀i o,x≠.own i o)→lentR (bP pb) (x.p::pL xs)=x.p.rows (lentR (bP pb) (pL xs))∧lentRV pb (x::xs)=x.rows (lentRV pb xs):=fun h=>by
   cases x<;>first|exact⟨rfl,rfl⟩|exact(h _ _ rfl).elim
  cases x with
  |own i j=>simp only[pL,DV.p,lentR,lentRV,zvd pb xs,boxCs_p,zlj]
  |_=>
   obtain⟨h1,h2⟩:=o (by intro _ _ h; cases h)
   rw[pL,h1,h2,zvd pb xs]
   exact DV.p_rows _ _
theorem ylj(js:List Nat):fP (lentFV js)=lentF js:=by
 funext i; unfold fP lentFV lentF; cases memN i js<;>rfl
theorem zxa(al:Nat→Bool):∀(xs:List DV),ownsOk al (pL xs)=zsm al xs
 |[]=>rfl
 |x::xs=>by cases x<;>simp only[pL,DV.p,ownsOk,zsm,zxa al xs]
theorem bytesQ_p{T:List TI}{o:Oper}{ts:List DV}{s:ByteArray}{src dst:TypeId}{x:Operand}{K:PV→Prop}(ho:o.op=.convert src dst x)(h:bytesQ T o ts=some s)(k:K (.x (.str s))):bytesP T src dst x (pL ts) K:=by
 unfold bytesQ at h
 rw[ho]at h
 simp only at h
 split at h
 ·rename_i l h1
  split at h
  ·rename_i e h2 h3
   split at h
   ·rename_i h4
    simp only[Option.some.injEq]at h; subst h
    unfold bytesP
    refine opV_p h1 (tdV_p h2 fun ti hti=>tdV_p h3 fun td htd=>?_)
    rw[hti]
    exact tdV_p h4 fun te hte=>⟨hte,htd,rfl,l,rfl,k⟩
   ·cases h
  ·cases h
 ·cases h
theorem drV_dead{rw:List DR}{j:Nat}(h:drV rw j=some .dead):(rP rw)[j]?=some .dead:=by
 have h0:∀{rw:List DR} {j:Nat} {x:DR},drV rw j=some x→rw[j]?=some x:=by
  intro rw
  induction rw with
  |nil=>intro j x h; cases h
  |cons y rw ih=>intro j x h; cases j with
   |zero=>simpa[drV]using h
   |succ j=>simpa using ih (by simpa[drV]using h)
 rw[rP_map,List.getElem?_map,h0 h]; rfl
theorem resF_p{rs:List DV}{Q:QT}{q:Q.den}{rw:List DR}{K:DV→List DR→Option β}{b:β}(h:resF rs Q q rw K=some b):∃v rw',K v rw'=some b∧∀K':PV→List RS→Prop,K' v.p (rP rw')→qFill (pL rs) (Q.q q) (rP rw) K':=by
 have std:(∀j rest,rs=.row j::rest→∀e t,Q≠.own e t)→resT Q q rw K=some b→∃v rw',K v rw'=some b∧∀K':PV→List RS→Prop,K' v.p (rP rw')→qFill (pL rs) (Q.q q) (rP rw) K':=by
  intro hn h
  obtain⟨v,rw',h1,h2⟩:=resT_p h
  refine⟨v,rw',h1,fun K' k=>?_⟩
  have h3:=h2 K' k
  cases rs with
  |nil=>exact h3
  |cons p rs=>
   cases p with
   |row j=>
    cases Q with
    |own e t=>exact(hn j rs rfl e t rfl).elim
    |v t=>exact h3
    |unit=>exact h3
    |pair a b=>exact h3
   |_=>exact h3
 cases rs with
 |nil=>exact std (by intro j rest h; cases h) h
 |cons p rs=>
  cases p with
  |row j=>
   cases Q with
   |own e t=>
    replace h:(match drV rw j with|some .dead=>setDR rw j (.own e t q) fun rw=>K (.row j) rw|_=>none)=some b:=h
    split at h
    ·rename_i hd
     rw[zik]at h
     refine⟨_,_,h,fun K' k=>?_⟩
     show fill1 (.row j) (.own e t.size (List.map (fun x=>t.enc x) q)) (rP rw) K'
     simp only[fill1]
     refine⟨drV_dead hd,?_⟩
     rw[zbv]
     rw[rP_set]at k
     exact k
    ·cases h
   |v t=>exact std (by intro j rest h e t h'; cases h') h
   |unit=>exact std (by intro j rest h e t h'; cases h') h
   |pair a b=>exact std (by intro j rest h e t h'; cases h') h
  |_=>exact std (by intro j rest h; cases h) h
theorem yeh{s:LS}{nl:Nat}{xs:List DV}{pb:DBs}{rw:List DR}{K:DV→DBs→List DR→Option β}{b:β}(h:callLV stdW s nl xs pb rw K=some b):
  ∃v pb' rw',K v pb' rw'=some b∧PresB pb pb'∧∀K':PV→PBs→List RS→Prop,K' v.p (bP pb') (rP rw')→s.spec nl (pL xs) (bP pb) (rP rw) K':=by
 unfold callLV at h
 split at h
 ·rename_i ids hids
  split at h
  ·rename_i olds hnd hlg
   split at h
   ·rename_i z rw1 hbk
    split at h
    ·rename_i z0 hz0
     rw[zij]at h
     rcases hfn:s.fn z0 with _|o
     ·rw[hfn]at h; cases h
     ·rw[hfn]at h
      obtain⟨rwm,d,hy,hd,hq⟩:=bkX_p hbk
      obtain⟨rw1',y,hy,_,hq2⟩:=ckX_p hy
      have hy:=Option.some.inj hy
      injection hy with _ hy; subst hy
      replace h:bkF s.E .unit o.2 ids olds (subDB (lentFV (lentRV pb (zdj xs))) pb) rw1' (fun _ pb2 rw2=>match s.Q,o.1 with
       | .q Q,q=>resF (rowVs s.P xs) Q q rw2 fun v rw3=>K v pb2 rw3
       | .ptr k,_=>match ids[k]? with|some i=>K (.own i 0) pb2 rw2|none=>none
       | .obj B,x=>ckS B.cells .unit x rw2 fun vs _ rw3=>pushE pb2 (some ⟨B.ty,vs,true⟩) fun pb3=>litE pb2.length fun n=>K (.own n 0) pb3 rw3)=some b:=h
      obtain⟨pb2,rw2,h1,h2,h3⟩:=bkF_p h
      obtain⟨g1,g2,g3⟩:=idsV_p [] hids hz0
      have hpb:PresB pb pb2:=(Pres.sub (S:=[]) (ts:=[]) (pb:=pb) _).b.trans h2
      have main:∀K':PV→PBs→List RS→Prop,(match s.Q.lq o.1 with
        | .q q=>qFill (pL (rowVs s.P xs)) q (rP rw2) fun p rw3=>K' p (bP pb2) rw3
        | .ptr k=>∃i,ids[k]?=some i∧K' (.own i 0) (bP pb2) (rP rw2)
        | .obj B=>q0LK B.cells (rP rw2) fun ps rw3=>pushK (bP pb2) (some ⟨B.ty,ps⟩) fun pb3=>litK (bP pb2).length fun n=>K' (.own n 0) pb3 rw3)→s.spec 0 (pL xs) (bP pb) (rP rw) K':=by
       intro K' hk
       refine⟨rfl,(z0,o),ids,ndV_p hnd,g2,by have:=g1 (bkR s.B (ckT (rowC s.P) .unit) (pkR s.P (inT s.P s.B) z0)); rw[List.nil_append]at this; exact this,hfn,lgetV_p hlg (bkQ_ty _ _ _) ?_⟩
       show qOkL (aggQ (bkQ s.B (ckT (rowC s.P) .unit) (pkR s.P (inT s.P s.B) z0))) _ _ fun rw0=>qOkL (rowQs (laP s.P (inT s.P s.B) z0 0 (bkR s.B (ckT (rowC s.P) .unit) (pkR s.P (inT s.P s.B) z0)))) (rowPs (laP s.P (inT s.P s.B) z0 0 (bkR s.B (ckT (rowC s.P) .unit) (pkR s.P (inT s.P s.B) z0))) (pL xs)) rw0 _
       simp only[zwp,zsd]
       rw[g3]
       refine hq _ ?_
       rw[hd]
       refine hq2 _ ?_
       rw[zdl,zfa,zvd]
       have:=h3 (fun pb2 rw2=>match s.Q.lq o.1 with
        | .q q=>qFill (pL (rowVs s.P xs)) q rw2 fun p rw3=>K' p pb2 rw3
        | .ptr k=>∃i,ids[k]?=some i∧K' (.own i 0) pb2 rw2
        | .obj B=>q0LK B.cells rw2 fun ps rw3=>pushK pb2 (some ⟨B.ty,ps⟩) fun pb3=>litK pb2.length fun n=>K' (.own n 0) pb3 rw3) hk
       rw[bP_sub,ylj]at this
       rw[←show rowPs (laZ s.P s.B z0) (pL xs)=pL (rowVs s.P xs) from zsd _ _ _ _ _ xs]at this
       exact this
      cases hQ:s.Q with
      |q Q=>
       obtain⟨P,B,E,Q',fn⟩:=s
       simp only at hQ; subst hQ
       obtain⟨v,rw3,k1,k2⟩:=resF_p h1
       exact⟨v,pb2,rw3,k1,hpb,fun K' kk=>main K' (k2 _ kk)⟩
      |ptr k=>
       obtain⟨P,B,E,Q',fn⟩:=s
       simp only at hQ; subst hQ
       simp only at h1
       split at h1
       ·rename_i i hi
        exact⟨_,pb2,rw2,h1,hpb,fun K' kk=>main K' ⟨i,hi,kk⟩⟩
       ·cases h1
      |obj B=>
       obtain⟨P,B',E,Q',fn⟩:=s
       simp only at hQ; subst hQ
       simp only at h1
       obtain⟨vs,rw3,k1,k2⟩:=ckS_p h1
       rw[zdy,zfp]at k1
       refine⟨_,_,rw3,k1,hpb.trans (Pres.push (S:=[]) (ts:=[]) _).b,fun K' kk=>main K' ?_⟩
       refine k2 _ ?_
       rw[zbn,zby,bP_len]
       rw[bP_app]at kk
       exact kk
    ·cases h
   ·cases h
  ·cases h
 ·cases h
def lkOf(T:List TI):List (Nat×List Nat):=(List.range T.length).map fun e=>(e,match tyOf T 9 e with|some t=>t.ks []|none=>[])
theorem lkK_of{g:Nat→List Nat}{e:Nat}{K:List Nat→Prop}:∀(n a:Nat),a≤e→e<a+n→K (g e)→lkK ((List.range' a n).map fun e=>(e,g e)) e K
 |0,a,h1,h2,k=>by omega
 |n+1,a,h1,h2,k=>by
  simp only[List.range'_succ,List.map_cons,lkK]
  split
  ·rename_i hb; have:=Nat.eq_of_beq_eq_true hb; subst this; exact k
  ·rename_i hb
   have:a≠e:=fun he=>by subst he; simp at hb
   exact lkK_of n (a+1) (by omega) (by omega) k
theorem tiV_lt:∀{T:List TI} {t:Nat} {ti:TI},tiV T t=some ti→t<T.length
 |[],t,ti,h=>by cases h
 |x::T,0,ti,h=>by simp
 |x::T,t+1,ti,h=>by simpa using tiV_lt (T:=T) (t:=t) h
theorem lkOf_p{T:List TI}{e:Nat}{ti:TI}{t:DT}{K:List Nat→Prop}(h:tiV T e=some ti)(ht:tyOf T 9 e=some t)(k:K (t.ks [])):lkK (lkOf T) e K:=by
 unfold lkOf
 rw[List.range_eq_range']
 refine lkK_of _ 0 (Nat.zero_le _) (by have:=tiV_lt h; omega) ?_
 rw[ht]; exact k
theorem sndsD_p:∀(ps:List (Nat×DV)),pL (sndsD ps)=snds (ndP ps)
 |[]=>rfl
 |(i,p)::ps=>by simp only[sndsD,pL,ndP,snds,sndsD_p ps]
theorem ykh:∀(ps:List (Nat×DV)) (qs:List DV),ndP (rezipD ps qs)=rezip (ndP ps) (pL qs)
 |[],qs=>by cases qs<;>rfl
 |(i,p)::ps,[]=>rfl
 |(i,p)::ps,q::qs=>by simp only[rezipD,ndP,pL,rezip,ykh ps qs]
theorem ofVs_p{t:DT}:∀{ps:List (Nat×DV)} {n:Nat} {l:List t.den} {K:List (List R)→Prop},ofVs t ps n=some l→K (l.map fun x=>t.enc x)→toEK t.size (t.ks []) (ndP ps) n K
 |[],n,l,K,h,k=>by simp only[ofVs,Option.some.injEq]at h; subst h; exact k
 |(i,p)::ps,n,l,K,h,k=>by
  simp only[ofVs]at h
  split at h
  ·rename_i x h1 h2
   split at h
   ·rename_i l' hl
    simp only[Option.some.injEq]at h; subst h
    simp only[ndP,toEK,h1]
    refine(zqn h2).2.2 _ fun cs hc hm=>?_
    have e:lenP cs t.size (toRK (t.ks []) cs fun r=>toEK t.size (t.ks []) (ndP ps) (n+1) fun l=>K (r::l)):=by
     have L:∀{cs:List PV} {n:Nat} {K:Prop},cs.length=n→K→lenP cs n K:=by
      intro cs
      induction cs with
      |nil=>intro n K h k; cases n with|zero=>exact k|succ n=>cases h
      |cons c cs ih=>intro n K h k; cases n with|zero=>cases h|succ n=>exact ih (by simpa using h) k
     exact L hc (hm _ (ofVs_p hl k))
    exact e
   ·cases h
  ·cases h
theorem brwV_p(j:Nat)(t:DT)(l:List t.den):fP (brwV j t l)=brwF j t.size (l.map fun x=>t.enc x):=by
 funext i
 unfold fP brwV brwF
 cases Nat.beq i j<;>rfl
theorem yec:∀rw:List DR,rP (deadDR rw)=deadR (rP rw)
 |[]=>rfl
 |_::rw=>by simp only[deadDR,rP,yec rw]; rfl
theorem ylx:∀{ds rw:List DR},deadOk ds rw=true→rP ds=deadR (rP rw)
 |[],rw,h=>by cases rw<;>first|rfl|cases h
 |d::ds,rw,h=>by
  cases d<;>cases rw<;>first|(cases h; done)|skip
  rename_i x rw
  have h:deadOk ds rw=true:=h
  simp only[rP,ylx h]; rfl
theorem yag:∀ps:List DV,zbo (pL ps)=zqp ps
 |[]=>rfl
 |p::ps=>by cases p<;>simp[pL,DV.p,zbo,zqp,yag ps]
theorem allX_p:∀{vs:List DV},allX vs=true→∀c∈pL vs,∃y,c=.x y
 |[],_,c,hc=>by cases hc
 |v::vs,h,c,hc=>by
  cases v<;>first|(cases h; done)|skip
  rename_i y
  simp only[pL,DV.p]at hc
  rcases List.mem_cons.1 hc with rfl|hc
  ·exact⟨y,rfl⟩
  ·exact allX_p (vs:=vs) h c hc
theorem drV_rP:∀{rw:List DR} {j:Nat} {e:TypeId} {t:DT} {l:List t.den},drV rw j=some (.own e t l)→(rP rw)[j]?=some (.own e t.size (l.map fun x=>t.enc x))
 |[],j,e,t,l,h=>by cases h
 |x::rw,0,e,t,l,h=>by simp only[drV,Option.some.injEq]at h; subst h; rfl
 |x::rw,j+1,e,t,l,h=>by simp only[drV]at h; simpa[rP]using drV_rP h
theorem brwQ_p{C:ESs}{g nl:Nat}{rw:List DR}{xs:List DV}{s:LS}{j:Nat}{e:TypeId}{t:DT}{l:List t.den}(h:brwQ C g nl rw xs=some (s,j,e,⟨t,l⟩)):esV C g=some (.lb s)∧Nat.ble nl j=true∧drV rw j=some (.own e t l):=by
 unfold brwQ at h
 split at h
 ·rename_i s' hs
  split at h
  ·rename_i j' _
   split at h
   ·rename_i e' t' l' hb hd
    simp only[Option.some.injEq,Prod.mk.injEq]at h
    obtain⟨rfl,rfl,rfl,h⟩:=h
    cases h
    exact⟨hs,hb,hd⟩
   ·cases h
  ·cases h
 ·cases h
theorem mrgB_n{ids:List Nat}:∀{pb pb1 pb2:DBs} {n:Nat},mrgB ids n pb pb1=some pb2→
  (∀i,n+i∉ids→(bP pb2)[i]?=(bP pb)[i]?∧((∃p,(bP pb1)[i]?=some (some p))→∃p,(bP pb)[i]?=some (some p)))∧
  (∀i,n+i∈ids→(bP pb2)[i]?=(bP pb1)[i]?∧∀p,(bP pb1)[i]?=some (some p)→∀c∈p.cells,∃y,c=.x y)∧
  (∀(i:Nat) (b:DB),pb[i]?=some (some b)→∃b':DB,pb2[i]?=some (some b')∧b'.ty=b.ty∧(b'.w=false→b.w=false∧(nrL b.cells=true→b'.cells=b.cells)))
 |[],pb1,pb2,n,h=>by
  unfold mrgB at h
  cases pb1 with
  |nil=>simp only[Option.some.injEq]at h; subst h; simp[bP]
  |cons _ _=>cases h
 |b::pb,pb1,pb2,n,h=>by
  unfold mrgB at h
  cases pb1 with
  |nil=>cases h
  |cons b1 pb1=>
   simp only at h
   have nx:∀i,n+(i+1)=n+1+i:=fun i=>by omega
   have bs:∀(o:Option DB) (l:DBs) (i:Nat),(bP (o::l))[i+1]?=(bP l)[i]?:=fun o l i=>by cases o<;>simp[bP]
   cases hm:memN n ids with
   |true=>
    rw[hm]at h
    simp only at h
    have hin:=zcc.1 hm
    cases b with
    |none=>cases h
    |some x=>cases b1 with
     |none=>cases h
     |some y=>
      simp only at h
      split at h
      ·rename_i l hty hx hl
       simp only[Option.some.injEq]at h; subst h
       obtain⟨g1,g2,g3⟩:=mrgB_n hl
       refine⟨fun i hi=>?_,fun i hi=>?_,fun i b hb=>?_⟩
       ·cases i with
        |zero=>exact absurd hin hi
        |succ i=>rw[nx]at hi; simpa[bP]using g1 i hi
       ·cases i with
        |zero=>exact⟨rfl,fun p hp=>by simp only[bP,List.getElem?_cons_zero,Option.some.injEq]at hp; subst hp; exact allX_p hx⟩
        |succ i=>rw[nx]at hi; simpa[bP]using g2 i hi
       ·cases i with
        |zero=>
         simp only[List.getElem?_cons_zero,Option.some.injEq]at hb; subst hb
         exact⟨_,rfl,Nat.eq_of_beq_eq_true hty,fun hw=>by cases hw⟩
        |succ i=>simpa using g3 i b (by simpa using hb)
      ·cases h
   |false=>
    rw[hm]at h
    simp only at h
    have hnin:n∉ids:=fun hi=>by rw[zcc.2 hi]at hm; cases hm
    split at h
    ·rename_i x _ l hl
     simp only[Option.some.injEq]at h; subst h
     obtain⟨g1,g2,g3⟩:=mrgB_n hl
     refine⟨fun i hi=>?_,fun i hi=>?_,fun i b hb=>?_⟩
     ·cases i with
      |zero=>exact⟨rfl,fun _=>⟨_,rfl⟩⟩
      |succ i=>rw[nx]at hi; simpa[bs]using g1 i hi
     ·cases i with
      |zero=>exact absurd hi hnin
      |succ i=>rw[nx]at hi; simpa[bs]using g2 i hi
     ·cases i with
      |zero=>
       simp only[List.getElem?_cons_zero,Option.some.injEq]at hb; subst hb
       exact⟨_,rfl,rfl,fun hw=>⟨hw,fun _=>rfl⟩⟩
      |succ i=>simpa using g3 i b (by simpa using hb)
    ·rename_i l hl
     simp only[Option.some.injEq]at h; subst h
     obtain⟨g1,g2,g3⟩:=mrgB_n hl
     refine⟨fun i hi=>?_,fun i hi=>?_,fun i b hb=>?_⟩
     ·cases i with
      |zero=>exact⟨rfl,fun ⟨p,hp⟩=>by simp[bP]at hp⟩
      |succ i=>rw[nx]at hi; simpa[bP]using g1 i hi
     ·cases i with
      |zero=>exact absurd hi hnin
      |succ i=>rw[nx]at hi; simpa[bP]using g2 i hi
     ·cases i with
      |zero=>simp at hb
      |succ i=>simpa using g3 i b (by simpa using hb)
    ·cases h
theorem mrgB_p{ids:List Nat}{pb pb1 pb2:DBs}(h:mrgB ids 0 pb pb1=some pb2):BRel ids (bP pb) (bP pb1) (bP pb2):=by
 obtain⟨h1,h2,_⟩:=mrgB_n h
 exact⟨fun i hi=>h1 i (by rwa [Nat.zero_add]),fun i hi=>h2 i (by rwa [Nat.zero_add])⟩
theorem mrgB_pres{ids:List Nat}{pb pb1 pb2:DBs}(h:mrgB ids 0 pb pb1=some pb2):PresB pb pb2:=⟨(mrgB_n h).2.2⟩
theorem evOp_p{T:List TI}{C:ESs}{nl:Nat}{al:Nat→Bool}{av:List (Nat×Nat)}{o:Oper}{ts:List DV}{pb:DBs}{rw:List DR}{K:DK β}(h:evOp stdW T C nl al av o ts pb rw K=some r):
  ∃ts' pb' rw',K ts' pb' rw'=some r∧Pres (dstS o.dst) ts pb ts' pb'∧∀K':KP,K' (pL ts') (bP pb') (rP rw')→pvOp T (lkOf T) (csP C) nl al av o (pL ts) (bP pb) (rP rw) K':=by
 unfold evOp at h
 split at h
 ·-- alloc
  rename_i t ho
  split at h
  ·rename_i ti h1
   split at h
   ·rename_i z zs h2
    obtain⟨ts',pb',h3,h4,h5⟩:=newDB_p h
    refine⟨ts',pb',rw,h3,h4,fun K' k=>?_⟩
    unfold pvOp; rw[ho]
    refine tiV_p h1 ?_
    rw[h2]
    have:=h5 K' k
    rwa [zvr]at this
   ·cases h
  ·cases h
 ·-- box
  rename_i t x ho
  split at h
  ·rename_i a h1
   split at h
   ·rename_i cs h2
    obtain⟨ts',pb',h3,h4,h5⟩:=newDB_p h
    refine⟨ts',pb',rw,h3,h4,fun K' k=>?_⟩
    unfold pvOp; rw[ho]
    exact opV_p h1 (zrk h2 (h5 K' k))
   ·cases h
  ·cases h
 ·-- load
  rename_i t a ho
  split at h
  ·rename_i A h1
   obtain⟨v,h2,h3⟩:=ydl h
   obtain⟨ts',h4,h5,h6⟩:=retE_p h2
   refine⟨ts',pb,rw,h4,h5,fun K' k=>?_⟩
   unfold pvOp; rw[ho]
   exact opV_p h1 (h3 _ (h6 K' k))
  ·cases h
 ·-- store
  rename_i t a x ho
  split at h
  ·rename_i a x ti h1 h2 h3
   split at h
   ·rename_i cs h4
    split at h
    ·rename_i i off h5 h6
     split at h
     ·rename_i y h7 h8
      split at h
      ·rename_i l h9
       rw[wrE_eq,zus]at h
       obtain⟨ts',h10,h11,h12⟩:=retE_p h
       refine⟨ts',_,rw,h10,(Pres.setB _ (ztk h8)).trans h11,fun K' k=>?_⟩
       unfold pvOp; rw[ho]
       refine opV_p h1 (opV_p h2 (tiV_p h3 (zrk h4 (lenP_p h5 (yik h6 ?_)))))
       simp only[DV.p,h7]
       refine dbV_p h8 (subV_p h9 ?_)
       rw[ybd,zeg,←pL_wr]
       have:=h12 K' k
       rwa [bP_set]at this
      ·cases h
     ·cases h
    ·rename_i j i off h5 h6
     obtain⟨ts1,pb1,rw1,ps1,h7,h8,h9,h10⟩:=frzE_p h
     split at h7
     ·rename_i j i off cs1
      split at h7
      ·rename_i e t' l hd
       split at h7
       ·rename_i hble
        replace h7:=idxR_p h7
        obtain⟨y,hy,h7⟩:=h7
        rw[wrE_eq]at h7
        split at h7
        ·rename_i y' hof
         rw[zik]at h7
         obtain⟨ts',h11,h12,h13⟩:=retE_p h7
         refine⟨ts',_,_,h11,(h9 _).trans h12,fun K' k=>?_⟩
         unfold pvOp; rw[ho]
         refine opV_p h1 (opV_p h2 (tiV_p h3 (zrk h4 (lenP_p h5 (yik h6 ?_)))))
         simp only[DV.p]
         have hk:=Nat.le_of_ble_eq_true hble
         obtain⟨rs,g1,g2,g3⟩:=of_part hof hk
         have:=h10 (fun ts pb rw ps=>match ps with
          | .re j i off::cs=>∃ks,toRK ks cs fun rs=>rsK rw j fun e k els=>∃cur,els[i]?=some cur∧Nat.ble (off+rs.length) k=true∧
            setRS rw j (.own e k (els.set i (cur.take off++rs++cur.drop (off+rs.length)))) fun rw=>retP o.dst (.x .und) ts pb rw K'
          |_=>False) (by
          refine⟨_,g1 _ (drV_p hd ⟨t'.enc y,by rw[List.getElem?_map,hy]; rfl,Nat.ble_eq_true_of_le (by rw[g2]; exact hk),?_⟩)⟩
          rw[zbv,←g3]
          have h14:=h13 K' k
          rw[rP_set]at h14
          have e5:(l.set i y').map (fun x=>t'.enc x)=(l.map fun x=>t'.enc x).set i (t'.enc y'):=List.map_set
          simp only[DR.p,e5]at h14
          exact h14)
         rw[zlj]
         exact this
        ·cases h7
       ·cases h7
      ·cases h7
     ·cases h7
    ·cases h
   ·cases h
  ·cases h
 ·-- call
  rename_i c ho
  split at h
  ·rename_i f hc
   split at h
   ·rename_i g caps xs h1 h2
    split at h
    ·rename_i s j e t l hq
     split at h
     ·rename_i hoks
      unfold callBV at h
      rw[zel,zij]at h
      obtain⟨v,pb1,rw1,h3,_,h5⟩:=yeh h
      split at h3
      ·rename_i y pb2 hdead hm
       obtain⟨ts',h6,h7,h8⟩:=retE_p h3
       obtain⟨hs,hble,hd⟩:=brwQ_p hq
       refine⟨ts',pb2,rw,h6,((mrgB_pres hm).pres _ _).trans h7,fun K' k=>?_⟩
       unfold pvOp; rw[ho]; simp only; rw[hc]
       refine opV_p h1 (opsV_p h2 ?_)
       simp only[DV.p]
       rw[←pL_app]
       refine .inr ⟨by rw[zfa,zxa]; exact hoks,esV_p hs ?_⟩
       refine⟨j,e,t.size,l.map (fun x=>t.enc x),drV_rP hd,Nat.le_of_ble_eq_true hble,?_⟩
       rw[←brwV_p,←pL_sub,←bP_sub,←yec,zfa,yag]
       exact h5 _ ⟨(ylx hdead).trans (yec rw).symm,⟨y,rfl⟩,bP pb2,mrgB_p hm,h8 _ k⟩
      ·cases h3
     ·cases h
    obtain⟨ts1,pb1,rw1,xs1,h3,h4,h5,h6⟩:=frzE_p h
    split at h3
    ·rename_i hoks
     rw[zel]at h3
     have junk:∀S,Pres S ts1 pb1 (subDL (lentFV (lentRV pb1 (zdj xs1))) ts1) pb1:=fun S=>⟨(Pres.sub (S:=S) (ts:=ts1) (pb:=pb1) _).len,(Pres.sub (S:=S) (ts:=ts1) (pb:=pb1) _).sl,(Pres.refl S ts1 pb1).bx⟩
     have use:∀(K':KP) (s:EC) (v:DV) (ts':List DV) (pb':DBs) (rw':List DR),esV C g=some s→(s.spec nl (pL xs1) (bP pb1) (rP rw1) fun r pb rw=>retP o.dst r (subL (lentF (lentR (bP pb1) (zaz (pL xs1)))) (pL ts1)) pb rw K')→
       pvOp T (lkOf T) (csP C) nl al av o (pL ts) (bP pb) (rP rw) K':=by
      intro K' s v ts' pb' rw' hs hk
      unfold pvOp; rw[ho]; simp only; rw[hc]
      refine opV_p h1 (opsV_p h2 ?_)
      simp only[DV.p]
      refine .inl ?_
      have h12:=h6 (fun ts pb rw xs=>ownsOk al (zaz xs)=true∧subLK (lentF (lentR pb (zaz xs))) ts fun ts=>specK (csP C) g fun s=>s nl xs pb rw fun r pb rw=>retP o.dst r ts pb rw K') ⟨by rw[zfa,zxa]; exact hoks,(zcm _ _ _).2 (esV_p hs hk)⟩
      rw[pL_app]at h12
      rw[zlj,ykg]
      exact h12
     have ejunk:pL (subDL (lentFV (lentRV pb1 (zdj xs1))) ts1)=subL (lentF (lentR (bP pb1) (zaz (pL xs1)))) (pL ts1):=by rw[pL_sub,ylj,zfa,zvd]
     split at h3
     ·rename_i s hs
      split at h3
      ·rename_i x hx
       rcases hfn:s.fn x with _|q
       ·rw[hfn]at h3; cases h3
       ·rw[hfn]at h3
        replace h3:resT s.Q q rw1 (fun r rw=>retE o.dst r (subDL (lentFV (lentRV pb1 (zdj xs1))) ts1) pb1 rw K)=some r:=h3
        obtain⟨v,rw2,h7,h8⟩:=resT_p h3
        obtain⟨ts',h9,h10,h11⟩:=retE_p h7
        refine⟨ts',pb1,rw2,h9,((h5 _).trans (junk _)).trans h10,fun K' k=>use K' _ v ts' pb1 rw2 hs ?_⟩
        rw[←ejunk]
        exact⟨(x,q),ofA_p hx,hfn,h8 _ (h11 K' k)⟩
      ·cases h3
     ·rename_i s hs
      obtain⟨v,pb2,rw2,h7,h8,h9⟩:=yeh h3
      obtain⟨ts',h10,h11,h12⟩:=retE_p h7
      refine⟨ts',pb2,rw2,h10,(((h5 _).trans (junk _)).trans (h8.pres _ _)).trans h11,fun K' k=>use K' _ v ts' pb2 rw2 hs ?_⟩
      rw[←ejunk]
      exact h9 _ (h12 K' k)
     ·rename_i s hs
      obtain⟨v,pb2,rw2,h7,h8,h9⟩:=yeh h3
      obtain⟨ts',h10,h11,h12⟩:=retE_p h7
      refine⟨ts',pb2,rw2,h10,(((h5 _).trans (junk _)).trans (h8.pres _ _)).trans h11,fun K' k=>use K' _ v ts' pb2 rw2 hs ?_⟩
      rw[←ejunk]
      exact h9 _ (h12 K' k)
     ·cases h3
    ·cases h3
   ·cases h
  ·rename_i b hc
   split at h
   ·rename_i xs h1
    split at h
    ·-- append
     split at h
     ·rename_i a b
      obtain⟨ts1,pb1,rw1,xs1,h3,h4,h5,h6⟩:=frzE_p h
      split at h3
      ·rename_i a1 b1 t t' hat
       split at h3
       ·rename_i e ht
        split at h3
        ·rename_i te he
         split at h3
         ·rename_i t2 news hb1 hb2
          split at h3
          ·rename_i j hb3
           split at h3
           ·rename_i e2 t1 l hd
            split at h3
            ·rename_i hcast he1 hs1 _
             have h3:=zdn h3
             obtain⟨hc1,h3⟩:=h3
             simp only[Bool.and_eq_true,decide_eq_true_eq]at hc1
             rw[zel,zij,zik]at h3
             obtain⟨ts',h9,h10,h11⟩:=retE_p h3
             refine⟨ts',_,_,h9,((h5 _).trans (Pres.sub _)).trans h10,fun K' k=>?_⟩
             unfold pvOp; rw[ho]; simp only; rw[hc]
             refine opsV_p h1 ?_
             simp only[pL]
             have hz:Nat.beq t2.size t1.size=true:=by subst hcast; exact Nat.beq_refl _
             have h12:=h6 (fun ts pb rw xs=>match xs,c.argTypes.toList with
              |[a,b],[t,t']=>tiK T t fun ti=>match ti.td with
               | .slice e=>tiK T e fun te=>Nat.beq t t'=true∧Nat.beq te.zero.length te.size=true∧(match b with
                | .sl k2 news=>(match a with
                 | .row j=>rsK rw j fun e2 k els=>Nat.beq e e2=true∧Nat.beq k te.size=true∧Nat.beq k2 k=true∧els.length+news.length≤281474976710656∧(els.length+news.length)*te.bytes≤140737488355328∧0<k∧
                  subLK (oneF j .junk) ts fun ts=>subBK (oneF j .junk) pb fun pb=>setRS rw j (.own e k (els++news)) fun rw=>retP o.dst (.row j) ts pb rw K'
                 | .x (.slc none 0 0)=>Nat.beq k2 te.size=true∧news.length≤281474976710656∧news.length*te.bytes≤140737488355328∧0<k2∧pushK rw (.own e k2 news) fun rw'=>litK rw.length fun n=>retP o.dst (.row n) ts pb rw' K'
                 |_=>False)
                |_=>False)
               |_=>False
              |_,_=>False) (by
               simp only[pL,hat]
               refine tdV_p ht fun ti hti=>?_
               rw[hti]
               refine tiV_p he ⟨hb1,hb2,?_⟩
               simp only[DV.p]
               refine drV_p hd ⟨he1,hs1,hz,by simpa using hc1.1,by simpa using hc1.2,(Nat.eq_of_beq_eq_true hz)▸(show 1≤t2.size by simpa[Nat.blt]using hb3),?_⟩
               rw[zcm,zdl,zbv]
               have h13:=h11 K' k
               rw[pL_sub,bP_sub,fP_one,rP_set]at h13
               have e4:DR.p (.own e t1 (l++DT.castL hcast news))=.own e t1.size (l.map (fun x=>t1.enc x)++news.map fun x=>t2.enc x):=by
                simp only[DR.p,List.map_append,castL_enc]
               rw[e4]at h13
               exact h13)
             rw[DV.p_rows]
             exact h12
            ·cases h3
           ·cases h3
          ·rename_i hb3
           split at h3
           ·rename_i hz
            have h3:=zdn h3
            obtain⟨hc1,h3⟩:=h3
            simp only[Bool.and_eq_true,decide_eq_true_eq]at hc1
            rw[zdy,zfp]at h3
            obtain⟨ts',h9,h10,h11⟩:=retE_p h3
            refine⟨ts',_,_,h9,(h5 _).trans h10,fun K' k=>?_⟩
            unfold pvOp; rw[ho]; simp only; rw[hc]
            refine opsV_p h1 ?_
            simp only[pL]
            have h12:=h6 (fun ts pb rw xs=>match xs,c.argTypes.toList with
              |[a,b],[t,t']=>tiK T t fun ti=>match ti.td with
               | .slice e=>tiK T e fun te=>Nat.beq t t'=true∧Nat.beq te.zero.length te.size=true∧(match b with
                | .sl k2 news=>(match a with
                 | .row j=>rsK rw j fun e2 k els=>Nat.beq e e2=true∧Nat.beq k te.size=true∧Nat.beq k2 k=true∧els.length+news.length≤281474976710656∧(els.length+news.length)*te.bytes≤140737488355328∧0<k∧
                  subLK (oneF j .junk) ts fun ts=>subBK (oneF j .junk) pb fun pb=>setRS rw j (.own e k (els++news)) fun rw=>retP o.dst (.row j) ts pb rw K'
                 | .x (.slc none 0 0)=>Nat.beq k2 te.size=true∧news.length≤281474976710656∧news.length*te.bytes≤140737488355328∧0<k2∧pushK rw (.own e k2 news) fun rw'=>litK rw.length fun n=>retP o.dst (.row n) ts pb rw' K'
                 |_=>False)
                |_=>False)
               |_=>False
              |_,_=>False) (by
               simp only[pL,hat]
               refine tdV_p ht fun ti hti=>?_
               rw[hti]
               refine tiV_p he ⟨hb1,hb2,?_⟩
               simp only[DV.p]
               refine⟨hz,by simpa using hc1.1,by simpa using hc1.2,(show 1≤t2.size by simpa[Nat.blt]using hb3),?_⟩
               rw[zbn,zby,rP_len]
               have h13:=h11 K' k
               rw[rP_app]at h13
               exact h13)
            rw[DV.p_rows]
            exact h12
           ·cases h3
          ·cases h3
         ·cases h3
        ·cases h3
       ·cases h3
      ·cases h3
     ·cases h
    ·split at h
     ·rename_i j i t hat
      split at h
      ·rename_i e ht
       split at h
       ·rename_i te e2 t' l he hd
        split at h
        ·rename_i z c1 c2 c3 c4 hof
         obtain⟨hd',e1,_,_,_,_,h6⟩:=ydb hof
         have hzr:∀K:List R→Prop,K (t'.enc z)→toRK (t'.ks []) (constP te.zero) K:=fun K k=>by
          have:=h6 [] [] K (fun K' k=>k) (by simpa using k)
          rwa [zvr]at this
         replace h:bndF (.ofNat i) l.length (fun n=>setDR rw j (.own e2 t' (l.take n++List.replicate (l.length - n) z)) fun rw=>retE o.dst .junk ts pb rw K)=some r:=h
         obtain⟨_,hil,h3⟩:=bndF_p h
         rw[zik]at h3
         obtain⟨ts',h9,h10,h11⟩:=retE_p h3
         refine⟨ts',pb,_,h9,h10,fun K' k=>?_⟩
         unfold pvOp; rw[ho]; simp only; rw[hc]
         refine opsV_p h1 ?_
         simp only[pL,DV.p,hat]
         refine tdV_p ht fun ti hti=>?_
         rw[hti]
         refine tiV_p he (drV_p hd ⟨c1,c2,c3,c4,?_,_,hzr _ ?_⟩)
         ·rw[List.length_map]
          have:((i:Nat):Int)≤(l.length:Int):=hil
          omega
         ·rw[zbv]
          have h14:=h11 K' k
          rw[rP_set]at h14
          have e5:((l.take (Int.toNat (.ofNat i))++List.replicate (l.length - Int.toNat (.ofNat i)) z).map fun x=>t'.enc x)=(l.map fun x=>t'.enc x).take i++List.replicate ((l.map fun x=>t'.enc x).length - i) (t'.enc z):=by
           rw[List.map_append,List.map_take,List.map_replicate,List.length_map]; rfl
          simp only[DR.p,e5]at h14
          exact h14
        ·cases h
       ·cases h
      ·cases h
     ·cases h
    ·rename_i hna hnc
     obtain⟨v,h2,h3⟩:=yax h
     obtain⟨ts',h4,h5,h6⟩:=retE_p h2
     refine⟨ts',pb,rw,h4,h5,fun K' k=>?_⟩
     unfold pvOp; rw[ho]; simp only; rw[hc]
     cases b<;>first|(exact(hna rfl).elim)|(exact(hnc rfl).elim)|exact opsV_p h1 (h3 _ (h6 K' k))
   ·cases h
  ·cases h
 ·-- buildSlice
  rename_i t len parts ho
  split at h
  ·rename_i ps h1
   obtain⟨ts1,pb1,rw1,qs1,h3,h4,h5,h6⟩:=frzE_p h
   split at h3
   ·rename_i e ht
    split at h3
    ·rename_i te t' h7 h8
     split at h3
     ·rename_i l h9
      split at h3
      ·rename_i c1 c2 c4 c5 c6
       rw[zdy,zfp]at h3
       obtain⟨ts',h10,h11,h12⟩:=retE_p h3
       refine⟨ts',_,_,h10,(h5 _).trans h11,fun K' k=>?_⟩
       unfold pvOp; rw[ho]
       refine ycy h1 ?_
       have h13:=h6 (fun ts pb rw qs=>tiK T t fun ti=>match ti.td with
        | .slice e=>tiK T e fun te=>lkK (lkOf T) e fun ks=>toEK te.size ks (rezip (ndP ps) qs) 0 fun els=>Nat.beq len els.length=true∧Nat.ble 1 te.size=true∧len*te.size≤16777216∧Nat.beq te.zero.length te.size=true∧pushK rw (.own e te.size els) fun rw'=>litK rw.length fun n=>retP o.dst (.row n) ts pb rw' K'
        |_=>False) (by
         refine tdV_p ht fun ti hti=>?_
         rw[hti]
         refine tiV_p h7 (lkOf_p h7 h8 ?_)
         rw[←ykh,←Nat.eq_of_beq_eq_true c1]
         refine ofVs_p h9 ⟨by simpa using c2,by rw[Nat.eq_of_beq_eq_true c1]; exact c4,by rw[Nat.eq_of_beq_eq_true c1]; exact Nat.le_of_ble_eq_true c5,by rw[Nat.eq_of_beq_eq_true c1]; exact c6,?_⟩
         rw[zbn,zby,rP_len]
         have h14:=h12 K' k
         rw[rP_app]at h14
         exact h14)
       rw[←sndsD_p,zlj]
       exact h13
      ·cases h3
     ·cases h3
    ·cases h3
   ·cases h3
  ·cases h
 ·-- slice
  rename_i t x lo hi mx ho
  split at h
  ·rename_i a h1
   obtain⟨ts1,pb1,rw1,xs1,h3,h4,h5,h6⟩:=frzE_p h
   obtain⟨v,h7,h8⟩:=purE_p h3
   obtain⟨ts',h9,h10,h11⟩:=retE_p h7
   refine⟨ts',_,_,h9,(h5 _).trans h10,fun K' k=>?_⟩
   unfold pvOp; rw[ho]
   refine .inl (opV_p h1 ?_)
   have h12:=h6 (fun ts pb rw _=>purP T (.slice t x lo hi mx) ts rw fun y=>retP o.dst y ts pb rw K') (h8 _ (h11 K' k))
   rw[DV.p_rows]
   exact h12
  ·cases h
 ·-- makeSlice
  rename_i t l c ho
  split at h
  ·rename_i k1 n0 k2 c e h1 h2 h3
   split at h
   ·rename_i te te' h7 h8
    split at h
    ·rename_i z c1 c2 c3 hof
     obtain⟨hd,e1,_,_,_,_,h6⟩:=ydb hof
     have hzr:∀K:List R→Prop,K (te'.enc z)→toRK (te'.ks []) (constP te.zero) K:=fun K k=>by
      have:=h6 [] [] K (fun K' k=>k) (by simpa using k)
      rwa [zvr]at this
     have go:∀n:Nat,0≤n0→n0≤c→n=n0.toNat→(decide (c.toNat≤281474976710656)&&decide (c.toNat*te.bytes≤140737488355328))=true→
       (pushE rw (.own e te' (List.replicate n z)) fun rw'=>litE rw.length fun n=>retE o.dst (.row n) ts pb rw' K)=some r→
       ∃ts' pb' rw',K ts' pb' rw'=some r∧Pres (dstS o.dst) ts pb ts' pb'∧∀K':KP,K' (pL ts') (bP pb') (rP rw')→pvOp T (lkOf T) (csP C) nl al av o (pL ts) (bP pb) (rP rw) K':=by
      intro n hn0 hnc hn hc1 h
      simp only[Bool.and_eq_true,decide_eq_true_eq]at hc1
      rw[zdy,zfp]at h
      obtain⟨ts',h9,h10,h11⟩:=retE_p h
      refine⟨ts',pb,_,h9,h10,fun K' k=>?_⟩
      unfold pvOp; rw[ho]
      refine opV_p h1 (opV_p h2 (tdV_p h3 fun ti hti=>?_))
      rw[hti]
      refine tiV_p h7 ⟨hn0,hnc,hc1.1,hc1.2,c3,c2,_,hzr _ ?_⟩
      rw[zbn,zby,rP_len]
      have h12:=h11 K' k
      rw[rP_app]at h12
      have e4:rP [DR.own e te' (List.replicate n z)]=[RS.own e te.size (List.replicate n0.toNat (te'.enc z))]:=by
       simp only[rP,DR.p,List.map_replicate]; rw[Nat.eq_of_beq_eq_true c1,hn]
      rw[e4]at h12
      exact h12
     split at h
     ·split at h
      ·replace h:nnF c (roomF c.toNat te.bytes (pushE rw (.own e te' []) fun rw'=>litE rw.length fun n=>retE o.dst (.row n) ts pb rw' K))=some r:=h
       unfold nnF at h
       have h:=zdn h
       obtain⟨hc0,h⟩:=h
       unfold roomF at h
       have h:=zdn h
       obtain⟨hc1,h⟩:=h
       simp only[decide_eq_true_eq]at hc0
       exact go 0 (by simp) (by simpa using hc0) rfl hc1 h
      ·cases h
     ·replace h:nnF c (roomF c.toNat te.bytes (bndF n0 c.toNat fun n=>pushE rw (.own e te' (List.replicate n z)) fun rw'=>litE rw.length fun n=>retE o.dst (.row n) ts pb rw' K))=some r:=h
      unfold nnF at h
      have h:=zdn h
      obtain⟨hc0,h⟩:=h
      unfold roomF at h
      have h:=zdn h
      obtain⟨hc1,h⟩:=h
      simp only[decide_eq_true_eq]at hc0
      obtain⟨g1,g2,h⟩:=bndF_p h
      exact go _ g1 (by omega) rfl hc1 h
    ·cases h
   ·cases h
  ·cases h
 ·-- index
  rename_i t x ix ho
  split at h
  ·rename_i sv k i h1 h2 h3
   replace h:sidxF sv i (fun b=>retE o.dst (.x (.int .u8 b)) ts pb rw K)=some r:=h
   unfold sidxF at h
   cases h0:decide (0≤i) with
   |false=>rw[h0]at h; cases h
   |true=>
    rw[h0]at h
    replace h:(match sv[i.toNat]? with|some b=>retE o.dst (.x (.int .u8 (b.toNat:Int))) ts pb rw K|none=>none)=some r:=h
    split at h
    ·rename_i b hb
     obtain⟨ts',h4,h5,h6⟩:=retE_p h
     refine⟨ts',pb,rw,h4,h5,fun K' k=>?_⟩
     unfold pvOp; rw[ho]
     refine opV_p h1 (opV_p h2 (tdV_p h3 fun ti hti=>?_))
     rw[hti]
     exact⟨of_decide_eq_true h0,b,hb,h6 K' k⟩
    ·cases h
  ·cases h
 ·-- range
  rename_i t x ho
  split at h
  ·rename_i sv h1 h2
   rw[zdy,zfp]at h
   obtain⟨ts',h4,h5,h6⟩:=retE_p h
   refine⟨ts',pb,_,h4,h5,fun K' k=>?_⟩
   unfold pvOp; rw[ho]
   refine opV_p h1 (tdV_p h2 fun ti hti=>?_)
   rw[hti]
   show pushK _ _ _
   rw[zbn,zby,rP_len]
   have h7:=h6 K' k
   rw[rP_app]at h7
   exact h7
  ·cases h
 ·-- next
  rename_i it b ho
  split at h
  ·rename_i j h1
   split at h
   ·rename_i sv p h2
    replace h:nextF sv p (fun c q=>setDR rw j (.itr sv q) fun rw'=>retE o.dst (.tup [.x (.lit true),.x (.int .i64 (p.toNat:Int)),.x (.int .i32 c)]) ts pb rw' K) (retE o.dst (.tup [.x (.lit false)]) ts pb rw K)=some r:=h
    unfold nextF at h
    cases h0:decide (p.toNat<sv.size) with
    |true=>
     rw[h0]at h
     replace h:(setDR rw j (.itr sv ((p.toNat+(Utf8.decode sv p.toNat).2:Nat):Int)) fun rw'=>retE o.dst (.tup [.x (.lit true),.x (.int .i64 (p.toNat:Int)),.x (.int .i32 ((Utf8.decode sv p.toNat).1:Int))]) ts pb rw' K)=some r:=h
     rw[zik]at h
     obtain⟨ts',h4,h5,h6⟩:=retE_p h
     refine⟨ts',pb,_,h4,h5,fun K' k=>?_⟩
     unfold pvOp; rw[ho]
     refine opV_p h1 (drV_o h2 ⟨fun _=>?_,fun hn=>absurd (of_decide_eq_true h0) hn⟩)
     rw[zbv]
     have h7:=h6 K' k
     rw[rP_set]at h7
     exact h7
    |false=>
     rw[h0]at h
     replace h:retE o.dst (.tup [.x (.lit false)]) ts pb rw K=some r:=h
     obtain⟨ts',h4,h5,h6⟩:=retE_p h
     refine⟨ts',pb,rw,h4,h5,fun K' k=>?_⟩
     unfold pvOp; rw[ho]
     exact opV_p h1 (drV_o h2 ⟨fun hn=>absurd hn (of_decide_eq_false h0),fun _=>h6 K' k⟩)
   ·cases h
  ·cases h
 ·-- convert
  rename_i src dst x ho
  split at h
  ·rename_i sv hq
   obtain⟨ts',h4,h5,h6⟩:=retE_p h
   refine⟨ts',pb,rw,h4,h5,fun K' k=>?_⟩
   unfold pvOp; rw[ho]
   exact .inl (bytesQ_p ho hq (h6 K' k))
  ·obtain⟨v,h2,h3⟩:=purE_p h
   obtain⟨ts',h4,h5,h6⟩:=retE_p h2
   refine⟨ts',pb,rw,h4,h5,fun K' k=>?_⟩
   have h7:=h3 (fun x=>retP o.dst x (pL ts) (bP pb) (rP rw) K') (h6 K' k)
   unfold pvOp; rw[ho]
   exact .inr h7
 ·rename_i op n1 n2 n3 n4 n5 n6 n7 n8 n9 n10
  obtain⟨v,h2,h3⟩:=purE_p h
  obtain⟨ts',h4,h5,h6⟩:=retE_p h2
  refine⟨ts',pb,rw,h4,h5,fun K' k=>?_⟩
  have h7:=h3 (fun x=>retP o.dst x (pL ts) (bP pb) (rP rw) K') (h6 K' k)
  unfold pvOp
  split<;>first|exact h7|(rename_i he; first|exact(n1 _ _ _ _ _ he).elim|exact(n2 _ _ _ _ _ he).elim|exact(n3 _ _ _ _ _ he).elim|exact(n4 _ _ _ _ _ he).elim|exact(n5 _ _ _ _ _ he).elim|exact(n6 _ _ _ _ _ he).elim|exact(n7 _ _ _ _ _ he).elim|exact(n8 _ _ _ _ _ he).elim|exact(n9 _ _ _ _ _ he).elim|exact(n10 _ _ _ _ _ he).elim)|(rename_i he; simp_all; done)
end Go.Vc

namespace Go.Vc
open Go Go.RowKit
variable {β : Type} {r : β}
theorem yjj (o : Oper) : dstS o.dst = dstL o := by unfold dstS dstL; cases o.dst <;> rfl
theorem ydp {ops : List Oper} {ts : List DV} {pb : DBs} {j : Nat} {want : Bool} {yes no : List DV → Option β} {yes' no' : List PV → Prop} (h : guardD stdW ops ts j want yes no = some r)
    (hy : ∀ ts', yes ts' = some r → Pres (dsts ops) ts pb ts' pb → yes' (pL ts')) (hn : ∀ ts', no ts' = some r → Pres (dsts ops) ts pb ts' pb → no' (pL ts')) : guardP ops (pL ts) j want yes' no' := by
  unfold guardD at h
  unfold guardP
  cases hd : nthDst ops j with
  | none => rw [hd] at h; cases h
  | some d =>
    rw [hd] at h
    have hmem : d ∈ dsts ops := by
      rw [yfw] at hd
      cases ho : ops[j]? with
      | none => rw [ho] at hd; cases hd
      | some o => rw [ho] at hd; simp only [Option.bind_some] at hd; exact zeq ho d (by simp [dstL, hd])
    have R := Pres.refl (dsts ops) ts pb
    simp only at h ⊢
    split at h
    · rename_i hg; refine gtV_p hg ?_; cases want
      · exact hn _ h R
      · exact hy _ h R
    · rename_i hg; refine gtV_p hg ?_; cases want
      · exact hy _ h R
      · exact hn _ h R
    · rename_i b hg
      refine gtV_p hg ?_
      rw [zwl, zwl] at h
      cases want
      · refine ⟨fun hb => ?_, fun hb => ?_⟩
        · subst hb; rw [zdb]; have := hy _ h (Pres.set _ hmem); rwa [pL_set] at this
        · subst hb; rw [zdb]; have := hn _ h (Pres.set _ hmem); rwa [pL_set] at this
      · refine ⟨fun hb => ?_, fun hb => ?_⟩
        · subst hb; rw [zdb]; have := hy _ h (Pres.set _ hmem); rwa [pL_set] at this
        · subst hb; rw [zdb]; have := hn _ h (Pres.set _ hmem); rwa [pL_set] at this
    · rename_i hg; exact gtV_p hg (hn _ h R)
    · cases h
theorem yei {a b : Option β} (h : bothF a b = some r) : a = some r ∧ b = some r := by
  unfold bothF at h
  split at h
  · rename_i he; exact ⟨h, he ▸ h⟩
  · cases h
theorem ydw {T : List TI} {C : ESs} {nl : Nat} {al : Nat → Bool} {av : List (Nat × Nat)} {o : Oper} {ts : List DV} {pb : DBs} {rw : List DR} {K : DK β} {K' : KP} (h : evOpN stdW T C nl al av o ts pb rw K = some r)
    (m : ∀ ts' pb' rw', K ts' pb' rw' = some r → Pres (dstS o.dst) ts pb ts' pb' → K' (pL ts') (bP pb') (rP rw')) : pvOp T (lkOf T) (csP C) nl al av o (pL ts) (bP pb) (rP rw) K' := by
  unfold evOpN at h
  split at h
  · rename_i e neg hq
    have hr : ∀ g : Bool, (g = true → e = true) → retE o.dst (.x (.bool (notIf neg g))) ts pb rw K = some r := by
      intro g hg
      replace h : nilF e (fun g => retE o.dst (.x (.bool (notIf neg g))) ts pb rw K) = some r := h
      unfold nilF at h
      cases e with
      | true => have h2 := yei h; cases g; exact h2.2; exact h2.1
      | false => cases g with | true => cases hg rfl | false => exact h
    have hr' : ∀ g : Bool, (g = true → e = true) → retP o.dst (.x (.bool (notIf neg g))) (pL ts) (bP pb) (rP rw) K' := by
      intro g hg
      obtain ⟨ts', h1, h2, h3⟩ := retE_p (hr g hg)
      exact h3 _ (m _ _ _ h1 h2)
    unfold nilQ at hq
    split at hq
    · rename_i op t x y ty ho
      split at hq
      · rename_i e' d l h1 h2 h3
        split at hq
        · rename_i hd
          have hk : 0 < d.size := by simp only [Nat.blt, Nat.ble_eq] at hd; omega
          unfold pvOp; rw [ho]
          split at hq
          · simp only [Option.some.injEq, Prod.mk.injEq] at hq
            obtain ⟨rfl, rfl⟩ := hq
            exact opV_p h2 (opV_p h3 (tdV_p h1 fun ti hti => by rw [hti]; exact ⟨hk, fun g hg => hr' g (fun hg' => by have := hg hg'; simpa using this)⟩))
          · simp only [Option.some.injEq, Prod.mk.injEq] at hq
            obtain ⟨rfl, rfl⟩ := hq
            exact opV_p h2 (opV_p h3 (tdV_p h1 fun ti hti => by rw [hti]; exact ⟨hk, fun g hg => hr' g (fun hg' => by have := hg hg'; simpa using this)⟩))
          · cases hq
        · cases hq
      · cases hq
    · cases hq
  · obtain ⟨ts', pb', rw', h1, h2, h3⟩ := evOp_p h
    exact h3 _ (m _ _ _ h1 h2)
theorem evOpT_p {T : List TI} {C : ESs} {nl : Nat} {al : Nat → Bool} {av : List (Nat × Nat)} {o : Oper} {rest : List Oper} {ts : List DV} {pb : DBs} {rw : List DR} {K : DK β} {K' : KP} (h : evOpT stdW T C nl al av o rest ts pb rw K = some r)
    (m : ∀ ts' pb' rw', K ts' pb' rw' = some r → Pres (dstS o.dst) ts pb ts' pb' → K' (pL ts') (bP pb') (rP rw')) : pvOp T (lkOf T) (csP C) nl al av o (pL ts) (bP pb) (rP rw) K' := by
  unfold evOpT at h
  split at h
  · rename_i j i n hq
    replace h : bndF i n (fun m => retE o.dst (.rt j m) ts pb rw K) = some r := h
    obtain ⟨g1, g2, h⟩ := bndF_p h
    obtain ⟨ts', h1, h2, h3⟩ := retE_p h
    have k := h3 K' (m _ _ _ h1 h2)
    unfold tailQ at hq
    split at hq
    · split at hq
      · rename_i t x lo ho
        split at hq
        · rename_i e j' kk i' ht hx hlo
          split at hq
          · rename_i te e2 t' l he hd
            split at hq
            · rename_i hsz
              simp only [Option.some.injEq, Prod.mk.injEq] at hq
              obtain ⟨rfl, rfl, rfl⟩ := hq
              unfold pvOp; rw [ho]
              refine .inr (opV_p hx ?_)
              show opP (pL ts) lo _
              refine opV_p hlo (tdV_p ht fun ti hti => ?_)
              rw [hti]
              refine tiV_p he (drV_p hd ⟨hsz, g1, by rw [List.length_map]; omega, k⟩)
            · cases hq
          · cases hq
        · cases hq
      · cases hq
    · cases hq
  · exact ydw h m
section
variable {T : List TI} {C : ESs} {nl : Nat} {al : Nat → Bool} {av : List (Nat × Nat)} {ops : List Oper}
theorem zvo {K : DK β} {K' : KP} : ∀ {l : List Oper} {ts : List DV} {pb : DBs} {rw : List DR}, (∀ o ∈ l, ∀ d ∈ dstL o, d ∈ dsts ops) → evList stdW T C nl al av ops l ts pb rw K = some r →
    (∀ ts' pb' rw', K ts' pb' rw' = some r → Pres (dsts ops) ts pb ts' pb' → K' (pL ts') (bP pb') (rP rw')) → pvList T (lkOf T) (csP C) nl al av ops l (pL ts) (bP pb) (rP rw) K'
  | [], ts, pb, rw, hl, h, m => m ts pb rw h (Pres.refl _ _ _)
  | o :: l, ts, pb, rw, hl, h, m => by
    have hl' : ∀ o ∈ l, ∀ d ∈ dstL o, d ∈ dsts ops := fun o ho => hl o (List.mem_cons_of_mem _ ho)
    have ho : ∀ d ∈ dstS o.dst, d ∈ dsts ops := by rw [yjj]; exact hl o List.mem_cons_self
    have go : ∀ ts1, Pres (dsts ops) ts pb ts1 pb → (evOpN stdW T C nl al av o ts1 pb rw fun ts pb rw => evList stdW T C nl al av ops l ts pb rw K) = some r → pvOp T (lkOf T) (csP C) nl al av o (pL ts1) (bP pb) (rP rw) fun ts pb rw => pvList T (lkOf T) (csP C) nl al av ops l ts pb rw K' := by
      intro ts1 hp h
      refine ydw h fun ts' pb' rw' h1 h2 => ?_
      exact zvo hl' h1 fun ts2 pb2 rw2 h4 h5 => m ts2 pb2 rw2 h4 ((hp.trans (h2.mono ho)).trans h5)
    simp only [evList] at h
    simp only [pvList]
    split at h
    · rename_i hg; rw [hg]
      refine evOpT_p h fun ts' pb' rw' h1 h2 => ?_
      exact zvo hl' h1 fun ts2 pb2 rw2 h4 h5 => m ts2 pb2 rw2 h4 ((h2.mono ho).trans h5)
    · rename_i j want hg
      rw [hg]
      refine ydp (pb := pb) h (fun ts1 h1 h2 => go ts1 h2 h1) fun ts1 h1 h2 => ?_
      obtain ⟨ts', h3, h4, h5⟩ := retE_p h1
      exact h5 _ (zvo hl' h3 fun ts2 pb2 rw2 h6 h7 => m ts2 pb2 rw2 h6 ((h2.trans (h4.mono ho)).trans h7))
theorem zgo : ∀ {ops : List Oper} {i : Nat} {o : Oper}, nthO ops i = some o → ops[i]? = some o
  | [], i, o, h => by cases h
  | x :: ops, 0, o, h => by simpa [nthO] using h
  | x :: ops, i + 1, o, h => by simpa using zgo (ops := ops) (i := i) h
theorem nthO_p : ∀ {ops : List Oper} {i : Nat} {o : Oper} {K : Oper → Prop}, nthO ops i = some o → K o → nthOp ops i K
  | [], i, o, K, h, k => by cases h
  | x :: ops, 0, o, K, h, k => by simp only [nthO, Option.some.injEq] at h; subst h; exact k
  | x :: ops, i + 1, o, K, h, k => nthO_p (ops := ops) (i := i) h k
theorem rdE_p {Ia : List Nat} {sn : Nat → Bool} {ph : Bool} {o : Oper} {ts : List DV} {pb : DBs} {rw : List DR} {ret : DV → Option β} (h : rdE stdW T Ia sn ph o ts pb rw ret = some r) : ∃ v, ret v = some r ∧ ∀ R : RP, R v.p → rdP T Ia sn ph o (pL ts) (bP pb) (rP rw) R := by
  unfold rdE at h
  split at h
  · rename_i t a ho
    split at h
    · have h := o1_p h
      obtain ⟨A, h1, h⟩ := h
      split at h
      · rename_i hA
        obtain ⟨v, h2, h3⟩ := ydl h
        refine ⟨v, h2, fun R k => ?_⟩
        unfold rdP; rw [ho]
        refine opV_p h1 ?_
        have := h3 R k
        cases A with
        | own i o => simp only [awayV] at hA; simp only [DV.p, awayP]; split at hA
                     · rename_i hm; rw [hm]; exact this
                     · cases hA
        | el t x o => exact this
        | _ => cases hA
      · cases h
    · have h := o1_p h
      obtain ⟨A, h1, h⟩ := h
      split at h
      · rename_i hA
        obtain ⟨v, h2, h3⟩ := ydl h
        refine ⟨v, h2, fun R k => ?_⟩
        unfold rdP; rw [ho]
        refine opV_p h1 ?_
        have := h3 R k
        cases A with
        | own i o => simp only [seenV] at hA; simp only [DV.p, seenP]; rw [hA]; exact this
        | _ => cases hA
      · cases h
  · rename_i op hn
    obtain ⟨v, h2, h3⟩ := purE_p h
    refine ⟨v, h2, fun R k => ?_⟩
    have h4 := h3 R k
    unfold rdP
    split
    · rename_i he; exact (hn _ _ he).elim
    · exact h4
theorem zrz {o : Oper} {ts : List DV} {pb : DBs} {rw : List DR} {K : DK β} {K' : KP} (ho : ∀ d ∈ dstL o, d ∈ dsts ops) (h : stepD stdW T C nl al av ops o ts pb rw K = some r)
    (m : ∀ ts' pb' rw', K ts' pb' rw' = some r → Pres (dsts ops) ts pb ts' pb' → K' (pL ts') (bP pb') (rP rw')) : stepP T (lkOf T) (csP C) nl al av ops o (pL ts) (bP pb) (rP rw) K' := by
  rw [← yjj] at ho
  unfold stepD at h
  unfold stepP
  split at h
  · rename_i hg; rw [hg]
    exact ydw h fun ts' pb' rw' h1 h2 => m _ _ _ h1 (h2.mono ho)
  · rename_i j want hg; rw [hg]
    refine ydp (pb := pb) h (fun ts1 h1 h2 => ?_) fun ts1 h1 h2 => ?_
    · exact ydw h1 fun ts' pb' rw' h3 h4 => m _ _ _ h3 (h2.trans (h4.mono ho))
    · obtain ⟨ts', h3, h4, h5⟩ := retE_p h1
      exact h5 _ (m _ _ _ h3 (h2.trans (h4.mono ho)))
theorem evT_p {Ia : List Nat} {sn : Nat → Bool} {K : DK β} {K' : KP} : ∀ {t : OT} {ph : Bool} {ts : List DV} {pb : DBs} {rw : List DR}, evT stdW T C nl al av Ia sn ops ph t ts pb rw K = some r →
    (∀ ts' pb' rw', K ts' pb' rw' = some r → Pres (dsts ops) ts pb ts' pb' → K' (pL ts') (bP pb') (rP rw')) → pvT T (lkOf T) (csP C) nl al av Ia sn ops ph t (pL ts) (bP pb) (rP rw) K'
  | .nil, ph, ts, pb, rw, h, m => m _ _ _ h (Pres.refl _ _ _)
  | .rd i t, ph, ts, pb, rw, h, m => by
    simp only [evT] at h
    split at h
    · rename_i o hi
      have ho : ∀ d ∈ dstS o.dst, d ∈ dsts ops := by rw [yjj]; exact zeq (zgo hi)
      simp only [pvT]
      refine nthO_p hi ?_
      have go : ∀ ts1, Pres (dsts ops) ts pb ts1 pb → (rdE stdW T Ia sn ph o ts1 pb rw fun x => retE o.dst x ts1 pb rw fun ts pb rw => evT stdW T C nl al av Ia sn ops ph t ts pb rw K) = some r → rdP T Ia sn ph o (pL ts1) (bP pb) (rP rw) fun x => retP o.dst x (pL ts1) (bP pb) (rP rw) fun ts pb rw => pvT T (lkOf T) (csP C) nl al av Ia sn ops ph t ts pb rw K' := by
        intro ts1 hp h
        obtain ⟨v, h1, h2⟩ := rdE_p h
        obtain ⟨ts', h3, h4, h5⟩ := retE_p h1
        exact h2 (fun x => retP o.dst x (pL ts1) (bP pb) (rP rw) fun ts pb rw => pvT T (lkOf T) (csP C) nl al av Ia sn ops ph t ts pb rw K') (h5 _ (evT_p h3 fun ts2 pb2 rw2 h6 h7 => m _ _ _ h6 ((hp.trans (h4.mono ho)).trans h7)))
      split at h
      · rename_i hg; rw [hg]; exact go ts (Pres.refl _ _ _) h
      · rename_i j want hg; rw [hg]
        refine ydp (pb := pb) h (fun ts1 h1 h2 => go ts1 h2 h1) fun ts1 h1 h2 => ?_
        obtain ⟨ts', h3, h4, h5⟩ := retE_p h1
        exact h5 _ (evT_p h3 fun ts2 pb2 rw2 h6 h7 => m _ _ _ h6 ((h2.trans (h4.mono ho)).trans h7))
    · cases h
  | .op i t, ph, ts, pb, rw, h, m => by
    simp only [evT] at h
    split at h
    · rename_i o hi
      simp only [pvT]
      refine nthO_p hi (zrz (zeq (zgo hi)) h fun ts1 pb1 rw1 h1 h2 => evT_p h1 fun ts2 pb2 rw2 h3 h4 => m _ _ _ h3 (h2.trans h4))
    · cases h
  | .two i j ti tj, ph, ts, pb, rw, h, m => by
    simp only [evT] at h
    split at h
    · rename_i o o' hi hj
      obtain ⟨ha, hb⟩ := yei h
      simp only [pvT]
      exact ⟨nthO_p hi (zrz (zeq (zgo hi)) ha fun ts1 pb1 rw1 h1 h2 => evT_p h1 fun ts2 pb2 rw2 h3 h4 => m _ _ _ h3 (h2.trans h4)),
        nthO_p hj (zrz (zeq (zgo hj)) hb fun ts1 pb1 rw1 h1 h2 => evT_p h1 fun ts2 pb2 rw2 h3 h4 => m _ _ _ h3 (h2.trans h4))⟩
    · cases h
  | .three i j k ti tj tk, ph, ts, pb, rw, h, m => by
    simp only [evT] at h
    split at h
    · rename_i o o' o2 hi hj hk
      obtain ⟨ha, hbc⟩ := yei h
      obtain ⟨hb, hc⟩ := yei hbc
      simp only [pvT]
      exact ⟨nthO_p hi (zrz (zeq (zgo hi)) ha fun ts1 pb1 rw1 h1 h2 => evT_p h1 fun ts2 pb2 rw2 h3 h4 => m _ _ _ h3 (h2.trans h4)),
        nthO_p hj (zrz (zeq (zgo hj)) hb fun ts1 pb1 rw1 h1 h2 => evT_p h1 fun ts2 pb2 rw2 h3 h4 => m _ _ _ h3 (h2.trans h4)),
        nthO_p hk (zrz (zeq (zgo hk)) hc fun ts1 pb1 rw1 h1 h2 => evT_p h1 fun ts2 pb2 rw2 h3 h4 => m _ _ _ h3 (h2.trans h4))⟩
    · cases h
end
theorem zwy : ∀ {os : List Oper} {pb : DBs} {n : Nat} {K : List (Nat × Nat) → DBs → Option β}, zli os pb n K = some r → ∃ av l, K av (pb ++ l) = some r ∧ ∀ K' : List (Nat × Nat) → PBs → Prop, K' av (bP (pb ++ l)) → zfz os (bP pb) n K'
  | [], pb, n, K, h => ⟨[], [], by simpa [zli] using h, fun K' k => by simpa [zfz] using k⟩
  | o :: os, pb, n, K, h => by
    have stp : ∀ {d : Tmp}, (pushE pb none fun pb => zli os pb (n + 1) fun av pb => litE n fun m => K ((d, m) :: av) pb) = some r →
        ∃ av l, K av (pb ++ l) = some r ∧ ∀ K' : List (Nat × Nat) → PBs → Prop, K' av (bP (pb ++ l)) → pushK (bP pb) none fun pb => zfz os pb (n + 1) fun av pb => litK n fun m => K' ((d, m) :: av) pb := by
      intro d h
      rw [zdy] at h
      obtain ⟨av, l, h1, h2⟩ := zwy h
      rw [zfp, List.append_assoc] at h1
      refine ⟨_, _, h1, fun K' k => ?_⟩
      rw [zbn]
      have h3 := h2 (fun av pb => litK n fun m => K' ((d, m) :: av) pb) (by rw [zby, List.append_assoc]; exact k)
      rw [bP_app] at h3
      exact h3
    unfold zli at h
    unfold zfz
    split at h
    · rename_i h1 h2; simp only [h1, h2]; exact stp h
    · rename_i h1 h2; simp only [h1, h2]; exact stp h
    · rename_i h1 h2
      obtain ⟨av, l, h3, h4⟩ := zwy h
      refine ⟨av, l, h3, fun K' k => ?_⟩
      split
      · rename_i h5 h6; exact (h1 _ _ h5 h6).elim
      · rename_i h5 h6; exact (h2 _ _ _ h5 h6).elim
      · exact h4 K' k
def trP (O : DTs) : Trees := O.map fun z => (z.1, z.2.2)
theorem treeV_p {O : DTs} {n : Nat} {Ia : List Nat} {t : OT} {K : OT → Prop} (h : treeV O n = some (Ia, t)) (k : K t) : treeK (trP O) n K := by
  induction O with
  | nil => cases h
  | cons x O ih =>
    obtain ⟨m, I, o⟩ := x
    simp only [treeV] at h
    simp only [trP, List.map_cons, treeK]
    split
    · rename_i hb; rw [hb] at h; simp only [Option.some.injEq, Prod.mk.injEq] at h; obtain ⟨_, rfl⟩ := h; exact k
    · rename_i hb; rw [hb] at h; exact ih h
theorem hasE_p : ∀ (pb : DBs) (i : Nat), hasP (bP pb) i = hasE pb i
  | [], _ => rfl
  | o :: pb, 0 => by cases o <;> rfl
  | o :: pb, i + 1 => by cases o <;> exact hasE_p pb i
theorem drawD_p {T : List TI} {C : ESs} {O : DTs} {nl id : Nat} {ops : Array Oper} {ts : List DV} {pb : DBs} {rw : List DR} {K : DK β} {K' : KP} (h : drawD stdW T C O nl id ops ts pb rw K = some r)
    (m : ∀ ts' pb' rw', K ts' pb' rw' = some r → Pres (dsts ops.toList) ts pb ts' pb' → K' (pL ts') (bP pb') (rP rw')) : drawP T (lkOf T) (csP C) (trP O) nl id ops (pL ts) (bP pb) (rP rw) K' := by
  unfold drawD at h
  split at h
  · rename_i Ia t ht
    split at h
    · rename_i hok
      rw [zfp] at h
      obtain ⟨av, l, h1, h2⟩ := zwy h
      unfold drawP
      refine treeV_p ht ⟨hok, Ia, K', fun _ _ _ k => k, ?_⟩
      have hh : hasP (bP pb) = hasE pb := funext (hasE_p pb)
      rw [hh]
      refine (zby _ _).2 ?_
      rw [bP_len]
      exact h2 _ (evT_p h1 fun ts' pb' rw' h3 h4 => m _ _ _ h3 ((Pres.push l).trans h4))
    · cases h
  · cases h
end Go.Vc

namespace Go.Vc
open Go Go.RowKit
variable {β:Type} {r:β}
section
variable {rw rws:List RS} {hpb:PBs}
theorem smL_app:∀{ps qs ps' qs':List PV},smL rw rws hpb ps ps'→smL rw rws hpb qs qs'→smL rw rws hpb (ps++qs) (ps'++qs')
 |[],qs,ps',qs',h,h'=>by cases ps' with|nil=>exact h'|cons _ _=>exact h.elim
 |p::ps,qs,ps',qs',h,h'=>by
  cases ps' with
  |nil=>exact h.elim
  |cons p' ps'=>exact⟨h.1,smL_app h.2 h'⟩
theorem of_sm{t:DT}:∀{cs:List DV} {x:t.den} {rest:List DV},t.of cs=some (x,rest)→∃hd,cs=hd++rest∧smL rw rws hpb (pL hd) (pL (t.cells x [])):=by
 induction t with
 |int k=>
  intro cs x rest h
  unfold DT.of at h
  split at h
  ·rename_i k' n r'
   split at h
   ·rename_i hk
    have:=eqk_eq hk; subst this
    simp only[Option.some.injEq,Prod.mk.injEq]at h
    obtain⟨rfl,rfl⟩:=h
    exact⟨[_],rfl,rfl,trivial⟩
   ·cases h
  ·cases h
 |bool=>
  intro cs x rest h
  unfold DT.of at h
  split at h
  ·simp only[Option.some.injEq,Prod.mk.injEq]at h
   obtain⟨rfl,rfl⟩:=h
   exact⟨[_],rfl,rfl,trivial⟩
  ·simp only[Option.some.injEq,Prod.mk.injEq]at h
   obtain⟨rfl,rfl⟩:=h
   exact⟨[_],rfl,rfl,trivial⟩
  ·cases h
 |str=>
  intro cs x rest h
  unfold DT.of at h
  split at h
  ·simp only[Option.some.injEq,Prod.mk.injEq]at h
   obtain⟨rfl,rfl⟩:=h
   exact⟨[_],rfl,rfl,trivial⟩
  ·cases h
 |slc t ih=>
  intro cs x rest h
  unfold DT.of at h
  split at h
  ·rename_i t' l r'
   split at h
   ·rename_i he _
    subst he
    simp only[Option.some.injEq,Prod.mk.injEq]at h
    obtain⟨rfl,rfl⟩:=h
    exact⟨[_],rfl,⟨rfl,rfl⟩,trivial⟩
   ·cases h
  ·simp only[Option.some.injEq,Prod.mk.injEq]at h
   obtain⟨rfl,rfl⟩:=h
   exact⟨[_],rfl,⟨trivial,rfl⟩,trivial⟩
  ·cases h
 |unit=>
  intro cs x rest h
  simp only[DT.of,Option.some.injEq,Prod.mk.injEq]at h
  obtain⟨_,rfl⟩:=h
  exact⟨[],rfl,trivial⟩
 |pair a b iha ihb=>
  intro cs x rest h
  simp only[DT.of]at h
  split at h
  ·rename_i x1 r1 h1
   split at h
   ·rename_i x2 r2 h2
    simp only[Option.some.injEq,Prod.mk.injEq]at h
    obtain⟨rfl,rfl⟩:=h
    obtain⟨hd1,rfl,a1⟩:=iha h1
    obtain⟨hd2,rfl,b1⟩:=ihb h2
    refine⟨hd1++hd2,by simp,?_⟩
    simp only[DT.cells]
    rw[zym,pL_app,pL_app]
    exact smL_app a1 b1
   ·cases h
  ·cases h
theorem ofV_sm{t:DT}{v:DV}{x:t.den}(h:t.ofV v=some x):smP rw rws hpb v.p (t.val x).p:=by
 unfold DT.ofV at h
 split at h
 ·rename_i ha
  split at h
  ·rename_i cs
   split at h
   ·rename_i y rest hy
    split at h
    ·simp only[Option.some.injEq]at h; subst h
     obtain⟨hd,he,h1⟩:=of_sm (rw:=rw) (rws:=rws) (hpb:=hpb) hy
     rw[List.append_nil]at he; subst he
     cases t<;>first|(cases ha; done)|exact h1
    ·cases h
   ·cases h
  ·cases h
 ·rename_i ha
  split at h
  ·rename_i y rest hy
   split at h
   ·simp only[Option.some.injEq]at h; subst h
    obtain⟨hd,he,h1⟩:=of_sm (rw:=rw) (rws:=rws) (hpb:=hpb) hy
    rw[List.append_nil]at he; subst he
    cases t<;>first|(cases ha; done)|exact h1.1
   ·cases h
  ·cases h
mutual
theorem smP_rf{pb:DBs}(hb:∀(i:Nat),(dbV pb i).isSome=true→pbK hpb i fun _=>True):(v:DV)→v.nr=true→v.rf pb=true→smP rw rws hpb v.p v.p
 | .x y,hn,h=>by
  simp only[DV.rf]at h
  simp only[DV.p,smP]
  cases y<;>first|(cases h; done)|rfl
 | .sl t l,hn,h=>⟨rfl,rfl⟩
 | .el t x o,hn,h=>⟨rfl,rfl⟩
 | .own i o,hn,h=>⟨rfl,rfl,hb i h⟩
 | .fn f cs,hn,h=>⟨rfl,smL_rf hb cs hn h⟩
 | .agg cs,hn,h=>smL_rf hb cs hn h
 | .tup cs,hn,h=>smL_rf hb cs hn h
 | .row j,hn,h=>by cases hn
 | .re j i o,hn,h=>by cases hn
 | .rt j i,hn,h=>by cases hn
 | .junk,hn,h=>by cases h
theorem smL_rf{pb:DBs}(hb:∀(i:Nat),(dbV pb i).isSome=true→pbK hpb i fun _=>True):(vs:List DV)→nrL vs=true→rfL pb vs=true→smL rw rws hpb (pL vs) (pL vs)
 |[],_,_=>trivial
 |v::vs,hn,h=>by
  simp only[nrL,Bool.and_eq_true]at hn
  simp only[rfL,Bool.and_eq_true]at h
  exact⟨smP_rf hb v hn.1 h.1,smL_rf hb vs hn.2 h.2⟩
end
theorem smS_of:∀{ps qs:List PV},ps.length=qs.length→(∀(i:Nat) (p q:PV),ps[i]?=some p→qs[i]?=some q→q=.junk∨smP rw rws hpb p q)→smS rw rws hpb ps qs
 |[],[],_,_=>by simp only[smS]
 |[],q::qs,h,_=>by cases h
 |p::ps,[],h,_=>by cases h
 |p::ps,q::qs,h,m=>by
  have ih:=smS_of (ps:=ps) (qs:=qs) (by simpa using h) fun i p q hp hq=>m (i+1) p q (by simpa using hp) (by simpa using hq)
  rcases m 0 p q rfl rfl with rfl|hs
  ·simp only[smS]; exact ih
  ·unfold smS
   split
   ·rename_i he; injection he with h1 h2; rename_i he2; injection he2 with h3 h4; subst h2; subst h4; exact ih
   ·rename_i he he2; injection he with h1 h2; injection he2 with h3 h4; subst h1; subst h2; subst h3; subst h4; exact⟨hs,ih⟩
   ·rename_i he; cases he
   ·rename_i h1 h2 h3; exact(h2 _ _ _ _ rfl rfl).elim
theorem smB_of:∀{ps qs:PBs},qs.length≤ps.length→(∀(i:Nat) (q:PBox),qs[i]?=some (some q)→∃p:PBox,ps[i]?=some (some p)∧p.ty=q.ty∧smL rw rws hpb p.cells q.cells)→smB rw rws hpb ps qs
 |ps,[],_,_=>by cases ps<;>simp[smB]
 |[],q::qs,h,_=>by simp at h
 |p::ps,q::qs,h,m=>by
  have ih:=smB_of (ps:=ps) (qs:=qs) (by simpa using h) fun i q hq=>m (i+1) q (by simpa using hq)
  cases q with
  |none=>cases p<;>exact ih
  |some q=>
   obtain⟨p',hp,h1,h2⟩:=m 0 q rfl
   simp at hp; subst hp
   exact⟨h1,h2,ih⟩
end
theorem rsK_of:∀{rws:List RS} {j e k:Nat} {els:List (List R)} {K:Nat→Nat→List (List R)→Prop},rws[j]?=some (.own e k els)→K e k els→rsK rws j K
 |[],j,e,k,els,K,h,kk=>by simp at h
 |x::rws,0,e,k,els,K,h,kk=>by simp at h; subst h; exact kk
 |x::rws,j+1,e,k,els,K,h,kk=>rsK_of (rws:=rws) (j:=j) (by simpa using h) kk
theorem drV_get:∀{rw:List DR} {j:Nat} {x:DR},drV rw j=some x→rw[j]?=some x
 |[],j,x,h=>by cases h
 |y::rw,0,x,h=>by simpa[drV]using h
 |y::rw,j+1,x,h=>by simpa using drV_get (rw:=rw) (j:=j) h
theorem yed:∀{pb:DBs} {i:Nat} {b:DB},pb[i]?=some (some b)→dbV pb i=some b
 |[],i,b,h=>by simp at h
 |o::pb,0,b,h=>by simpa[dbV]using h
 |o::pb,i+1,b,h=>by simpa[dbV]using yed (pb:=pb) (i:=i) (by simpa using h)
theorem roX_rm:∀{ro:List RKd} {rw:List DR} {y:(roT ro).den},roX ro rw=some y→rmP (rP rw) (rP (roV ro y))
 |[],rw,y,h=>by cases rw<;>simp[roV,rP,rmP]
 | .own e t::ro,.own e' t' xs::rw,y,h=>by
  simp only[roX]at h
  split at h
  ·rename_i hh y' h1 h2 h3
   subst hh
   have e1:=Nat.eq_of_beq_eq_true h1
   subst e1
   have h:=Option.some.inj h
   subst h
   exact⟨rfl,rfl,by simp[DT.castL],roX_rm h3⟩
  ·cases h
 | .own e t::ro,.dead::rw,y,h=>by
  simp only[roX]at h
  split at h
  ·rename_i y' hy
   have h:=Option.some.inj h
   subst h
   exact⟨rfl,roX_rm hy⟩
  ·cases h
 | .own e t::ro,[],y,h=>by
  simp only[roX]at h
  split at h
  ·rename_i y' hy
   have h:=Option.some.inj h
   subst h
   exact⟨rfl,roX_rm hy⟩
  ·cases h
 | .itr::ro,[],y,h=>by simp[roX]at h
 | .itr::ro,.own _ _ _::rw,y,h=>by simp[roX]at h
 | .itr::ro,.dead::rw,y,h=>by simp[roX]at h
 | .itr::ro,.itr s p::rw,y,h=>by
  simp only[roX]at h
  split at h
  ·rename_i y' hy
   have h:=Option.some.inj h
   subst h
   exact⟨rfl,roX_rm hy⟩
  ·cases h
 | .own e t::ro,.itr s p::rw,y,h=>by simp[roX]at h
 | .dead::ro,rw,y,h=>by
  simp only[roX]at h
  have:=roX_rm h
  cases rw with
  |nil=>exact this
  |cons x rw=>cases x<;>exact this
theorem roX_at:∀{ro:List RKd} {rw:List DR} {y:(roT ro).den} {j:Nat},roX ro rw=some y→roN ro j=true→
  ∃e k els,(rP (roV ro y))[j]?=some (.own e k els)∧((∃e' t l,drV rw j=some (.own e' t l))∨els=[])
 |[],rw,y,j,h,hn=>by cases hn
 | .own e t::ro,rw,y,0,h,hn=>by
  cases rw with
  |nil=>
   simp only[roX]at h
   split at h
   ·have h:=Option.some.inj h; subst h; exact⟨_,_,_,rfl,.inr rfl⟩
   ·cases h
  |cons x rw=>
   cases x with
   |own e' t' xs=>exact⟨_,_,_,rfl,.inl ⟨_,_,_,rfl⟩⟩
   |itr s p=>simp[roX]at h
   |dead=>
    simp only[roX]at h
    split at h
    ·have h:=Option.some.inj h; subst h; exact⟨_,_,_,rfl,.inr rfl⟩
    ·cases h
 | .dead::ro,rw,y,0,h,hn=>by cases hn
 | .itr::ro,rw,y,0,h,hn=>by cases hn
 | .itr::ro,rw,y,j+1,h,hn=>by
  cases rw with
  |nil=>simp[roX]at h
  |cons x rw=>
   cases x with
   |own e' t' xs=>simp[roX]at h
   |dead=>simp[roX]at h
   |itr s p=>
    simp only[roX]at h
    split at h
    ·rename_i y' hy
     have h:=Option.some.inj h; subst h
     obtain⟨e1,k,els,h1,h2⟩:=roX_at (j:=j) hy hn
     exact⟨e1,k,els,by simpa[roV,rP]using h1,by simpa[drV]using h2⟩
    ·cases h
 | .own e t::ro,rw,y,j+1,h,hn=>by
  cases rw with
  |nil=>
   simp only[roX]at h
   split at h
   ·rename_i y' hy
    have h:=Option.some.inj h; subst h
    obtain⟨e1,k,els,h1,h2⟩:=roX_at (j:=j) hy hn
    exact⟨e1,k,els,by simpa[roV,rP]using h1,by simpa[drV]using h2⟩
   ·cases h
  |cons x rw=>
   cases x with
   |own e' t' xs=>
    simp only[roX]at h
    split at h
    ·rename_i hh y' h1 h2 h3
     have h:=Option.some.inj h; subst h
     obtain⟨e1,k,els,h1,h2⟩:=roX_at (j:=j) h3 hn
     exact⟨e1,k,els,by simpa[roV,rP]using h1,by simpa[drV]using h2⟩
    ·cases h
   |itr s p=>simp[roX]at h
   |dead=>
    simp only[roX]at h
    split at h
    ·rename_i y' hy
     have h:=Option.some.inj h; subst h
     obtain⟨e1,k,els,h1,h2⟩:=roX_at (j:=j) hy hn
     exact⟨e1,k,els,by simpa[roV,rP]using h1,by simpa[drV]using h2⟩
    ·cases h
 | .dead::ro,rw,y,j+1,h,hn=>by
  simp only[roX]at h
  obtain⟨e1,k,els,h1,h2⟩:=roX_at (j:=j) h hn
  refine⟨e1,k,els,by simpa[roV,rP]using h1,?_⟩
  cases rw with
  |nil=>simpa[drV]using h2
  |cons x rw=>simpa[drV]using h2
theorem roI_at:∀{ro:List RKd} {y:(roT ro).den} {j:Nat},roI ro j=true→obK (rP (roV ro y)) j fun _=>True
 |[],y,j,hn=>by cases hn
 | .own e t::ro,y,0,hn=>by cases hn
 | .dead::ro,y,0,hn=>by cases hn
 | .itr::ro,y,0,hn=>trivial
 | .own e t::ro,y,j+1,hn=>by simp only[roV,rP,obK]; exact roI_at (ro:=ro) (j:=j) hn
 | .dead::ro,y,j+1,hn=>by simp only[roV,rP,obK]; exact roI_at (ro:=ro) (j:=j) hn
 | .itr::ro,y,j+1,hn=>by simp only[roV,rP,obK]; exact roI_at (ro:=ro) (j:=j) hn
theorem okOb_sm{ro:List RKd}{rw:List DR}{y:(roT ro).den}{j:Nat}{v:DV}{hpb:PBs}(hv:okObV ro rw j v=true):smP (rP rw) (rP (roV ro y)) hpb v.p (.ob j):=by
 unfold okObV at hv
 simp only[Bool.and_eq_true]at hv
 obtain⟨hn,hv⟩:=hv
 split at hv
 ·rename_i j'
  split at hv
  ·rename_i s p hb hd
   have:=Nat.eq_of_beq_eq_true hb; subst this
   exact⟨rfl,drV_o hd (roI_at hn)⟩
  ·cases hv
 ·cases hv
theorem rP_drV{rw:List DR}{j:Nat}{e:TypeId}{t:DT}{l:List t.den}(h:drV rw j=some (.own e t l)):(rP rw)[j]?=some (.own e t.size (l.map fun x=>t.enc x)):=by
 have:=drV_get h
 rw[rP_map,List.getElem?_map,this]; rfl
theorem okRow_sm{ro:List RKd}{rw:List DR}{y:(roT ro).den}{j:Nat}{v:DV}{hpb:PBs}(h:roX ro rw=some y)(hv:okRowV ro rw j v=true):smP (rP rw) (rP (roV ro y)) hpb v.p (.row j):=by
 unfold okRowV at hv
 simp only[Bool.and_eq_true]at hv
 obtain⟨hn,hv⟩:=hv
 obtain⟨e,k,els,h1,h2⟩:=roX_at h hn
 split at hv
 ·rename_i j'
  split at hv
  ·rename_i hb hd
   have:=Nat.eq_of_beq_eq_true hb; subst this
   exact⟨rfl,rsK_of (rP_drV hd) (rsK_of h1 trivial)⟩
  ·cases hv
 ·split at hv
  ·cases hv
  ·rename_i hd
   refine⟨trivial,drV_n (fun e t l he=>hd _ _ _ he) trivial,rsK_of h1 ?_⟩
   rcases h2 with ⟨_,_,_,h2⟩|h2
   ·exact(hd _ _ _ h2).elim
   ·exact h2
 ·cases hv
theorem okOwn_sm{rw rws:List RS}{hpb:PBs}{i o:Nat}{v:DV}(hb:pbK hpb i fun _=>True)(hv:okOwnV i o v=true):smP rw rws hpb v.p (.own i o):=by
 unfold okOwnV at hv
 split at hv
 ·simp only[Bool.and_eq_true]at hv
  have h1:=Nat.eq_of_beq_eq_true hv.1
  have h2:=Nat.eq_of_beq_eq_true hv.2
  subst h1; subst h2
  exact⟨rfl,rfl,hb⟩
 ·cases hv
theorem okNil_sm{rw rws:List RS}{hpb:PBs}{v:DV}(hv:okNilV v=true):smP rw rws hpb v.p (.x (.slc none 0 0)):=by
 unfold okNilV at hv
 split at hv
 ·rfl
 ·cases hv
theorem vsX_sm{ro:List RKd}{rw:List DR}{yy:(roT ro).den}{hpb:PBs}{pb:DBs}(hy:roX ro rw=some yy)(hb:∀(i:Nat),(dbV pb i).isSome=true→pbK hpb i fun _=>True):
  ∀{l:List DS} {R:DT} {vs:List DV} {y:R.den} {z:(vsT l R).den},ownDS pb l=true→vsX ro rw l R vs y=some z→(vsV l R z).2=y∧smL (rP rw) (rP (roV ro yy)) hpb (pL vs) (pL (vsV l R z).1)
 |[],R,vs,y,z,ho,h=>by
  cases vs with
  |nil=>simp only[vsX]at h; have h:=Option.some.inj h; subst h; exact⟨rfl,trivial⟩
  |cons v vs=>simp[vsX]at h
 | .t t::l,R,vs,y,z,ho,h=>by
  cases vs with
  |nil=>simp[vsX]at h
  |cons v vs=>
   simp only[vsX]at h
   split at h
   ·rename_i x z' h1 h2
    have h:=Option.some.inj h; subst h
    simp only[ownDS,Bool.true_and]at ho
    obtain⟨h3,h4⟩:=vsX_sm hy hb ho h2
    exact⟨h3,ofV_sm h1,h4⟩
   ·cases h
 | .row j::l,R,vs,y,z,ho,h=>by
  cases vs with
  |nil=>simp[vsX]at h
  |cons v vs=>
   simp only[vsX]at h
   split at h
   ·rename_i h1
    simp only[ownDS,Bool.true_and]at ho
    obtain⟨h3,h4⟩:=vsX_sm hy hb ho h
    exact⟨h3,okRow_sm hy h1,h4⟩
   ·cases h
 | .ob j::l,R,vs,y,z,ho,h=>by
  cases vs with
  |nil=>simp[vsX]at h
  |cons v vs=>
   simp only[vsX]at h
   split at h
   ·rename_i h1
    simp only[ownDS,Bool.true_and]at ho
    obtain⟨h3,h4⟩:=vsX_sm hy hb ho h
    exact⟨h3,okOb_sm h1,h4⟩
   ·cases h
 | .own i o::l,R,vs,y,z,ho,h=>by
  cases vs with
  |nil=>simp[vsX]at h
  |cons v vs=>
   simp only[vsX]at h
   split at h
   ·rename_i h1
    simp only[ownDS,Bool.and_eq_true]at ho
    obtain⟨h3,h4⟩:=vsX_sm hy hb ho.2 h
    exact⟨h3,okOwn_sm (hb i ho.1) h1,h4⟩
   ·cases h
 | .nil::l,R,vs,y,z,ho,h=>by
  cases vs with
  |nil=>simp[vsX]at h
  |cons v vs=>
   simp only[vsX]at h
   split at h
   ·rename_i h1
    simp only[ownDS,Bool.true_and]at ho
    obtain⟨h3,h4⟩:=vsX_sm hy hb ho h
    exact⟨h3,okNil_sm h1,h4⟩
   ·cases h
theorem boX_sm{ro:List RKd}{rw:List DR}{yy:(roT ro).den}{hpb:PBs}{pb0 pb:DBs}(hy:roX ro rw=some yy)(hb:∀(i:Nat),(dbV pb0 i).isSome=true→pbK hpb i fun _=>True):
  ∀{l:List (Nat×List DS)} {R:DT} {y:R.den} {z:(boT l R).den},ownBo pb0 l=true→boX ro pb rw l R y=some z→(boV l R z).2=y∧(boV l R z).1.length=(boN l).length∧
   ∀(k i:Nat) (c:List DV),(boN l)[k]?=some i→(boV l R z).1[k]?=some c→∃b,dbV pb i=some b∧smL (rP rw) (rP (roV ro yy)) hpb (pL b.cells) (pL c)
 |[],R,y,z,ho,h=>by
  simp only[boX]at h; have h:=Option.some.inj h; subst h
  exact⟨rfl,rfl,fun k i c hk=>by simp[boN]at hk⟩
 |(i,cs)::l,R,y,z,ho,h=>by
  simp only[boX]at h
  simp only[ownBo,Bool.and_eq_true]at ho
  rcases h1:dbV pb i with _|b
  ·rw[h1]at h; cases h
  rcases h2:boX ro pb rw l R y with _|z'
  ·rw[h1,h2]at h; cases h
  ·rw[h1,h2]at h
   obtain⟨h3,h4⟩:=vsX_sm hy hb ho.1.2 h
   subst h3
   obtain⟨h5,h6,h7⟩:=boX_sm hy hb ho.2 h2
   refine⟨h5,by simp[boV,boN,h6],fun k i' c hk hc=>?_⟩
   cases k with
   |zero=>
    simp[boN]at hk; subst hk
    simp[boV]at hc; subst hc
    exact⟨b,h1,h4⟩
   |succ k=>exact h7 k i' c (by simpa[boN]using hk) (by simpa[boV]using hc)
def DJ.vals(j:DJ)(z:j.T.den):List DV:=(vsV (dsS j.sl) (boT j.bo (roT j.ro)) z).1
def DJ.z1(j:DJ)(z:j.T.den):(boT j.bo (roT j.ro)).den:=(vsV (dsS j.sl) (boT j.bo (roT j.ro)) z).2
def DJ.cells(j:DJ)(z:j.T.den):List (List DV):=(boV j.bo (roT j.ro) (j.z1 z)).1
def DJ.z2(j:DJ)(z:j.T.den):(roT j.ro).den:=(boV j.bo (roT j.ro) (j.z1 z)).2
def DJ.rows(j:DJ)(z:j.T.den):List DR:=roV j.ro (j.z2 z)
theorem yiq:∀{ts:List DV} {bs:List Bool} {K:List DV→Option β},junkE ts bs K=some r→∃l,K l=some r∧l.length=ts.length∧(∀i:Nat,bs[i]?=some true→l[i]?=some .junk)∧(∀i:Nat,bs[i]?=some false→l[i]?=ts[i]?)∧∀K':List PV→Prop,K' (pL l)→junkP (pL ts) bs K'
 |[],[],K,h=>⟨[],h,rfl,by simp,by simp,fun K' k=>k⟩
 |[],b::bs,K,h=>by cases h
 |x::ts,[],K,h=>by cases h
 |x::ts,true::bs,K,h=>by
  simp only[junkE]at h
  obtain⟨l,h1,h2,h3,h4,h5⟩:=yiq h
  refine⟨_,h1,by simp[h2],fun i hi=>?_,fun i hi=>?_,fun K' k=>by simp only[pL,junkP]; exact h5 _ k⟩
  ·cases i with
   |zero=>rfl
   |succ i=>simpa using h3 i (by simpa using hi)
  ·cases i with
   |zero=>simp at hi
   |succ i=>simpa using h4 i (by simpa using hi)
 |x::ts,false::bs,K,h=>by
  simp only[junkE]at h
  obtain⟨l,h1,h2,h3,h4,h5⟩:=yiq h
  refine⟨_,h1,by simp[h2],fun i hi=>?_,fun i hi=>?_,fun K' k=>by simp only[pL,junkP]; exact h5 _ k⟩
  ·cases i with
   |zero=>simp at hi
   |succ i=>simpa using h3 i (by simpa using hi)
  ·cases i with
   |zero=>rfl
   |succ i=>simpa using h4 i (by simpa using hi)
theorem ydg{n:Nat}{l:List Nat}(h:(!memN n l)=true):n∉l:=fun hm=>by rw[zcc.2 hm]at h; cases h
theorem setsE_p:∀{ss:List Nat} {l vs:List DV} {K:List DV→Option β},setsE l ss vs K=some r→∃l',K l'=some r∧l'.length=l.length∧(∀i:Nat,i∉ss→l'[i]?=l[i]?)∧
  (nodupN ss=true→∀(k s:Nat) (v:DV),ss[k]?=some s→vs[k]?=some v→s<l.length→l'[s]?=some v)∧∀K':List PV→Prop,K' (pL l')→setsP (pL l) ss (pL vs) K'
 |[],l,[],K,h=>⟨l,h,rfl,fun _ _=>rfl,by simp,fun K' k=>k⟩
 |[],l,v::vs,K,h=>by cases h
 |s::ss,l,[],K,h=>by cases h
 |s::ss,l,v::vs,K,h=>by
  simp only[setsE]at h
  rw[zwl]at h
  obtain⟨l',h1,h2,h3,h4,h5⟩:=setsE_p h
  refine⟨l',h1,by rw[h2,List.length_set],fun i hi=>?_,fun hd k s' v' hk hv hs=>?_,fun K' k=>?_⟩
  ·rw[h3 i (fun hm=>hi (List.mem_cons_of_mem _ hm)),List.getElem?_set_ne (fun he=>hi (by rw[he]; exact List.mem_cons_self))]
  ·simp only[nodupN,Bool.and_eq_true]at hd
   cases k with
   |zero=>
    simp at hk hv; subst hk; subst hv
    rw[h3 s (ydg hd.1),List.getElem?_set_self hs]
   |succ k=>exact h4 hd.2 k s' v' (by simpa using hk) (by simpa using hv) (by simpa using hs)
  ·simp only[pL,setsP]
   rw[zdb,←pL_set]; exact h5 K' k
theorem setBs_p:∀{is:List Nat} {pb:DBs} {cs:List (List DV)} {K:DBs→Option β},setBs pb is cs K=some r→∃pb',K pb'=some r∧pb'.length=pb.length∧(∀i:Nat,i∉is→pb'[i]?=pb[i]?)∧
  (nodupN is=true→∀(k i:Nat) (c:List DV),is[k]?=some i→cs[k]?=some c→∃b,pb[i]?=some (some b)∧pb'[i]?=some (some ⟨b.ty,c,true⟩))∧is.length=cs.length∧∀K':PBs→Prop,K' (bP pb')→setPBs (bP pb) is (cs.map pL) K'
 |[],pb,[],K,h=>⟨pb,h,rfl,fun _ _=>rfl,by simp,rfl,fun K' k=>k⟩
 |[],pb,v::vs,K,h=>by cases h
 |i::is,pb,[],K,h=>by cases h
 |i::is,pb,c::cs,K,h=>by
  simp only[setBs]at h
  split at h
  ·rename_i b hb
   rw[zus]at h
   obtain⟨pb',h1,h2,h3,h4,h4',h5⟩:=setBs_p h
   refine⟨pb',h1,by rw[h2,List.length_set],fun i' hi=>?_,fun hd k i' c' hk hc=>?_,by simp[h4'],fun K' k=>?_⟩
   ·rw[h3 i' (fun hm=>hi (List.mem_cons_of_mem _ hm)),List.getElem?_set_ne (fun he=>hi (by rw[he]; exact List.mem_cons_self))]
   ·simp only[nodupN,Bool.and_eq_true]at hd
    have hb':=ztk hb
    cases k with
    |zero=>
     simp at hk hc; subst hk; subst hc
     exact⟨b,hb',by rw[h3 i (ydg hd.1),List.getElem?_set_self (List.getElem?_eq_some_iff.1 hb').1]⟩
    |succ k=>
     obtain⟨b',h6,h7⟩:=h4 hd.2 k i' c' (by simpa using hk) (by simpa using hc)
     refine⟨b',?_,h7⟩
     have hne:i≠i':=fun he=>ydg hd.1 (by rw[he]; exact List.mem_of_getElem? (by simpa using hk))
     rwa [List.getElem?_set_ne hne]at h6
   ·simp only[List.map_cons,setPBs]
    refine dbV_p hb ?_
    rw[zeg]
    have:=h5 K' k
    rwa [bP_set]at this
  ·cases h
structure HeadF(j:DJ)(x:Code)(ts:List DV)(pb:DBs)(z:j.T.den)(ts1:List DV)(pb1:DBs):Prop where
 len:ts1.length=ts.length
 blen:pb1.length=pb.length
 free:∀i:Nat,i∉dsN j.sl→i∈wrJ x ts→i<ts.length→ts1[i]?=some .junk
 keep:∀i:Nat,i∉dsN j.sl→i∉wrJ x ts→ts1[i]?=(ts[i]?).map (DV.sub norowD)
 at_:nodupN (dsN j.sl)=true→∀(k s:Nat) (v:DV),(dsN j.sl)[k]?=some s→(j.vals z)[k]?=some v→s<ts.length→ts1[s]?=some v
 bkeep:∀i:Nat,i∉boN j.bo→pb1[i]?=(subDB norowD pb)[i]?
 bat:nodupN (boN j.bo)=true→∀(k i:Nat) (c:List DV),(boN j.bo)[k]?=some i→(j.cells z)[k]?=some c→∃b,pb[i]?=some (some b)∧pb1[i]?=some (some ⟨b.ty,c,true⟩)
theorem zmz(ws:List Nat):∀(n a i:Nat),(maskOf ws n a)[i]?=if i<n then some (memN (a+i) ws) else none
 |0,a,i=>by simp[maskOf]
 |n+1,a,i=>by
  cases i with
  |zero=>simp[maskOf]
  |succ i=>simp only[maskOf,List.getElem?_cons_succ,zmz ws n (a+1) i,Nat.add_lt_add_iff_right]; rw[show a+1+i=a+(i+1) by omega]
theorem yja{j:DJ}{x:Code}{ts:List DV}{pb:DBs}{z:j.T.den}{K:DK β}(h:headD j x ts pb z K=some r):∃ts1 pb1,K ts1 pb1 (j.rows z)=some r∧HeadF j x ts pb z ts1 pb1∧(boN j.bo).length=(j.cells z).length∧
  ∀K':List PV→PBs→Prop,K' (pL ts1) (bP pb1)→headP (pL ts) (bP pb) (maskOf (wrJ x ts) ts.length 0) (dsN j.sl) (pL (j.vals z)) (boN j.bo) ((j.cells z).map pL) K':=by
 unfold headD at h
 simp only at h
 have hl:(subDL norowD ts).length=ts.length:=by rw[zlb,List.length_map]
 rw[zel]at h
 obtain⟨l1,h1,h2,h3,h4,h5⟩:=yiq h
 obtain⟨l2,h6,h7,h8,h9,h10⟩:=setsE_p h1
 rw[zij]at h6
 obtain⟨pb1,h11,h12,h13,h14,h14',h15⟩:=setBs_p h6
 refine⟨l2,pb1,h11,⟨by rw[h7,h2,hl],by rw[h12,zpo],fun i hi hw hlt=>?_,fun i hi hw=>?_,fun hd k s v hk hv hs=>h9 hd k s v hk hv (by rw[h2,hl]; exact hs),h13,fun hd k i c hk hc=>?_⟩,h14',fun K' k=>?_⟩
 ·rw[h8 i hi]
  exact h3 i (by rw[zmz,if_pos hlt,Nat.zero_add,zcc.2 hw])
 ·rw[h8 i hi]
  rcases Nat.lt_or_ge i ts.length with hlt|hge
  ·rw[h4 i (by rw[zmz,if_pos hlt,Nat.zero_add]; cases hm:memN i (wrJ x ts) with|false=>rfl|true=>exact absurd (zcc.1 hm) hw),zlb,List.getElem?_map]
  ·rw[List.getElem?_eq_none (by rw[h2,hl]; exact hge),List.getElem?_eq_none hge]; rfl
 ·obtain⟨b,h16,h17⟩:=h14 hd k i c hk hc
  rw[zfe]at h16
  cases hb:pb[i]? with
  |none=>rw[hb]at h16; cases h16
  |some o=>
   rw[hb]at h16
   cases o with
   |none=>cases h16
   |some b0=>simp at h16; subst h16; exact⟨b0,rfl,h17⟩
 ·unfold headP
  rw[zcm]
  have e1:=h5 (fun ts=>setsP ts (dsN j.sl) (pL (j.vals z)) fun ts=>subBK norowF (bP pb) fun pb=>setPBs pb (boN j.bo) ((j.cells z).map pL) fun pb=>K' ts pb) (h10 _ (by
   rw[zdl]
   have e2:=h15 (fun pb=>K' (pL l2) pb) k
   rw[bP_sub,ylr]at e2
   exact e2))
  rw[pL_sub,ylr]at e1
  exact e1
end Go.Vc

namespace Go.Vc
open Go Go.RowKit
variable {β : Type} {r : β}
theorem ztw (v : DV) (h : v.nr = true) : v.sub norowD = v := DV.sub_nr _ v h
theorem okSl_p : ∀ {l : List (Nat × DS)} {ts : List DV} {wr : List Nat}, okSl ts wr l = true → ∀ i ∈ dsN l, i ∈ wr ∨ ∃ v, ts[i]? = some v ∧ v.nr = false
  | [], ts, wr, h, i, hi => by cases hi
  | (n, d) :: l, ts, wr, h, i, hi => by
    simp only [okSl, Bool.and_eq_true, Bool.or_eq_true] at h
    rcases List.mem_cons.1 hi with rfl | hi
    · rcases h.1 with h1 | h1
      · exact .inl (zcc.1 h1)
      · split at h1
        · rename_i v hv; exact .inr ⟨v, hv, by simpa using h1⟩
        · cases h1
    · exact okSl_p h.2 i hi
structure OkJ (j : DJ) (x : Code) (ts : List DV) (pb : DBs) : Prop where
  wr : okWr ts.length x (wrOf 0 (maskOf (wrJ x ts) ts.length 0)) = true
  rs : rfSl pb ts (maskOf (wrJ x ts) ts.length 0) = true
  rb : rfBo pb (boN j.bo) 0 pb = true
  sl : okSl ts (writes x) j.sl = true
  ow : ownDS pb (dsS j.sl) = true
  ob : ownBo pb j.bo = true
  nd : nodupN (dsN j.sl) = true
  nb : nodupN (boN j.bo) = true
theorem okJ_p {j : DJ} {x : Code} {ts : List DV} {pb : DBs} (h : okJ j x ts pb = true) : OkJ j x ts pb := by
  simp only [okJ, Bool.and_eq_true] at h
  obtain ⟨⟨⟨⟨⟨⟨⟨h1, h2⟩, h3⟩, h4⟩, h5⟩, h6⟩, h7⟩, h8⟩ := h
  exact ⟨h1, h2, h3, h4, h5, h6, h7, h8⟩
theorem zkh : ∀ (pb : DBs) (i : Nat), (clrB pb)[i]? = (pb[i]?).map fun o => o.map fun b => ⟨b.ty, b.cells, false⟩
  | [], i => by simp [clrB]
  | some b :: ps, i => by cases i <;> simp [clrB, zkh]
  | none :: ps, i => by cases i <;> simp [clrB, zkh]
theorem zoy : ∀ (pb : DBs), bP (clrB pb) = bP pb
  | [] => rfl
  | some b :: ps => by simp only [clrB, bP, zoy ps]
  | none :: ps => by simp only [clrB, bP, zoy ps]
theorem orW_bP : ∀ (pb pb' : DBs), bP (orW pb pb') = bP pb'
  | pb, [] => by cases pb <;> rfl
  | [], o :: pb' => rfl
  | o :: ps, none :: pb' => by simp only [orW, bP, orW_bP ps pb']
  | o :: ps, some b :: pb' => by simp only [orW, bP, orW_bP ps pb']
theorem yij : ∀ (pb pb' : DBs) (i : Nat) (a b : DB), pb[i]? = some (some a) → pb'[i]? = some (some b) → (orW pb pb')[i]? = some (some ⟨b.ty, b.cells, b.w || a.w⟩)
  | [], pb', i, a, b, h, h' => by simp at h
  | o :: ps, [], i, a, b, h, h' => by simp at h'
  | o :: ps, o' :: pb', 0, a, b, h, h' => by simp at h h'; subst h; subst h'; rfl
  | o :: ps, none :: pb', i + 1, a, b, h, h' => by simpa [orW] using yij ps pb' i a b (by simpa using h) (by simpa using h')
  | o :: ps, some c :: pb', i + 1, a, b, h, h' => by simpa [orW] using yij ps pb' i a b (by simpa using h) (by simpa using h')
theorem Pres.orW {S : List Nat} {ts ts' : List DV} {pb pb' : DBs} (h : Pres S ts (clrB pb) ts' pb') : Pres S ts pb ts' (orW pb pb') := by
  refine ⟨h.len, h.sl, fun i b hb => ?_⟩
  obtain ⟨b', h1, h2, h3⟩ := h.bx i ⟨b.ty, b.cells, false⟩ (by rw [zkh, hb]; rfl)
  refine ⟨_, yij pb pb' i b b' hb h1, h2, fun hw => ?_⟩
  simp only [Bool.or_eq_false_iff] at hw
  exact ⟨hw.2, fun hn => (h3 hw.1).2 hn⟩
theorem badS_nr : ∀ {ts : List DV} {n i : Nat}, i ∈ badS n ts → ∃ v, n ≤ i ∧ ts[i - n]? = some v ∧ v.nr = false
  | [], n, i, h => by cases h
  | v :: vs, n, i, h => by
    have later : i ∈ badS (n + 1) vs → ∃ w, n ≤ i ∧ (v :: vs)[i - n]? = some w ∧ w.nr = false := by
      intro h
      obtain ⟨w, h1, h2, h3⟩ := badS_nr h
      refine ⟨w, by omega, ?_, h3⟩
      rw [show i - n = (i - (n + 1)) + 1 by omega]
      simpa using h2
    simp only [badS] at h
    split at h
    · exact later h
    · rename_i hb
      rcases List.mem_cons.1 h with rfl | h
      · exact ⟨v, Nat.le_refl _, by simp, hb⟩
      · exact later h
theorem ygs {j : DJ} {x : Code} {ts : List DV} {pb : DBs} {z : j.T.den} {ts1 : List DV} {pb1 : DBs} (hs : okSl ts (writes x) j.sl = true) (hn : nodupN (boN j.bo) = true) (hl : (boN j.bo).length = (j.cells z).length) (h : HeadF j x ts pb z ts1 pb1) : Pres (writes x) ts pb ts1 pb1 := by
  refine ⟨h.len, fun i v hv hi hr => ?_, fun i b hb => ?_⟩
  · have hm : i ∉ dsN j.sl := fun hm => by
      rcases okSl_p hs i hm with h1 | ⟨v', h1, h2⟩
      · exact hi h1
      · rw [hv] at h1; simp only [Option.some.injEq] at h1; subst h1; rw [hr] at h2; cases h2
    have hi' : i ∉ wrJ x ts := fun h => by
      rcases List.mem_append.1 h with h | h
      · exact hi h
      · obtain ⟨w, _, h1, h2⟩ := badS_nr h
        rw [Nat.sub_zero, hv] at h1
        simp only [Option.some.injEq] at h1; subst h1
        rw [hr] at h2; cases h2
    rw [h.keep i hm hi', hv]; simp [ztw v hr]
  · by_cases hm : i ∈ boN j.bo
    · obtain ⟨k, hk, hk'⟩ := List.mem_iff_getElem.1 hm
      have hc : k < (j.cells z).length := by rw [← hl]; exact hk
      obtain ⟨b', h1, h2⟩ := h.bat hn k i (j.cells z)[k] (by rw [List.getElem?_eq_getElem hk, hk']) (List.getElem?_eq_getElem hc)
      rw [hb] at h1; simp only [Option.some.injEq] at h1; subst h1
      exact ⟨_, h2, rfl, fun hw => by cases hw⟩
    · exact ⟨⟨b.ty, subDL norowD b.cells, b.w⟩, by rw [h.bkeep i hm, zfe, hb]; rfl, rfl, fun hw => ⟨hw, fun hn => zgh _ _ hn⟩⟩
theorem yef : ∀ {l : List Nat} {n : Nat} {pb pb' : DBs}, cleanB l n pb pb' = true → pb.length ≤ pb'.length ∧ ∀ (i : Nat) (b : DB), pb[i]? = some (some b) → ∃ b' : DB, pb'[i]? = some (some b') ∧ (n + i ∈ l ∨ b'.w = false)
  | l, n, [], pb', h => ⟨by simp, by simp⟩
  | l, n, none :: pb, [], h => by simp [cleanB] at h
  | l, n, none :: pb, o :: pb', h => by
    simp only [cleanB] at h
    obtain ⟨h1, h2⟩ := yef h
    refine ⟨by simpa using h1, fun i b hb => ?_⟩
    cases i with
    | zero => simp at hb
    | succ i => obtain ⟨b', h3, h4⟩ := h2 i b (by simpa using hb); exact ⟨b', by simpa using h3, by rwa [show n + (i + 1) = n + 1 + i by omega]⟩
  | l, n, some b :: pb, [], h => by simp [cleanB] at h
  | l, n, some b :: pb, none :: pb', h => by simp [cleanB] at h
  | l, n, some b :: pb, some b' :: pb', h => by
    simp only [cleanB, Bool.and_eq_true, Bool.or_eq_true, Bool.not_eq_true'] at h
    obtain ⟨h1, h2⟩ := yef h.2
    refine ⟨by simpa using h1, fun i b hb => ?_⟩
    cases i with
    | zero => exact ⟨b', rfl, h.1.2.imp (fun h => by simpa using zcc.1 h) id⟩
    | succ i => obtain ⟨b', h3, h4⟩ := h2 i b (by simpa using hb); exact ⟨b', by simpa using h3, by rwa [show n + (i + 1) = n + 1 + i by omega]⟩
theorem gtV_lt : ∀ {ts : List DV} {n : Nat} {v : DV}, gtV ts n = some v → n < ts.length → ts[n]? = some v
  | [], n, v, h, hl => by simp at hl
  | p :: ts, 0, v, h, hl => by
    simp only [gtV] at h
    cases p with
    | junk => cases h
    | x y => cases y <;> first | (cases h; done) | (simp only [Option.some.injEq] at h; subst h; rfl)
    | _ => simp only [Option.some.injEq] at h; subst h; rfl
  | p :: ts, n + 1, v, h, hl => by simpa using gtV_lt (ts := ts) (n := n) h (by simpa using hl)
theorem gtVs_p : ∀ {ns : List Nat} {ts vs : List DV}, gtVs ts ns = some vs → vs.length = ns.length ∧ ∀ (k n : Nat), ns[k]? = some n → ∃ v, vs[k]? = some v ∧ gtV ts n = some v
  | [], ts, vs, h => by simp only [gtVs, Option.some.injEq] at h; subst h; simp
  | n :: ns, ts, vs, h => by
    simp only [gtVs] at h
    split at h
    · rename_i v vs' h1 h2
      simp only [Option.some.injEq] at h; subst h
      obtain ⟨h3, h4⟩ := gtVs_p h2
      refine ⟨by simp [h3], fun k m hk => ?_⟩
      cases k with
      | zero => simp at hk; subst hk; exact ⟨v, rfl, h1⟩
      | succ k => simpa using h4 k m (by simpa using hk)
    · cases h
theorem smL_get {rw rws : List RS} {hpb : PBs} : ∀ {ps qs : List DV}, smL rw rws hpb (pL ps) (pL qs) → ps.length = qs.length ∧ ∀ (k : Nat) (p q : DV), ps[k]? = some p → qs[k]? = some q → smP rw rws hpb p.p q.p
  | [], [], _ => ⟨rfl, by simp⟩
  | [], q :: qs, h => h.elim
  | p :: ps, [], h => h.elim
  | p :: ps, q :: qs, h => by
    obtain ⟨h1, h2⟩ := smL_get h.2
    refine ⟨by simp [h1], fun k p' q' hp hq => ?_⟩
    cases k with
    | zero => simp at hp hq; subst hp; subst hq; exact h.1
    | succ k => exact h2 k p' q' (by simpa using hp) (by simpa using hq)
theorem rfSl_p {pb : DBs} : ∀ {ts : List DV} {bs : List Bool}, rfSl pb ts bs = true → ∀ (i : Nat) (v : DV), ts[i]? = some v → bs[i]? = some false → topJ v = true ∨ (v.nr = true ∧ v.rf pb = true)
  | [], bs, h, i, v, hv, hb => by simp at hv
  | t :: ts, [], h, i, v, hv, hb => by simp at hb
  | t :: ts, b :: bs, h, i, v, hv, hb => by
    simp only [rfSl, Bool.and_eq_true, Bool.or_eq_true] at h
    cases i with
    | zero => simp at hv hb; subst hv; subst hb; rcases h.1 with h1 | h1
              · cases h1
              · exact h1
    | succ i => exact rfSl_p h.2 i v (by simpa using hv) (by simpa using hb)
theorem rfBo_p {pb0 : DBs} {l : List Nat} : ∀ {n : Nat} {pb : DBs}, rfBo pb0 l n pb = true → ∀ (i : Nat) (b : DB), pb[i]? = some (some b) → n + i ∈ l ∨ (nrL b.cells = true ∧ rfL pb0 b.cells = true)
  | n, [], h, i, b, hb => by simp at hb
  | n, none :: pb, h, i, b, hb => by
    simp only [rfBo] at h
    cases i with
    | zero => simp at hb
    | succ i => rw [show n + (i + 1) = n + 1 + i by omega]; exact rfBo_p h i b (by simpa using hb)
  | n, some c :: pb, h, i, b, hb => by
    simp only [rfBo, Bool.and_eq_true, Bool.or_eq_true] at h
    cases i with
    | zero => simp at hb; subst hb; exact h.1.imp (fun h => by simpa using zcc.1 h) id
    | succ i => rw [show n + (i + 1) = n + 1 + i by omega]; exact rfBo_p h.2 i b (by simpa using hb)
theorem topJ_sub {v : DV} (h : topJ v = true) : v.sub norowD = .junk := by cases v <;> first | (cases h; done) | rfl
theorem outD_p {nl : Nat} {j : DJ} {x : Code} {ts0 : List DV} {pb0 pbh : DBs} {ts' : List DV} {pb' : DBs} {rw' : List DR} {k : j.T.den → Option β} (h : outD nl j pb0 ts' pb' rw' k = some r) (hok : OkJ j x ts0 pb0)
    (hp : Pres (writes x) ts0 (clrB pb0) ts' pb') (hpb : pbh = pb0 ∨ pbh = clrB pb0) : ∃ z, k z = some r ∧ ∀ {γ : Type} {r' : γ} {K : DK γ}, headD j x ts0 pbh z K = some r' → ∀ G : Prop, G →
      headP (pL ts0) (bP pb0) (maskOf (wrJ x ts0) ts0.length 0) (dsN j.sl) (pL (j.vals z)) (boN j.bo) ((j.cells z).map pL) fun hts hpb => enterP nl hts hpb (rP (j.rows z)) (pL ts') (bP pb') (rP rw') G := by
  unfold outD at h
  split at h
  · rename_i hcl
    obtain ⟨hle, hcl⟩ := yef hcl
    obtain ⟨ts2, pb2, rw2, _, h1, _, hP, hB, hF⟩ := frzE_b h
    rcases hv : gtVs ts2 (dsN j.sl) with _ | vs
    · rw [hv] at h1; cases h1
    rcases hr : roX j.ro rw2 with _ | y
    · rw [hv, hr] at h1; cases h1
    rw [hv, hr] at h1
    simp only at h1
    rcases hbo : boX j.ro pb2 rw2 j.bo (roT j.ro) y with _ | y2
    · rw [hbo] at h1; cases h1
    rw [hbo] at h1
    simp only at h1
    rcases hx : vsX j.ro rw2 (dsS j.sl) (boT j.bo (roT j.ro)) vs y2 with _ | z
    · rw [hx] at h1; cases h1
    rw [hx] at h1
    simp only at h1
    refine ⟨z, h1, fun {γ} {r'} {K} hh G g => ?_⟩
    obtain ⟨ts1, pb1, _, hd, hlen, hhead⟩ := yja hh
    have hbP : bP pbh = bP pb0 := by rcases hpb with rfl | rfl; · rfl
                                     · exact zoy _
    have hget : ∀ (i : Nat) (b : DB), pb0[i]? = some (some b) → ∃ w, pbh[i]? = some (some ⟨b.ty, b.cells, w⟩) := by
      intro i b hb
      rcases hpb with rfl | rfl
      · exact ⟨b.w, hb⟩
      · exact ⟨false, by rw [zkh, hb]; rfl⟩
    have hget' : ∀ (i : Nat) (b : DB), pbh[i]? = some (some b) → ∃ b0, pb0[i]? = some (some b0) ∧ b0.ty = b.ty ∧ b0.cells = b.cells := by
      intro i b hb
      rcases hpb with rfl | rfl
      · exact ⟨b, hb, rfl, rfl⟩
      · rw [zkh] at hb
        cases h0 : pb0[i]? with
        | none => rw [h0] at hb; cases hb
        | some o =>
          rw [h0] at hb
          cases o with
          | none => cases hb
          | some b0 => simp at hb; subst hb; exact ⟨b0, rfl, rfl, rfl⟩
    have hlenh : pbh.length = pb0.length := by have := congrArg List.length hbP; rwa [bP_len, bP_len] at this
    have hborn : ∀ (i : Nat), (dbV pb0 i).isSome = true → pbK (bP pb1) i fun _ => True := by
      intro i hi
      obtain ⟨b, hb⟩ := Option.isSome_iff_exists.1 hi
      obtain ⟨w, hw⟩ := hget i b (ztk hb)
      by_cases hm : i ∈ boN j.bo
      · obtain ⟨k, hk, hk'⟩ := List.mem_iff_getElem.1 hm
        have hc : k < (j.cells z).length := by rw [← hlen]; exact hk
        obtain ⟨b', h3, h4⟩ := hd.bat hok.nb k i (j.cells z)[k] (by rw [List.getElem?_eq_getElem hk, hk']) (List.getElem?_eq_getElem hc)
        exact dbV_p (yed h4) trivial
      · exact dbV_p (yed (by rw [hd.bkeep i hm, zfe, hw]; rfl)) trivial
    have hy : (vsV (dsS j.sl) (boT j.bo (roT j.ro)) z).2 = y2 ∧ smL (rP rw2) (rP (roV j.ro y)) (bP pb1) (pL vs) (pL (j.vals z)) := vsX_sm hr hborn hok.ow hx
    have hz1 : j.z1 z = y2 := hy.1
    have hb2 := boX_sm hr hborn hok.ob hbo
    have hz2 : j.z2 z = y := by unfold DJ.z2; rw [hz1]; exact hb2.1
    have hcells : j.cells z = (boV j.bo (roT j.ro) y2).1 := by unfold DJ.cells; rw [hz1]
    have hrows : j.rows z = roV j.ro y := by unfold DJ.rows; rw [hz2]
    obtain ⟨hvl, hvs⟩ := gtVs_p hv
    obtain ⟨hsl, hsg⟩ := smL_get hy.2
    have hwrl : ∀ i, i ∈ writes x → i < ts0.length := by
      intro i hi
      have h3 := hok.wr
      simp only [okWr, Bool.and_eq_true] at h3
      have h4 := h3.1.1
      have h5 := h3.1.2
      unfold subB at h4 h5
      rw [List.all_eq_true] at h4 h5
      have h6 := h5 i (by simpa using h4 i hi)
      simpa using h6
    have e := hhead (fun hts hpb => enterP nl hts hpb (rP (j.rows z)) (pL ts') (bP pb') (rP rw') G) (by
      refine ⟨deadL j.ro rw' 0, ?_⟩
      refine hF _ ?_
      refine ⟨by rw [hrows]; exact roX_rm hr, ?_, ?_, g⟩
      · -- slots
        rw [hrows]
        refine smS_of (by rw [pL_len, pL_len, hd.len, (hP []).len, hp.len]) fun i p q hpi hqi => ?_
        rw [pL_map, List.getElem?_map] at hpi hqi
        cases h2i : ts2[i]? with
        | none => rw [h2i] at hpi; cases hpi
        | some p' =>
          rw [h2i] at hpi; simp at hpi; subst hpi
          cases h1i : ts1[i]? with
          | none => rw [h1i] at hqi; cases hqi
          | some q' =>
            rw [h1i] at hqi; simp at hqi; subst hqi
            have hlt : i < ts0.length := by have := (List.getElem?_eq_some_iff.1 h1i).1; rw [hd.len] at this; exact this
            by_cases hm : i ∈ dsN j.sl
            · right
              obtain ⟨k, hk, hk'⟩ := List.mem_iff_getElem.1 hm
              have hk1 : (dsN j.sl)[k]? = some i := by rw [List.getElem?_eq_getElem hk, hk']
              obtain ⟨v, hv1, hv2⟩ := hvs k i hk1
              have hv3 := gtV_lt hv2 (by rw [(hP []).len, hp.len]; exact hlt)
              rw [h2i] at hv3; simp only [Option.some.injEq] at hv3; subst hv3
              have hc : k < (j.vals z).length := by rw [← hsl, hvl]; exact hk
              have h3 := hd.at_ hok.nd k i (j.vals z)[k] hk1 (List.getElem?_eq_getElem hc) hlt
              rw [h1i] at h3; simp only [Option.some.injEq] at h3; subst h3
              exact hsg k _ _ hv1 (List.getElem?_eq_getElem hc)
            · by_cases hw : i ∈ wrJ x ts0
              · left
                have h3 := hd.free i hm hw hlt
                rw [h1i] at h3; simp only [Option.some.injEq] at h3; subst h3; rfl
              · have h0 : ts0[i]? = some ts0[i] := List.getElem?_eq_getElem hlt
                have h3 := hd.keep i hm hw
                rw [h1i, h0] at h3
                simp only [Option.map_some, Option.some.injEq] at h3
                rcases rfSl_p hok.rs i ts0[i] h0 (by rw [zmz, if_pos hlt, Nat.zero_add]; cases hmm : memN i (wrJ x ts0) with | false => rfl | true => exact absurd (zcc.1 hmm) hw) with h4 | ⟨h4, h5⟩
                · left; rw [h3, topJ_sub h4]; rfl
                · right
                  rw [ztw _ h4] at h3
                  have h6 := (hP []).sl i ts0[i] (hp.sl i ts0[i] h0 (fun hm => hw (List.mem_append.2 (.inl hm))) h4) (by simp) h4
                  rw [h2i] at h6; simp only [Option.some.injEq] at h6
                  rw [h6, h3]
                  exact smP_rf hborn _ h4 h5
      · -- boxes
        rw [hrows]
        refine smB_of (by rw [bP_len, bP_len, hd.blen, hlenh, hB.len]; exact hle) fun i q hq => ?_
        rw [bP_map, List.getElem?_map] at hq
        cases h1i : pb1[i]? with
        | none => rw [h1i] at hq; cases hq
        | some o =>
          rw [h1i] at hq
          cases o with
          | none => cases hq
          | some b1 =>
            simp at hq; subst hq
            by_cases hm : i ∈ boN j.bo
            · obtain ⟨k, hk, hk'⟩ := List.mem_iff_getElem.1 hm
              have hc : k < (j.cells z).length := by rw [← hlen]; exact hk
              have hk1 : (boN j.bo)[k]? = some i := by rw [List.getElem?_eq_getElem hk, hk']
              obtain ⟨b', h3, h4⟩ := hd.bat hok.nb k i (j.cells z)[k] hk1 (List.getElem?_eq_getElem hc)
              rw [h1i] at h4; simp only [Option.some.injEq] at h4; subst h4
              obtain ⟨b2, h5, h6⟩ := hb2.2.2 k i (j.cells z)[k] hk1 (by rw [← hcells]; exact List.getElem?_eq_getElem hc)
              have h5' := ztk h5
              obtain ⟨b0, h7, h8, _⟩ := hget' i b' h3
              obtain ⟨b3, h9, h10, _⟩ := hp.bx i ⟨b0.ty, b0.cells, false⟩ (by rw [zkh, h7]; rfl)
              obtain ⟨b4, h11, h12, _⟩ := (hP []).bx i b3 h9
              rw [h5'] at h11; simp only [Option.some.injEq] at h11; subst h11
              refine ⟨_, by rw [bP_map, List.getElem?_map, h5']; rfl, ?_, h6⟩
              show b2.ty = b'.ty
              rw [h12, h10]; exact h8
            · have h3 := hd.bkeep i hm
              rw [h1i, zfe] at h3
              cases hh0 : pbh[i]? with
              | none => rw [hh0] at h3; cases h3
              | some o =>
                rw [hh0] at h3
                cases o with
                | none => cases h3
                | some bh =>
                  simp only [Option.map_some, Option.some.injEq] at h3; subst h3
                  obtain ⟨b0, h7, h8, h9⟩ := hget' i bh hh0
                  rcases rfBo_p hok.rb i b0 h7 with h10 | ⟨h10, h11⟩
                  · rw [Nat.zero_add] at h10; exact (hm h10).elim
                  · obtain ⟨b3, h12, h13⟩ := hcl i b0 h7
                    rcases h13 with h13 | h13
                    · rw [Nat.zero_add] at h13; exact (hm h13).elim
                    · obtain ⟨b4, h14, h15, h16⟩ := hp.bx i ⟨b0.ty, b0.cells, false⟩ (by rw [zkh, h7]; rfl)
                      rw [h12] at h14; simp only [Option.some.injEq] at h14; subst h14
                      have h17 := (h16 h13).2 h10
                      obtain ⟨b5, h18, h19, h20⟩ := hB.bx i b3 h12
                      have h21 := h20 (by rw [h17]; exact h10)
                      refine ⟨_, by rw [bP_map, List.getElem?_map, h18]; rfl, ?_, ?_⟩
                      · show b5.ty = bh.ty
                        rw [h19, h15]; exact h8
                      · show smL _ _ _ (pL b5.cells) (pL (subDL norowD bh.cells))
                        have e1 : b5.cells = b0.cells := by rw [h21, h17]
                        rw [e1, ← h9, zgh _ _ h10]
                        exact smL_rf hborn _ h10 h11)
    rw [hbP] at e
    exact e
  · cases h
theorem ylc (j : DJ) (z : j.T.den) : njL (pL (j.vals z)) := by
  have key : ∀ (l : List DS) (R : DT) (z : (vsT l R).den), njL (pL (vsV l R z).1) := by
    intro l
    induction l with
    | nil => intro R z; trivial
    | cons d l ih =>
      intro R z
      cases d with
      | t t => have := ih R z.2; cases t <;> exact this
      | row i => exact ih R z
      | ob i => exact ih R z
      | own i o => exact ih R z
      | nil => exact ih R z
  exact key _ _ _
end Go.Vc

namespace Go.Vc
open Go Go.RowKit
variable {β:Type} {r:β}
theorem zxk{X:Type}{f:X→(X→Option β)→Option β}:∀{n:Nat} {z:X},loopF n f z=some r→∃m,n=m+1∧f z (loopF m f)=some r
 |0,z,h=>by cases h
 |n+1,z,h=>⟨n,rfl,h⟩
theorem djV_mem{J:List (Nat×DJ)}{n:Nat}:(djV J n=none→memN n (J.map (·.1))=false)∧(∀j,djV J n=some j→memN n (J.map (·.1))=true):=by
 induction J with
 |nil=>exact⟨fun _=>rfl,fun j h=>by cases h⟩
 |cons a J ih=>
  obtain⟨k,j⟩:=a
  simp only[djV,List.map_cons,memN]
  by_cases hk:k=n
  ·subst hk; simp
  ·have h1:Nat.beq k n=false:=by cases hb:Nat.beq k n with|false=>rfl|true=>exact absurd (Nat.eq_of_beq_eq_true hb) hk
   have h2:Nat.beq n k=false:=by cases hb:Nat.beq n k with|false=>rfl|true=>exact absurd (Nat.eq_of_beq_eq_true hb).symm hk
   rw[h1,h2]; exact ih
section
variable {T:List TI} {C:ESs} {O:DTs} {JC JL:List (Nat×DJ)} {nl:Nat}
theorem djW_mem{J:List (Nat×DJ)}{n:Nat}{ts:List DV}{pb:DBs}:(djW J n ts pb=none→memN n (J.map (·.1))=false)∧(∀j,djW J n ts pb=some j→memN n (J.map (·.1))=true):=by
 unfold djW
 constructor
 ·intro h
  split at h
  ·rename_i h1; exact djV_mem.1 h1
  ·split at h<;>cases h
 ·intro j h
  split at h
  ·cases h
  ·rename_i j0 h1; exact djV_mem.2 j0 h1
theorem ev_pv:∀(c:Code) {Q:Exit→DK β} {Q':PQ} {ts:List DV} {pb:DBs} {rw:List DR},ev stdW T C O JC JL nl c Q ts pb rw=some r→
  (∀e ts' pb' rw',Q e ts' pb' rw'=some r→Pres (writes c) ts pb ts' pb'→Q' e (pL ts') (bP pb') (rP rw'))→
  pv T (lkOf T) (csP C) (trP O) (JC.map (·.1)) nl c Q' (pL ts) (bP pb) (rP rw):=by
 intro c
 induction c with
 |skip=>intro Q Q' ts pb rw h m; exact m _ _ _ _ h (Pres.refl _ _ _)
 |label _=>intro Q Q' ts pb rw h m; exact m _ _ _ _ h (Pres.refl _ _ _)
 |exit id=>intro Q Q' ts pb rw h m; exact m _ _ _ _ h (Pres.refl _ _ _)
 |ret=>intro Q Q' ts pb rw h m; exact m _ _ _ _ h (Pres.refl _ _ _)
 |seq x y ihx ihy=>
  intro Q Q' ts pb rw h m
  have hx:∀i∈writes x,i∈writes (.seq x y):=fun i hi=>by simp only[writes,List.mem_append]; exact .inl hi
  have hy:∀i∈writes y,i∈writes (.seq x y):=fun i hi=>by simp only[writes,List.mem_append]; exact .inr hi
  unfold ev at h
  unfold pv
  rcases hj:djW JC (zdr y) ts pb with _|j
  ·rw[hj]at h
   rw[djW_mem.1 hj]
   simp only at h ⊢
   refine ihx h fun e ts1 pb1 rw1 h1 hp=>?_
   cases e with
   |normal=>exact ihy h1 fun e ts2 pb2 rw2 h2 hp2=>m e ts2 pb2 rw2 h2 ((hp.mono hx).trans (hp2.mono hy))
   |exit i=>exact m _ _ _ _ h1 (hp.mono hx)
   |ret=>exact m _ _ _ _ h1 (hp.mono hx)
   |_=>cases h1
  ·rw[hj]at h
   rw[djW_mem.2 j hj]
   simp only at h ⊢
   split at h
   ·rename_i hok
    have hok:=okJ_p hok
    refine⟨maskOf (wrJ x ts) ts.length 0,j.T.den,dsN j.sl,fun z=>pL (j.vals z),boN j.bo,fun z=>(j.cells z).map pL,fun z=>rP (j.rows z),fun z=>headD j x ts pb z (fun ts1 pb1 rw1=>ev stdW T C O JC JL nl y Q ts1 pb1 rw1)=some r,by rw[pL_len]; exact hok.wr,fun z=>ylc j z,?_,fun z hz=>?_⟩
    ·replace h:ev stdW T C O JC JL nl x (fun e ts' pb' rw'=>match e with
      | .normal=>outD nl j pb ts' pb' rw' fun z=>headD j x ts pb z fun ts1 pb1 rw1=>ev stdW T C O JC JL nl y Q ts1 pb1 rw1
      | .exit i=>Q (.exit i) ts' (orW pb pb') rw'
      | .ret=>Q .ret ts' (orW pb pb') rw'
      |_=>none) ts (clrB pb) rw=some r:=h
     rw[←zoy pb]
     refine ihx h fun e ts1 pb1 rw1 h1 hp=>?_
     cases e with
     |normal=>
      obtain⟨z,hz,hh⟩:=outD_p (pbh:=pb) h1 hok hp (.inl rfl)
      refine⟨z,?_⟩
      rw[zoy]
      exact hh hz _ hz
     |exit i=>
      have:=m _ _ _ _ h1 (hp.orW.mono hx)
      rwa [orW_bP]at this
     |ret=>
      have:=m _ _ _ _ h1 (hp.orW.mono hx)
      rwa [orW_bP]at this
     |_=>cases h1
    ·obtain⟨ts1,pb1,h1,hd,hl,hh⟩:=yja hz
     exact hh _ (ihy h1 fun e ts2 pb2 rw2 h2 hp2=>m e ts2 pb2 rw2 h2 (((ygs hok.sl hok.nb hl hd).mono hx).trans (hp2.mono hy)))
   ·cases h
 |cond c x y ihx ihy=>
  intro Q Q' ts pb rw h m
  have hx:∀i∈writes x,i∈writes (.cond c x y):=fun i hi=>by simp only[writes,List.mem_append]; exact .inl hi
  have hy:∀i∈writes y,i∈writes (.cond c x y):=fun i hi=>by simp only[writes,List.mem_append]; exact .inr hi
  have gx:ev stdW T C O JC JL nl x Q ts pb rw=some r→pv T (lkOf T) (csP C) (trP O) (JC.map (·.1)) nl x Q' (pL ts) (bP pb) (rP rw):=fun h=>ihx h fun e ts1 pb1 rw1 h1 hp=>m _ _ _ _ h1 (hp.mono hx)
  have gy:ev stdW T C O JC JL nl y Q ts pb rw=some r→pv T (lkOf T) (csP C) (trP O) (JC.map (·.1)) nl y Q' (pL ts) (bP pb) (rP rw):=fun h=>ihy h fun e ts1 pb1 rw1 h1 hp=>m _ _ _ _ h1 (hp.mono hy)
  unfold ev at h
  unfold pv
  split at h
  ·rename_i hc; exact opV_p hc (gx h)
  ·rename_i hc; exact opV_p hc (gy h)
  ·rename_i b hc
   refine opV_p hc ?_
   simp only[DV.p]
   cases b
   ·exact⟨fun hb=>(by cases hb),fun _=>gy h⟩
   ·exact⟨fun _=>gx h,fun hb=>(by cases hb)⟩
  ·cases h
 |block id x ih=>
  intro Q Q' ts pb rw h m
  unfold ev at h
  unfold pv
  refine ih h fun e ts1 pb1 rw1 h1 hp=>?_
  cases e with
  |normal=>exact m _ _ _ _ h1 hp
  |exit i=>
   simp only at h1 ⊢
   split at h1
   ·rename_i hb; rw[hb]; exact m _ _ _ _ h1 hp
   ·rename_i hb; rw[hb]; exact m _ _ _ _ h1 hp
  |ret=>exact m _ _ _ _ h1 hp
  |_=>cases h1
 |scope x ih=>intro Q Q' ts pb rw h m; unfold ev at h; unfold pv; exact ih h m
 |region id ops draw=>
  intro Q Q' ts pb rw h m
  unfold ev at h
  unfold pv
  cases draw with
  |false=>exact zvo (fun o ho d hd=>by obtain⟨i,hi⟩:=List.mem_iff_getElem?.1 ho; exact zeq hi d hd) h fun ts' pb' rw' h1 hp=>m _ _ _ _ h1 hp
  |true=>exact drawD_p h fun ts' pb' rw' h1 hp=>m _ _ _ _ h1 hp
 |loop x ih=>
  intro Q Q' ts pb rw h m
  unfold ev at h
  unfold pv
  rcases hj:djW JL (zdr x) ts pb with _|j
  ·rw[hj]at h; cases h
  ·rw[hj]at h
   simp only at h
   split at h
   ·rename_i hok
    have hok:=okJ_p hok
    generalize hf:(fun (z:j.T.den) (again:j.T.den→Option β)=>headD j x ts (clrB pb) z fun ts1 pb1 rw1=>
     ev stdW T C O JC JL nl x (fun e ts' pb' rw'=>match e with
      | .normal=>outD nl j pb ts' pb' rw' again
      | .exit i=>Q (.exit i) ts' (orW pb pb') rw'
      | .ret=>Q .ret ts' (orW pb pb') rw'
      |_=>none) ts1 pb1 rw1)=f at h
    replace h:outD nl j pb ts (clrB pb) rw (loopF FU f)=some r:=h
    refine⟨maskOf (wrJ x ts) ts.length 0,j.T.den×Nat,dsN j.sl,fun z=>pL (j.vals z.1),boN j.bo,fun z=>(j.cells z.1).map pL,fun z=>rP (j.rows z.1),fun z=>loopF z.2 f z.1=some r,fun z=>z.2,by rw[pL_len]; exact hok.wr,fun z=>ylc j z.1,?_,fun z hz=>?_⟩
    ·generalize FU=fu at h
     obtain⟨z0,h1,h2⟩:=outD_p (pbh:=clrB pb) h hok (Pres.refl _ _ _) (.inr rfl)
     obtain⟨n,_,h3⟩:=zxk h1
     rw[←hf]at h3
     refine⟨(z0,fu),?_⟩
     have h4:=h2 h3 _ h1
     rw[zoy]at h4
     exact h4
    ·obtain⟨n,hn,h3⟩:=zxk hz
     have h3':=h3
     rw[←hf]at h3
     obtain⟨ts1,pb1,h4,hd,hl,hh⟩:=yja h3
     rw[zoy]at hh
     have hp0:=ygs hok.sl hok.nb hl hd
     refine hh _ (ih h4 fun e ts' pb' rw' h5 hp=>?_)
     cases e with
     |normal=>
      rw[hf]at h5
      obtain⟨z1,h6,h7⟩:=outD_p (pbh:=clrB pb) h5 hok (hp0.trans hp) (.inr rfl)
      obtain⟨n1,_,h8⟩:=zxk h6
      rw[←hf]at h8
      refine⟨(z1,n),?_⟩
      exact h7 h8 _ ⟨h6,by show n<z.2; omega⟩
     |exit i=>
      have:=m _ _ _ _ h5 (hp0.trans hp).orW
      rwa [orW_bP]at this
     |ret=>
      have:=m _ _ _ _ h5 (hp0.trans hp).orW
      rwa [orW_bP]at this
     |_=>cases h5
   ·cases h
 |_=>intro Q Q' ts pb rw h m; cases h
end
end Go.Vc
