import Derived.Test.YtllkmncnmlmefaaGreatB4
import Derived.Laws.Externs
import Derived.Lib.SliceRun
import Derived.Lib.SlicesDelete
import Derived.Lib.Overlaps
import Derived.Lib.AppendZerosOnto
import Derived.Laws.IdiomCopy
import Derived.Laws.NewBlocks
import Derived.Deep.RegionLaw
import Derived.Shelf.RegionOpenPlain
import Derived.WalkKit
namespace Go.Vc
open Go Go.RowKit
variable {β:Type} {r:β}
theorem zyg(t:DT)(x:t.den):flatR (t.encA x)∧∀vs,t.encA x≠.val (.tuple vs):=by
 cases t with
 |pair a b=>exact⟨ylq (enc_one (.pair a b) x),by intro vs h; cases h⟩
 |unit=>exact⟨ylq rfl,by intro vs h; cases h⟩
 |slc t=>exact⟨trivial,by intro vs h; cases h⟩
 |_=>exact⟨(by intro vs h; cases h),(by intro vs h; cases h)⟩
theorem yal:∀(P:DT) (x:P.den),flatL (encAs P x)
 | .pair a b,x=>⟨(zyg a x.1).1,yal b x.2⟩
 | .unit,_=>trivial
 | .int _,_=>trivial
 | .bool,_=>trivial
 | .str,_=>trivial
 | .slc _,_=>trivial
theorem ykv:∀(P:DT) (x:P.den) {K:List PV→Prop},K (pL (argVs P x))→r1pLK (encAs P x) K
 | .pair a b,x,K,k=>ycm a x.1 (ykv b x.2 k)
 | .unit,_,_,k=>k
 | .int _,_,_,k=>k
 | .bool,_,_,k=>k
 | .str,_,_,k=>k
 | .slc _,_,_,k=>k
theorem yiv:∀{xs:List DV} {n:Nat} {K:List DV→Option β},initE xs n K=some r→∃ts,K ts=some r∧∀K':List PV→Prop,K' (pL ts)→initP (pL xs) n K'
 |[],n,K,h=>by
  refine⟨_,h,fun K' k=>?_⟩
  have e:pL (List.replicate n (DV.x .und))=List.replicate n (.x .und):=by rw[pL_map,List.map_replicate]; rfl
  rw[e]at k
  exact k
 |x::xs,0,K,h=>by cases h
 |x::xs,n+1,K,h=>by
  simp only[initE]at h
  obtain⟨ts,h1,h2⟩:=yiv h
  exact⟨_,h1,fun K' k=>by simp only[pL,initP]; exact h2 _ k⟩
theorem resE_p{T:List TI}{ts:List DV}{pb:DBs}{rw:List DR}:∀{rs:List ResultVar} {K:List DV→Option β},resE stdW T rs ts pb rw K=some r→∃xs,K xs=some r∧∀K':List PV→Prop,K' (pL xs)→resP T rs (pL ts) (bP pb) (rP rw) K'
 |[],K,h=>⟨[],h,fun K' k=>k⟩
 | .tmp t::rs,K,h=>by
  simp only[resE]at h
  split at h
  ·rename_i x hx
   obtain⟨xs,h1,h2⟩:=resE_p h
   exact⟨_,h1,fun K' k=>gtV_p hx (h2 _ k)⟩
  ·cases h
 | .cell c t::rs,K,h=>by
  simp only[resE]at h
  split at h
  ·rename_i A hA
   obtain⟨v,h1,h2⟩:=ydl h
   obtain⟨xs,h3,h4⟩:=resE_p h1
   refine⟨_,h3,fun K' k=>?_⟩
   simp only[resP]
   exact gtV_p hA (h2 (fun x=>resP T rs (pL ts) (bP pb) (rP rw) fun xs=>K' (x::xs)) (h4 (fun xs=>K' (v.p::xs)) k))
  ·cases h
mutual
theorem zvi:(Q:QT)→(q:Q.den)→(p:DV)→(acc:List Nat)→frows (Q.q q) p.p acc=frowsT Q p acc
 | .v t,q,p,acc=>by simp only[QT.q,frows,frowsT,DV.p_rows]
 | .own e t,q,p,acc=>by simp only[QT.q,frows,frowsT]
 | .unit,q,p,acc=>by
  simp only[QT.q,frows,frowsT]
  cases p<;>simp only[DV.p,frowsL]
 | .pair a b,q,p,acc=>by
  simp only[QT.q,frows,frowsT]
  cases p with
  |tup ps=>
   cases ps with
   |nil=>simp only[DV.p,pL,frowsL]
   |cons p ps=>simp only[DV.p,pL,frowsL,zvi a q.1 p,ygw b q.2 ps]
  |_=>simp only[DV.p]
theorem ygw:(Q:QT)→(q:Q.den)→(ps:List DV)→(acc:List Nat)→frowsL (Q.qs q) (pL ps) acc=zox Q ps acc
 | .v t,q,ps,acc=>by simp only[QT.qs,frowsL,zox]
 | .own e t,q,ps,acc=>by simp only[QT.qs,frowsL,zox]
 | .unit,q,ps,acc=>by simp only[QT.qs,frowsL,zox]
 | .pair a b,q,ps,acc=>by
  simp only[QT.qs,zox]
  cases ps with
  |nil=>simp only[pL,frowsL]
  |cons p ps=>simp only[pL,frowsL,zvi a q.1 p,ygw b q.2 ps]
end
mutual
theorem qOf_p:(Q:QT)→{p:DV}→{rw:List DR}→{q:Q.den}→{rw':List DR}→qOf Q p rw=some (q,rw')→∀K:List RS→Prop,K (rP rw')→qOk (Q.q q) p.p (rP rw) K
 | .v t,p,rw,q,rw',h,K,k=>by
  simp only[qOf]at h
  split at h
  ·rename_i x hx
   simp only[Option.some.injEq,Prod.mk.injEq]at h
   obtain⟨rfl,rfl⟩:=h
   exact⟨(zqn hx).2.1,k⟩
  ·cases h
 | .own e t,p,rw,q,rw',h,K,k=>by
  simp only[qOf]at h
  split at h
  ·rename_i j
   split at h
   ·rename_i e' t' l hd
    split at h
    ·rename_i hc h1 h2
     subst hc
     simp only[Option.some.injEq,Prod.mk.injEq]at h
     obtain⟨rfl,rfl⟩:=h
     simp only[QT.q,DV.p,qOk]
     refine drV_p hd ⟨Nat.eq_of_beq_eq_true h1,rfl,rfl,?_⟩
     rw[zbv]
     have e4:(RS.dead)=DR.p .dead:=rfl
     rw[e4,←rP_set]; exact k
    ·cases h
   ·cases h
  ·simp only[Option.some.injEq,Prod.mk.injEq]at h
   obtain⟨rfl,rfl⟩:=h
   exact⟨trivial,rfl,k⟩
  ·cases h
 | .unit,p,rw,q,rw',h,K,k=>by
  simp only[qOf]at h
  split at h
  ·simp only[Option.some.injEq,Prod.mk.injEq]at h
   obtain⟨_,rfl⟩:=h
   exact k
  ·cases h
 | .pair a b,p,rw,q,rw',h,K,k=>by
  simp only[qOf]at h
  split at h
  ·rename_i p ps
   split at h
   ·rename_i x rw1 h1
    split at h
    ·rename_i y rw2 h2
     simp only[Option.some.injEq,Prod.mk.injEq]at h
     obtain⟨rfl,rfl⟩:=h
     simp only[QT.q,DV.p,pL,qOk,qOkL]
     exact qOf_p a h1 _ (qOfs_p b h2 K k)
    ·cases h
   ·cases h
  ·cases h
theorem qOfs_p:(Q:QT)→{ps:List DV}→{rw:List DR}→{q:Q.den}→{rw':List DR}→qOfs Q ps rw=some (q,rw')→∀K:List RS→Prop,K (rP rw')→qOkL (Q.qs q) (pL ps) (rP rw) K
 | .v t,ps,rw,q,rw',h,K,k=>by simp[qOfs]at h
 | .own e t,ps,rw,q,rw',h,K,k=>by simp[qOfs]at h
 | .unit,ps,rw,q,rw',h,K,k=>by
  simp only[qOfs]at h
  split at h
  ·simp only[Option.some.injEq,Prod.mk.injEq]at h
   obtain⟨_,rfl⟩:=h
   exact k
  ·cases h
 | .pair a b,ps,rw,q,rw',h,K,k=>by
  simp only[qOfs]at h
  split at h
  ·rename_i p ps
   split at h
   ·rename_i x rw1 h1
    split at h
    ·rename_i y rw2 h2
     simp only[Option.some.injEq,Prod.mk.injEq]at h
     obtain⟨rfl,rfl⟩:=h
     simp only[QT.qs,pL,qOkL]
     exact qOf_p a h1 _ (qOfs_p b h2 K k)
    ·cases h
   ·cases h
  ·cases h
end
structure ESok(P:Program)(g:FuncId)(s:ES):Prop where
 q:s.Q.ok=true
 ct:∀x q,s.fn x=some q→CtQ P g (encAs s.P x) (s.Q.q q)
def CK.cok:CK→Bool
 | .v t=>!t.agg
 | .row _ _=>true
def LQT.ok:LQT→Bool
 | .q Q=>Q.ok
 | .ptr _=>true
 | .obj B=>B.cells.all CK.cok
structure LSok(P:Program)(g:FuncId)(s:LS):Prop where
 q:s.Q.ok=true
 t:tysE s.B s.E=true
 c:(s.E.all fun B=>B.cells.all CK.cok)=true
 ct:∀z o,s.fn z=some o→CtL P g (laZ s.P s.B z) (bkZ s.P s.B z) (s.Q.lq o.1) (bkQ s.E .unit o.2)
def ECok(P:Program)(g:FuncId):EC→Prop
 | .es s=>ESok P g s
 | .ls s=>LSok P g s
 | .lb s=>LSok P g s
def ESsOk(P:Program):ESs→Prop
 |[]=>True
 |(g,s)::C=>ECok P g s∧ESsOk P C
theorem ydt(Q:QT)(h:Q.ok=true)(q:Q.den):flatQs (Q.q q):=by
 have one:∀(Q:QT),Q.cellOk=true→∀q,flatQ (Q.q q):=by
  intro Q hQ q
  cases Q with
  |v t=>exact zyg t q
  |own e t=>trivial
  |unit=>cases hQ
  |pair a b=>cases hQ
 have many:∀(Q:QT),Q.oks=true→∀q,∀x∈Q.qs q,flatQ x:=by
  intro Q
  induction Q with
  |pair a b iha ihb=>
   intro hQ q x hx
   simp only[QT.oks,Bool.and_eq_true]at hQ
   simp only[QT.qs]at hx
   rcases List.mem_cons.1 hx with rfl|hx
   ·exact one a hQ.1 _
   ·exact ihb hQ.2 _ x hx
  |_=>intro hQ q x hx; cases hx
 cases Q with
 |v t=>exact one (.v t) rfl q
 |own e t=>exact one (.own e t) rfl q
 |unit=>intro x hx; cases hx
 |pair a b=>
  have h1:(QT.pair a b).oks=true:=by simpa[QT.ok,QT.cellOk]using h
  intro x hx
  exact many (.pair a b) h1 q x hx
theorem cellQ_r{t:DT}(h:t.agg=false)(x:t.den):cellQ (.r (t.encA x)):=by
 cases t<;>first|(cases h; done)|rfl
theorem zrj:∀{l:List CK} {r:DT} {z:(ckT l r).den},l.all CK.cok=true→∀q∈ckQ l r z,cellQ q
 |[],r,z,h,q,hq=>by simp[ckQ]at hq
 | .v t::l,r,z,h,q,hq=>by
  simp only[List.all_cons,Bool.and_eq_true,CK.cok,Bool.not_eq_true']at h
  simp only[ckQ]at hq
  rcases List.mem_cons.1 hq with rfl|hq
  ·exact cellQ_r h.1 _
  ·exact zrj h.2 q hq
 | .row e t::l,r,z,h,q,hq=>by
  simp only[List.all_cons,Bool.and_eq_true]at h
  simp only[ckQ]at hq
  rcases List.mem_cons.1 hq with rfl|hq
  ·trivial
  ·exact zrj h.2 q hq
theorem zvx:∀{l:List BK} {r:DT} {z:(bkT l r).den},(l.all fun B=>B.cells.all CK.cok)=true→∀B∈bkQ l r z,∀q∈B.cells,cellQ q
 |[],r,z,h,B,hB=>by simp[bkQ]at hB
 |B0::l,r,z,h,B,hB=>by
  simp only[List.all_cons,Bool.and_eq_true]at h
  simp only[bkQ]at hB
  rcases List.mem_cons.1 hB with rfl|hB
  ·exact zrj (l:=B0.cells) (r:=bkT l r) (z:=z) h.1
  ·exact zvx h.2 B hB
theorem tysE_p:∀{l l':List BK},tysE l l'=true→l'.map (·.ty)=l.map (·.ty)
 |[],[],_=>rfl
 |[],_::_,h=>by cases h
 |_::_,[],h=>by cases h
 |B::l,E::l',h=>by
  simp only[tysE,Bool.and_eq_true]at h
  simp only[List.map_cons,tysE_p h.2,Nat.eq_of_beq_eq_true h.1]
theorem zpp{P:Program}:∀{C:ESs},ESsOk P C→zds P (C.map fun z=>(z.1,z.2.spec))
 |[],_=>trivial
 |(g,.es s)::C,h=>by
  have h1:ESok P g s:=h.1
  exact⟨ctS_ok (fun x hx=>h1.ct x.1 x.2 hx) (fun x=>ydt s.Q h1.q x.2),zpp h.2⟩
 |(g,.ls s)::C,h=>by
  have h1:LSok P g s:=h.1
  refine⟨yli (fun x hx=>h1.ct x.1 x.2 hx) (fun x=>by rw[bkZ,bkQ_ty,bkQ_ty]; exact tysE_p h1.t) (fun x=>zvx h1.c) (fun x q hq=>?_) (fun x B hB=>?_),zpp h.2⟩
  ·have h2:=h1.q
   have h3:∀(Q':LQT) (y:Q'.den),Q'.lq y=.q q→Q'.ok=true→flatQs q:=by
    intro Q' y hy ho
    cases Q' with
    |q Q=>simp only[LQT.lq,LQ.q.injEq]at hy; subst hy; exact ydt Q ho y
    |ptr k=>cases hy
    |obj B=>cases hy
   exact h3 s.Q x.2.1 hq h2
  ·have h2:=h1.q
   have h3:∀(Q':LQT) (y:Q'.den),Q'.lq y=.obj B→Q'.ok=true→∀q∈B.cells,cellQ q:=by
    intro Q' y hy ho
    cases Q' with
    |q Q=>cases hy
    |ptr k=>cases hy
    |obj B'=>simp only[LQT.lq,LQ.obj.injEq]at hy; subst hy; exact zrj ho
   exact h3 s.Q x.2.1 hB h2
 |(g,.lb s)::C,h=>by
  have h1:LSok P g s:=h.1
  refine⟨yli (fun x hx=>h1.ct x.1 x.2 hx) (fun x=>by rw[bkZ,bkQ_ty,bkQ_ty]; exact tysE_p h1.t) (fun x=>zvx h1.c) (fun x q hq=>?_) (fun x B hB=>?_),zpp h.2⟩
  ·have h2:=h1.q
   have h3:∀(Q':LQT) (y:Q'.den),Q'.lq y=.q q→Q'.ok=true→flatQs q:=by
    intro Q' y hy ho
    cases Q' with
    |q Q=>simp only[LQT.lq,LQ.q.injEq]at hy; subst hy; exact ydt Q ho y
    |ptr k=>cases hy
    |obj B=>cases hy
   exact h3 s.Q x.2.1 hq h2
  ·have h2:=h1.q
   have h3:∀(Q':LQT) (y:Q'.den),Q'.lq y=.obj B→Q'.ok=true→∀q∈B.cells,cellQ q:=by
    intro Q' y hy ho
    cases Q' with
    |q Q=>cases hy
    |ptr k=>cases hy
    |obj B'=>simp only[LQT.lq,LQ.obj.injEq]at hy; subst hy; exact zrj ho
   exact h3 s.Q x.2.1 hB h2
theorem yka{P:Program}{C:ESs}(h:ESsOk P C):zds P (csP C):=by
 have app:∀{A B:Specs},zds P A→zds P B→zds P (A++B):=by
  intro A B
  induction A with
  |nil=>exact fun _ h=>h
  |cons a A ih=>exact fun h h'=>⟨h.1,ih h.2 h'⟩
 refine app (zpp h) ?_
 induction keysE C with
 |nil=>trivial
 |cons n l ih=>exact⟨fun _ _ _ _ _ h=>h.elim,ih⟩
theorem evF_ct{P:Program}{T:List TI}{C:ESs}{O:DTs}{JC JL:List (Nat×DJ)}(hT:zba P T)(hC:ESsOk P C)(hm:P.follows .mixedOrders=true){f:FuncId}{fn:Func}{c:Code}
  (hf:P.funcs[f]?=some fn) (hb:fn.body=some c) (hn:(fn.name== "runtime.NumGoroutine")=false) (hl:zcx (cuts (JC.map (·.1))) c=true) {A:DT} {Q:QT} {x:A.den} {q:Q.den}
  (h:lenL (encAs A x)→evF stdW T C O JC JL fn A Q x=some q):CtQ P f (encAs A x) (Q.q q):=by
 refine ctq_start (LK:=lkOf T) (C:=csP C) (O:=trP O) (JC.map (·.1)) hT (yka hC) hm hf hb hn hl (yal A x) fun hlen=>?_
 have h:=h hlen
 unfold evF at h
 rw[hb]at h
 obtain⟨ts,h1,h2⟩:=yiv h
 refine ykv A x (h2 _ ?_)
 have e:([]:PBs)=bP []:=rfl
 have e':([]:List RS)=rP []:=rfl
 rw[e,e']
 have fin:∀{ts pb rw xs},(frzE 0 (frowsT Q (oneV xs) []) ts pb rw [oneV xs] fun _ _ rw ps=>match ps with
   |[p]=>match qOf Q p rw with|some (q,_)=>some q|none=>none
   |_=>none)=some q→endP 0 (Q.q q) (oneP' (pL xs)) (pL ts) (bP pb) (rP rw):=by
  intro ts pb rw xs h
  have e1:oneP' (pL xs)=(oneV xs).p:=by
   cases xs with
   |nil=>rfl
   |cons x xs=>cases xs<;>rfl
  rw[e1]
  obtain⟨ts1,pb1,rw1,ps,h3,h4,_,h5⟩:=frzE_p h
  unfold endP
  rw[zvi]
  refine h5 _ ?_
  split at h3
  ·rename_i p
   split at h3
   ·rename_i q' rw2 hq
    simp only[Option.some.injEq]at h3; subst h3
    exact qOf_p Q hq _ trivial
   ·cases h3
  ·cases h3
 refine ev_pv c h1 fun e ts1 pb1 rw1 h3 _=>?_
 cases e with
 |normal=>
  simp only[retD]at h3
  obtain⟨xs,h4,h5⟩:=resE_p h3
  exact h5 _ (fin h4)
 |ret=>
  simp only[retD]at h3
  obtain⟨xs,h4,h5⟩:=resE_p h3
  exact h5 _ (fin h4)
 |_=>cases h3
end Go.Vc

namespace Go.Vc
open Go Go.RowKit
variable {β:Type} {r:β}
def pkVs:(l:List PK)→(r:DT)→(pkT l r).den→Nat→List DV→List DV
 |[],_,_,_,_=>[]
 | .v t::l,r,z,n,vs=>t.val z.1::pkVs l r z.2 n vs
 | .ptr::l,r,z,n,vs=>.own n 0::pkVs l r z (n+1) vs
 | .fn g k::l,r,z,n,vs=>.fn g ((List.range' n k).map fun i=>.own i 0)::pkVs l r z (n+k) vs
 | .row _ _::l,r,z,n,vs=>match vs with|v::vs=>v::pkVs l r z n vs|[]=>.junk::pkVs l r z n []
def bkS:(l:List BK)→(r:DT)→(bkT l r).den→DBs→List DR→(DBs→List DR→Option β)→Option β
 |[],_,_,pb,rw,K=>K pb rw
 |B::l,r,z,pb,rw,K=>ckS B.cells (bkT l r) z rw fun vs y rw=>pushE pb (some ⟨B.ty,vs,true⟩) fun pb=>bkS l r y pb rw K
def frowsC:List CK→List DV→List Nat→List Nat
 |[],_,acc=>acc
 | .v _::l,ps,acc=>match ps with|p::ps=>p.rows (frowsC l ps acc)|[]=>acc
 | .row _ _::l,ps,acc=>match ps with|_::ps=>frowsC l ps acc|[]=>acc
def frowsB:List BK→List DV→List Nat→List Nat
 |[],_,acc=>acc
 |B::l,ps,acc=>match ps with
  |p::ps=>match p with | .agg cs=>frowsC B.cells cs (frowsB l ps acc)|_=>frowsB l ps acc
  |[]=>acc
def lendV:List BK→Nat→DBs→Option (List DV)
 |[],_,_=>some []
 |B::l,n,pb=>match dbV pb n with
  |some b=>match Nat.beq b.ty B.ty,lendV l (n+1) pb with|true,some vs=>some (.agg b.cells::vs)|_,_=>none
  |none=>none
def endLV(Q:LQT)(l:List BK)(p:DV)(ts:List DV)(pb:DBs)(rw:List DR):Option (Q.den×(bkT l .unit).den):=
 match lendV l 0 pb with
 |some ps=>match Q with
  | .q Q=>frzE 0 (frowsT Q p (frowsB l ps [])) ts pb rw [.tup (p::ps)] fun _ _ rw qs=>match qs with
   |[.tup (p::ps)]=>match qOf Q p rw with
    |some (q,rw)=>match bkX l .unit ps rw (fun rw=>some ((),rw)) with|some (z,_)=>some (q,z)|none=>none
    |none=>none
   |_=>none
  | .ptr i=>match p with
   | .own i' 0=>match Nat.beq i' i,Nat.blt i l.length with
    |true,true=>frzE 0 (frowsB l ps []) ts pb rw [.tup ps] fun _ _ rw qs=>match qs with
     |[.tup ps]=>match bkX l .unit ps rw (fun rw=>some ((),rw)) with|some (z,_)=>some ((),z)|none=>none
     |_=>none
    |_,_=>none
   |_=>none
  | .obj B=>match p with
   | .own i 0=>match Nat.ble l.length i,dbV pb i with
    |true,some b=>match Nat.beq b.ty B.ty with
     |true=>frzE 0 (frowsC B.cells b.cells (frowsB l ps [])) ts pb rw [.tup (.agg b.cells::ps)] fun _ _ rw qs=>match qs with
      |[.tup (.agg cs::ps)]=>match ckX B.cells .unit cs rw (fun rw=>some ((),rw)) with
       |some (x,rw)=>match bkX l .unit ps rw (fun rw=>some ((),rw)) with|some (z,_)=>some (x,z)|none=>none
       |none=>none
      |_=>none
     |false=>none
    |_,_=>none
   |_=>none
 |none=>none
def retDL(W:Wd)(T:List TI)(rs:List ResultVar)(Q:LQT)(l:List BK)(e:Exit)(ts:List DV)(pb:DBs)(rw:List DR):Option (Q.den×(bkT l .unit).den):=
 match e with
 | .normal=>resE W T rs ts pb rw fun xs=>endLV Q l (oneV xs) ts pb rw
 | .ret=>resE W T rs ts pb rw fun xs=>endLV Q l (oneV xs) ts pb rw
 |_=>none
def evFL(W:Wd)(T:List TI)(C:ESs)(O:DTs)(JC JL:List (Nat×DJ))(fn:Func)(P:List PK)(B E:List BK)(Q:LQT)(z:(pkT P (inT P B)).den):Option (Q.den×(bkT E .unit).den):=
 match fn.body with
 |some c=>bkS B (ckT (rowC P) .unit) (pkR P (inT P B) z) [] [] fun pb rw=>ckS (rowC P) .unit (bkR B (ckT (rowC P) .unit) (pkR P (inT P B) z)) rw fun vs _ rw=>
   initE (pkVs P (inT P B) z 0 vs) fn.ntmps fun ts=>ev W T C O JC JL 0 c (retDL W T fn.results.toList Q E) ts pb rw
 |none=>none
theorem bkS_p:∀{l:List BK} {r:DT} {z:(bkT l r).den} {pb:DBs} {rw:List DR} {K:DBs→List DR→Option β} {b:β},bkS l r z pb rw K=some b→
  ∃pb' rw',K pb' rw'=some b∧∀K':PBs→List RS→Prop,K' (bP pb') (rP rw')→lbK (bkQ l r z) (bP pb) (rP rw) K'
 |[],r,z,pb,rw,K,b,h=>⟨pb,rw,h,fun K' k=>k⟩
 |B::l,r,z,pb,rw,K,b,h=>by
  replace h:(ckS B.cells (bkT l r) z rw fun vs y rw=>pushE pb (some ⟨B.ty,vs,true⟩) fun pb=>bkS l r y pb rw K)=some b:=h
  obtain⟨vs,rw1,g1,g2⟩:=ckS_p h
  rw[zdy]at g1
  obtain⟨pb2,rw2,g3,g4⟩:=bkS_p g1
  refine⟨pb2,rw2,g3,fun K' k=>?_⟩
  simp only[bkQ,lbK]
  refine g2 _ ?_
  rw[zbn]
  have:=g4 K' k
  rw[bP_app]at this
  exact this
theorem laK_p{β:Type}:∀{l:List PK} {r:DT} {z:(pkT l r).den} {n:Nat} {d:(ckT (rowC l) .unit).den} {rw:List DR} {K:List DV→Unit→List DR→Option β} {b:β},ckS (rowC l) .unit d rw K=some b→
  ∃vs rw',K vs () rw'=some b∧∀K':List PV→List RS→Prop,K' (pL (pkVs l r z n vs)) (rP rw')→laK (laP l r z n d) (rP rw) K'
 |[],r,z,n,d,rw,K,b,h=>⟨[],rw,h,fun K' k=>k⟩
 | .v t::l,r,z,n,d,rw,K,b,h=>by
  obtain⟨vs,rw',h1,h2⟩:=laK_p (l:=l) (r:=r) (z:=z.2) (n:=n) (d:=d) h
  refine⟨vs,rw',h1,fun K' k=>?_⟩
  simp only[laP,laK]
  exact ycm t z.1 (h2 _ k)
 | .ptr::l,r,z,n,d,rw,K,b,h=>by
  obtain⟨vs,rw',h1,h2⟩:=laK_p (l:=l) (r:=r) (z:=z) (n:=n+1) (d:=d) h
  refine⟨vs,rw',h1,fun K' k=>?_⟩
  simp only[laP,laK]
  exact h2 _ k
 | .fn g m::l,r,z,n,d,rw,K,b,h=>by
  obtain⟨vs,rw',h1,h2⟩:=laK_p (l:=l) (r:=r) (z:=z) (n:=n+m) (d:=d) h
  refine⟨vs,rw',h1,fun K' k=>?_⟩
  simp only[laP,laK]
  refine h2 _ ?_
  have e:(DV.fn g ((List.range' n m).map fun i=>.own i 0)).p=PV.fn g ((List.range' n m).map fun i=>.own i 0):=by
   simp only[DV.p,pL_map,List.map_map]; rfl
  rw[←e]; exact k
 | .row e t::l,r,z,n,d,rw,K,b,h=>by
  replace h:(pushE rw (.own e t d.1) fun rw'=>litE rw.length fun n=>ckS (rowC l) .unit d.2 rw' fun vs y rw=>K (.row n::vs) y rw)=some b:=h
  rw[zdy,zfp]at h
  obtain⟨vs,rw',h1,h2⟩:=laK_p (l:=l) (r:=r) (z:=z) (n:=n) (d:=d.2) h
  refine⟨.row rw.length::vs,rw',h1,fun K' k=>?_⟩
  simp only[laP,laK,q0K]
  rw[zbn,zby,rP_len]
  have:=h2 (fun ps rw2=>K' (.row rw.length::ps) rw2) k
  rw[rP_app]at this
  exact this
theorem zqz:∀{l:List PK} {r:DT} {z:(pkT l r).den} {n:Nat} {d:(ckT (rowC l) .unit).den},flatLA (laP l r z n d)
 |[],_,_,_,_=>trivial
 | .v t::l,r,z,n,d=>⟨(zyg t z.1).1,zqz (l:=l) (r:=r) (z:=z.2) (n:=n) (d:=d)⟩
 | .ptr::l,r,z,n,d=>zqz (l:=l) (r:=r) (z:=z) (n:=n+1) (d:=d)
 | .fn g m::l,r,z,n,d=>zqz (l:=l) (r:=r) (z:=z) (n:=n+m) (d:=d)
 | .row e t::l,r,z,n,d=>zqz (l:=l) (r:=r) (z:=z) (n:=n) (d:=d.2)
theorem zvj:∀{l:List CK} {r:DT} {z:(ckT l r).den} {ps:List DV} {acc:List Nat},frowsL (ckQ l r z) (pL ps) acc=frowsC l ps acc
 |[],r,z,ps,acc=>by cases ps<;>rfl
 | .v t::l,r,z,ps,acc=>by
  cases ps with
  |nil=>rfl
  |cons p ps=>
   simp only[ckQ,pL,frowsL,frows,frowsC,DV.p_rows]
   rw[zvj (l:=l) (r:=r) (z:=z.2)]
 | .row e t::l,r,z,ps,acc=>by
  cases ps with
  |nil=>rfl
  |cons p ps=>
   simp only[ckQ,pL,frowsL,frows,frowsC]
   exact zvj (l:=l) (r:=r) (z:=z.2)
theorem zvk:∀{l:List BK} {r:DT} {z:(bkT l r).den} {ps:List DV} {acc:List Nat},frowsL (aggQ (bkQ l r z)) (pL ps) acc=frowsB l ps acc
 |[],r,z,ps,acc=>by cases ps<;>rfl
 |B::l,r,z,ps,acc=>by
  cases ps with
  |nil=>rfl
  |cons p ps=>
   simp only[bkQ,aggQ,pL,frowsL,frows,frowsB]
   rw[zvk (l:=l) (r:=r)]
   cases p<;>first|exact zvj|rfl
theorem lendV_p:∀{l:List BK} {n:Nat} {pb:DBs} {olds:List DV} {Bs:List LB} {K:List PV→Prop},lendV l n pb=some olds→Bs.map (·.ty)=l.map (·.ty)→K (pL olds)→lendK Bs n (bP pb) K
 |[],n,pb,olds,Bs,K,h,ht,k=>by
  cases Bs with
  |cons _ _=>simp at ht
  |nil=>simp only[lendV,Option.some.injEq]at h; subst h; exact k
 |B::l,n,pb,olds,Bs,K,h,ht,k=>by
  cases Bs with
  |nil=>simp at ht
  |cons B' Bs=>
   simp only[lendV]at h
   split at h
   ·rename_i b hb
    split at h
    ·rename_i vs h1 h2
     simp only[Option.some.injEq]at h; subst h
     simp only[List.map_cons,List.cons.injEq]at ht
     simp only[lendK]
     exact dbV_p hb ⟨(Nat.eq_of_beq_eq_true h1).trans ht.1.symm,lendV_p h2 ht.2 k⟩
    ·cases h
   ·cases h
theorem endLV_p:∀{Q:LQT} {l:List BK} {p:DV} {ts:List DV} {pb:DBs} {rw:List DR} {o:Q.den×(bkT l .unit).den},endLV Q l p ts pb rw=some o→endL (Q.lq o.1) (bkQ l .unit o.2) p.p (pL ts) (bP pb) (rP rw):=by
 intro Q l p ts pb rw o h
 unfold endLV at h
 split at h
 ·rename_i ps hps
  refine lendV_p hps (bkQ_ty l .unit o.2) ?_
  cases Q with
  |q Q=>
   simp only at h
   obtain⟨ts1,pb1,rw1,qs,h3,h4,_,h5⟩:=frzE_p h
   simp only[LQT.lq]
   unfold endP
   have e1:frows (.tup (Q.q o.1::aggQ (bkQ l .unit o.2))) (.tup (p.p::pL ps)) []=frowsT Q p (frowsB l ps []):=by
    simp only[frows,frowsL]
    rw[zvk,zvi]
   have e2:PV.tup (p.p::pL ps)=(DV.tup (p::ps)).p:=rfl
   rw[e1,e2]
   refine h5 _ ?_
   split at h3
   ·rename_i p' ps'
    split at h3
    ·rename_i q' rw2 hq
     split at h3
     ·rename_i z rw3 hz
      simp only[Option.some.injEq]at h3; subst h3
      obtain⟨rw4,y,k1,k2,k3⟩:=bkX_p hz
      simp only[pL,DV.p,qOk,qOkL]
      exact qOf_p Q hq _ (k3 _ trivial)
     ·cases h3
    ·cases h3
   ·cases h3
  |ptr i=>
   simp only at h
   split at h
   ·rename_i i'
    split at h
    ·rename_i h1 h2
     obtain⟨ts1,pb1,rw1,qs,h3,h4,_,h5⟩:=frzE_p h
     simp only[LQT.lq,DV.p]
     have:=Nat.eq_of_beq_eq_true h1
     subst this
     refine⟨rfl,?_,?_⟩
     ·have e:=congrArg List.length (bkQ_ty l .unit o.2)
      simp only[List.length_map]at e
      rw[e]
      simp only[Nat.blt,Nat.ble_eq]at h2; omega
     ·unfold endP
      have e1:frows (.tup (aggQ (bkQ l .unit o.2))) (.tup (pL ps)) []=frowsB l ps []:=by
       simp only[frows]
       rw[zvk]
      have e2:PV.tup (pL ps)=(DV.tup ps).p:=rfl
      rw[e1,e2]
      refine h5 _ ?_
      split at h3
      ·rename_i ps'
       split at h3
       ·rename_i z rw3 hz
        simp only[Option.some.injEq]at h3; subst h3
        obtain⟨rw4,y,k1,k2,k3⟩:=bkX_p hz
        simp only[pL,DV.p,qOk]
        exact k3 _ trivial
       ·cases h3
      ·cases h3
    ·cases h
   ·cases h
  |obj B=>
   simp only at h
   split at h
   ·rename_i i
    split at h
    ·rename_i b h1 hb
     split at h
     ·rename_i hty
      obtain⟨ts1,pb1,rw1,qs,h3,h4,_,h5⟩:=frzE_p h
      simp only[LQT.lq,DV.p]
      have hlen:(bkQ l .unit o.2).length=l.length:=by
       have e:=congrArg List.length (bkQ_ty l .unit o.2)
       simpa only[List.length_map]using e
      refine⟨trivial,by rw[hlen]; simpa using h1,dbV_p hb ⟨Nat.eq_of_beq_eq_true hty,?_⟩⟩
      unfold endP
      have e1:frows (.tup (.agg (ckQ B.cells .unit o.1)::aggQ (bkQ l .unit o.2))) (.tup (.agg (pL b.cells)::pL ps)) []=frowsC B.cells b.cells (frowsB l ps []):=by
       simp only[frows,frowsL]
       rw[zvk,zvj]
      have e2:PV.tup (.agg (pL b.cells)::pL ps)=(DV.tup (.agg b.cells::ps)).p:=rfl
      rw[e1,e2]
      refine h5 _ ?_
      split at h3
      ·rename_i cs ps'
       split at h3
       ·rename_i x rw2 hx
        split at h3
        ·rename_i z rw3 hz
         simp only[Option.some.injEq]at h3; subst h3
         obtain⟨rw2',y0,hy0,_,k0⟩:=ckX_p hx
         have hy0:=Option.some.inj hy0
         injection hy0 with _ hy0; subst hy0
         obtain⟨rw4,y,k1,k2,k3⟩:=bkX_p hz
         simp only[pL,DV.p,qOk,qOkL]
         exact k0 _ (k3 _ trivial)
        ·cases h3
       ·cases h3
      ·cases h3
     ·cases h
    ·cases h
   ·cases h
 ·cases h
theorem evFL_ct{P:Program}{T:List TI}{C:ESs}{O:DTs}{JC JL:List (Nat×DJ)}(hT:zba P T)(hC:ESsOk P C)(hm:P.follows .mixedOrders=true){f:FuncId}{fn:Func}{c:Code}
  (hf:P.funcs[f]?=some fn) (hb:fn.body=some c) (hn:(fn.name== "runtime.NumGoroutine")=false) (hl:zcx (cuts (JC.map (·.1))) c=true) {A:List PK} {B E:List BK} {Q:LQT} (hBE:tysE B E=true) (hB:(B.all fun B=>B.cells.all CK.cok)=true) {z:(pkT A (inT A B)).den} {o:Q.den×(bkT E .unit).den}
  (h:evFL stdW T C O JC JL fn A B E Q z=some o):CtL P f (laZ A B z) (bkZ A B z) (Q.lq o.1) (bkQ E .unit o.2):=by
 have hlen:(bkQ E .unit o.2).length=(bkZ A B z).length:=by
  have e:=congrArg List.length (bkQ_ty E .unit o.2)
  have e2:=congrArg List.length (tysE_p hBE)
  have e':((bkZ A B z).map (·.ty)).length=(B.map (·.ty)).length:=congrArg List.length (bkQ_ty B (ckT (rowC A) .unit) (pkR A (inT A B) z))
  simp only[List.length_map]at e e' e2
  rw[e,e',e2]
 refine ctl_start (LK:=lkOf T) (C:=csP C) (O:=trP O) (JC.map (·.1)) hT (yka hC) hm hf hb hn hl zqz (zvx hB) hlen ?_
 unfold evFL at h
 rw[hb]at h
 simp only at h
 obtain⟨pb1,rw1,h1,h2⟩:=bkS_p h
 obtain⟨vs,rw2,h1,h2'⟩:=laK_p (r:=inT A B) (z:=z) (n:=0) h1
 obtain⟨ts,h3,h4⟩:=yiv h1
 have e:([]:PBs)=bP []:=rfl
 have e':([]:List RS)=rP []:=rfl
 rw[e,e']
 refine h2 _ (h2' _ (h4 _ ?_))
 have e1:∀xs,oneP' (pL xs)=(oneV xs).p:=by
  intro xs
  cases xs with
  |nil=>rfl
  |cons x xs=>cases xs<;>rfl
 refine ev_pv c h3 fun e ts1 pb1 rw1 h5 _=>?_
 cases e with
 |normal=>
  simp only[retDL]at h5
  obtain⟨xs,h6,h7⟩:=resE_p h5
  exact h7 _ (by rw[e1]; exact endLV_p h6)
 |ret=>
  simp only[retDL]at h5
  obtain⟨xs,h6,h7⟩:=resE_p h5
  exact h7 _ (by rw[e1]; exact endLV_p h6)
 |_=>cases h5
end Go.Vc

namespace Go.Proofs.YtllkmncnmlmefaaGreat
open Go Go.Vc Go.RowKit
theorem mixedP:Tryz.prog.follows .mixedOrders=true:=by decide +kernel
def oN(l:List Nat):OT:=ofL (l.map fun n=>(n / 2,n % 2==1))
theorem cn:ESsOk Tryz.prog []:=trivial
theorem cc{n:Nat}{s:EC}{C:ESs}(h:ECok Tryz.prog n s)(k:ESsOk Tryz.prog C):ESsOk Tryz.prog ((n,s)::C):=⟨h,k⟩
theorem cb{n:Nat}{s:LS}{C:ESs}(h:ECok Tryz.prog n (.ls s))(k:ESsOk Tryz.prog C):ESsOk Tryz.prog ((n,.lb s)::C):=⟨h,k⟩
theorem es_z{f:FuncId}{fn:Func}{s:ES}(F:Wd→s.P.den→Option s.Q.den){C:ESs}(hC:ESsOk Tryz.prog C)(O:DTs)(JC JL:List (Nat×DJ))(hf:Tryz.prog.funcs[f]?=some fn)
  (hF:F stdW=s.fn:=by rfl) (hb:fn.body.isSome=true:=by rfl) (hn:(fn.name== "runtime.NumGoroutine")=false:=by decide +kernel) (hl:zcx (cuts (JC.map (·.1))) (fn.body.get hb)=true:=by rfl) (hq:s.Q.ok=true:=by rfl)
  (h:∀W x,evF W tab C O JC JL fn s.P s.Q x=F W x:=by intro W x; kernel_rfl):ECok Tryz.prog f (.es s):=
 ⟨hq,fun x _ hx=>evF_ct tab_ok hC mixedP hf (Option.some_get hb).symm hn hl fun _=>(h stdW x).trans ((congrFun hF x).trans hx)⟩
theorem ls_z{f:FuncId}{fn:Func}{s:LS}(F:Wd→(pkT s.P (inT s.P s.B)).den→Option (s.Q.den×(bkT s.E .unit).den)){C:ESs}(hC:ESsOk Tryz.prog C)(O:DTs)(JC JL:List (Nat×DJ))(hf:Tryz.prog.funcs[f]?=some fn)
  (hF:F stdW=s.fn:=by rfl) (hb:fn.body.isSome=true:=by rfl) (hn:(fn.name== "runtime.NumGoroutine")=false:=by decide +kernel) (hl:zcx (cuts (JC.map (·.1))) (fn.body.get hb)=true:=by rfl) (hq:s.Q.ok=true:=by rfl) (hBE:tysE s.B s.E=true:=by rfl) (hB:(s.B.all fun B=>B.cells.all CK.cok)=true:=by rfl) (hE:(s.E.all fun B=>B.cells.all CK.cok)=true:=by rfl)
  (h:∀W z,evFL W tab C O JC JL fn s.P s.B s.E s.Q z=F W z:=by intro W z; kernel_rfl):ECok Tryz.prog f (.ls s):=
 ⟨hq,hBE,hE,fun z _ hz=>evFL_ct tab_ok hC mixedP hf (Option.some_get hb).symm hn hl hBE hB ((h stdW z).trans ((congrFun hF z).trans hz))⟩
end Go.Proofs.YtllkmncnmlmefaaGreat
namespace Go.Vc
open Go Go.RowKit
theorem QRsH_of{U:Nat→Prop}{w:World}:∀{rs:List R} {vs:List Value},listH U w rs vs→QRsH U w (rs.map .r) vs []
 |[],vs,h=>by simp only[listH]at h; exact⟨h,rfl⟩
 |r::rs,vs,h=>by
  simp only[listH]at h
  obtain⟨u,us,rfl,h1,h2⟩:=h
  exact⟨u,us,[],[],rfl,rfl,⟨rfl,h1⟩,QRsH_of h2⟩
theorem CtQ.tup{P:Program}{f:FuncId}{ars rs:List R}(h:CtQ P f ars (.r (.tup rs))):CtQ P f ars (.tup (rs.map .r)):=by
 intro U w vs hU hvs
 refine(h U w vs hU hvs).mono fun v w' ⟨os,h1,h2⟩=>⟨os,?_,h2⟩
 simp only[QR.h,R.h]at h1 ⊢
 obtain⟨rfl,us,rfl,h3⟩:=h1
 exact⟨us,rfl,QRsH_of h3⟩
end Go.Vc
namespace Go.Proofs.YtllkmncnmlmefaaGreat
open Go Go.Vc Go.RowKit
abbrev rU(n:Int):R:=.val (.int .u64 n)
theorem add64_ct(x y c:Int)(hx:0≤x)(hy:0≤y)(hc0:0≤c)(hc:c≤1):Ct Tryz.prog 356 [rU x,rU y,rU c] (.tup [rU ((x+y+c) % 18446744073709551616),rU ((x+y+c) / 18446744073709551616)]):=by
 refine ctG_ext (v:=.tuple #[.int .u64 ((x+y+c) % 18446744073709551616),.int .u64 ((x+y+c) / 18446744073709551616)]) (fun w=>?_) ⟨rfl,rfl,trivial⟩
 rw[run_callFunc_extern Tryz.func356 (by decide +kernel) rfl rfl (e:=add64Entry) (by kernel_rfl)]
 show ((add64Entry #[.int .u64 x,.int .u64 y,.int .u64 c]).run Tryz.prog w).andThen _=_
 rw[run_add64 x y c hx hy hc0 hc]; rfl
def add64(x y c:Int):Option (Int×Int×Unit):=if 0≤x∧0≤y∧0≤c∧c≤1 then some ((x+y+c) % 18446744073709551616,(x+y+c) / 18446744073709551616,()) else none
def add64_s:ES:=⟨.pair (.int .u64) (.pair (.int .u64) (.pair (.int .u64) .unit)),.pair (.v (.int .u64)) (.pair (.v (.int .u64)) .unit),fun x=>add64 x.1 x.2.1 x.2.2.1⟩
theorem add64_ok:ECok Tryz.prog 356 (.es add64_s):=by
 refine⟨rfl,fun x q h=>?_⟩
 replace h:add64 x.1 x.2.1 x.2.2.1=some q:=h
 unfold add64 at h
 split at h
 ·rename_i hc
  have h:=Option.some.inj h
  subst h
  exact(CtQ.of (add64_ct x.1 x.2.1 x.2.2.1 hc.1 hc.2.1 hc.2.2.1 hc.2.2.2)).tup
 ·cases h
end Go.Proofs.YtllkmncnmlmefaaGreat

namespace Go.Proofs.YtllkmncnmlmefaaGreat
open Go Go.Vc Go.RowKit
@[reducible] def tU0:DT:=(.pair (.int .i64) (.pair (.int .i64) .unit))
@[reducible] def tF0:DT:=(.pair tU0 (.pair (.int .i64) .unit))
abbrev U0':=Int×Int×Unit
abbrev F0':=U0'×Int×Unit
def ofU(u:Int×Int):U0':=(u.1,u.2,())
def toF(x:F0'):FlD:=((x.1.1,x.1.2.1),x.2.1)
def zdi(l:List F0'):List U0':=(srtU (uniqU (l.map fun x=>(x.1.1,x.1.2.1)))).map ofU
def namedO(l:List F0'):Option (List U0'):=if (l.length+1)*16≤140737488355328 then some (zdi l) else none
def ztm(ll:List (List F0')):Option (List F0'):=if ll.flatten.length*24≤140737488355328 then some ll.flatten else none
noncomputable def named_s:ES:=⟨.pair (.slc tF0) .unit,.own 47 tU0,fun x=>namedO x.1⟩
noncomputable def concat_s:ES:=⟨.pair (.slc (.slc tF0)) .unit,.own 143 tF0,fun x=>ztm x.1⟩
theorem yje(l:List F0'):(l.map toF).map flR=l.map fun x=>tF0.enc x:=by rw[List.map_map]; rfl
theorem named_ok:ECok Tryz.prog 361 (.es named_s):=by
 refine⟨rfl,fun x q h=>?_⟩
 replace h:namedO x.1=some q:=h
 unfold namedO at h
 split at h
 ·rename_i hc
  have h:=Option.some.inj h
  subst h
  have hct:=named_ct (x.1.map toF) (by rw[List.length_map]; exact hc)
  rw[yje]at hct
  have e2:encs encU (srtU (uniqU ((x.1.map toF).map (·.1))))=(zdi x.1).map fun x=>tU0.enc x:=by
   unfold zdi encs
   rw[List.map_map,List.map_map]; rfl
  rw[e2]at hct
  exact hct
 ·cases h
theorem concat_ok:ECok Tryz.prog 360 (.es concat_s):=by
 refine⟨rfl,fun x q h=>?_⟩
 replace h:ztm x.1=some q:=h
 unfold ztm at h
 split at h
 ·rename_i hc
  have h:=Option.some.inj h
  subst h
  have e0:(x.1.map fun l=>l.map toF).flatten=x.1.flatten.map toF:=by rw[List.map_flatten]
  have hct:=concatF_ct (x.1.map fun l=>l.map toF) (by rw[←yfb,e0,List.length_map]; exact hc)
  have e1:((x.1.map fun l=>l.map toF).map fun l=>[R.sl 3 (l.map flR)])=x.1.map fun l=>(DT.slc tF0).enc l:=by
   rw[List.map_map]
   refine List.map_congr_left fun l _=>?_
   show [R.sl 3 ((l.map toF).map flR)]=_
   rw[yje]; rfl
  rw[e1,e0,yje]at hct
  exact hct
 ·cases h
end Go.Proofs.YtllkmncnmlmefaaGreat
namespace Go.Proofs.YtllkmncnmlmefaaGreat
open Go Go.Vc Go.RowKit Go.Sort
def ltA(a b:U0'):Prop:=a.1<b.1∨(a.1=b.1∧a.2.1<b.2.1)
instance (a b:U0'):Decidable (ltA a b):=by unfold ltA; infer_instance
instance:DecidableEq U0':=inferInstanceAs (DecidableEq (Int×Int×Unit))
theorem extA{a b:U0'}(h1:a.1=b.1)(h2:a.2.1=b.2.1):a=b:=by
 obtain⟨a1,a2,⟨⟩⟩:=a; obtain⟨b1,b2,⟨⟩⟩:=b; simp only at h1 h2; subst h1 h2; rfl
theorem zcq(a:U0'):¬ltA a a:=by unfold ltA; omega
theorem ltA_tr{a b c:U0'}(h1:ltA a b)(h2:ltA b c):ltA a c:=by unfold ltA at *; omega
theorem zot{a b:U0'}(h1:¬ltA a b)(h2:¬ltA b a):a=b:=by
 unfold ltA at *; exact extA (by omega) (by omega)
theorem ltA_as{a b:U0'}(h1:ltA a b)(h2:ltA b a):False:=zcq a (ltA_tr h1 h2)
abbrev SrtA(l:List U0'):Prop:=l.Pairwise ltA
theorem srt_ext:∀{l m:List U0'},SrtA l→SrtA m→(∀x,x∈l↔x∈m)→l=m
 |[],[],_,_,_=>rfl
 |[],b::m,_,_,h=>absurd ((h b).2 (by simp)) (by simp)
 |a::l,[],_,_,h=>absurd ((h a).1 (by simp)) (by simp)
 |a::l,b::m,hl,hm,h=>by
  obtain⟨h1,h2⟩:=List.pairwise_cons.1 hl
  obtain⟨h3,h4⟩:=List.pairwise_cons.1 hm
  have hab:a=b:=by
   rcases List.mem_cons.1 ((h a).1 (by simp)) with e|e
   ·exact e
   ·rcases List.mem_cons.1 ((h b).2 (by simp)) with e'|e'
    ·exact e'.symm
    ·exact(ltA_as (h1 b e') (h3 a e)).elim
  subst hab
  rw[srt_ext h2 h4 fun x=>?_]
  constructor
  ·intro hx
   rcases List.mem_cons.1 ((h x).1 (List.mem_cons_of_mem _ hx)) with rfl|e
   ·exact(zcq _ (h1 _ hx)).elim
   ·exact e
  ·intro hx
   rcases List.mem_cons.1 ((h x).2 (List.mem_cons_of_mem _ hx)) with rfl|e
   ·exact(zcq _ (h3 _ hx)).elim
   ·exact e
theorem ybn:∀(l ks:List (Int×Int)) (x:Int×Int),x∈l.foldl addU ks↔x∈ks∨x∈l
 |[],ks,x=>by simp
 |y::l,ks,x=>by
  rw[List.foldl_cons,ybn l]
  unfold addU
  split
  ·rename_i hy
   constructor
   ·rintro(h|h)
    ·exact .inl h
    ·exact .inr (by simp[h])
   ·rintro(h|h)
    ·exact .inl h
    ·rcases List.mem_cons.1 h with rfl|h
     ·exact .inl hy
     ·exact .inr h
  ·simp only[List.mem_append,List.mem_cons,List.not_mem_nil,or_false]
   constructor
   ·rintro((h|h)|h)<;>simp[h]
   ·rintro(h|h|h)<;>simp[h]
theorem uniq_nd:∀(l ks:List (Int×Int)),ks.Nodup→(l.foldl addU ks).Nodup
 |[],ks,h=>h
 |y::l,ks,h=>by
  rw[List.foldl_cons]
  refine uniq_nd l _ ?_
  unfold addU
  split
  ·exact h
  ·rename_i hy
   exact List.nodup_append.2 ⟨h,by simp,fun a ha b hb=>by simp at hb; subst hb; rintro rfl; exact hy ha⟩
theorem yeu(l:List F0')(u:U0'):u∈zdi l↔∃x∈l,x.1=u:=by
 unfold zdi
 rw[List.mem_map]
 constructor
 ·rintro⟨y,hy,rfl⟩
  have hy:=(List.mergeSort_perm _ _).subset hy
  rcases (ybn _ [] y).1 hy with h|h
  ·cases h
  ·obtain⟨x,hx,rfl⟩:=List.mem_map.1 h
   exact⟨x,hx,extA rfl rfl⟩
 ·rintro⟨x,hx,rfl⟩
  refine⟨(x.1.1,x.1.2.1),(List.mergeSort_perm _ _).symm.subset ((ybn _ [] _).2 (.inr (List.mem_map.2 ⟨x,hx,rfl⟩))),extA rfl rfl⟩
theorem zwf(l:List F0'):SrtA (zdi l):=by
 unfold zdi SrtA
 rw[List.pairwise_map]
 have h1:=zsa (uniqU (l.map fun x=>(x.1.1,x.1.2.1)))
 have h2:(srtU (uniqU (l.map fun x=>(x.1.1,x.1.2.1)))).Nodup:=(List.mergeSort_perm _ _).nodup_iff.2 (uniq_nd _ [] (by simp))
 refine List.Pairwise.imp_of_mem (fun {a b} _ _ h=>?_) (h1.and h2)
 obtain⟨h3,h4⟩:=h
 rw[ltU,Bool.not_eq_true',zst]at h3
 unfold ltA ofU
 simp only
 by_cases e1:a.1=b.1
 ·have:a.2≠b.2:=fun e2=>h4 (Prod.ext e1 e2)
  omega
 ·omega
def lowU(u:U0')(l:List U0'):List U0':=l.filter fun x=>decide (ltA x u)
def highU(u:U0')(l:List U0'):List U0':=l.filter fun x=>!decide (ltA x u)
def insA(u:U0')(l:List U0'):List U0':=if u∈l then l else lowU u l++u::highU u l
theorem insA_mem(u:U0')(l:List U0')(x:U0'):x∈insA u l↔x=u∨x∈l:=by
 unfold insA lowU highU
 split
 ·rename_i h
  constructor
  ·exact .inr
  ·rintro(rfl|h')<;>assumption
 ·simp only[List.mem_append,List.mem_filter,List.mem_cons,decide_eq_true_eq,Bool.not_eq_true',decide_eq_false_iff_not]
  constructor
  ·rintro(h|h|h)
   ·exact .inr h.1
   ·exact .inl h
   ·exact .inr h.1
  ·rintro(h|h)
   ·exact .inr (.inl h)
   ·by_cases hx:ltA x u
    ·exact .inl ⟨h,hx⟩
    ·exact .inr (.inr ⟨h,hx⟩)
theorem insA_srt{u:U0'}{l:List U0'}(h:SrtA l):SrtA (insA u l):=by
 unfold insA
 split
 ·exact h
 ·rename_i hu
  refine List.pairwise_append.2 ⟨h.filter _,List.pairwise_cons.2 ⟨fun x hx=>?_,h.filter _⟩,fun a ha b hb=>?_⟩
  ·unfold highU at hx
   simp only[List.mem_filter,Bool.not_eq_true',decide_eq_false_iff_not]at hx
   by_cases hux:ltA u x
   ·exact hux
   ·exact absurd (zot hux hx.2▸hx.1) hu
  ·unfold lowU at ha
   simp only[List.mem_filter,decide_eq_true_eq]at ha
   rcases List.mem_cons.1 hb with rfl|hb
   ·exact ha.2
   ·unfold highU at hb
    simp only[List.mem_filter,Bool.not_eq_true',decide_eq_false_iff_not]at hb
    by_cases hub:ltA u b
    ·exact ltA_tr ha.2 hub
    ·exact absurd (zot hub hb.2▸hb.1) hu
theorem ins_all:∀(l:List F0') (acc:List U0'),SrtA acc→SrtA (l.foldl (fun a x=>insA x.1 a) acc)∧∀u,u∈l.foldl (fun a x=>insA x.1 a) acc↔u∈acc∨∃x∈l,x.1=u
 |[],acc,h=>⟨h,fun u=>by simp⟩
 |x::l,acc,h=>by
  obtain⟨h1,h2⟩:=ins_all l (insA x.1 acc) (insA_srt h)
  refine⟨h1,fun u=>?_⟩
  rw[List.foldl_cons,h2,insA_mem]
  constructor
  ·rintro((rfl|h)|⟨y,hy,e⟩)
   ·exact .inr ⟨x,by simp,rfl⟩
   ·exact .inl h
   ·exact .inr ⟨y,by simp[hy],e⟩
  ·rintro(h|⟨y,hy,e⟩)
   ·exact .inl (.inr h)
   ·rcases List.mem_cons.1 hy with rfl|hy
    ·exact .inl (.inl e.symm)
    ·exact .inr ⟨y,hy,e⟩
theorem ins_units(l:List F0'):l.foldl (fun a x=>insA x.1 a) []=zdi l:=by
 obtain⟨h1,h2⟩:=ins_all l [] List.Pairwise.nil
 exact srt_ext h1 (zwf l) fun u=>by rw[h2,yeu]; simp
end Go.Proofs.YtllkmncnmlmefaaGreat
namespace Go.Vc
open Go Go.RowKit
variable {β:Type} {r:β}
theorem loop_ok{X:Type}{f:X→(X→Option β)→Option β}(μ:X→Nat)(R:X→Prop)(g:X→Option β)
  (h:∀z,R z→∀again:X→Option β,(∀z',R z'→μ z'<μ z→again z'=g z')→f z again=g z):∀(n:Nat) (z:X),R z→μ z<n→loopF n f z=g z
 |0,z,_,hm=>by omega
 |n+1,z,hz,hm=>h z hz _ fun z' hz' hm'=>loop_ok μ R g h n z' hz' (by omega)
theorem zjt{X:Type}{f:X→(X→Option β)→Option β}(μ:X→Nat)(R:X→Prop)(g:X→Option β){z:X}(hz:R z)(hm:μ z<18446744073709551616)
  (h:∀z,R z→∀again:X→Option β,(∀z',R z'→μ z'<μ z→again z'=g z')→f z again=g z):stdW.loop f z=g z:=
 loop_ok μ R g h FU z hz (by rw[FU_eq]; exact hm)
theorem both_eq(a:Option β):bothF a a=a:=by unfold bothF; exact if_pos rfl
theorem idx_eq{α:Type}{l:List α}{i:Nat}(h:i<l.length)(K:α→Option β):idxF l (i:Int) K=K l[i]:=by
 unfold idxF
 rw[Int.toNat_natCast,List.getElem?_eq_getElem h]
 simp
theorem nn_eq{b:Int}(h:0≤b)(K:Option β):nnF b K=K:=by unfold nnF; simp[h]
theorem room_eq{n b:Nat}(h:n≤281474976710656)(h2:n*b≤140737488355328)(K:Option β):roomF n b K=K:=by unfold roomF; simp[h,h2]
theorem bnd_eq{i:Int}{n:Nat}(h:0≤i)(h2:i≤n)(K:Nat→Option β):bndF i n K=K i.toNat:=by unfold bndF; simp[h,h2]
theorem yde{e:Bool}{f:Bool→Option β}{b:Option β}(h0:f false=b)(h1:e=true→f true=b):nilF e f=b:=by
 unfold nilF
 cases e
 ·exact h0
 ·simp only[cond_true]; rw[h0,h1 rfl,both_eq]
end Go.Vc

namespace Go.Vc
open Go Go.RowKit
abbrev BigT := Bool × List Int × Unit
theorem drop_cons' {α : Type} (l : List α) (i : Nat) (h : i < l.length) : l.drop i = l[i] :: l.drop (i + 1) := List.drop_eq_getElem_cons h
def bitsOf (n : Nat) : List Int := if h : n = 0 then [] else ((n % 2 : Nat) : Int) :: bitsOf (n / 2)
termination_by n
decreasing_by omega
theorem bits0 : bitsOf 0 = [] := by rw [bitsOf]; rfl
theorem bitsS {n : Nat} (h : n ≠ 0) : bitsOf n = ((n % 2 : Nat) : Int) :: bitsOf (n / 2) := by rw [bitsOf]; simp [h]
def valB : List Int → Nat
  | [] => 0
  | x :: l => x.toNat + 2 * valB l
def bitL (l : List Int) : Prop := ∀ x ∈ l, x = 0 ∨ x = 1
def Nrm (l : List Int) : Prop := bitsOf (valB l) = l
theorem bitL_bits (n : Nat) : bitL (bitsOf n) := by
  induction n using Nat.strongRecOn with
  | ind n ih =>
    by_cases h : n = 0
    · subst h; rw [bits0]; intro x hx; cases hx
    · rw [bitsS h]; intro x hx
      rcases List.mem_cons.1 hx with rfl | hx
      · omega
      · exact ih (n / 2) (by omega) x hx
theorem Nrm.bits {l : List Int} (h : Nrm l) : bitL l := h ▸ bitL_bits _
def bv (x : BigT) : Int := if x.1 then -(valB x.2.1 : Int) else valB x.2.1
theorem zqw (i : Nat) (h : 0 < i) (h2 : i ≤ maxLen) : IntKind.i64.wrap (((i : Int)) - (1)) = ((i - 1 : Nat) : Int) := by
  rw [zax] at h2; rw [IntWalk.i64_in _ (by omega)]; omega
def cmpI (x y : BigT) : Int := if bv x - bv y = 0 then 0 else if bv x - bv y < 0 then -1 else 1
theorem i64_succ(i:Nat)(h:i<9223372036854775807):IntKind.i64.wrap ((i:Int)+1)=((i+1:Nat):Int):=by rw[IntWalk.i64_in _ (by omega)]; omega
end Go.Vc
namespace Go.Vc
open Go Go.RowKit
end Go.Vc

namespace Go.Vc
open Go Go.RowKit
end Go.Vc

namespace Go.Vc
open Go Go.RowKit
end Go.Vc

namespace Go.Vc
open Go Go.RowKit
end Go.Vc

namespace Go.Vc
open Go Go.RowKit Go.Lib
theorem zem (b : Nat) (vs : List Value) (o : Nat) (w : World) (h : ∀ j, j < vs.length → (w.cell? ⟨b, o + j, none⟩).isSome = true) (k : Nat) (hk : (w.cell? ⟨b, k, none⟩).isSome = true) : ((w.setCells b o vs).cell? ⟨b, k, none⟩).isSome = true := by
  by_cases hin : o ≤ k ∧ k < o + vs.length
  · have := World.cell?_setCells_in b vs o w h (k - o) (by omega)
    rw [show o + (k - o) = k by omega] at this
    rw [this]; rfl
  · rw [World.cell?_setCells_out b vs o w ⟨b, k, none⟩ (fun _ _ => by show k < o ∨ o + vs.length ≤ k; omega)]
    exact hk
theorem zwn {P : Program} (w : World) (t e ty : TypeId) (z : Value) (ht : P.underlying t = some (.slice e)) (hv : ∀ w, (zeroValue e).run P w = .ok z w) (b o n c : Nat) (hn : 0 < n)
    (hc : ∀ j, j < (Builtin.zeroCells z.cells n).toList.length → (w.cell? ⟨b, o + j, none⟩).isSome = true) (hf : ∀ j, j < (Builtin.zeroCells z.cells n).toList.length → w.frozen? ⟨b, o + j, none⟩ = false) (h1 : ∀ v ∈ (Builtin.zeroCells z.cells n).toList, v.oneCell' = true) :
    (Builtin.clear_ #[t] ty #[.slice (some ⟨b, o, none⟩) n c]).run P w = .ok (.tuple #[]) (w.setCells b o (Builtin.zeroCells z.cells n).toList) := by
  have hst := run_storeCells_cells (P := P) b o (Builtin.zeroCells z.cells n).toList 0 w (by simpa using hc) (by simpa using hf) h1
  simp only [Nat.add_zero] at hst
  obtain ⟨m, rfl⟩ : ∃ m, n = m + 1 := ⟨n - 1, by omega⟩
  simp [Builtin.clear_, run_underlying ht, hv, hst]
end Go.Vc
namespace Go.Proofs.YtllkmncnmlmefaaGreat
open Go Go.Vc Go.RowKit Go.Lib Go.Sort Go.Proofs
theorem zlu : ElemOk Tryz.prog 29 50 3 40 := zyi (by kernel_rfl) (by kernel_rfl) (by decide)
theorem undPos : Tryz.prog.underlying 29 = some (.slice 50) := by kernel_rfl
def zPos : Value := .agg #[.int .i64 0, .int .i64 0, .slice none 0 0]
theorem zvPos (w : World) : (zeroValue 50).run Tryz.prog w = .ok zPos w := by kernel_rfl
theorem ybc (n : Nat) : (Builtin.zeroCells zPos.cells n).toList.length = n * 3 := by simp [zPos, Builtin.zeroCells, Value.cells]
theorem zPos_one (n : Nat) : ∀ v ∈ (Builtin.zeroCells zPos.cells n).toList, v.oneCell' = true := by
  intro v hv
  simp only [zPos, Builtin.zeroCells, Value.cells, Array.toList_map, List.mem_map] at hv
  obtain ⟨k, _, rfl⟩ := hv
  have : k % 3 = 0 ∨ k % 3 = 1 ∨ k % 3 = 2 := by omega
  rcases this with h | h | h <;> simp [h] <;> rfl
set_option maxHeartbeats 4000000 in
set_option maxRecDepth 1000000 in
theorem del_raw (g n c i j : Nat) (us : List Value) (w : World) (hl : us.length = n * 3) (hc : ∀ t u, us[t]? = some u → w.cell? ⟨g, t, none⟩ = some u) (h1 : ∀ u ∈ us, u.oneCell' = true)
    (hf : ∀ t, w.frozen? ⟨g, t, none⟩ = false) (hij : i < j) (hj : j ≤ n) (hn : n ≤ c) (_ : c ≤ 9223372036854775807) :
    Calls Tryz.prog 263 #[.slice (some ⟨g, 0, none⟩) n c, .int .i64 i, .int .i64 j] w fun e w' => e = .returned (.slice (some ⟨g, 0, none⟩) (i + (n - j)) c) ∧
      w' = (w.drew.setCells g (0 + i * 3) (us.drop (j * 3))).setCells g ((i + (n - j)) * 3) (Builtin.zeroCells zPos.cells (n - (i + (n - j)))).toList := by
  obtain ⟨i0, z0, hi0, hz0, hz1, hby, hzs⟩ := zlu.info
  have hlen : (us.drop (j * 3)).length = (n - j) * 3 := by rw [List.length_drop, hl, Nat.sub_mul]
  obtain ⟨news, hnews⟩ : ∃ news, news = us.drop (j * 3) := ⟨_, rfl⟩
  rw [← hnews] at hlen ⊢
  have hget : ∀ t u, news[t]? = some u → w.cell? ⟨g, j * 3 + t, none⟩ = some u := fun t u h => hc _ _ (by rw [hnews, List.getElem?_drop] at h; exact h)
  obtain ⟨A, hA, hsrc⟩ : ∃ A : Addr, (if c = j then some (⟨g, 0, none⟩ : Addr) else some ⟨g, j * 3, none⟩) = some A ∧ Hid (∀ t u, news[t]? = some u → w.drew.cell? (A.add t) = some u) := by
    by_cases h : c = j
    · refine ⟨⟨g, 0, none⟩, by simp [h], fun t u hu => ?_⟩
      have h0 : news.length = 0 := by rw [hlen]; have : n - j = 0 := by omega
                                      rw [this, Nat.zero_mul]
      rw [List.length_eq_zero_iff.1 h0] at hu
      simp at hu
    · refine ⟨⟨g, j * 3, none⟩, by simp [h], fun t u hu => ?_⟩
      rw [Addr.add_lit]
      exact hget t u hu
  have s1 : Hid (news.length = (n - j) * 3) := hlen
  have s2 : Hid (∀ u ∈ news, u.oneCell' = true) := fun u hu => h1 u (by rw [hnews] at hu; exact List.mem_of_mem_drop hu)
  have hall : ∀ t, t < n * 3 → (w.cell? ⟨g, t, none⟩).isSome = true := fun t ht => by rw [hc t _ (List.getElem?_eq_getElem (by omega))]; rfl
  have s3 : Hid (∀ t, t < news.length → (w.drew.cell? ⟨g, 0 + i * 3 + t, none⟩).isSome = true ∧ w.drew.frozen? ⟨g, 0 + i * 3 + t, none⟩ = false) := fun t ht => ⟨hall _ (by omega), hf _⟩
  obtain ⟨W1, hW1⟩ : ∃ W1, W1 = w.drew.setCells g (0 + i * 3) news := ⟨_, rfl⟩
  have hs1 : ∀ t, t < n * 3 → (W1.cell? ⟨g, t, none⟩).isSome = true := fun t ht => by
    rw [hW1]
    exact zem g news (0 + i * 3) w.drew (fun t ht => hall _ (by omega)) _ (hall t ht)
  have hf1 : ∀ t, W1.frozen? ⟨g, t, none⟩ = false := fun t => by rw [hW1, World.frozen?_setCells]; exact hf t
  have hcl : ∀ ty, (Builtin.clear_ #[29] ty #[.slice (some ⟨g, (i + (n - j)) * 3, none⟩) (n - (i + (n - j))) (c - (i + (n - j)))]).run Tryz.prog W1 = .ok (.tuple #[]) (W1.setCells g ((i + (n - j)) * 3) (Builtin.zeroCells zPos.cells (n - (i + (n - j)))).toList) := fun ty => by
    have := zwn W1 29 50 ty zPos undPos zvPos g ((i + (n - j)) * 3) (n - (i + (n - j))) (c - (i + (n - j))) (by omega) (fun t ht => hs1 _ (by rw [ybc] at ht; omega)) (fun t _ => hf1 _) (zPos_one _)
    exact this
  obtain ⟨W2, hW2⟩ : ∃ W2, W2 = W1.setCells g ((i + (n - j)) * 3) (Builtin.zeroCells zPos.cells (n - (i + (n - j)))).toList := ⟨_, rfl⟩
  have X : Hid (W1 = w.drew.setCells g (0 + i * 3) news) := hW1
  have mixed := zso
  have hic : i ≤ c := by omega
  have hjc : j ≤ c := by omega
  rw [← hW1, ← hW2]
  rw [← hW2] at hcl
  clear hW1 hW2 hs1 hf1 hall hget hnews hlen hc hf h1 hl
  go_enter Tryz.func263, Tryz.ntmps263
  go_wp2_with fail
  go_region_law_o (refine step_append_room rfl (.tmp 22) (.tmp 25) 29 rfl 50 i0 3 undPos hi0 hz1 g 0 i c (by simp [Act.eval, Act.put]) A (n - j) (c - j) news (by simp [Act.eval, Act.put]) s1.out hsrc.out s2.out (by omega) s3.out ?_; rw [← X.out])
  go_wp2
  go_ret
  exact ⟨rfl, rfl⟩
end Go.Proofs.YtllkmncnmlmefaaGreat

namespace Go.Vc
open Go Go.RowKit Go.Lib
theorem zui{P:Program}(w:World)(tS tR e:TypeId)(ht:P.underlying tS=some (.slice e))(size:Nat)(hz:∀w,(Go.sizeOf e).run P w=.ok size w)
  (a b:Addr) (la ca lb cb:Nat) (hne:a.block≠b.block) (u:Value) (j:Nat) (hc:w.cell? (a.add j)=some u) (cur:Array Value) (eb:TypeId) (hb:w.heap[b.block]?=some (.cells cur eb (0,0))):
  (Extern.SlicesOverlaps.overlaps #[tS,tS] #[tR] #[.slice (some a) la ca,.slice (some b) lb cb]).run P w=.ok (.bool false) w:=by
 have hnb:(a.block != b.block)=true:=by simpa using hne
 have hnb':(a.block==b.block)=false:=by simpa using hne
 obtain⟨ca',ea,fa,ha,h0⟩:∃ca' ea fa,w.heap[a.block]?=some (.cells ca' ea fa)∧0<ca'.size:=by
  unfold World.cell? at hc
  rw[zbq]at hc
  split at hc
  ·rename_i c e f h
   refine⟨c,e,f,h,?_⟩
   split at hc
   ·cases hc
   ·have:=(Array.getElem?_eq_some_iff.1 hc).1; omega
  ·cases hc
 have hsa:w.shape? a.block=some (ea,ca'.size):=by simp[World.shape?,ha]
 have hsb:w.shape? b.block=some (eb,cur.size):=by simp[World.shape?,hb]
 have hfb:w.frozen? b=false:=by simp[World.frozen?,hb]
 have hfb2:w.frozen? { block:=b.block,off:=cur.size }=false:=by simp[World.frozen?,hb]
 change Sem.run P (α:=Value) (do
  let some t:=(#[tS,tS]:Array TypeId)[0]? | stuck "slices.overlaps: no parameter types"
  let .slice elem ←underlying t|stuck "slices.overlaps: slice type expected"
  let size ←sizeOf elem
  match (some a:Option Addr),(some b:Option Addr) with
  |some a,some b=>
   if la=0∨lb=0∨size=0 then pure (Value.bool false)
   else if a.block != b.block&&(←frozen a)&&(←frozen b) then unsupported .addressObserved
   else do
    if a.block != b.block then do
     noView a; noView b
     if ←mayBeOne a b then return Value.bool ((←choose (.extern "sameAddr.stringBytes" 2))==1)
    pure (Value.bool (a.block==b.block&&a.off<b.off+lb*size&&b.off<a.off+la*size))
  |_,_=>pure (Value.bool false)) w=_
 by_cases h0':la=0∨lb=0∨size=0
 ·simp[run_underlying ht,hz,h0']
 ·obtain⟨k,hk⟩:∃k,ca'.size=k+1:=⟨ca'.size - 1,by omega⟩
  rw[hk]at hsa
  cases hfa:w.frozen? a<;>cases hfa2:w.frozen? { block:=a.block,off:=k+1 }<;>
   simp[run_underlying ht,hz,h0',hnb,hnb',frozen,noView,viewAt,mayBeOne,stringish,shape,Sem.run,hsa,hsb,hfa,hfb,hfa2,hfb2]
theorem zfq{P:Program}(w:World)(dT sT ty elem:TypeId)(i0:TypeInfo)(b o dLen dCap:Nat)(a:Addr)(sLen sCap:Nat)(cs:List Value)
  (hu:P.underlying dT=some (.slice elem)) (hs:P.info? elem=some i0) (m:Nat) (hm:m=Nat.min sLen dLen) (hn:cs.length=m*i0.size)
  (hsrc:∀j v,cs[j]?=some v→w.cell? (a.add j)=some v) (hc:∀j,j<cs.length→(w.cell? ⟨b,o+j,none⟩).isSome=true) (hf:∀j,j<cs.length→w.frozen? ⟨b,o+j,none⟩=false) (h1:∀v∈cs,v.oneCell'=true):
  (Builtin.copy_ #[dT,sT] ty #[.slice (some ⟨b,o,none⟩) dLen dCap,.slice (some a) sLen sCap]).run P w=.ok (goInt m) (w.setCells b o cs):=by
 have hl:=run_loadCells_list (P:=P) w a cs hsrc
 have hst:=run_storeCells_cells (P:=P) b o cs 0 w (by simpa using hc) (by simpa using hf) h1
 subst hm
 simp[Builtin.copy_,run_underlying hu,Builtin.lenOf,Builtin.firstCells,sizeOf,typeInfo,hs,←hn,hl,hst]
end Go.Vc
namespace Go.Proofs.YtllkmncnmlmefaaGreat
open Go Go.Vc Go.RowKit Go.Lib Go.Sort Go.Proofs
theorem szPos(w:World):(Go.sizeOf 50).run Tryz.prog w=.ok 3 w:=by kernel_rfl
set_option maxHeartbeats 4000000 in
set_option maxRecDepth 1000000 in
theorem ygp(g n c:Nat)(x:Addr)(vc:Nat)(vs:List Value)(w:World)(hroom:n+1≤c)(hm:c≤9223372036854775807)(hvl:vs.length=3)
  (hsp:∀t,t<c*3→(w.cell? ⟨g,t,none⟩).isSome=true) (hf:∀t,w.frozen? ⟨g,t,none⟩=false) (hvs:∀t u,vs[t]?=some u→w.cell? (x.add t)=some u) (h1v:∀u∈vs,u.oneCell'=true):
  Calls Tryz.prog 264 #[.slice (some ⟨g,0,none⟩) n c,.int .i64 n,.slice (some x) 1 vc] w fun e w'=>e=.returned (.slice (some ⟨g,0,none⟩) (n+1) c)∧w'=w.setCells g (n*3) vs:=by
 obtain⟨i0,z0,hi0,hz0,hz1,hby,hzs⟩:=zlu.info
 have mixed:=zso
 have hrun:∀ty,(Builtin.append_ #[29,29] ty #[.slice (some ⟨g,0,none⟩) n c,.slice (some x) 1 vc]).run Tryz.prog w=.ok (.slice (some ⟨g,0,none⟩) (n+1) c) (w.setCells g (n*3) vs):=fun ty=>by
  have:=run_append_room_cells (P:=Tryz.prog) (w:=w) 29 ty 50 i0 undPos hi0 g 0 n c x 1 vc vs (by rw[hvl,hz1]) hvs h1v hroom (fun t ht=>hsp _ (by rw[hz1]; omega)) (fun t _=>hf _)
  rwa [hz1,Nat.zero_add]at this
 obtain⟨W2,hW2⟩:∃W2,W2=w.setCells g (n*3) vs:=⟨_,rfl⟩
 rw[←hW2]at hrun ⊢
 clear hW2 hsp hf hvs h1v hvl
 go_enter Tryz.func264,Tryz.ntmps264
 go_wp2_with (at_builtin; refine Lib.wpList_append_run _ rfl _ _ _ _ rfl _ _ rfl rfl _ _ (hrun _) ?_)
 go_ret
 exact⟨rfl,rfl⟩
end Go.Proofs.YtllkmncnmlmefaaGreat

namespace Go.Vc
open Go Go.RowKit Go.Lib
theorem yep(w:World){P:Program}{o:Oper}{a:Act}{K:Act→World→Prop}{Q:Exit→Act→World→Prop}(d s:Operand)(t t':TypeId)
  (ho:o.op=.call { callee:=.builtin .copy,args := #[d,s],argTypes := #[t,t'] }) (v u:Value) (hd:a.eval d=v) (hs:a.eval s=u) {v':Value} {w':World}
  (hr:(Builtin.copy_ #[t,t'] o.type #[v,u]).run P w=.ok v' w') (h:K (a.put o.dst v') w'):o.wp P a w K Q:=by
 unfold Oper.wp execOp
 simp only[ho,resolve,invoke,builtin,Sem.run_bind,Sem.run_pure,Result.andThen_ok,List.map_toArray,List.map_cons,List.map_nil,hd,hs,hr]
 exact h
theorem zfn(w:World){P:Program}{ops:Array Oper}{rest:List Oper}{o:Oper}{a:Act}{Q:Exit→Act→World→Prop}(hgd:o.guard=none)(d s:Operand)(t t':TypeId)
  (ho:o.op=.call { callee:=.builtin .copy,args := #[d,s],argTypes := #[t,t'] }) (v u:Value) (hd:a.eval d=v) (hs:a.eval s=u) {v':Value} {w':World}
  (hr:(Builtin.copy_ #[t,t'] o.type #[v,u]).run P w=.ok v' w') (h:wpList P ops Q rest (a.put o.dst v') w'):wpList P ops Q (o::rest) a w:=
 wpList_plain hgd fun _ hK=>yep w d s t t' ho v u hd hs hr (hK _ _ h)
theorem zod{P:Program}{ops:Array Oper}{o:Oper}{a:Act}{w:World}{K:Act→World→Prop}{Q:Exit→Act→World→Prop}{E:Prop}
  (hg:o.guard=none) (d x:Operand) (dT sT:TypeId) (hop:o.op=Op.call { callee:=Callee.builtin Builtin.copy,args := #[d,x],argTypes := #[dT,sT] })
  (v u:Value) (hd:a.eval d=v) (hx:a.eval x=u) {v':Value} {w':World} (hr:(Builtin.copy_ #[dT,sT] o.type #[v,u]).run P w=.ok v' w') (hK:K (a.put o.dst v') w'):
  if Region.wanted o (yielded ops a.tmps)=true then Oper.wp P o a w K Q else E:=by
 have hw:Region.wanted o (yielded ops a.tmps)=true:=by simp[Region.wanted,hg]
 rw[if_pos hw]
 unfold Oper.wp
 simp[execOp,hop,resolve,invoke,builtin,hd,hx,hr,Result.andThen]
 exact hK
end Go.Vc
namespace Go.Proofs.YtllkmncnmlmefaaGreat
open Go Go.Vc Go.RowKit Go.Lib Go.Sort Go.Proofs
set_option maxHeartbeats 4000000 in
set_option maxRecDepth 1000000 in
theorem ins_shift(g n c i:Nat)(x:Addr)(vc:Nat)(us vs:List Value)(cur:Array Value)(eb:TypeId)(w:World)(hi:i<n)(hroom:n+1≤c)(hm:c≤9223372036854775807)(hul:us.length=n*3)(hvl:vs.length=3)
  (hg:w.heap[g]?=some (.cells cur eb (0,0))) (hx:x.block≠g) (hc:∀t u,us[t]?=some u→w.cell? ⟨g,t,none⟩=some u) (h1:∀u∈us,u.oneCell'=true)
  (hsp:∀t,t<c*3→(w.cell? ⟨g,t,none⟩).isSome=true) (hf:∀t,w.frozen? ⟨g,t,none⟩=false) (hvs:∀t u,vs[t]?=some u→w.cell? (x.add t)=some u) (h1v:∀u∈vs,u.oneCell'=true):
  Calls Tryz.prog 264 #[.slice (some ⟨g,0,none⟩) n c,.int .i64 i,.slice (some x) 1 vc] w fun e w'=>e=.returned (.slice (some ⟨g,0,none⟩) (n+1) c)∧
   w'=(w.drew.setCells g ((i+1)*3) (us.drop (i*3))).setCells g (i*3) vs:=by
 obtain⟨i0,z0,hi0,hz0,hz1,hby,hzs⟩:=zlu.info
 have mixed:=zso
 obtain⟨u0,hu0⟩:∃u,vs[0]?=some u:=⟨vs[0],List.getElem?_eq_getElem (by omega)⟩
 have hov:∀lb cb,(callFunc 344 #[.slice (some x) 1 vc,.slice (some ⟨g,(i+1)*3,none⟩) lb cb]).run Tryz.prog w=.ok (.value (.bool false)) w:=fun lb cb=>by
  rw[run_callFunc_extern Tryz.func344 (by kernel_rfl) (by kernel_rfl) (by kernel_rfl) (e:=Extern.SlicesOverlaps.overlaps #[29,29] #[4]) (by kernel_rfl),
   zui w 29 4 50 undPos 3 szPos x ⟨g,(i+1)*3,none⟩ 1 vc lb cb hx u0 0 (hvs 0 u0 hu0) cur eb hg]
  rfl
 have hdl:(us.drop (i*3)).length=(n - i)*3:=by rw[List.length_drop,hul,Nat.sub_mul]
 have hcp1:∀ty dc sc,(Builtin.copy_ #[29,29] ty #[.slice (some ⟨g,(i+1)*3,none⟩) (n - i) dc,.slice (some ⟨g,i*3,none⟩) (n+1 - i) sc]).run Tryz.prog w.drew=.ok (goInt (n - i:Nat)) (w.drew.setCells g ((i+1)*3) (us.drop (i*3))):=fun ty dc sc=>
  zfq w.drew 29 29 ty 50 i0 g ((i+1)*3) (n - i) dc ⟨g,i*3,none⟩ (n+1 - i) sc (us.drop (i*3)) undPos hi0 (n - i) (by simp only[Nat.min_def]; split<;>omega) (by rw[hdl,hz1])
   (fun t v ht=>by rw[Addr.add_lit]; exact hc _ v (by rwa [List.getElem?_drop]at ht))
   (fun t ht=>hsp _ (by omega)) (fun t _=>hf _) (fun v hv=>h1 v (List.mem_of_mem_drop hv))
 obtain⟨W1,hW1⟩:∃W1,W1=w.drew.setCells g ((i+1)*3) (us.drop (i*3)):=⟨_,rfl⟩
 have hsp1:∀t,t<c*3→(W1.cell? ⟨g,t,none⟩).isSome=true:=fun t ht=>by
  rw[hW1]
  exact zem g _ _ w.drew (fun t ht=>hsp _ (by omega)) _ (hsp t ht)
 obtain⟨W2,hW2⟩:∃W2,W2=W1.setCells g (i*3) vs:=⟨_,rfl⟩
 have hcp2:∀ty dc,(Builtin.copy_ #[29,29] ty #[.slice (some ⟨g,i*3,none⟩) (n+1 - i) dc,.slice (some x) 1 vc]).run Tryz.prog W1=.ok (goInt (1:Nat)) W2:=fun ty dc=>by
  rw[hW2]
  exact zfq W1 29 29 ty 50 i0 g (i*3) (n+1 - i) dc x 1 vc vs undPos hi0 1 (by simp only[Nat.min_def]; split<;>omega) (by rw[hvl,hz1])
   (fun t v ht=>by
    rw[hW1,World.cell?_setCells_out g _ _ _ _ (fun h _=>absurd (by rwa [zbq]at h) hx)]
    exact hvs t v ht)
   (fun t ht=>hsp1 _ (by omega)) (fun t _=>by rw[hW1,World.frozen?_setCells]; exact hf _) h1v
 rw[←hW1,←hW2]
 rw[←hW1]at hcp1
 have hw1:IntKind.i64.wrap ((i:Int)+1)=(i:Int)+1:=by rw[IntKind.wrap_i64]; omega
 have hw2:IntKind.i64.wrap ((n:Int)+1)=(n:Int)+1:=by rw[IntKind.wrap_i64]; omega
 have hb1:(0:Int)≤(i:Int)+1:=by omega
 have hb5:(0:Int)≤(n:Int)+1:=by omega
 have htn:((i:Int)+1).toNat=i+1:=by omega
 have htn2:((n:Int)+1).toNat=n+1:=by omega
 have hb3:(i:Int)≤(n:Int)+1:=by omega
 have hb6:(i:Int)+1≤(n:Int)+1:=by omega
 have hb7:i≤n:=by omega
 have hb2:¬(c=i+1):=by omega
 have hb4:¬(c=i):=by omega
 have hz2:¬((i:Int)=(n:Int)):=by omega
 clear hW1 hW2 hsp1 hsp hf hvs h1v hc h1 hdl hu0 hvl hul
 go_enter Tryz.func264,Tryz.ntmps264
 go_wp2_with (simp only[hov])
 go_region_law_o (refine zod rfl _ _ 29 29 rfl _ _ (by simp[Act.eval,Act.put]) (by simp[Act.eval,Act.put]) (hcp1 _ _ _) ?_)
 go_wp2_with (at_builtin; refine zfn _ rfl _ _ 29 29 rfl _ _ rfl rfl (hcp2 _ _) ?_)
 go_ret
 exact⟨rfl,rfl⟩
end Go.Proofs.YtllkmncnmlmefaaGreat

namespace Go.Proofs.YtllkmncnmlmefaaGreat
open Go Go.Vc Go.RowKit Go.Lib Go.Sort Go.Proofs
theorem z0Pos{i0:TypeInfo}(h:Tryz.prog.info? 50=some i0):i0.zero=some zPos:=by
 have e:(Tryz.prog.info? 50).bind (fun i=>i.zero)=some zPos:=by kernel_rfl
 rw[h]at e; exact e
set_option maxHeartbeats 4000000 in
set_option maxRecDepth 1000000 in
theorem ygq(a:Option Addr)(n c:Nat)(x:Addr)(vc:Nat)(us vs:List Value)(w:World)(hroom:c<n+1)(hn:n≤c)(hbig:(n+1)*40≤140737488355328)(hul:us.length=n*3)(hvl:vs.length=3)
  (hnil:a=none→n=0) (hsp:∀b,a=some b→b.spot=none) (hc:∀b,a=some b→∀t u,us[t]?=some u→w.cell? (b.add t)=some u)
  (hvs:∀t u,vs[t]?=some u→w.cell? (x.add t)=some u) (h1v:∀u∈vs,u.oneCell'=true):
  Calls Tryz.prog 264 #[.slice a n c,.int .i64 n,.slice (some x) 1 vc] w fun e w'=>e=.returned (.slice (some ⟨w.heap.size,0,none⟩) (n+1) (grownCap w (n+1) c 50))∧
   w'=w.drew.alloc (.cells ((us++vs).toArray++Builtin.zeroCells zPos.cells (grownCap w (n+1) c 50 - (n+1))) 50):=by
 obtain⟨i0,z0,hi0,hz0,hz1,hby,hzs⟩:=zlu.info
 have mixed:=zso
 have hsrc:Src Tryz.prog i0.size 29 (.slice (some x) 1 vc) 1 vs w:=by
  rw[hz1]
  exact Src.ofSlice w undPos x 1 vc vs (by omega) hvs h1v
 have hold:(Builtin.firstCells i0.size n (.slice a n c)).run Tryz.prog w.drew=.ok us.toArray w.drew:=by
  rw[hz1]
  cases a with
  |none=>
   have h0:=hnil rfl
   subst h0
   rw[List.length_eq_zero_iff.1 (by omega:us.length=0)]
   exact run_firstCells_none w.drew 3 0 0 c
  |some b=>exact run_firstCells_some w.drew 3 n b n c us hul (fun j v hj=>hc b rfl j v hj)
 have hrun:∀ty,(Builtin.append_ #[29,29] ty #[.slice a n c,.slice (some x) 1 vc]).run Tryz.prog w=_:=fun ty=>
  run_append_grow_src w 29 29 ty 50 i0 zPos undPos hi0 (z0Pos hi0) a n c us hold (.slice (some x) 1 vc) 1 vs hsrc hroom (by omega) (by rw[hby]; exact growslice_fits hroom hbig)
 obtain⟨W2,hW2⟩:∃W2,W2=w.drew.alloc (.cells ((us++vs).toArray++Builtin.zeroCells zPos.cells (grownCap w (n+1) c 50 - (n+1))) 50):=⟨_,rfl⟩
 obtain⟨C,hC⟩:∃C,C=grownCap w (n+1) c 50:=⟨_,rfl⟩
 rw[←hW2,←hC]at hrun
 rw[←hW2,←hC]
 clear hW2 hC hc hvs h1v hvl hul hold hsrc
 cases a with
 |none=>
  have h0:=hnil rfl
  subst h0
  go_enter Tryz.func264,Tryz.ntmps264
  go_wp2_with (at_builtin; refine Lib.wpList_append_run _ rfl _ _ _ _ rfl _ _ rfl rfl _ _ (hrun _) ?_)
  go_ret
  exact⟨rfl,rfl⟩
 |some b=>
  obtain⟨ab,ao,asp⟩:=b
  have:=hsp _ rfl
  simp only at this
  subst this
  go_enter Tryz.func264,Tryz.ntmps264
  go_wp2_with (at_builtin; refine Lib.wpList_append_run _ rfl _ _ _ _ rfl _ _ rfl rfl _ _ (hrun _) ?_)
  all_goals (go_ret; exact⟨rfl,rfl⟩)
set_option maxHeartbeats 4000000 in
set_option maxRecDepth 1000000 in
theorem ins_grow(g n c i:Nat)(x:Addr)(vc:Nat)(us vs:List Value)(w:World)(hi:i<n)(hroom:c<n+1)(hn:n≤c)(hm:c≤9223372036854775807)(hbig:(n+1)*40≤140737488355328)(hul:us.length=n*3)(hvl:vs.length=3)
  (hc:∀t u,us[t]?=some u→w.cell? ⟨g,t,none⟩=some u) (h1:∀u∈us,u.oneCell'=true) (hvs:∀t u,vs[t]?=some u→w.cell? (x.add t)=some u) (h1v:∀u∈vs,u.oneCell'=true):
  Calls Tryz.prog 264 #[.slice (some ⟨g,0,none⟩) n c,.int .i64 i,.slice (some x) 1 vc] w fun e w'=>e=.returned (.slice (some ⟨w.heap.size,0,none⟩) (n+1) (grownCap w (n+1) c 50))∧
   w'=(((w.alloc (.cells ((us.take (i*3)).toArray++Builtin.zeroCells zPos.cells (n+1 - i)++Builtin.zeroCells zPos.cells (grownCap w (n+1) c 50 - (n+1))) 50)).drew.setCells w.heap.size (i*3) vs).drew).setCells w.heap.size ((i+1)*3) (us.drop (i*3)):=by
 obtain⟨i0,z0,hi0,hz0,hz1,hby,hzs⟩:=zlu.info
 have mixed:=zso
 have hbw:g<w.heap.size:=block_lt_of_cell (hc 0 _ (List.getElem?_eq_getElem (by omega)))
 have hxw:x.block<w.heap.size:=by have:=block_lt_of_cell (hvs 0 _ (List.getElem?_eq_getElem (by omega))); rwa [zbq]at this
 have htl:(us.take (i*3)).length=i*3:=by rw[List.length_take,hul]; omega
 have hold:(Builtin.firstCells i0.size i (.slice (some ⟨g,0,none⟩) i c)).run Tryz.prog w.drew=.ok (us.take (i*3)).toArray w.drew:=by
  rw[hz1]
  exact run_firstCells_some w.drew 3 i ⟨g,0,none⟩ i c (us.take (i*3)) htl (fun j v hj=>by
   rw[Addr.add_lit,Nat.zero_add]
   rw[List.getElem?_take]at hj
   split at hj
   ·exact hc j v hj
   ·cases hj)
 have hkk:(n:Int)+1 - (i:Int)=((n+1 - i:Nat):Int):=by omega
 have hik:i+(n+1 - i)=n+1:=by omega
 have hrz:∀ty,(Builtin.append_ #[29,3] ty #[.slice (some ⟨g,0,none⟩) i c,.int .i64 ((n:Int)+1 - (i:Int))]).run Tryz.prog w=
   .ok (.slice (some ⟨w.heap.size,0,none⟩) (n+1) (grownCap w (n+1) c 50)) (w.drew.alloc (.cells ((us.take (i*3)).toArray++Builtin.zeroCells zPos.cells (n+1 - i)++Builtin.zeroCells zPos.cells (grownCap w (n+1) c 50 - (n+1))) 50)):=fun ty=>by
  have h:=Lib.run_append_grow_zeros w 29 3 ty 50 i0 zPos .i64 .i64 undPos und3 hi0 (z0Pos hi0) (some ⟨g,0,none⟩) i c (us.take (i*3)) hold (n+1 - i) (by omega) (by omega) (by omega) (by omega) (by rw[hby]; omega) (by rw[hby,hik]; exact growslice_fits hroom hbig)
  rw[hik]at h
  rw[hkk]
  exact h
 obtain⟨G,hG⟩:∃G,G=grownCap w (n+1) c 50:=⟨_,rfl⟩
 obtain⟨ROW,hROW⟩:∃ROW:Array Value,ROW=(us.take (i*3)).toArray++Builtin.zeroCells zPos.cells (n+1 - i)++Builtin.zeroCells zPos.cells (G - (n+1)):=⟨_,rfl⟩
 rw[←hG]at hrz ⊢
 rw[←hROW]at hrz ⊢
 have hzl:∀m:Nat,(Builtin.zeroCells zPos.cells m).size=m*3:=fun m=>by have:=ybc m; simpa using this
 have hRl:(n+1)*3≤ROW.size:=by
  rw[hROW,Array.size_append,Array.size_append,hzl,hzl,List.size_toArray,htl]
  omega
 obtain⟨W1,hW1⟩:∃W1,W1=w.drew.alloc (.cells ROW 50):=⟨_,rfl⟩
 rw[←hW1]at hrz
 have hN:∀j,j<(n+1)*3→(W1.cell? ⟨w.heap.size,j,none⟩).isSome=true:=fun j hj=>by
  rw[hW1,World.cell?_alloc_at (w:=w.drew) ROW _ w.heap.size j rfl,Array.getElem?_eq_getElem (by omega)]; rfl
 have hNf:∀j,W1.frozen? ⟨w.heap.size,j,none⟩=false:=fun j=>by rw[hW1]; exact World.frozen?_alloc_at (w:=w.drew) ROW _ w.heap.size j rfl
 have hOb:∀j v,w.cell? ⟨g,j,none⟩=some v→W1.cell? ⟨g,j,none⟩=some v:=fun j v h=>by rw[hW1,World.cell?_alloc_past (w:=w.drew) _ g j hbw]; exact h
 have hOv:∀j v,w.cell? (x.add j)=some v→W1.cell? (x.add j)=some v:=fun j v h=>by
  rw[hW1]
  refine(World.cell?_of_block ?_).trans h
  rw[zbq]
  exact zch w.drew _ x.block hxw
 have hdl:(us.drop (i*3)).length=(n - i)*3:=by rw[List.length_drop,hul,Nat.sub_mul]
 have hcpA:∀(W:World),(∀x,W.cell? x=W1.cell? x)→(∀x,W.frozen? x=W1.frozen? x)→∀ty dc,(Builtin.copy_ #[29,29] ty #[.slice (some ⟨w.heap.size,i*3,none⟩) (n+1 - i) dc,.slice (some x) 1 vc]).run Tryz.prog W=.ok (goInt (1:Nat)) (W.setCells w.heap.size (i*3) vs):=fun W hWc hWf ty dc=>
  zfq W 29 29 ty 50 i0 w.heap.size (i*3) (n+1 - i) dc x 1 vc vs undPos hi0 1 (by simp only[Nat.min_def]; split<;>omega) (by rw[hvl,hz1])
   (fun j v hj=>by rw[hWc]; exact hOv _ v (hvs j v hj))
   (fun j hj=>by rw[hWc]; exact hN _ (by omega)) (fun j hj=>by rw[hWf]; exact hNf _) h1v
 have hGn:n+1≤G:=by rw[hG]; exact grownCap_ge w _ _ _
 have hG63:G≤9223372036854775807:=by
  have:=grownCap_le_maxLen w (n+1) c 50 (by unfold maxLen; omega)
  rw[←hG]at this
  unfold maxLen at this
  omega
 have hGi:¬(G=i):=by omega
 have hGim:¬(G=i+1):=by omega
 have hci:¬(c=i):=by omega
 have hbN:g≠w.heap.size:=by omega
 have hcpB:∀(W:World),(∀x,W.cell? x=(W1.setCells w.heap.size (i*3) vs).cell? x)→(∀x,W.frozen? x=(W1.setCells w.heap.size (i*3) vs).frozen? x)→∀ty dc sc,(Builtin.copy_ #[29,29] ty #[.slice (some ⟨w.heap.size,(i+1)*3,none⟩) (n - i) dc,.slice (some ⟨g,i*3,none⟩) (n - i) sc]).run Tryz.prog W=.ok (goInt (n - i:Nat)) (W.setCells w.heap.size ((i+1)*3) (us.drop (i*3))):=fun W hWc hWf ty dc sc=>
  zfq W 29 29 ty 50 i0 w.heap.size ((i+1)*3) (n - i) dc ⟨g,i*3,none⟩ (n - i) sc (us.drop (i*3)) undPos hi0 (n - i) (by simp only[Nat.min_def]; split<;>omega) (by rw[hdl,hz1])
   (fun j v hj=>by
    rw[Addr.add_lit,hWc,World.cell?_setCells_out _ _ _ _ _ (fun h _=>absurd h hbN)]
    exact hOb _ v (hc (i*3+j) v (by rwa [List.getElem?_drop]at hj)))
   (fun j hj=>by rw[hWc]; exact zem _ _ _ _ (fun t ht=>hN _ (by omega)) _ (hN _ (by omega)))
   (fun j hj=>by rw[hWf,World.frozen?_setCells]; exact hNf _) (fun v hv=>h1 v (List.mem_of_mem_drop hv))
 subst hW1
 have hE1:∀x,((w.alloc (.cells ROW 50)).drew).cell? x=(w.drew.alloc (.cells ROW 50)).cell? x:=fun x=>rfl
 have hE2:∀x,((w.alloc (.cells ROW 50)).drew).frozen? x=(w.drew.alloc (.cells ROW 50)).frozen? x:=fun x=>rfl
 have hF1:∀x,(((w.alloc (.cells ROW 50)).drew.setCells w.heap.size (i*3) vs).drew).cell? x=((w.drew.alloc (.cells ROW 50)).setCells w.heap.size (i*3) vs).cell? x:=fun x=>rfl
 have hF2:∀x,(((w.alloc (.cells ROW 50)).drew.setCells w.heap.size (i*3) vs).drew).frozen? x=((w.drew.alloc (.cells ROW 50)).setCells w.heap.size (i*3) vs).frozen? x:=fun x=>rfl
 have hw1:IntKind.i64.wrap ((i:Int)+1)=(i:Int)+1:=by rw[IntKind.wrap_i64]; omega
 have hb1:(0:Int)≤(i:Int)+1:=by omega
 have htn:((i:Int)+1).toNat=i+1:=by omega
 have hb3:(i:Int)≤(n:Int)+1:=by omega
 have hb6:(i:Int)+1≤(n:Int)+1:=by omega
 have hin:i≤n:=by omega
 have hz2:¬((i:Int)=(n:Int)):=by omega
 have hz3:(c:Int)<(n:Int)+1:=by omega
 clear hkk hik hold hROW hG hRl hc hvs h1 h1v hOb hOv hN hNf hzl htl hdl hvl hul
 go_enter Tryz.func264,Tryz.ntmps264
 go_wp2_with (first
  |(at_builtin; refine Lib.wpList_append_run _ rfl _ _ _ _ rfl _ _ rfl rfl _ _ (hrz _) ?_)
  |(at_builtin; refine zfn _ rfl _ _ 29 29 rfl _ _ rfl rfl (hcpA _ hE1 hE2 _ _) ?_)
  |(at_builtin; refine zfn _ rfl _ _ 29 29 rfl _ _ rfl rfl (hcpB _ (fun _=>rfl) (fun _=>rfl) _ _ _) ?_))
 go_region_law_o (refine zod rfl _ _ 29 29 rfl (.slice (some ⟨w.heap.size,(i+1)*3,none⟩) (n - i) (G - (i+1))) (.slice (some ⟨g,i*3,none⟩) (n - i) (c - i)) (by simp[Act.eval,Act.put]) (by simp[Act.eval,Act.put]) (hcpB _ hF1 hF2 3 (G - (i+1)) (c - i)) ?_)
 go_wp2
 go_ret
 exact⟨rfl,rfl⟩
end Go.Proofs.YtllkmncnmlmefaaGreat
namespace Go.Vc
open Go Go.RowKit
def DT.okD:(t:DT)→t.den→Prop
 | .int k,n=>(Lit.int k n).wf=true
 | .bool,_=>True
 | .str,s=>s.size≤maxLen
 | .slc t,l=>(∀x∈l,t.okD x)∧l.length≤maxLen
 | .unit,_=>True
 | .pair a b,x=>a.okD x.1∧b.okD x.2
theorem wf_i64{n:Int}(h:(Lit.int .i64 n).wf=true) : -9223372036854775808≤n∧n≤9223372036854775807:=by
 simp[Lit.wf,IntKind.min,IntKind.max,IntKind.signed,IntKind.bits]at h; omega
theorem Ctx.turn2{V w w':World}{U0:Nat→Prop}{L bs:List Nat}{o o':Own}{os:List Own}{G:List (Value×R)}(H:Ctx V U0 L bs (o::os) G w)(hb:∀b∈bs,b<w.heap.size)
  (h1:w'.os=w.os) (h2:w'.tape=w.tape) (h3:w'.output=w.output) (h4:w.heap.size≤w'.heap.size) (h5:∀b,b<w.heap.size→b∉o.bl→w'.heap[b]?=w.heap[b]?)
  (h6:∀b∈o'.bl,w.heap.size≤b∨b∈o.bl) (h7:o'.bl.Nodup) (h8:Later (Us U0 bs (o::os)) (Us U0 bs (o'::os)) w w'→o'.h (Us U0 bs (o'::os)) w'):Ctx V U0 L bs (o'::os) G w':=by
 have hol:∀b∈o.bl,b<w.heap.size:=fun b hb=>H.ltOwn (by rw[ownBl]; exact List.mem_append.2 (.inl hb))
 have hos:∀b∈ownBl os,b<w.heap.size:=fun b hb=>H.ltOwn (by rw[ownBl]; exact List.mem_append.2 (.inr hb))
 have hnd:=List.nodup_append.1 H.nd
 have hnd2:=List.nodup_append.1 (show (o.bl++ownBl os).Nodup from hnd.2.1)
 have l:Later (Us U0 bs (o::os)) (Us U0 bs (o'::os)) w w':=by
  refine⟨fun b hb hn=>h5 b hb fun hm=>hn (.inr (.inr (by rw[ownBl]; exact List.mem_append.2 (.inl hm)))),h4,fun b hb h=>?_⟩
  rcases h with h|h|h
  ·exact .inl h
  ·exact .inr (.inl h)
  ·rw[ownBl]at h
   rcases List.mem_append.1 h with h|h
   ·rcases h6 b h with h'|h'
    ·omega
    ·exact .inr (.inr (by rw[ownBl]; exact List.mem_append.2 (.inl h')))
   ·exact .inr (.inr (by rw[ownBl]; exact List.mem_append.2 (.inr h)))
 refine⟨h1.trans H.os_,h2.trans H.tape,h3.trans H.output,Nat.le_trans H.size h4,fun b hb hL=>?_,H.low,fun b hb=>?_,H.u0,?_,fun x hx=>?_,H.facts.mono l⟩
 ·rw[h5 b (Nat.lt_of_lt_of_le hb H.size) fun hm=>?_]
  ·exact H.same b hb hL
  ·rcases H.lowo b (by rw[ownBl]; exact List.mem_append.2 (.inl hm)) with h|h
   ·omega
   ·exact hL h
 ·rw[ownBl]at hb
  rcases List.mem_append.1 hb with hb|hb
  ·rcases h6 b hb with h|h
   ·exact .inl (Nat.le_trans H.size h)
   ·exact H.lowo b (by rw[ownBl]; exact List.mem_append.2 (.inl h))
  ·exact H.lowo b (by rw[ownBl]; exact List.mem_append.2 (.inr hb))
 ·show (bs++(o'.bl++ownBl os)).Nodup
  refine List.nodup_append.2 ⟨hnd.1,List.nodup_append.2 ⟨h7,hnd2.2.1,fun x hx y hy e=>?_⟩,fun x hx y hy e=>?_⟩
  ·subst e
   rcases h6 x hx with h|h
   ·have:=hos x hy; omega
   ·exact hnd2.2.2 x h x hy rfl
  ·subst e
   rcases List.mem_append.1 hy with hy|hy
   ·rcases h6 x hy with h|h
    ·have:=hb x hx; omega
    ·exact hnd.2.2 x hx x (List.mem_append.2 (.inl h)) rfl
   ·exact hnd.2.2 x hx x (List.mem_append.2 (.inr hy)) rfl
 ·rcases List.mem_cons.1 hx with rfl|hx
  ·exact h8 l
  ·refine x.mono (H.own x (List.mem_cons_of_mem _ hx)) l fun b hb=>h5 b (x.lt (H.own x (List.mem_cons_of_mem _ hx)) b hb) fun hm=>?_
   exact hnd2.2.2 b hm b (zcp.2 ⟨x,hx,hb⟩) rfl
theorem CtL.one{P:Program}{f:FuncId}{e k:Nat}{els:List (List R)}{las:List LA}{q:QR}(hla:∀{U w vs ars},laH U w [] las vs ars→ars=[])
  (h:∀(U:Nat→Prop) (w:World) (a:Option Addr) (c:Nat) (vs:List Value),Ctx w U (oblk a) [] [Own.row e k a c els] [] w→(∀b∈oblk a,¬U b)→laH (Us U [] [Own.row e k a c els]) w [] las vs []→
   CallsX P f (Value.slice a els.length c::vs).toArray w fun v w'=>∃os,Ctx w U (oblk a) [] os [] w'∧q.h (Us U [] os) w' v os):
  CtL P f (.row e k els::las) [] (.q q) []:=by
 intro U w vs bl uss oss ars hbl H hU hlb hl
 have hbl0:bl=[]:=List.eq_nil_of_length_eq_zero (by simpa using hbl)
 subst hbl0
 simp only[lbH]at hlb
 obtain⟨rfl,rfl⟩:=hlb
 simp only[laH]at hl
 obtain⟨v,vs',o,ars',rfl,rfl,ho,hl⟩:=hl
 have h0:=hla hl
 subst h0
 simp only[QR.h]at ho
 obtain⟨a,c,rfl,rfl⟩:=ho
 have e1:objs [] ([]:List LB) []++(([]:List (List Own)).flatten++([Own.row e k a c els]++[]))=[Own.row e k a c els]:=rfl
 have e2:([]:List Nat)++ownBl (([]:List (List Own)).flatten++([Own.row e k a c els]++[]))=oblk a:=by simp[ownBl,Own.row]
 rw[e1]at H hl
 rw[e2]at H hU
 refine(h U w a c vs' H hU hl).mono fun v w' ⟨os,H',hq⟩=>⟨[],[],os,?_,⟨rfl,rfl⟩,?_⟩
 ·rw[e2]; simpa[objs]using H'
 ·simpa[objs,lqH]using hq
end Go.Vc
namespace Go.Proofs.YtllkmncnmlmefaaGreat
open Go Go.Vc Go.RowKit Go.Lib
theorem hasBody122:zku Tryz.prog 263:=⟨_,Tryz.func263,by decide +kernel,rfl⟩
theorem zno:zku Tryz.prog 264:=⟨_,Tryz.func264,by decide +kernel,rfl⟩
theorem del_ctL(els:List (List R))(i j:Int)(h0:0≤i)(hij:i<j)(hj:j≤els.length):
  CtL Tryz.prog 263 [.row 50 3 els,.r (.val (.int .i64 i)),.r (.val (.int .i64 j))] [] (.q (.own 50 3 (els.take i.toNat++els.drop j.toNat))) []:=by
 obtain⟨i,rfl⟩:=Int.eq_ofNat_of_zero_le h0
 obtain⟨j,rfl⟩:=Int.eq_ofNat_of_zero_le (by omega:0≤j)
 have hij:i<j:=by omega
 have hj:j≤els.length:=by omega
 simp only[Int.toNat_natCast]
 refine CtL.one (fun h=>?_) fun U w a c vs H hU hl=>?_
 ·simp only[laH]at h
  obtain⟨_,_,_,_,_,_,_,_,_,h⟩:=h
  exact h
 ·simp only[laH,R.h]at hl
  obtain⟨_,_,rfl,rfl,_,_,rfl,rfl,rfl,_⟩:=hl
  obtain⟨us,ho,hus,h1,hk⟩:=H.own _ (List.mem_singleton.2 rfl)
  obtain⟨hxl,ho⟩:=ho
  rcases ho with ⟨_,hn⟩|⟨g,cap,cur,heq,hbase,hg,hn1,hn2,hn3,hn4⟩
  ·omega
  simp only[Value.slice.injEq]at heq
  obtain⟨rfl,_,rfl⟩:=heq
  have hgl:g<w.heap.size:=(Array.getElem?_eq_some_iff.1 hg).1
  have hc:∀t u,us[t]?=some u→w.cell? ⟨g,t,none⟩=some u:=fun t u ht=>by
   have ht':t<us.length:=(List.getElem?_eq_some_iff.1 ht).1
   have e1:(cur.toList.take (els.length*3))[t]?=us[t]?:=by rw[hn4]
   rw[List.getElem?_take_of_lt (by omega),ht,Array.getElem?_toList]at e1
   simp[World.cell?,hg,e1]
  have hf:∀t,w.frozen? ⟨g,t,none⟩=false:=fun t=>by simp[World.frozen?,hg]
  have hm:c≤9223372036854775807:=by rw[zax]at hn2; exact hn2
  refine⟨.inl ⟨hasBody122,(del_raw g els.length c i j us w hxl hc h1 hf hij hj hn1 hm).mono fun e w' ⟨he,hw⟩=>⟨_,he,?_⟩⟩⟩
  obtain⟨cur1,hg1,hs1⟩:=zif (o:=0+i*3) (vs:=us.drop (j*3)) (w:=w.drew) hg
  obtain⟨cur2,hg2,hs2⟩:=zif (o:=(i+(els.length - j))*3) (vs:=(Builtin.zeroCells zPos.cells (els.length - (i+(els.length - j)))).toList) hg1
  obtain⟨a1,a2,a3,a4⟩:=zeh g (0+i*3) (us.drop (j*3)) w.drew
  obtain⟨b1,b2,b3,b4⟩:=zeh g ((i+(els.length - j))*3) (Builtin.zeroCells zPos.cells (els.length - (i+(els.length - j)))).toList (w.drew.setCells g (0+i*3) (us.drop (j*3)))
  have hel:(els.take i++els.drop j).length=i+(els.length - j):=by rw[List.length_append,List.length_take,List.length_drop]; omega
  have hkk:∀l∈els.take i++els.drop j,l.length=3:=fun l hl=>(List.mem_append.1 hl).elim (fun h=>hk l (List.mem_of_mem_take h)) fun h=>hk l (List.mem_of_mem_drop h)
  have hdl:(us.drop (j*3)).length=(els.length - j)*3:=by rw[List.length_drop,hxl,Nat.sub_mul]
  have htl:(us.take (i*3)).length=i*3:=by rw[List.length_take,hxl]; omega
  refine⟨[Own.row 50 3 (some ⟨g,0,none⟩) c (els.take i++els.drop j)],?_,?_⟩
  ·have H0:Ctx w U (oblk (some ⟨g,0,none⟩)) [] (Own.row 50 3 (some ⟨g,0,none⟩) c els::[]) [] w:=H
   rw[hw]
   refine H0.turn2 (by simp) (b1.trans a1) (b2.trans a2) (b3.trans a3) (by rw[b4,a4]; exact Nat.le_refl _) (fun b hb hn=>?_) (fun b hb=>.inr hb) (by simp[Own.row,oblk]) fun l=>?_
   ·have hne:b≠g:=by simpa[Own.row,oblk]using hn
    rw[zgz hne,zgz hne]; rfl
   ·refine rowH hg2 (by rw[hs2,hs1,hn3]) (xs:=us.take (i*3)++us.drop (j*3)) (fun t u ht=>?_) ?_ (fun u hu=>(List.mem_append.1 hu).elim (fun h=>h1 u (List.mem_of_mem_take h)) fun h=>h1 u (List.mem_of_mem_drop h)) hkk ?_ (by omega) hn2
    ·have hlen:t<i*3+(els.length - j)*3:=by have:=(List.getElem?_eq_some_iff.1 ht).1; rw[List.length_append,htl,hdl]at this; exact this
     rw[World.cell?_setCells_out g _ _ _ _ (fun _ _=>by show t<(i+(els.length - j))*3∨_; omega)]
     by_cases h3:t<i*3
     ·rw[List.getElem?_append_left (by omega),List.getElem?_take_of_lt h3]at ht
      rw[World.cell?_setCells_out g _ _ _ _ (fun _ _=>by show t<0+i*3∨_; omega)]
      exact hc t u ht
     ·rw[List.getElem?_append_right (by omega),htl]at ht
      have h4:t - i*3<(us.drop (j*3)).length:=by omega
      have:=World.cell?_setCells_in g (us.drop (j*3)) (0+i*3) w.drew (fun q hq=>by
       show (w.cell? _).isSome=true
       rw[hc _ _ (List.getElem?_eq_getElem (by omega))]; rfl) (t - i*3) h4
      rw[show 0+i*3+(t - i*3)=t by omega]at this
      rw[this,←ht,List.getElem?_eq_getElem h4]
    ·rw[List.flatten_append,zyf hk i (by omega),ygy hk j hj]
     exact zcv (zbj l _ (zhs _ hus)) (zbj l _ (znb _ hus))
    ·rw[List.length_append,htl,hdl,hel,Nat.add_mul]
  ·simp only[QR.h]
   exact⟨_,_,by rw[hel],rfl⟩
end Go.Proofs.YtllkmncnmlmefaaGreat
namespace Go.Vc
open Go Go.RowKit Go.Lib
theorem zyn{U:Nat→Prop}{w:World}{x:Addr}:∀{rs:List R} {off:Nat},cellsH U w (some x) off rs→∃us,listH U w rs us∧(∀u∈us,u.oneCell'=true)∧∀t u,us[t]?=some u→w.cell? (x.add (off+t))=some u
 |[],off,_=>⟨[],by simp[listH],by simp,by simp⟩
 |r::rs,off,h=>by
  simp only[cellsH]at h
  obtain⟨⟨y,u,hy,_,_,hc,h1,hr⟩,h⟩:=h
  cases hy
  obtain⟨us,h2,h3,h4⟩:=zyn h
  refine⟨u::us,by simp only[listH]; exact⟨u,us,rfl,hr,h2⟩,fun v hv=>?_,fun t v ht=>?_⟩
  ·rcases List.mem_cons.1 hv with rfl|hv
   ·exact h1
   ·exact h3 v hv
  ·cases t with
   |zero=>simp only[List.getElem?_cons_zero,Option.some.injEq]at ht; subst ht; simpa using hc
   |succ t=>
    have:=h4 t v (by simpa using ht)
    rwa [show off+1+t=off+(t+1) by omega]at this
theorem zwv{W:World}{g i k n:Nat}{us vs:List Value}(hu:us.length=n*k)(hv:vs.length=k)(hi:i≤n)
  (hA:∀t u,t<i*k→us[t]?=some u→W.cell? ⟨g,t,none⟩=some u) (hB:∀t u,vs[t]?=some u→W.cell? ⟨g,i*k+t,none⟩=some u)
  (hC:∀t u,(us.drop (i*k))[t]?=some u→W.cell? ⟨g,(i+1)*k+t,none⟩=some u):
  ∀t u,(us.take (i*k)++(vs++us.drop (i*k)))[t]?=some u→W.cell? ⟨g,t,none⟩=some u:=by
 intro t u ht
 have hik:i*k≤n*k:=Nat.mul_le_mul_right k hi
 have htl:(us.take (i*k)).length=i*k:=by rw[List.length_take,hu]; omega
 by_cases h1:t<i*k
 ·rw[List.getElem?_append_left (by omega),List.getElem?_take_of_lt h1]at ht
  exact hA t u h1 ht
 ·rw[List.getElem?_append_right (by omega),htl]at ht
  by_cases h2:t - i*k<vs.length
  ·rw[List.getElem?_append_left h2]at ht
   have:=hB _ u ht
   rwa [show i*k+(t - i*k)=t by omega]at this
  ·rw[List.getElem?_append_right (by omega)]at ht
   have:=hC _ u ht
   rw[Nat.add_mul,Nat.one_mul,hv]at this
   rwa [show i*k+k+(t - i*k - k)=t by omega]at this
theorem Ctx.putOne{w w':World}{U0:Nat→Prop}{a:Option Addr}{e k c g c' i:Nat}{els:List (List R)}{v:List R}{us vs:List Value}{cur:Array Value}
  (H:Ctx w U0 (oblk a) [] [Own.row e k a c els] [] w) (hus:listH (Us U0 [] [Own.row e k a c els]) w els.flatten us) (h1:∀u∈us,u.oneCell'=true) (hk:∀l∈els,l.length=k)
  (hvs:listH (Us U0 [] [Own.row e k a c els]) w v vs) (h1v:∀u∈vs,u.oneCell'=true) (hv:v.length=k) (hi:i≤els.length)
  (e1:w'.os=w.os) (e2:w'.tape=w.tape) (e3:w'.output=w.output) (e4:w.heap.size≤w'.heap.size) (e5:∀b,b<w.heap.size→b∉oblk a→w'.heap[b]?=w.heap[b]?) (e6:w.heap.size≤g∨g∈oblk a)
  (hg:w'.heap[g]?=some (.cells cur e (0,0))) (hs:cur.size=c'*k) (hc:∀t u,(us.take (i*k)++(vs++us.drop (i*k)))[t]?=some u→w'.cell? ⟨g,t,none⟩=some u) (hn:els.length+1≤c') (hm:c'≤maxLen):
  ∃os,Ctx w U0 (oblk a) [] os [] w'∧(QR.own e k (els.take i++v::els.drop i)).h (Us U0 [] os) w' (.slice (some ⟨g,0,none⟩) (els.length+1) c') os:=by
 have hul:us.length=els.length*k:=by rw[zbe hus,zfs hk]
 have hvl:vs.length=k:=by rw[zbe hvs,hv]
 have hel:(els.take i++v::els.drop i).length=els.length+1:=by rw[List.length_append,List.length_cons,List.length_take,List.length_drop]; omega
 have hkk:∀l∈els.take i++v::els.drop i,l.length=k:=fun l hl=>by
  rcases List.mem_append.1 hl with h|h
  ·exact hk l (List.mem_of_mem_take h)
  ·rcases List.mem_cons.1 h with rfl|h
   ·exact hv
   ·exact hk l (List.mem_of_mem_drop h)
 refine⟨[Own.row e k (some ⟨g,0,none⟩) c' (els.take i++v::els.drop i)],?_,?_⟩
 ·have H0:Ctx w U0 (oblk a) [] (Own.row e k a c els::[]) [] w:=H
  refine H0.turn2 (by simp) e1 e2 e3 e4 e5 (fun b hb=>?_) (by simp[Own.row,oblk]) fun l=>?_
  ·simp only[Own.row,oblk,List.mem_singleton]at hb
   subst hb; exact e6
  ·refine rowH hg hs (xs:=us.take (i*k)++(vs++us.drop (i*k))) hc ?_ (fun u hu=>?_) hkk ?_ (by omega) hm
   ·rw[List.flatten_append,List.flatten_cons,zyf hk i hi,ygy hk i hi]
    exact zcv (zbj l _ (zhs _ hus)) (zcv (zbj l _ hvs) (zbj l _ (znb _ hus)))
   ·rcases List.mem_append.1 hu with h|h
    ·exact h1 u (List.mem_of_mem_take h)
    ·rcases List.mem_append.1 h with h|h
     ·exact h1v u h
     ·exact h1 u (List.mem_of_mem_drop h)
   ·have hik:i*k≤els.length*k:=Nat.mul_le_mul_right k hi
    rw[List.length_append,List.length_append,List.length_take,List.length_drop,hul,hvl,hel,Nat.succ_mul]; omega
 ·simp only[QR.h]
  exact⟨_,_,by rw[hel],rfl⟩
end Go.Vc
namespace Go.Proofs.YtllkmncnmlmefaaGreat
open Go Go.Vc Go.RowKit Go.Lib
theorem ins_ctL(els:List (List R))(v:List R)(i:Int)(h0:0≤i)(hi:i≤els.length)(hv:v.length=3)(hbig:(els.length+1)*40≤140737488355328):
  CtL Tryz.prog 264 [.row 50 3 els,.r (.val (.int .i64 i)),.r (.sl 3 [v])] [] (.q (.own 50 3 (els.take i.toNat++v::els.drop i.toNat))) []:=by
 obtain⟨i,rfl⟩:=Int.eq_ofNat_of_zero_le h0
 have hi:i≤els.length:=by omega
 simp only[Int.toNat_natCast]
 refine CtL.one (fun h=>?_) fun U w a c vs0 H hU hl=>?_
 ·simp only[laH]at h
  obtain⟨_,_,_,_,_,_,_,_,_,h⟩:=h
  exact h
 ·simp only[laH,R.h]at hl
  obtain⟨_,_,rfl,rfl,_,_,rfl,⟨av,vc,rfl,_,_,hrow⟩,rfl,_⟩:=hl
  simp only[rowsH]at hrow
  obtain⟨_,hcl,_⟩:=hrow
  obtain⟨x,hxU,hxw,hcl⟩:∃x,¬Us U [] [Own.row 50 3 a c els] x.block∧x.block<w.heap.size∧av=some x∧cellsH (Us U [] [Own.row 50 3 a c els]) w (some x) 0 v:=by
   cases v with
   |nil=>simp at hv
   |cons r rs=>
    have hcl2:=hcl
    simp only[cellsH]at hcl
    obtain⟨⟨x,u,rfl,h1,h2,_⟩,_⟩:=hcl
    exact⟨x,h1,h2,rfl,hcl2⟩
  obtain⟨rfl,hcl⟩:=hcl
  obtain⟨vs,hvs,h1v,hcv⟩:=zyn hcl
  simp only[Nat.zero_add]at hcv
  have hvl:vs.length=3:=by rw[zbe hvs,hv]
  obtain⟨us,ho,hus,h1,hk⟩:=H.own _ (List.mem_singleton.2 rfl)
  obtain⟨hxl,ho⟩:=ho
  have hzl:∀m:Nat,(Builtin.zeroCells zPos.cells m).size=m*3:=fun m=>by have:=ybc m; simpa using this
  have grow:(∀b,a=some b→b.spot=none)→(a=none→els.length=0)→(∀b,a=some b→∀t u,us[t]?=some u→w.cell? (b.add t)=some u)→els.length≤c→c<els.length+1→i=els.length→
    CallsX Tryz.prog 264 (Value.slice a els.length c::[Value.int .i64 (i:Int),.slice (some x) 1 vc]).toArray w fun v_1 w'=>∃os,Ctx w U (oblk a) [] os [] w'∧(QR.own 50 3 (els.take i++v::els.drop i)).h (Us U [] os) w' v_1 os:=by
   intro hsp hnil hc hnc hroom hie
   subst hie
   refine⟨.inl ⟨zno,(ygq a els.length c x vc us vs w hroom hnc hbig hxl hvl hnil hsp hc hcv h1v).mono fun e w' ⟨he,hw⟩=>⟨_,he,?_⟩⟩⟩
   have hC:=grownCap_ge w (els.length+1) c 50
   have hC2:=grownCap_le_maxLen w (els.length+1) c 50 (by rw[zax]; omega)
   rw[hw]
   generalize grownCap w (els.length+1) c 50=C at*
   refine Ctx.putOne (us:=us) (vs:=vs) H hus h1 hk hvs h1v hv hi rfl rfl rfl (by simp) (fun b hb _=>zch w.drew _ b hb) (.inl (Nat.le_refl _)) (heap_alloc_new w.drew _) ?_ ?_ hC hC2
   ·rw[Array.size_append,hzl,List.size_toArray,List.length_append,hxl,hvl]; omega
   ·have hcell:∀t u,(us++vs)[t]?=some u→(w.drew.alloc (.cells ((us++vs).toArray++Builtin.zeroCells zPos.cells (C - (els.length+1))) 50)).cell? ⟨w.heap.size,t,none⟩=some u:=fun t u ht=>by
     have hlt:=(List.getElem?_eq_some_iff.1 ht).1
     rw[World.cell?_alloc_at (w:=w.drew) _ _ w.heap.size t rfl,Array.getElem?_append_left (by simpa using hlt),List.getElem?_toArray]
     exact ht
    rw[←hxl,List.take_length,List.drop_length,List.append_nil]
    exact hcell
  rcases ho with ⟨he,hn⟩|⟨g,cap,cur,heq,hbase,hg,hn1,hn2,hn3,hn4⟩
  ·simp only[Value.slice.injEq]at he
   obtain⟨rfl,_,rfl⟩:=he
   refine grow (by simp) (fun _=>hn) (by simp) (by omega) (by omega) (by omega)
  simp only[Value.slice.injEq]at heq
  obtain⟨rfl,_,rfl⟩:=heq
  have hgl:g<w.heap.size:=(Array.getElem?_eq_some_iff.1 hg).1
  have hxg:x.block≠g:=fun e=>hxU (.inr (.inr (by rw[e]; simp[ownBl,Own.row,oblk])))
  have hc:∀t u,us[t]?=some u→w.cell? ⟨g,t,none⟩=some u:=fun t u ht=>by
   have ht':t<us.length:=(List.getElem?_eq_some_iff.1 ht).1
   have e1:(cur.toList.take (els.length*3))[t]?=us[t]?:=by rw[hn4]
   rw[List.getElem?_take_of_lt (by omega),ht,Array.getElem?_toList]at e1
   simp[World.cell?,hg,e1]
  have hsp:∀t,t<c*3→(w.cell? ⟨g,t,none⟩).isSome=true:=fun t ht=>by
   simp[World.cell?,hg,hn3,ht]
  have hf:∀t,w.frozen? ⟨g,t,none⟩=false:=fun t=>by simp[World.frozen?,hg]
  have hm:c≤9223372036854775807:=by rw[zax]at hn2; exact hn2
  by_cases hroom:els.length+1≤c
  ·by_cases hie:i=els.length
   ·subst hie
    refine⟨.inl ⟨zno,(ygp g els.length c x vc vs w hroom hm hvl hsp hf hcv h1v).mono fun e w' ⟨he,hw⟩=>⟨_,he,?_⟩⟩⟩
    obtain⟨cur1,hg1,hs1⟩:=zif (o:=els.length*3) (vs:=vs) (w:=w) hg
    obtain⟨a1,a2,a3,a4⟩:=zeh g (els.length*3) vs w
    rw[hw]
    refine Ctx.putOne (us:=us) (vs:=vs) H hus h1 hk hvs h1v hv hi a1 a2 a3 (by rw[a4]; exact Nat.le_refl _) (fun b hb hn=>zgz (by simpa[oblk]using hn)) (.inr (by simp[oblk])) hg1 (by rw[hs1,hn3]) ?_ hroom hn2
    refine zwv hxl hvl (Nat.le_refl _) (fun t u ht hu=>?_) (fun t u hu=>?_) (fun t u hu=>?_)
    ·rw[World.cell?_setCells_out g _ _ _ _ (fun _ _=>.inl ht)]; exact hc t u hu
    ·have h4:=(List.getElem?_eq_some_iff.1 hu).1
     have:=World.cell?_setCells_in g vs (els.length*3) w (fun q hq=>hsp _ (by omega)) t h4
     rw[this,←hu,List.getElem?_eq_getElem h4]
    ·rw[List.drop_eq_nil_of_le (by omega)]at hu; simp at hu
   ·have hlt:i<els.length:=by omega
    refine⟨.inl ⟨zno,(ins_shift g els.length c i x vc us vs cur 50 w hlt hroom hm hxl hvl hg hxg hc h1 hsp hf hcv h1v).mono fun e w' ⟨he,hw⟩=>⟨_,he,?_⟩⟩⟩
    obtain⟨cur1,hg1,hs1⟩:=zif (o:=(i+1)*3) (vs:=us.drop (i*3)) (w:=w.drew) hg
    obtain⟨cur2,hg2,hs2⟩:=zif (o:=i*3) (vs:=vs) hg1
    obtain⟨a1,a2,a3,a4⟩:=zeh g ((i+1)*3) (us.drop (i*3)) w.drew
    obtain⟨b1,b2,b3,b4⟩:=zeh g (i*3) vs (w.drew.setCells g ((i+1)*3) (us.drop (i*3)))
    have hdl:(us.drop (i*3)).length=(els.length - i)*3:=by rw[List.length_drop,hxl,Nat.sub_mul]
    have hsp1:∀t,t<c*3→((w.drew.setCells g ((i+1)*3) (us.drop (i*3))).cell? ⟨g,t,none⟩).isSome=true:=fun t ht=>
     zem g _ _ w.drew (fun t ht=>hsp _ (by omega)) _ (hsp t ht)
    rw[hw]
    refine Ctx.putOne (us:=us) (vs:=vs) H hus h1 hk hvs h1v hv hi (b1.trans a1) (b2.trans a2) (b3.trans a3) (by rw[b4,a4]; exact Nat.le_refl _) (fun b hb hn=>?_) (.inr (by simp[oblk])) hg2 (by rw[hs2,hs1,hn3]) ?_ hroom hn2
    ·have hne:b≠g:=by simpa[oblk]using hn
     rw[zgz hne,zgz hne]; rfl
    ·refine zwv hxl hvl hi (fun t u ht hu=>?_) (fun t u hu=>?_) (fun t u hu=>?_)
     ·rw[World.cell?_setCells_out g _ _ _ _ (fun _ _=>.inl ht),World.cell?_setCells_out g _ _ _ _ (fun _ _=>.inl (by show t<(i+1)*3; omega))]
      exact hc t u hu
     ·have h4:=(List.getElem?_eq_some_iff.1 hu).1
      have:=World.cell?_setCells_in g vs (i*3) (w.drew.setCells g ((i+1)*3) (us.drop (i*3))) (fun q hq=>hsp1 _ (by omega)) t h4
      rw[this,←hu,List.getElem?_eq_getElem h4]
     ·have h4:=(List.getElem?_eq_some_iff.1 hu).1
      rw[World.cell?_setCells_out g _ _ _ _ (fun _ _=>.inr (by show i*3+vs.length≤(i+1)*3+t; omega))]
      have:=World.cell?_setCells_in g (us.drop (i*3)) ((i+1)*3) w.drew (fun q hq=>hsp _ (by omega)) t h4
      rw[this,←hu,List.getElem?_eq_getElem h4]
  ·by_cases hie:i=els.length
   ·refine grow (fun b hb=>by cases hb; rfl) (by simp) (fun b hb t u hu=>?_) hn1 (by omega) hie
    cases hb
    rw[Addr.add_lit,Nat.zero_add]
    exact hc t u hu
   ·have hlt:i<els.length:=by omega
    refine⟨.inl ⟨zno,(ins_grow g els.length c i x vc us vs w hlt (by omega) hn1 hm hbig hxl hvl hc h1 hcv h1v).mono fun e w' ⟨he,hw⟩=>⟨_,he,?_⟩⟩⟩
    have hC:=grownCap_ge w (els.length+1) c 50
    have hC2:=grownCap_le_maxLen w (els.length+1) c 50 (by rw[zax]; omega)
    rw[hw]
    generalize grownCap w (els.length+1) c 50=C at*
    generalize hROW:(us.take (i*3)).toArray++Builtin.zeroCells zPos.cells (els.length+1 - i)++Builtin.zeroCells zPos.cells (C - (els.length+1))=ROW
    have htl:(us.take (i*3)).length=i*3:=by rw[List.length_take,hxl]; omega
    have hRs:ROW.size=C*3:=by rw[←hROW,Array.size_append,Array.size_append,hzl,hzl,List.size_toArray,htl]; omega
    have hRt:∀t,t<i*3→ROW[t]?=us[t]?:=fun t ht=>by
     rw[←hROW,Array.append_assoc,Array.getElem?_append_left (by rw[List.size_toArray]; omega),List.getElem?_toArray,List.getElem?_take_of_lt ht]
    have hg0:(w.alloc (.cells ROW 50)).drew.heap[w.heap.size]?=some (.cells ROW 50 (0,0)):=heap_alloc_new w _
    obtain⟨cur1,hg1,hs1⟩:=zif (o:=i*3) (vs:=vs) hg0
    have hg1':((w.alloc (.cells ROW 50)).drew.setCells w.heap.size (i*3) vs).drew.heap[w.heap.size]?=some (.cells cur1 50 (0,0)):=hg1
    obtain⟨cur2,hg2,hs2⟩:=zif (o:=(i+1)*3) (vs:=us.drop (i*3)) hg1'
    obtain⟨a1,a2,a3,a4⟩:=zeh w.heap.size (i*3) vs (w.alloc (.cells ROW 50)).drew
    obtain⟨b1,b2,b3,b4⟩:=zeh w.heap.size ((i+1)*3) (us.drop (i*3)) ((w.alloc (.cells ROW 50)).drew.setCells w.heap.size (i*3) vs).drew
    have hdl:(us.drop (i*3)).length=(els.length - i)*3:=by rw[List.length_drop,hxl,Nat.sub_mul]
    have hcell0:∀t,(w.alloc (.cells ROW 50)).drew.cell? ⟨w.heap.size,t,none⟩=ROW[t]?:=fun t=>World.cell?_alloc_at (w:=w) ROW _ w.heap.size t rfl
    have hsp0:∀t,t<C*3→((w.alloc (.cells ROW 50)).drew.cell? ⟨w.heap.size,t,none⟩).isSome=true:=fun t ht=>by
     rw[hcell0,Array.getElem?_eq_getElem (by omega)]; rfl
    have hsp1:∀t,t<C*3→(((w.alloc (.cells ROW 50)).drew.setCells w.heap.size (i*3) vs).drew.cell? ⟨w.heap.size,t,none⟩).isSome=true:=fun t ht=>
     zem w.heap.size _ _ (w.alloc (.cells ROW 50)).drew (fun t ht=>hsp0 _ (by omega)) _ (hsp0 t ht)
    refine Ctx.putOne (us:=us) (vs:=vs) H hus h1 hk hvs h1v hv hi (b1.trans a1) (b2.trans a2) (b3.trans a3) (by rw[b4]; show _≤(World.setCells _ _ _ _).heap.size; rw[a4]; simp[World.drew]) (fun b hb hn=>?_) (.inl (Nat.le_refl _)) hg2 (by rw[hs2,hs1,hRs]) ?_ hC hC2
    ·have hne:b≠w.heap.size:=by omega
     rw[zgz hne]
     show ((w.alloc (.cells ROW 50)).drew.setCells w.heap.size (i*3) vs).heap[b]?=_
     rw[zgz hne]
     exact zch w _ b hb
    ·refine zwv hxl hvl hi (fun t u ht hu=>?_) (fun t u hu=>?_) (fun t u hu=>?_)
     ·rw[World.cell?_setCells_out _ _ _ _ _ (fun _ _=>.inl (by show t<(i+1)*3; omega))]
      show ((w.alloc (.cells ROW 50)).drew.setCells w.heap.size (i*3) vs).cell? _=_
      rw[World.cell?_setCells_out _ _ _ _ _ (fun _ _=>.inl ht),hcell0,hRt t ht]
      exact hu
     ·have h4:=(List.getElem?_eq_some_iff.1 hu).1
      rw[World.cell?_setCells_out _ _ _ _ _ (fun _ _=>.inl (by show i*3+t<(i+1)*3; omega))]
      show ((w.alloc (.cells ROW 50)).drew.setCells w.heap.size (i*3) vs).cell? _=_
      have:=World.cell?_setCells_in w.heap.size vs (i*3) (w.alloc (.cells ROW 50)).drew (fun q hq=>hsp0 _ (by omega)) t h4
      rw[this,←hu,List.getElem?_eq_getElem h4]
     ·have h4:=(List.getElem?_eq_some_iff.1 hu).1
      have:=World.cell?_setCells_in w.heap.size (us.drop (i*3)) ((i+1)*3) ((w.alloc (.cells ROW 50)).drew.setCells w.heap.size (i*3) vs).drew (fun q hq=>hsp1 _ (by omega)) t h4
      rw[this,←hu,List.getElem?_eq_getElem h4]
end Go.Proofs.YtllkmncnmlmefaaGreat

namespace Go.Proofs.YtllkmncnmlmefaaGreat
open Go Go.Vc Go.RowKit
@[reducible] def tP0:DT:=(.pair tU0 (.pair (.slc tU0) .unit))
def delO(l:List tP0.den)(i j:Int):Option (List tP0.den×Unit):=if 0≤i∧i<j∧j≤l.length then some (l.take i.toNat++l.drop j.toNat,()) else none
def insO(l:List tP0.den)(i:Int)(v:List tP0.den):Option (List tP0.den×Unit):=
 if 0≤i∧i≤l.length∧(l.length+1)*40≤140737488355328 then (match v with|[x]=>some (l.take i.toNat++x::l.drop i.toNat,())|_=>none) else none
noncomputable def delete_s:LS:=⟨[.row 50 tP0,.v (.int .i64),.v (.int .i64)],[],[],.q (.own 50 tP0),fun z=>delO z.2.2.1 z.1 z.2.1⟩
noncomputable def insert_s:LS:=⟨[.row 50 tP0,.v (.int .i64),.v (.slc tP0)],[],[],.q (.own 50 tP0),fun z=>insO z.2.2.1 z.1 z.2.1⟩
theorem delete_ok:ECok Tryz.prog 263 (.ls delete_s):=by
 refine⟨rfl,rfl,rfl,fun z o h=>?_⟩
 replace h:delO z.2.2.1 z.1 z.2.1=some o:=h
 unfold delO at h
 split at h
 ·rename_i hc
  have h:=Option.some.inj h
  subst h
  have:=del_ctL (z.2.2.1.map fun x=>tP0.enc x) z.1 z.2.1 hc.1 hc.2.1 (by rw[List.length_map]; exact hc.2.2)
  rw[←List.map_take,←List.map_drop,←List.map_append]at this
  exact this
 ·cases h
theorem insert_ok:ECok Tryz.prog 264 (.ls insert_s):=by
 refine⟨rfl,rfl,rfl,fun z o h=>?_⟩
 replace h:insO z.2.2.1 z.1 z.2.1=some o:=h
 unfold insO at h
 split at h
 ·rename_i hc
  obtain⟨i,v,l,u⟩:=z
  simp only at h hc
  split at h
  ·rename_i x
   have h:=Option.some.inj h
   subst h
   have:=ins_ctL (l.map fun x=>tP0.enc x) (tP0.enc x) i hc.1 (by rw[List.length_map]; exact hc.2.1) rfl (by rw[List.length_map]; exact hc.2.2)
   rw[←List.map_take,←List.map_drop]at this
   have e:(l.take i.toNat).map (fun x=>tP0.enc x)++tP0.enc x::(l.drop i.toNat).map (fun x=>tP0.enc x)=(l.take i.toNat++x::l.drop i.toNat).map fun x=>tP0.enc x:=by rw[List.map_append,List.map_cons]
   rw[e]at this
   exact this
  ·cases h
 ·cases h
end Go.Proofs.YtllkmncnmlmefaaGreat
namespace Go.Proofs.YtllkmncnmlmefaaGreat
open Go Go.Vc Go.RowKit
set_option maxRecDepth 100000
@[reducible] def tAUnit:DT:=(.pair (.int .i64) (.pair (.int .i64) .unit))
abbrev AUnit':=Int×Int×Unit
@[reducible] def tAFlow:DT:=(.pair tAUnit (.pair (.int .i64) .unit))
abbrev AFlow':=AUnit'×Int×Unit
@[reducible] def tAPos:DT:=(.pair tAUnit (.pair (.slc tAUnit) .unit))
abbrev APos':=AUnit'×(List AUnit')×Unit
@[reducible] def tAMember:DT:=(.pair (.int .i64) (.pair (.int .i64) (.pair (.int .i64) (.pair (.int .i64) .unit))))
abbrev zad:=Int×Int×Int×Int×Unit
@[reducible] def tAInst:DT:=(.pair (.int .i64) (.pair (.int .i64) (.pair (.int .i64) (.pair (.int .i64) (.pair (.slc (.int .i64)) .unit)))))
abbrev AInst':=Int×Int×Int×Int×(List Int)×Unit
@[reducible] def tAAsset:DT:=(.pair (.int .i64) (.pair (.int .i64) (.pair (.int .i64) .unit)))
abbrev zct:=Int×Int×Int×Unit
@[reducible] def tAAccount:DT:=(.pair (.int .i64) (.pair (.int .i64) (.pair (.int .i64) (.pair (.slc (.int .i64)) .unit))))
abbrev zab:=Int×Int×Int×(List Int)×Unit
@[reducible] def tAChoice:DT:=(.pair tAUnit (.pair tAUnit (.pair .bool .unit)))
abbrev zao:=AUnit'×AUnit'×Bool×Unit
@[reducible] def tAGroup:DT:=(.pair (.int .i64) (.pair tAUnit (.pair (.int .i64) (.pair (.int .i64) (.pair (.int .i64) .unit)))))
abbrev AGroup':=Int×AUnit'×Int×Int×Int×Unit
@[reducible] def tAGive:DT:=(.pair (.int .i64) (.pair tAUnit (.pair tAUnit (.pair tAUnit (.pair (.int .i64) (.pair (.int .i64) (.pair (.int .i64) (.pair (.int .i64) .unit))))))))
abbrev AGive':=Int×AUnit'×AUnit'×AUnit'×Int×Int×Int×Int×Unit
@[reducible] def tAHold:DT:=(.pair tAUnit (.pair (.slc tAAsset) .unit))
abbrev AHold':=AUnit'×(List zct)×Unit
@[reducible] def tAState:DT:=(.pair (.int .i64) (.pair (.slc tAMember) (.pair (.slc tAInst) (.pair (.slc tAAsset) (.pair (.slc tAAccount) (.pair (.slc tAChoice) (.pair (.slc tAGroup) (.pair (.slc tAGive) (.pair (.slc tAPos) (.pair (.slc tAPos) (.pair (.slc tAFlow) (.pair (.slc tAHold) .unit))))))))))))
abbrev zaf:=Int×(List zad)×(List AInst')×(List zct)×(List zab)×(List zao)×(List AGroup')×(List AGive')×(List APos')×(List APos')×(List AFlow')×(List AHold')×Unit
@[reducible] def tWideWide:DT:=(.pair (.int .i64) (.pair (.int .u64) .unit))
abbrev zbf:=Int×Int×Unit
@[reducible] def tNovationref01Big:DT:=(.pair .bool (.pair (.slc (.int .u8)) .unit))
abbrev zie:=Bool×(List Int)×Unit
noncomputable section
def zgs(W:Wd)(a:zab):Option zab:=
 W.join (fun (z1:zab)=>some z1)
 fun k2=>
 W.cnd (decide (20<(a.2.2.2.1.length:Int))) (W.bnd 20 a.2.2.2.1.length fun h3=>(k2 (a.1,(a.2.1,(a.2.2.1,((a.2.2.2.1.take h3),()))))))
  ((k2 a))
def zov:=zgs stdW
theorem zzg:ECok Tryz.prog 77 (.es ⟨(.pair tAAccount .unit),(.v tAAccount),fun x=>zov x.1⟩):=es_z (fun W x=>zgs W x.1) cn [] [(3,⟨[],[(0,[.t (.int .i64),.t (.int .i64),.t (.int .i64),.t (.slc (.int .i64))])],[]⟩)] [] Tryz.func77
def zqd(W:Wd)(m:zad):Option Bool:=
 W.cnd (decide (0<m.1)) (
 W.cnd (decide (m.1<9)) (
  W.cnd (decide (0≤m.2.1)) (
  W.cnd (decide (m.2.1≤4611686018427387904)) (
   W.cnd (decide (0≤m.2.2.1)) (
   W.cnd (decide (m.2.2.1<4)) (
    W.cnd (decide (0≤m.2.2.2.1)) (some (decide (m.2.2.2.1≤2097152)))
    (some false))
    (some false))
   (some false))
   (some false))
  (some false))
  (some false))
 (some false)
def yci:=zqd stdW
theorem yic:ECok Tryz.prog 241 (.es ⟨(.pair tAMember .unit),(.v .bool),fun x=>yci x.1⟩):=es_z (fun W x=>zqd W x.1) cn [] [] [] Tryz.func241
def zjb(W:Wd)(l:List zad)(id:Int):Option (zad×Bool×Unit):=
 W.loop (fun (z1:Int×Unit) again2=>
 W.cnd (decide (z1.1<(l.length:Int))) (W.idx l z1.1 fun x3=>
  W.cnd (x3.1==id) (W.idx l z1.1 fun x4=>some (x4,(true,())))
  ((again2 ((IntKind.i64.wrap (z1.1+1)),()))))
  (some ((0,(0,(0,(0,())))),(false,()))))
 (0,())
def zsh:=zjb stdW
theorem ycj:ECok Tryz.prog 154 (.es ⟨(.pair (.slc tAMember) (.pair (.int .i64) .unit)),(.pair (.v tAMember) (.pair (.v .bool) .unit)),fun x=>zsh x.1 x.2.1⟩):=es_z (fun W x=>zjb W x.1 x.2.1) cn [] [] [(2,⟨[(6,.t (.int .i64))],[],[]⟩)] Tryz.func154
def zmo(W:Wd)(l:List zad)(m:zad):Option ((List zad)×Int×Unit):=W.call (yci m) fun v1=>
 W.cnd (!v1) (some ([],(2,())))
 (W.call (zsh l m.1) fun v2=>
 W.cnd v2.2.1 (some ([],(12,())))
  (
  W.join (fun (z3:Int×Unit)=>W.bnd z3.1 l.length fun h4=>W.room (l.take h4).length 32 (W.room ((l.take h4).length+(m::[]).length) 32 (W.bnd z3.1 l.length fun h5=>W.room (((l.take h4)++(m::[])).length+((l.take l.length).drop h5).length) 32 (some ((((l.take h4)++(m::[]))++((l.take l.length).drop h5)),(0,()))))))
  fun k6=>
  W.loop (fun (z7:Int×Unit) again8=>
   W.cnd (decide (z7.1<(l.length:Int))) (W.idx l z7.1 fun x9=>
   W.cnd (decide (x9.1<m.1)) ((again8 ((IntKind.i64.wrap (z7.1+1)),())))
    ((k6 z7)))
   ((k6 z7)))
   (0,())))
def zqc:=zmo stdW
theorem yfh:ECok Tryz.prog 254 (.es ⟨(.pair (.slc tAMember) (.pair tAMember .unit)),(.pair (.own 118 tAMember) (.pair (.v (.int .i64)) .unit)),fun x=>zqc x.1 x.2.1⟩):=es_z (fun W x=>zmo W x.1 x.2.1) (cc yic (cc ycj cn)) [(8,[],(oN [1,3,5,7,9,11,13,15,17,19,21,23,25,27]))] [(10,⟨[(9,.t (.int .i64))],[],[]⟩)] [(8,⟨[(9,.t (.int .i64))],[],[]⟩)] Tryz.func254
def zgj(W:Wd)(l:List zad):Option (List zad):=
 W.join (fun (z1:List zad×Unit)=>some z1.1)
 fun k2=>
 W.loop (fun (z3:List zad×Int×Unit) again4=>
  W.cnd (decide (z3.2.1<(l.length:Int))) (
  W.cnd (decide (z3.2.1<10)) (
   W.join (fun (z5:List zad×Unit)=>(again4 (z5.1,((IntKind.i64.wrap (z3.2.1+1)),()))))
   fun k6=>W.idx l z3.2.1 fun x7=>W.call (zqc z3.1 x7) fun v8=>
   W.cnd (v8.2.1==0) ((k6 (v8.1,())))
    ((k6 (z3.1,()))))
   ((k2 (z3.1,()))))
  ((k2 (z3.1,()))))
  ([],(0,()))
def ziz:=zgj stdW
theorem zza:ECok Tryz.prog 135 (.es ⟨(.pair (.slc tAMember) .unit),(.v (.slc tAMember)),fun x=>ziz x.1⟩):=es_z (fun W x=>zgj W x.1) (cc yfh cn) [] [(4,⟨[(3,.t (.slc tAMember))],[],[]⟩),(8,⟨[(3,.t (.slc tAMember))],[],[]⟩)] [(3,⟨[(3,.t (.slc tAMember)),(4,.t (.int .i64))],[],[]⟩)] Tryz.func135
def zqa(W:Wd)(a:zab):Option Bool:=
 W.join (fun (z1:Bool×Unit)=>
 W.cnd z1.1 (some false)
  (
  W.join (fun (z2:Bool×Unit)=>
  W.cnd z2.1 (some false)
   (
   W.loop (fun (z3:Int×Unit) again4=>
   W.cnd (decide (z3.1<(a.2.2.2.1.length:Int))) (
    W.join (fun (z5:Bool×Unit)=>
    W.cnd z5.1 (some false)
     ((again4 ((IntKind.i64.wrap (z3.1+1)),()))))
    fun k6=>W.idx a.2.2.2.1 z3.1 fun x7=>
    W.cnd (decide (x7<1)) ((k6 (true,())))
     (W.idx a.2.2.2.1 z3.1 fun x8=>
     W.cnd (decide (16<x8)) ((k6 (true,())))
     (
     W.cnd (decide (0<z3.1)) (W.idx a.2.2.2.1 z3.1 fun x9=>W.idx a.2.2.2.1 (IntKind.i64.wrap (z3.1 - 1)) fun x10=>(k6 ((decide (x9≤x10)),())))
      ((k6 (false,()))))))
    (some true))
   (0,())))
  fun k11=>
  W.cnd (a.2.2.1==1) (
   W.cnd (decide (0<(a.2.2.2.1.length:Int))) ((k11 (true,())))
   (
   W.cnd (a.2.2.1==4) ((k11 ((decide (1<(a.2.2.2.1.length:Int))),())))
    ((k11 (false,())))))
   (
   W.cnd (a.2.2.1==4) ((k11 ((decide (1<(a.2.2.2.1.length:Int))),())))
   ((k11 (false,()))))))
 fun k12=>
 W.cnd (decide (a.1<1)) ((k12 (true,())))
  (
  W.cnd (decide (16<a.1)) ((k12 (true,())))
  (
  W.cnd (decide (a.2.1<1)) ((k12 (true,())))
   (
   W.cnd (decide (8<a.2.1)) ((k12 (true,())))
   (
   W.cnd (decide (a.2.2.1<1)) ((k12 (true,())))
    ((k12 ((decide (4<a.2.2.1)),())))))))
def ycg:=zqa stdW
theorem yib:ECok Tryz.prog 244 (.es ⟨(.pair tAAccount .unit),(.v .bool),fun x=>ycg x.1⟩):=es_z (fun W x=>zqa W x.1) cn [(8,[],(oN [1,3,5,7,9,11,13,15,17,19,21,23,25,27,29,31,33,35,37,39,41,43,45,47,49,51,53,55,57,59,61,63]))] [(500031,⟨[(31,.t .bool)],[],[]⟩),(500051,⟨[(51,.t .bool)],[],[]⟩),(500090,⟨[(90,.t .bool)],[],[]⟩)] [(6,⟨[(3,.t (.int .i64))],[],[]⟩)] Tryz.func244
def ziy(W:Wd)(l:List zab)(id:Int):Option (zab×Bool×Unit):=
 W.loop (fun (z1:Int×Unit) again2=>
 W.cnd (decide (z1.1<(l.length:Int))) (W.idx l z1.1 fun x3=>
  W.cnd (x3.1==id) (W.idx l z1.1 fun x4=>some (x4,(true,())))
  ((again2 ((IntKind.i64.wrap (z1.1+1)),()))))
  (some ((0,(0,(0,([],())))),(false,()))))
 (0,())
def zsg:=ziy stdW
theorem ych:ECok Tryz.prog 152 (.es ⟨(.pair (.slc tAAccount) (.pair (.int .i64) .unit)),(.pair (.v tAAccount) (.pair (.v .bool) .unit)),fun x=>zsg x.1 x.2.1⟩):=es_z (fun W x=>ziy W x.1 x.2.1) cn [] [] [(2,⟨[(6,.t (.int .i64))],[],[]⟩)] Tryz.func152
def zmm(W:Wd)(l:List zab)(a:zab):Option ((List zab)×Int×Unit):=W.call (ycg a) fun v1=>
 W.cnd (!v1) (some ([],(2,())))
 (W.call (zsg l a.1) fun v2=>
 W.cnd v2.2.1 (some ([],(12,())))
  (
  W.join (fun (z3:Int×Unit)=>W.bnd z3.1 l.length fun h4=>W.room (l.take h4).length 48 (W.room ((l.take h4).length+(a::[]).length) 48 (W.bnd z3.1 l.length fun h5=>W.room (((l.take h4)++(a::[])).length+((l.take l.length).drop h5).length) 48 (some ((((l.take h4)++(a::[]))++((l.take l.length).drop h5)),(0,()))))))
  fun k6=>
  W.loop (fun (z7:Int×Unit) again8=>
   W.cnd (decide (z7.1<(l.length:Int))) (W.idx l z7.1 fun x9=>
   W.cnd (decide (x9.1<a.1)) ((again8 ((IntKind.i64.wrap (z7.1+1)),())))
    ((k6 z7)))
   ((k6 z7)))
   (0,())))
def zpz:=zmm stdW
theorem yfg:ECok Tryz.prog 256 (.es ⟨(.pair (.slc tAAccount) (.pair tAAccount .unit)),(.pair (.own 60 tAAccount) (.pair (.v (.int .i64)) .unit)),fun x=>zpz x.1 x.2.1⟩):=es_z (fun W x=>zmm W x.1 x.2.1) (cc yib (cc ych cn)) [(8,[],(oN [1,3,5,7,9,11,13,15,17,19,21,23,25,27]))] [(10,⟨[(9,.t (.int .i64))],[],[]⟩)] [(8,⟨[(9,.t (.int .i64))],[],[]⟩)] Tryz.func256
def zgi(W:Wd)(l:List zab):Option (List zab):=
 W.join (fun (z1:List zab×Unit)=>some z1.1)
 fun k2=>
 W.loop (fun (z3:List zab×Int×Unit) again4=>
  W.cnd (decide (z3.2.1<(l.length:Int))) (
  W.cnd (decide (z3.2.1<20)) (
   W.join (fun (z5:List zab×Unit)=>(again4 (z5.1,((IntKind.i64.wrap (z3.2.1+1)),()))))
   fun k6=>W.idx l z3.2.1 fun x7=>W.call (zpz z3.1 x7) fun v8=>
   W.cnd (v8.2.1==0) ((k6 (v8.1,())))
    ((k6 (z3.1,()))))
   ((k2 (z3.1,()))))
  ((k2 (z3.1,()))))
  ([],(0,()))
def ziv:=zgi stdW
theorem zyz:ECok Tryz.prog 137 (.es ⟨(.pair (.slc tAAccount) .unit),(.v (.slc tAAccount)),fun x=>ziv x.1⟩):=es_z (fun W x=>zgi W x.1) (cc yfg cn) [] [(4,⟨[(3,.t (.slc tAAccount))],[],[]⟩),(8,⟨[(3,.t (.slc tAAccount))],[],[]⟩)] [(3,⟨[(3,.t (.slc tAAccount)),(4,.t (.int .i64))],[],[]⟩)] Tryz.func137
def znk(W:Wd)(l:List AUnit'):Option (List AUnit'):=
 W.cnd (decide (12<(l.length:Int))) (W.bnd 12 l.length fun h1=>some (l.take h1))
 (some l)
def zxt:=znk stdW
theorem ygl:ECok Tryz.prog 204 (.es ⟨(.pair (.slc tAUnit) .unit),(.v (.slc tAUnit)),fun x=>zxt x.1⟩):=es_z (fun W x=>znk W x.1) cn [] [] [] Tryz.func204
def zng(W:Wd)(l:List APos'):Option (List APos'):=
 W.join (fun (z1:List APos'×Unit)=>some z1.1)
 fun k2=>
 W.loop (fun (z3:Int×List APos'×Unit) again4=>
  W.cnd (decide (z3.1<(l.length:Int))) (
  W.cnd (decide (z3.1<12)) (W.idx l z3.1 fun x5=>W.idx l z3.1 fun x6=>W.call (zxt x6.2.1) fun v7=>W.room (z3.2.1.length+((x5.1,(v7,()))::[]).length) 40 ((again4 ((IntKind.i64.wrap (z3.1+1)),((z3.2.1++((x5.1,(v7,()))::[])),())))))
   ((k2 z3.2)))
  ((k2 z3.2)))
  (0,([],()))
def zln:=zng stdW
theorem ygh:ECok Tryz.prog 74 (.es ⟨(.pair (.slc tAPos) .unit),(.own 50 tAPos),fun x=>zln x.1⟩):=es_z (fun W x=>zng W x.1) (cc ygl cn) [(5,[],(oN [1,3,5,7,9,11,13,15,17,19,21,22,25,26,28,31]))] [(6,⟨[(3,.row 1)],[],[.dead,.own 50 tAPos]⟩)] [(3,⟨[(3,.row 1),(4,.t (.int .i64))],[],[.dead,.own 50 tAPos]⟩)] Tryz.func74
def zni(W:Wd)(l:List AFlow'):Option (List AFlow'):=
 W.cnd (decide (20<(l.length:Int))) (W.bnd 20 l.length fun h1=>some (l.take h1))
 (some l)
def zlp:=zni stdW
theorem ygj:ECok Tryz.prog 75 (.es ⟨(.pair (.slc tAFlow) .unit),(.v (.slc tAFlow)),fun x=>zlp x.1⟩):=es_z (fun W x=>zni W x.1) cn [] [] [] Tryz.func75
def ybk(W:Wd)(l:List AUnit'):Option Bool:=
 W.loop (fun (z1:AUnit') again2=>
 W.cnd (decide (z1.2.1<(l.length:Int))) (W.idx l z1.2.1 fun x3=>
  W.join (fun (z4:Bool×Unit)=>
  W.cnd z4.1 (some false)
   ((again2 (x3.1,((IntKind.i64.wrap (z1.2.1+1)),())))))
  fun k5=>
  W.cnd (decide (x3.1≤z1.1)) ((k5 (true,())))
   (
   W.cnd (decide (8<x3.1)) ((k5 (true,())))
   ((k5 ((x3.2.1==0),())))))
  (some true))
 (0,(0,()))
def vec_Is:=ybk stdW
theorem yer:ECok Tryz.prog 341 (.es ⟨(.pair (.slc tAUnit) .unit),(.v .bool),fun x=>vec_Is x.1⟩):=es_z (fun W x=>ybk W x.1) cn [] [(500025,⟨[(25,.t .bool)],[],[]⟩)] [(3,⟨[(3,.t (.int .i64)),(8,.t (.int .i64))],[],[]⟩)] Tryz.func341
def zob(W:Wd)(a:AUnit')(b:AUnit'):Option Bool:=
 W.cnd (a.1 != b.1) (some (decide (a.1<b.1)))
 (some (decide (a.2.1<b.2.1)))
def zdo:=zob stdW
theorem zfm:ECok Tryz.prog 304 (.es ⟨(.pair tAUnit (.pair tAUnit .unit)),(.v .bool),fun x=>zdo x.1 x.2.1⟩):=es_z (fun W x=>zob W x.1 x.2.1) cn [] [] [] Tryz.func304
def zvw(W:Wd)(l:List APos'):Option Bool:=
 W.loop (fun (z1:Int×Unit) again2=>
 W.cnd (decide (z1.1<(l.length:Int))) (W.idx l z1.1 fun x3=>
  W.join (fun (z4:Bool×Unit)=>
  W.cnd z4.1 (some false)
   ((again2 ((IntKind.i64.wrap (z1.1+1)),()))))
  fun k5=>
  W.cnd ((x3.2.1.length:Int)==0) (W.both ((k5 (true,()))) ((k5 (true,()))))
   (W.call (vec_Is x3.2.1) fun v6=>
   W.cnd (!v6) (W.both ((k5 (true,()))) ((k5 (true,()))))
   (
   W.cnd (decide (0<z1.1)) (W.idx l (IntKind.i64.wrap (z1.1 - 1)) fun x7=>W.both (W.call (zdo x7.1 x3.1) fun v8=>(k5 ((!v8),()))) (W.call (zdo x7.1 x3.1) fun v9=>(k5 ((!v9),()))))
    (W.both ((k5 (false,()))) ((k5 (false,())))))))
  (some true))
 (0,())
def zys:=zvw stdW
theorem ztp:ECok Tryz.prog 257 (.es ⟨(.pair (.slc tAPos) .unit),(.v .bool),fun x=>zys x.1⟩):=es_z (fun W x=>zvw W x.1) (cc yer (cc zfm cn)) [(4,[],(.rd 0 (.rd 1 (.rd 2 (.rd 3 (.rd 4 (.rd 5 (.rd 6 (.op 7 (.rd 8 (.rd 9 (.rd 10 (.rd 11 (.rd 12 (.rd 13 (.rd 14 (.rd 15 (.rd 16 (.rd 17 (.rd 18 (.rd 20 (.two 19 21 (oN [42,44,47,49,51]) (oN [38,44,47,49,51])))))))))))))))))))))))] [(500037,⟨[(37,.t .bool)],[],[]⟩)] [(2,⟨[(7,.t (.int .i64))],[],[]⟩)] Tryz.func257
def zda(W:Wd)(s:List Int):Option (List Int):=W.nilq (List.isEmpty s) fun g1=>
 W.cnd (Go.Vc.notIf false g1) (some [])
 (W.room ((0:Nat)+s.length) 8 (some ([]++s)))
def zee:=zda stdW
theorem zkw:ECok Tryz.prog 131 (.es ⟨(.pair (.slc (.int .i64)) .unit),(.own 3 (.int .i64)),fun x=>zee x.1⟩):=es_z (fun W x=>zda W x.1) cn [] [] [] Tryz.func131
def zic(W:Wd)(a:zab):Option zab:=W.call (zee a.2.2.2.1) fun v1=>some (a.1,(a.2.1,(a.2.2.1,(v1,()))))
def znz:=zic stdW
theorem zyt:ECok Tryz.prog 386 (.es ⟨(.pair tAAccount .unit),(.v tAAccount),fun x=>znz x.1⟩):=es_z (fun W x=>zic W x.1) (cc zkw cn) [] [] [] Tryz.func386
def zgy(W:Wd)(l:List zab):Option (List zab):=
 W.loop (fun (z1:Int×List zab×Unit) again2=>
 W.cnd (decide (z1.1<(l.length:Int))) (W.idx l z1.1 fun x3=>W.call (znz x3) fun v4=>W.room (z1.2.1.length+(v4::[]).length) 48 ((again2 ((IntKind.i64.wrap (z1.1+1)),((z1.2.1++(v4::[])),())))))
  (some z1.2.1))
 (0,([],()))
def zpd:=zgy stdW
theorem zzm:ECok Tryz.prog 314 (.es ⟨(.pair (.slc tAAccount) .unit),(.own 60 tAAccount),fun x=>zpd x.1⟩):=es_z (fun W x=>zgy W x.1) (cc zyt cn) [] [] [(3,⟨[(3,.row 1),(8,.t (.int .i64))],[],[.dead,.own 60 tAAccount]⟩)] Tryz.func314
def yba(W:Wd)(a:zab)(free10:Int):Option (Bool×(Int×Unit)):=some ((a.2.1 != free10),(free10,()))
def zrp:=yba stdW
theorem zuh:ECok Tryz.prog 315 (.ls ⟨[.v tAAccount,.ptr],[⟨3,[.v (.int .i64)]⟩],[⟨3,[.v (.int .i64)]⟩],(.q (.v .bool)),fun x=>zrp x.1 x.2.1⟩):=ls_z (fun W x=>yba W x.1 x.2.1) cn [] [] [] Tryz.func315
def zah(W:Wd)(s:List zab)(f0_0:Int):Option (Int×(Int×Unit)):=
 W.loop (fun (z1:AUnit') again2=>
 W.cnd (decide (z1.1<(s.length:Int))) (W.idx s z1.1 fun x3=>W.call (zrp x3 z1.2.1) fun v4=>
  W.cnd v4.1 (some (z1.1,v4.2))
  ((again2 ((IntKind.i64.wrap (z1.1+1)),v4.2))))
  (some ((-1),z1.2)))
 (0,(f0_0,()))
def zan:=zah stdW
theorem zcl:ECok Tryz.prog 342 (.ls ⟨[.v (.slc tAAccount),.fn 315 1],[⟨3,[.v (.int .i64)]⟩],[⟨3,[.v (.int .i64)]⟩],(.q (.v (.int .i64))),fun x=>zan x.1 x.2.1⟩):=ls_z (fun W x=>zah W x.1 x.2.1) (cc zuh cn) [] [] [(2,⟨[(8,.t (.int .i64))],[(0,[.t (.int .i64)])],[]⟩)] Tryz.func342
def zak(W:Wd)(del0_0:Int)(s:List zab):Option ((List zab)×(Int×Unit)):=W.call (zan s del0_0) fun v1=>
 W.cnd (v1.1==(-1)) (some (s,v1.2))
 (
 W.loop (fun (z2:Int×Int×Int×List zab×Unit) again3=>
  W.cnd (decide (z2.2.1<(z2.2.2.2.1.length:Int))) (
  W.join (fun (z4:Int×Int×List zab×Unit)=>(again3 (z4.1,((IntKind.i64.wrap (z2.2.1+1)),z4.2))))
   fun k5=>W.idx z2.2.2.2.1 z2.2.1 fun x6=>W.nth z2.2.2.2.1 (Int.toNat z2.2.1) fun x7=>W.call (zrp x7 z2.2.2.1) fun v8=>
   W.cnd (!v8.1) (W.idx z2.2.2.2.1 z2.1 fun _=>W.nth z2.2.2.2.1 (Int.toNat z2.1) fun _=>(k5 ((IntKind.i64.wrap (z2.1+1)),(v8.2.1,((List.set z2.2.2.2.1 (Int.toNat z2.1) x7),())))))
   ((k5 (z2.1,(v8.2.1,z2.2.2.2)))))
  (W.bnd z2.1 z2.2.2.2.1.length fun h11=>W.bnd (h11:Int) z2.2.2.2.1.length fun h12=>W.bnd z2.1 ((z2.2.2.2.1.take h12)++(List.replicate (z2.2.2.2.1.length - h12) (0,(0,(0,([],())))))).length fun h13=>some ((((z2.2.2.2.1.take h12)++(List.replicate (z2.2.2.2.1.length - h12) (0,(0,(0,([],())))))).take h13),(z2.2.2.1,()))))
  (v1.1,((IntKind.i64.wrap (v1.1+1)),(v1.2.1,(s,())))))
def zaw:=zak stdW
theorem zcj:ECok Tryz.prog 313 (.ls ⟨[.row 60 tAAccount,.fn 315 1],[⟨3,[.v (.int .i64)]⟩],[⟨3,[.v (.int .i64)]⟩],(.q (.v (.slc tAAccount))),fun x=>zaw x.1 x.2.1⟩):=ls_z (fun W x=>zak W x.1 x.2.1) (cb zcl (cc zuh cn)) [] [(6,⟨[(0,.row 0),(5,.t (.int .i64))],[(0,[.t (.int .i64)])],[.own 60 tAAccount]⟩)] [(5,⟨[(0,.row 0),(5,.t (.int .i64)),(6,.t (.int .i64))],[(0,[.t (.int .i64)])],[.own 60 tAAccount]⟩)] Tryz.func313
def zvz(W:Wd)(l:List zab)(member:Int):Option (List zab):=W.call (zpd l) fun v1=>W.call (zaw member v1) fun v2=>some v2.1
def yjn:=zvz stdW
theorem acct_Of_ok:ECok Tryz.prog 192 (.es ⟨(.pair (.slc tAAccount) (.pair (.int .i64) .unit)),(.v (.slc tAAccount)),fun x=>yjn x.1 x.2.1⟩):=es_z (fun W x=>zvz W x.1 x.2.1) (cc zzm (cc zcj cn)) [] [] [] Tryz.func192
def zks(W:Wd)(a:zab):Option (List AUnit'):=
 W.cnd (a.2.2.1==1) (some ((a.1,(0,()))::[]))
 (
 W.loop (fun (z1:Int×List AUnit'×Unit) again2=>
  W.cnd (decide (z1.1<(a.2.2.2.1.length:Int))) (W.idx a.2.2.2.1 z1.1 fun x3=>W.room (z1.2.1.length+((a.1,(x3,()))::[]).length) 16 ((again2 ((IntKind.i64.wrap (z1.1+1)),((z1.2.1++((a.1,(x3,()))::[])),())))))
  (some z1.2.1))
  (0,([],())))
def zoa:=zks stdW
theorem zro:ECok Tryz.prog 316 (.es ⟨(.pair tAAccount .unit),(.own 47 tAUnit),fun x=>zoa x.1⟩):=es_z (fun W x=>zks W x.1) cn [] [] [(5,⟨[(3,.row 1),(16,.t (.int .i64))],[],[.dead,.own 47 tAUnit]⟩)] Tryz.func316
def zbp(W:Wd)(s:List AUnit')(v:AUnit'):Option Int:=
 W.loop (fun (z1:Int×Unit) again2=>
 W.cnd (decide (z1.1<(s.length:Int))) (W.idx s z1.1 fun x3=>
  W.cnd (Go.Vc.notIf false ((v.1==x3.1)&&(v.2.1==x3.2.1))) (some z1.1)
  ((again2 ((IntKind.i64.wrap (z1.1+1)),()))))
  (some (-1)))
 (0,())
def zce:=zbp stdW
theorem zes:ECok Tryz.prog 395 (.es ⟨(.pair (.slc tAUnit) (.pair tAUnit .unit)),(.v (.int .i64)),fun x=>zce x.1 x.2.1⟩):=es_z (fun W x=>zbp W x.1 x.2.1) cn [(4,[],(oN [1,3,5,7,9,11]))] [] [(2,⟨[(8,.t (.int .i64))],[],[]⟩)] Tryz.func395
def zbk(W:Wd)(s:List AUnit')(v:AUnit'):Option Bool:=W.call (zce s v) fun v1=>some (decide (0≤v1))
def zbz:=zbk stdW
theorem zed:ECok Tryz.prog 343 (.es ⟨(.pair (.slc tAUnit) (.pair tAUnit .unit)),(.v .bool),fun x=>zbz x.1 x.2.1⟩):=es_z (fun W x=>zbk W x.1 x.2.1) (cc zes cn) [] [] [] Tryz.func343
def zrq(W:Wd)(a:zab)(u:AUnit'):Option Bool:=W.call (zoa a) fun v1=>W.call (zbz v1 u) fun v2=>some v2
def zwa:=zrq stdW
theorem yjo:ECok Tryz.prog 260 (.es ⟨(.pair tAAccount (.pair tAUnit .unit)),(.v .bool),fun x=>zwa x.1 x.2.1⟩):=es_z (fun W x=>zrq W x.1 x.2.1) (cc zro (cc zed cn)) [(1,[],(oN [1,5,2,6,9]))] [] [] Tryz.func260
def zbt(W:Wd)(s:List AUnit'):Option (List AUnit'):=W.nilq (List.isEmpty s) fun g1=>
 W.cnd (Go.Vc.notIf false g1) (some [])
 (W.room ((0:Nat)+s.length) 16 (some ([]++s)))
def zbm:=zbt stdW
theorem zde:ECok Tryz.prog 253 (.es ⟨(.pair (.slc tAUnit) .unit),(.own 52 tAUnit),fun x=>zbm x.1⟩):=es_z (fun W x=>zbt W x.1) cn [] [] [] Tryz.func253
def zvv(W:Wd)(l:List APos')(u:AUnit'):Option (List AUnit'):=
 W.loop (fun (z1:Int×Unit) again2=>
 W.cnd (decide (z1.1<(l.length:Int))) (W.idx l z1.1 fun x3=>
  W.cnd (Go.Vc.notIf false ((x3.1.1==u.1)&&(x3.1.2.1==u.2.1))) (W.call (zbm x3.2.1) fun v4=>some v4)
  ((again2 ((IntKind.i64.wrap (z1.1+1)),()))))
  (some []))
 (0,())
def zly:=zvv stdW
theorem znu:ECok Tryz.prog 163 (.es ⟨(.pair (.slc tAPos) (.pair tAUnit .unit)),(.own 52 tAUnit),fun x=>zly x.1 x.2.1⟩):=es_z (fun W x=>zvv W x.1 x.2.1) (cc zde cn) [] [] [(2,⟨[(9,.t (.int .i64))],[],[]⟩)] Tryz.func163
def zpj(W:Wd)(l:List AUnit'):Option Bool:=W.call (vec_Is l) fun v1=>some (!v1)
def zpk:=zpj stdW
theorem zok:ECok Tryz.prog 277 (.es ⟨(.pair (.slc tAUnit) .unit),(.v .bool),fun x=>zpk x.1⟩):=es_z (fun W x=>zpj W x.1) (cc yer cn) [] [] [] Tryz.func277
def zav(W:Wd)(s:List (List AUnit')):Option (Int×(Unit)):=
 W.loop (fun (z1:Int×Unit) again2=>
 W.cnd (decide (z1.1<(s.length:Int))) (W.idx s z1.1 fun x3=>W.call (zpk x3) fun v4=>
  W.cnd v4 (some z1)
  ((again2 ((IntKind.i64.wrap (z1.1+1)),()))))
  (some ((-1),())))
 (0,())
def zbl:=zav stdW
theorem zdf:ECok Tryz.prog 370 (.ls ⟨[.v (.slc (.slc tAUnit)),.fn 277 0],[],[],(.q (.v (.int .i64))),fun x=>zbl x.1⟩):=ls_z (fun W x=>zav W x.1) (cc zok cn) [] [] [(2,⟨[(8,.t (.int .i64))],[],[]⟩)] Tryz.func370
def zar(W:Wd)(s:List (List AUnit')):Option (Bool×(Unit)):=W.call (zbl s) fun v1=>some ((decide (0≤v1.1)),())
def zbg:=zar stdW
theorem zcz:ECok Tryz.prog 285 (.ls ⟨[.v (.slc (.slc tAUnit)),.fn 277 0],[],[],(.q (.v .bool)),fun x=>zbg x.1⟩):=ls_z (fun W x=>zar W x.1) (cc zdf cn) [] [] [] Tryz.func285
def zup(W:Wd)(l:List AUnit')(inst:Int):Option Int:=
 W.loop (fun (z1:Int×Unit) again2=>
 W.cnd (decide (z1.1<(l.length:Int))) (W.idx l z1.1 fun x3=>
  W.cnd (x3.1==inst) (some x3.2.1)
  ((again2 ((IntKind.i64.wrap (z1.1+1)),()))))
  (some 0))
 (0,())
def ybl:=zup stdW
theorem vec_Get_ok:ECok Tryz.prog 268 (.es ⟨(.pair (.slc tAUnit) (.pair (.int .i64) .unit)),(.v (.int .i64)),fun x=>ybl x.1 x.2.1⟩):=es_z (fun W x=>zup W x.1 x.2.1) cn [] [] [(2,⟨[(9,.t (.int .i64))],[],[]⟩)] Tryz.func268
def zum(W:Wd)(n:Int):Option zbf:=W.nn 63 (some ((Int.fdiv n (2 ^ (Min.min (Int.toNat 63) (Go.IntKind.bits Go.IntKind.i64)))),((IntKind.u64.wrap n),())))
def zoi:=zum stdW
theorem zmc:ECok Tryz.prog 300 (.es ⟨(.pair (.int .i64) .unit),(.v tWideWide),fun x=>zoi x.1⟩):=es_z (fun W x=>zum W x.1) cn [] [] [] Tryz.func300
def zei(W:Wd)(w:zbf)(t0:Int)(t1:Int)(t2:Int):Option (Unit×(zct)):=W.call (add64 t2 w.2.1 0) fun v1=>W.call (add64 (IntKind.u64.wrap t1) (IntKind.u64.wrap w.1) v1.2.1) fun v2=>W.nn 63 (some ((),((IntKind.i64.wrap (t0+(IntKind.i64.wrap ((Int.fdiv w.1 (2 ^ (Min.min (Int.toNat 63) (Go.IntKind.bits Go.IntKind.i64))))+(IntKind.i64.wrap v2.2.1))))),((IntKind.i64.wrap v2.1),(v1.1,())))))
def zcb:=zei stdW
theorem zhe:ECok Tryz.prog 376 (.ls ⟨[.ptr,.v tWideWide],[⟨405,[.v (.int .i64),.v (.int .i64),.v (.int .u64)]⟩],[⟨405,[.v (.int .i64),.v (.int .i64),.v (.int .u64)]⟩],(.q .unit),fun x=>zcb x.1 x.2.1 x.2.2.1 x.2.2.2.1⟩):=ls_z (fun W x=>zei W x.1 x.2.1 x.2.2.1 x.2.2.2.1) (cc add64_ok cn) [(1,[],(oN [1,3,5,7,9,11,13,14,17,19,21,23,25])),(2,[],(oN [1,3,5,7,9,11,13,15,17,19,20,23,25,27,29,31])),(3,[0],(oN [1,3,5,9,11,13,15,17,19,6,21,23,25,26]))] [] [] Tryz.func376
def zgg(W:Wd)(w:zbf)(ok:Bool):Option (zbf×Int×Unit):=
 W.cnd (!ok) (some ((0,(0,())),(7,())))
 (some (w,(0,())))
def zoh:=zgg stdW
theorem zyw:ECok Tryz.prog 359 (.es ⟨(.pair tWideWide (.pair .bool .unit)),(.pair (.v tWideWide) (.pair (.v (.int .i64)) .unit)),fun x=>zoh x.1 x.2.1⟩):=es_z (fun W x=>zgg W x.1 x.2.1) cn [] [] [] Tryz.func359
def zdx(W:Wd)(t0:Int)(t1:Int)(t2:Int):Option ((zbf×Int×Unit)×(zct)):=W.nn 63 (W.call (zoh (t1,(t2,())) (t0==(Int.fdiv t1 (2 ^ (Min.min (Int.toNat 63) (Go.IntKind.bits Go.IntKind.i64)))))) fun v1=>some (v1,(t0,(t1,(t2,())))))
def zdk:=zdx stdW
theorem zgf:ECok Tryz.prog 377 (.ls ⟨[.ptr],[⟨405,[.v (.int .i64),.v (.int .i64),.v (.int .u64)]⟩],[⟨405,[.v (.int .i64),.v (.int .i64),.v (.int .u64)]⟩],(.q (.pair (.v tWideWide) (.pair (.v (.int .i64)) .unit))),fun x=>zdk x.1 x.2.1 x.2.2.1⟩):=ls_z (fun W x=>zdx W x.1 x.2.1 x.2.2.1) (cc zyw cn) [(1,[1],(oN [1,3,5,7,9,11,13,15,17,19,21,23,25,27,29,30,33,35,36,39]))] [] [] Tryz.func377
def zph(W:Wd)(l:List zbf):Option (zbf×Int×Unit):=
 W.loop (fun (z1:zad) again2=>
 W.cnd (decide (z1.1<(l.length:Int))) (W.idx l z1.1 fun x3=>W.call (zcb x3 z1.2.1 z1.2.2.1 z1.2.2.2.1) fun v4=>(again2 ((IntKind.i64.wrap (z1.1+1)),v4.2)))
  (W.call (zdk z1.2.1 z1.2.2.1 z1.2.2.2.1) fun v5=>some v5.1))
 (0,(0,(0,(0,()))))
def zun:=zph stdW
theorem yhu:ECok Tryz.prog 302 (.es ⟨(.pair (.slc tWideWide) .unit),(.pair (.v tWideWide) (.pair (.v (.int .i64)) .unit)),fun x=>zun x.1⟩):=es_z (fun W x=>zph W x.1) (cc zhe (cc zgf cn)) [] [] [(3,⟨[(9,.t (.int .i64))],[(1,[.t (.int .i64),.t (.int .i64),.t (.int .u64)])],[]⟩)] Tryz.func302
def zpg(W:Wd)(w:zbf):Option (AUnit'):=W.call (zoi (IntKind.i64.wrap w.2.1)) fun v1=>
 W.cnd (Go.Vc.notIf true ((v1.1==w.1)&&(v1.2.1==w.2.1))) (some (0,(7,())))
 (some ((IntKind.i64.wrap w.2.1),(0,())))
def ybh:=zpg stdW
theorem yht:ECok Tryz.prog 276 (.es ⟨(.pair tWideWide .unit),(.pair (.v (.int .i64)) (.pair (.v (.int .i64)) .unit)),fun x=>ybh x.1⟩):=es_z (fun W x=>zpg W x.1) (cc zmc cn) [(2,[],(oN [1,5,2,7]))] [] [] Tryz.func276
def zjz(W:Wd)(w:zbf)(e:Int):Option (AUnit'):=
 W.cnd (e != 0) (some (0,(e,())))
 (W.call (ybh w) fun v1=>some v1)
def zhv:=zjz stdW
theorem zra:ECok Tryz.prog 301 (.es ⟨(.pair tWideWide (.pair (.int .i64) .unit)),(.pair (.v (.int .i64)) (.pair (.v (.int .i64)) .unit)),fun x=>zhv x.1 x.2.1⟩):=es_z (fun W x=>zjz W x.1 x.2.1) (cc yht cn) [] [] [] Tryz.func301
def zvl(W:Wd)(l:List Int):Option (AUnit'):=W.nn (l.length:Int) (W.room (Int.toNat (l.length:Int)) 16 (
 W.loop (fun (z1:Int×List AUnit'×Unit) again2=>
 W.cnd (decide (z1.1<(l.length:Int))) (W.idx l z1.1 fun x3=>W.call (zoi x3) fun v4=>W.room (z1.2.1.length+(v4::[]).length) 16 ((again2 ((IntKind.i64.wrap (z1.1+1)),((z1.2.1++(v4::[])),())))))
  (W.call (zun z1.2.1) fun v5=>W.call (zhv v5.1 v5.2.1) fun v6=>some v6))
 (0,([],()))))
def zka:=zvl stdW
theorem zhw:ECok Tryz.prog 179 (.es ⟨(.pair (.slc (.int .i64)) .unit),(.pair (.v (.int .i64)) (.pair (.v (.int .i64)) .unit)),fun x=>zka x.1⟩):=es_z (fun W x=>zvl W x.1) (cc zmc (cc yhu (cc zra cn))) [] [] [(3,⟨[(4,.row 0),(12,.t (.int .i64))],[],[.own 317 tWideWide]⟩)] Tryz.func179
def zuq(W:Wd)(l:List (List AUnit')):Option ((List AUnit')×Int×Unit):=W.call (zbg l) fun v1=>
 W.cnd v1.1 (some ([],(3,())))
 (
 W.loop (fun (z2:Int×List AUnit'×Unit) again3=>
  W.cnd (decide (z2.1≤8)) (
  W.join (fun (z4:List AUnit'×Unit)=>(again3 ((IntKind.i64.wrap (z2.1+1)),z4)))
   fun k5=>
   W.loop (fun (z6:Int×List AUnit'×List Int×Unit) again7=>
   W.cnd (decide (z6.1<(l.length:Int))) (W.idx l z6.1 fun x8=>W.call (ybl x8 z2.1) fun v9=>W.room (z6.2.2.1.length+(v9::[]).length) 8 ((again7 ((IntKind.i64.wrap (z6.1+1)),(z6.2.1,((z6.2.2.1++(v9::[])),()))))))
    (W.call (zka z6.2.2.1) fun v10=>
    W.cnd (v10.2.1 != 0) (some ([],v10.2))
    (
    W.cnd (v10.1 != 0) (W.room (z6.2.1.length+((z2.1,(v10.1,()))::[]).length) 16 ((k5 ((z6.2.1++((z2.1,(v10.1,()))::[])),()))))
     ((k5 (z6.2.1,()))))))
   (0,(z2.2.1,([],()))))
  (some (z2.2.1,(0,()))))
  (1,([],())))
def ybm:=zuq stdW
theorem zzq:ECok Tryz.prog 162 (.es ⟨(.pair (.slc (.slc tAUnit)) .unit),(.pair (.own 52 tAUnit) (.pair (.v (.int .i64)) .unit)),fun x=>ybm x.1⟩):=es_z (fun W x=>zuq W x.1) (cc zcz (cc vec_Get_ok (cc zhw cn))) [] [(6,⟨[(4,.row 3)],[],[.dead,.dead,.dead,.own 52 tAUnit]⟩)] [(5,⟨[(4,.row 3),(5,.t (.int .i64))],[],[.dead,.dead,.dead,.own 52 tAUnit]⟩),(9,⟨[(4,.row 3),(6,.row 5),(19,.t (.int .i64))],[],[.dead,.dead,.dead,.own 52 tAUnit,.dead,.own 2 (.int .i64)]⟩)] Tryz.func162
def zkq(W:Wd)(l:List APos')(u:AUnit'):Option (Int×Bool×Unit):=
 W.loop (fun (z1:Int×Unit) again2=>
 W.cnd (decide (z1.1<(l.length:Int))) (W.idx l z1.1 fun x3=>W.call (zdo x3.1 u) fun v4=>
  W.cnd (!v4) (some (z1.1,((Go.Vc.notIf false ((x3.1.1==u.1)&&(x3.1.2.1==u.2.1))),())))
  ((again2 ((IntKind.i64.wrap (z1.1+1)),()))))
  (some ((l.length:Int),(false,()))))
 (0,())
def zto:=zkq stdW
theorem yej:ECok Tryz.prog 261 (.es ⟨(.pair (.slc tAPos) (.pair tAUnit .unit)),(.pair (.v (.int .i64)) (.pair (.v .bool) .unit)),fun x=>zto x.1 x.2.1⟩):=es_z (fun W x=>zkq W x.1 x.2.1) (cc zfm cn) [(5,[],(oN [1,3,5,7,9,11,13]))] [] [(2,⟨[(10,.t (.int .i64))],[],[]⟩)] Tryz.func261
def zgx(W:Wd)(l:List APos'):Option (List APos'):=
 W.loop (fun (z1:Int×List APos'×Unit) again2=>
 W.cnd (decide (z1.1<(l.length:Int))) (W.idx l z1.1 fun x3=>W.call (zbm x3.2.1) fun v4=>W.room (z1.2.1.length+((x3.1,(v4,()))::[]).length) 40 ((again2 ((IntKind.i64.wrap (z1.1+1)),((z1.2.1++((x3.1,(v4,()))::[])),())))))
  (some z1.2.1))
 (0,([],()))
def zpb:=zgx stdW
theorem zzl:ECok Tryz.prog 262 (.es ⟨(.pair (.slc tAPos) .unit),(.own 50 tAPos),fun x=>zpb x.1⟩):=es_z (fun W x=>zgx W x.1) (cc zde cn) [(5,[],(oN [1,3,5,7,9,10,13,14,16,19]))] [] [(3,⟨[(3,.row 2),(8,.t (.int .i64))],[],[.dead,.dead,.own 50 tAPos]⟩)] Tryz.func262
def zkr(W:Wd)(l:List APos')(u:AUnit')(legs:List AUnit'):Option ((List APos')×Int×Unit):=W.call (zys l) fun v1=>
 W.cnd (!v1) (some ([],(3,())))
 (W.call (zly l u) fun v2=>W.call (ybm (v2::(legs::[]))) fun v3=>
 W.cnd (v3.2.1 != 0) (some ([],v3.2))
  (W.call (zto l u) fun v4=>W.call (zpb l) fun v5=>
  W.join (fun (z6:List AUnit'×List APos'×Unit)=>
  W.join (fun (z7:List APos'×Unit)=>some (z7.1,(0,())))
   fun k8=>
   W.cnd (decide (0<(z6.1.length:Int))) (W.call (insO z6.2.1 v4.1 ((u,(z6.1,()))::[])) fun v9=>(k8 v9))
   ((k8 z6.2)))
  fun k10=>
  W.cnd v4.2.1 (W.call (delO v5 v4.1 (IntKind.i64.wrap (v4.1+1))) fun v11=>(k10 (v3.1,v11)))
   ((k10 (v3.1,(v5,()))))))
def znt:=zkr stdW
theorem yek:ECok Tryz.prog 140 (.es ⟨(.pair (.slc tAPos) (.pair tAUnit (.pair (.slc tAUnit) .unit))),(.pair (.own 50 tAPos) (.pair (.v (.int .i64)) .unit)),fun x=>znt x.1 x.2.1 x.2.2.1⟩):=es_z (fun W x=>zkr W x.1 x.2.1 x.2.2.1) (cc ztp (cc znu (cc zzq (cc yej (cc zzl (cc delete_ok (cc insert_ok cn))))))) [] [(10,⟨[(8,.row 2),(12,.row 3)],[],[.dead,.dead,.own 52 tAUnit,.own 50 tAPos]⟩),(12,⟨[(12,.row 3)],[],[.dead,.dead,.dead,.own 50 tAPos]⟩)] [] Tryz.func140
def zpx(W:Wd)(l:List APos')(u:AUnit'):Option (List AUnit'):=
 W.loop (fun (z1:Int×Unit) again2=>
 W.cnd (decide (z1.1<(l.length:Int))) (W.idx l z1.1 fun x3=>
  W.cnd (Go.Vc.notIf false ((x3.1.1==u.1)&&(x3.1.2.1==u.2.1))) (W.idx l z1.1 fun x4=>some x4.2.1)
  ((again2 ((IntKind.i64.wrap (z1.1+1)),()))))
  (some []))
 (0,())
def zmh:=zpx stdW
theorem yia:ECok Tryz.prog 40 (.es ⟨(.pair (.slc tAPos) (.pair tAUnit .unit)),(.v (.slc tAUnit)),fun x=>zmh x.1 x.2.1⟩):=es_z (fun W x=>zpx W x.1 x.2.1) cn [(4,[],(oN [1,3,5,7,9,11,13]))] [] [(2,⟨[(5,.t (.int .i64))],[],[]⟩)] Tryz.func40
def ref01_NatW(W:Wd)(u:Int):Option zie:=
 W.loop (fun (z1:Int×List Int×Unit) again2=>
 W.cnd (decide (0<z1.1)) (W.nz 2 (W.room (z1.2.1.length+((IntKind.u8.wrap (Int.tmod z1.1 2))::[]).length) 1 (W.nz 2 ((again2 ((IntKind.u64.wrap (Int.tdiv z1.1 2)),((z1.2.1++((IntKind.u8.wrap (Int.tmod z1.1 2))::[])),())))))))
  (some (false,z1.2)))
 (u,([],()))
def yfi:=ref01_NatW stdW
def yid(W:Wd)(a:List Int)(b:List Int):Option (List Int):=
 W.loop (fun (z1:Int×Int×List Int×Unit) again2=>
 W.join (fun (z3:List Int×Unit)=>
  W.join (fun (z4:Int×List Int×Unit)=>
  W.join (fun (z5:Int×List Int×Unit)=>W.nz 2 (W.room (z5.2.1.length+((Int.tmod z5.1 2)::[]).length) 1 (W.nz 2 ((again2 ((IntKind.u8.wrap (Int.tdiv z5.1 2)),((IntKind.i64.wrap (z1.2.1+1)),((z5.2.1++((Int.tmod z5.1 2)::[])),()))))))))
   fun k6=>
   W.cnd (decide (z1.2.1<(b.length:Int))) (W.idx b z1.2.1 fun x7=>(k6 ((IntKind.u8.wrap (z4.1+x7)),z4.2)))
   ((k6 z4)))
  fun k8=>
  W.cnd (decide (z1.2.1<(a.length:Int))) (W.idx a z1.2.1 fun x9=>(k8 ((IntKind.u8.wrap (z1.1+x9)),z3)))
   ((k8 (z1.1,z3))))
  fun k10=>
  W.cnd (decide (z1.2.1<(a.length:Int))) ((k10 z1.2.2))
  (
  W.cnd (decide (z1.2.1<(b.length:Int))) ((k10 z1.2.2))
   (
   W.join (fun (z11:List Int×Unit)=>some z11.1)
   fun k12=>
   W.cnd (decide (0<z1.1)) (W.room (z1.2.2.1.length+(z1.1::[]).length) 1 ((k12 ((z1.2.2.1++(z1.1::[])),()))))
    ((k12 z1.2.2)))))
 (0,(0,([],())))
def ref01_plus:=yid stdW
def ref01_OfW(W:Wd)(n:Int):Option zie:=
 W.cnd (decide (0≤n)) (W.call (yfi (IntKind.u64.wrap n)) fun v1=>some v1)
 (W.call (yfi (IntKind.u64.wrap (IntKind.i64.wrap (0 - (IntKind.i64.wrap (n+1)))))) fun v2=>W.call (ref01_plus v2.2.1 (1::[])) fun v3=>some (true,(v3,())))
def ref01_Of:=ref01_OfW stdW
def zjc(W:Wd)(a:List AUnit')(b:List AUnit'):Option Bool:=
 W.cnd ((a.length:Int) != (b.length:Int)) (some false)
 (
 W.loop (fun (z1:Int×Unit) again2=>
  W.cnd (decide (z1.1<(a.length:Int))) (W.idx a z1.1 fun x3=>W.idx b z1.1 fun x4=>
  W.cnd (Go.Vc.notIf true ((x3.1==x4.1)&&(x3.2.1==x4.2.1))) (some false)
   ((again2 ((IntKind.i64.wrap (z1.1+1)),()))))
  (some true))
  (0,()))
def zhn:=zjc stdW
theorem zqe:ECok Tryz.prog 144 (.es ⟨(.pair (.slc tAUnit) (.pair (.slc tAUnit) .unit)),(.v .bool),fun x=>zhn x.1 x.2.1⟩):=es_z (fun W x=>zjc W x.1 x.2.1) cn [(6,[],(oN [1,3,5,7,9,11,13,15,17]))] [] [(4,⟨[(5,.t (.int .i64))],[],[]⟩)] Tryz.func144
def zir(W:Wd)(a:List APos')(b:List APos'):Option Bool:=
 W.cnd ((a.length:Int) != (b.length:Int)) (some false)
 (
 W.loop (fun (z1:Int×Unit) again2=>
  W.cnd (decide (z1.1<(a.length:Int))) (
  W.join (fun (z3:Bool×Unit)=>
   W.cnd z3.1 (some false)
   ((again2 ((IntKind.i64.wrap (z1.1+1)),()))))
   fun k4=>W.idx a z1.1 fun x5=>W.idx b z1.1 fun x6=>
   W.cnd (Go.Vc.notIf true ((x5.1.1==x6.1.1)&&(x5.1.2.1==x6.1.2.1))) ((k4 (true,())))
   (W.idx a z1.1 fun x7=>W.idx b z1.1 fun x8=>W.call (zhn x7.2.1 x8.2.1) fun v9=>(k4 ((!v9),()))))
  (some true))
  (0,()))
def zmg:=zir stdW
theorem ycc:ECok Tryz.prog 30 (.es ⟨(.pair (.slc tAPos) (.pair (.slc tAPos) .unit)),(.v .bool),fun x=>zmg x.1 x.2.1⟩):=es_z (fun W x=>zir W x.1 x.2.1) (cc zqe cn) [(6,[],(oN [1,3,5,7,9,11,13,15,17,19,21,23,25,27,29,31,33,35,37,39,41,43,44,47,49]))] [(500041,⟨[(41,.t .bool)],[],[]⟩)] [(4,⟨[(5,.t (.int .i64))],[],[]⟩)] Tryz.func30
def zit(W:Wd)(a:List AFlow')(b:List AFlow'):Option Bool:=
 W.cnd ((a.length:Int) != (b.length:Int)) (some false)
 (
 W.loop (fun (z1:Int×Unit) again2=>
  W.cnd (decide (z1.1<(a.length:Int))) (W.idx a z1.1 fun x3=>W.idx b z1.1 fun x4=>
  W.cnd (Go.Vc.notIf true ((x3.1.1==x4.1.1)&&((x3.1.2.1==x4.1.2.1)&&(x3.2.1==x4.2.1)))) (some false)
   ((again2 ((IntKind.i64.wrap (z1.1+1)),()))))
  (some true))
  (0,()))
def zmi:=zit stdW
theorem yce:ECok Tryz.prog 120 (.es ⟨(.pair (.slc tAFlow) (.pair (.slc tAFlow) .unit)),(.v .bool),fun x=>zmi x.1 x.2.1⟩):=es_z (fun W x=>zit W x.1 x.2.1) cn [(6,[],(oN [1,3,5,7,9,11,13,15,17]))] [] [(4,⟨[(5,.t (.int .i64))],[],[]⟩)] Tryz.func120
def zqi(W:Wd)(l:List AFlow'):Option Bool:=
 W.loop (fun (z1:Int×Unit) again2=>
 W.cnd (decide (z1.1<(l.length:Int))) (W.idx l z1.1 fun x3=>
  W.join (fun (z4:Bool×Unit)=>
  W.cnd z4.1 (some false)
   ((again2 ((IntKind.i64.wrap (z1.1+1)),()))))
  fun k5=>
  W.cnd (x3.2.1==0) ((k5 (true,())))
   (
   W.cnd (decide (0<z1.1)) (W.idx l (IntKind.i64.wrap (z1.1 - 1)) fun x6=>W.call (zdo x6.1 x3.1) fun v7=>(k5 ((!v7),())))
   ((k5 (false,())))))
  (some true))
 (0,())
def zux:=zqi stdW
theorem zww:ECok Tryz.prog 181 (.es ⟨(.pair (.slc tAFlow) .unit),(.v .bool),fun x=>zux x.1⟩):=es_z (fun W x=>zqi W x.1) (cc zfm cn) [(4,[],(oN [1,3,5,7,9,11,13,15,17,19,21,23,25,27,29,30,33,35,37]))] [(500030,⟨[(30,.t .bool)],[],[]⟩)] [(2,⟨[(7,.t (.int .i64))],[],[]⟩)] Tryz.func181
def zge(W:Wd)(l:List zab)(id:Int):Option (Int×Bool×Unit):=
 W.loop (fun (z1:Int×Unit) again2=>
 W.cnd (decide (z1.1<(l.length:Int))) (W.idx l z1.1 fun x3=>
  W.cnd (decide (id≤x3.1)) (some (z1.1,((x3.1==id),())))
  ((again2 ((IntKind.i64.wrap (z1.1+1)),()))))
  (some ((l.length:Int),(false,()))))
 (0,())
def zny:=zge stdW
theorem yen:ECok Tryz.prog 397 (.es ⟨(.pair (.slc tAAccount) (.pair (.int .i64) .unit)),(.pair (.v (.int .i64)) (.pair (.v .bool) .unit)),fun x=>zny x.1 x.2.1⟩):=es_z (fun W x=>zge W x.1 x.2.1) cn [(5,[],(oN [1,3,5,7,9,11,13]))] [] [(2,⟨[(10,.t (.int .i64))],[],[]⟩)] Tryz.func397
def zoc(W:Wd)(l:List zab)(id:Int):Option (zab×Bool×Unit):=W.call (zny l id) fun v1=>
 W.cnd (!v1.2.1) (some ((0,(0,(0,([],())))),(false,())))
 (W.idx l v1.1 fun x2=>W.call (znz x2) fun v3=>some (v3,(true,())))
def zyu:=zoc stdW
theorem yhn:ECok Tryz.prog 347 (.es ⟨(.pair (.slc tAAccount) (.pair (.int .i64) .unit)),(.pair (.v tAAccount) (.pair (.v .bool) .unit)),fun x=>zyu x.1 x.2.1⟩):=es_z (fun W x=>zoc W x.1 x.2.1) (cc yen (cc zyt cn)) [] [] [] Tryz.func347
def ztx(W:Wd)(m:zad)(free10:Int):Option (Bool×(Int×Unit)):=some ((m.1==free10),(free10,()))
def zos:=ztx stdW
theorem zzc:ECok Tryz.prog 422 (.ls ⟨[.v tAMember,.ptr],[⟨3,[.v (.int .i64)]⟩],[⟨3,[.v (.int .i64)]⟩],(.q (.v .bool)),fun x=>zos x.1 x.2.1⟩):=ls_z (fun W x=>ztx W x.1 x.2.1) cn [] [] [] Tryz.func422
def zal(W:Wd)(s:List zad)(f0_0:Int):Option (Int×(Int×Unit)):=
 W.loop (fun (z1:AUnit') again2=>
 W.cnd (decide (z1.1<(s.length:Int))) (W.idx s z1.1 fun x3=>W.call (zos x3 z1.2.1) fun v4=>
  W.cnd v4.1 (some (z1.1,v4.2))
  ((again2 ((IntKind.i64.wrap (z1.1+1)),v4.2))))
  (some ((-1),z1.2)))
 (0,(f0_0,()))
def zay:=zal stdW
theorem zck:ECok Tryz.prog 421 (.ls ⟨[.v (.slc tAMember),.fn 422 1],[⟨3,[.v (.int .i64)]⟩],[⟨3,[.v (.int .i64)]⟩],(.q (.v (.int .i64))),fun x=>zay x.1 x.2.1⟩):=ls_z (fun W x=>zal W x.1 x.2.1) (cc zzc cn) [] [] [(2,⟨[(8,.t (.int .i64))],[(0,[.t (.int .i64)])],[]⟩)] Tryz.func421
def zmw(W:Wd)(l:List zad)(id:Int):Option Int:=W.call (zay l id) fun v1=>some v1.1
def zxg:=zmw stdW
theorem yfz:ECok Tryz.prog 398 (.es ⟨(.pair (.slc tAMember) (.pair (.int .i64) .unit)),(.v (.int .i64)),fun x=>zxg x.1 x.2.1⟩):=es_z (fun W x=>zmw W x.1 x.2.1) (cc zck cn) [] [] [] Tryz.func398
def zgq(W:Wd)(l:List zad)(id:Int):Option (zad×Bool×Unit):=W.call (zxg l id) fun v1=>
 W.cnd (decide (v1<0)) (some ((0,(0,(0,(0,())))),(false,())))
 (W.idx l v1 fun x2=>some (x2,(true,())))
def zex:=zgq stdW
theorem zof:ECok Tryz.prog 348 (.es ⟨(.pair (.slc tAMember) (.pair (.int .i64) .unit)),(.pair (.v tAMember) (.pair (.v .bool) .unit)),fun x=>zex x.1 x.2.1⟩):=es_z (fun W x=>zgq W x.1 x.2.1) (cc yfz cn) [] [] [] Tryz.func348
def zjp(W:Wd)(m:zad):Option Int:=
 W.cnd (m.2.2.1 != 0) (some 15)
 (some 0)
def zmx:=zjp stdW
theorem ydf:ECok Tryz.prog 349 (.es ⟨(.pair tAMember .unit),(.v (.int .i64)),fun x=>zmx x.1⟩):=es_z (fun W x=>zjp W x.1) cn [] [] [] Tryz.func349
def zpf(W:Wd)(a:zbf)(b:zbf):Option (zbf×Int×Unit):=W.call (zcb a 0 0 0) fun v1=>W.call (zcb ((Go.bits Go.BinOp.xor Go.IntKind.i64 (if true=true then (-1) else (if true=true then ((2 ^ ((Go.IntKind.bits Go.IntKind.i64) - 1)) - 1) else ((2 ^ (Go.IntKind.bits Go.IntKind.i64)) - 1))) b.1),((Go.bits Go.BinOp.xor Go.IntKind.u64 (if false=true then (-1) else (if false=true then ((2 ^ ((Go.IntKind.bits Go.IntKind.u64) - 1)) - 1) else ((2 ^ (Go.IntKind.bits Go.IntKind.u64)) - 1))) b.2.1),())) v1.2.1 v1.2.2.1 v1.2.2.2.1) fun v2=>W.call (zoi 1) fun v3=>W.call (zcb v3 v2.2.1 v2.2.2.1 v2.2.2.2.1) fun v4=>W.call (zdk v4.2.1 v4.2.2.1 v4.2.2.2.1) fun v5=>some v5.1
def ybg:=zpf stdW
theorem yhs:ECok Tryz.prog 306 (.es ⟨(.pair tWideWide (.pair tWideWide .unit)),(.pair (.v tWideWide) (.pair (.v (.int .i64)) .unit)),fun x=>ybg x.1 x.2.1⟩):=es_z (fun W x=>zpf W x.1 x.2.1) (cc zhe (cc zmc (cc zgf cn))) [] [] [] Tryz.func306
def zvm(W:Wd)(a:Int)(b:Int):Option (AUnit'):=W.call (zoi a) fun v1=>W.call (zoi b) fun v2=>W.call (ybg v1 v2) fun v3=>W.call (zhv v3.1 v3.2.1) fun v4=>some v4
def zte:=zvm stdW
theorem ztd:ECok Tryz.prog 183 (.es ⟨(.pair (.int .i64) (.pair (.int .i64) .unit)),(.pair (.v (.int .i64)) (.pair (.v (.int .i64)) .unit)),fun x=>zte x.1 x.2.1⟩):=es_z (fun W x=>zvm W x.1 x.2.1) (cc zmc (cc yhs (cc zra cn))) [] [] [] Tryz.func183
def zuo(W:Wd)(l:List AUnit'):Option ((List AUnit')×Int×Unit):=W.call (zpk l) fun v1=>
 W.cnd v1 (some ([],(3,())))
 (
 W.loop (fun (z2:Int×List AUnit'×Unit) again3=>
  W.cnd (decide (z2.1<(l.length:Int))) (W.idx l z2.1 fun x4=>W.call (zte 0 x4.2.1) fun v5=>
  W.cnd (v5.2.1 != 0) (some ([],v5.2))
   (W.room (z2.2.1.length+((x4.1,(v5.1,()))::[]).length) 16 ((again3 ((IntKind.i64.wrap (z2.1+1)),((z2.2.1++((x4.1,(v5.1,()))::[])),()))))))
  (some (z2.2.1,(0,()))))
  (0,([],())))
def yhv:=zuo stdW
theorem vec_Neg_ok:ECok Tryz.prog 148 (.es ⟨(.pair (.slc tAUnit) .unit),(.pair (.own 52 tAUnit) (.pair (.v (.int .i64)) .unit)),fun x=>yhv x.1⟩):=es_z (fun W x=>zuo W x.1) (cc zok (cc ztd cn)) [] [] [(5,⟨[(4,.row 1),(13,.t (.int .i64))],[],[.dead,.own 52 tAUnit]⟩)] Tryz.func148
def zfd(W:Wd)(l:List AFlow')(u:AUnit'):Option (List Int):=
 W.loop (fun (z1:Int×List Int×Unit) again2=>
 W.cnd (decide (z1.1<(l.length:Int))) (
  W.join (fun (z3:List Int×Unit)=>(again2 ((IntKind.i64.wrap (z1.1+1)),z3)))
  fun k4=>W.idx l z1.1 fun x5=>
  W.cnd (Go.Vc.notIf false ((x5.1.1==u.1)&&(x5.1.2.1==u.2.1))) (W.room (z1.2.1.length+(x5.2.1::[]).length) 8 ((k4 ((z1.2.1++(x5.2.1::[])),()))))
   ((k4 z1.2)))
  (some z1.2.1))
 (0,([],()))
def zje:=zfd stdW
theorem zul:ECok Tryz.prog 362 (.es ⟨(.pair (.slc tAFlow) (.pair tAUnit .unit)),(.own 2 (.int .i64)),fun x=>zje x.1 x.2.1⟩):=es_z (fun W x=>zfd W x.1 x.2.1) cn [] [(7,⟨[(5,.row 1)],[],[.dead,.own 2 (.int .i64)]⟩)] [(3,⟨[(5,.row 1),(10,.t (.int .i64))],[],[.dead,.own 2 (.int .i64)]⟩)] Tryz.func362
def zmq(W:Wd)(l:List AFlow')(flows:List AFlow'):Option ((List AFlow')×Int×Unit):=W.call (zux l) fun v1=>
 W.cnd (!v1) (some ([],(3,())))
 (W.call (ztm (l::(flows::[]))) fun v2=>W.call (namedO v2) fun v3=>
 W.loop (fun (z4:Int×List AUnit'×List AFlow'×Unit) again5=>
  W.cnd (decide (z4.1<(v3.length:Int))) (
  W.join (fun (z6:List AUnit'×List AFlow'×Unit)=>(again5 ((IntKind.i64.wrap (z4.1+1)),z6)))
   fun k7=>W.idx z4.2.1 z4.1 fun x8=>W.nth z4.2.1 (Int.toNat z4.1) fun x9=>W.call (zje v2 x9) fun v10=>W.call (zka v10) fun v11=>
   W.cnd (v11.2.1 != 0) (some ([],v11.2))
   (
   W.cnd (v11.1 != 0) (W.room (z4.2.2.1.length+((x9,(v11.1,()))::[]).length) 24 ((k7 (z4.2.1,((z4.2.2.1++((x9,(v11.1,()))::[])),())))))
    ((k7 z4.2))))
  (some (z4.2.2.1,(0,()))))
  (0,(v3,([],()))))
def zlf:=zmq stdW
theorem yfm:ECok Tryz.prog 278 (.es ⟨(.pair (.slc tAFlow) (.pair (.slc tAFlow) .unit)),(.pair (.own 143 tAFlow) (.pair (.v (.int .i64)) .unit)),fun x=>zlf x.1 x.2.1⟩):=es_z (fun W x=>zmq W x.1 x.2.1) (cc zww (cc concat_ok (cc named_ok (cc zul (cc zhw cn))))) [] [(13,⟨[(7,.row 5),(20,.row 2)],[],[.dead,.dead,.own 47 tAUnit,.dead,.dead,.own 143 tAFlow]⟩)] [(6,⟨[(7,.row 5),(20,.row 2),(22,.t (.int .i64))],[],[.dead,.dead,.own 47 tAUnit,.dead,.dead,.own 143 tAFlow]⟩)] Tryz.func278
def zjf(W:Wd)(l:List AFlow')(from_:AUnit')(to_:AUnit')(amount:Int):Option ((List AFlow')×Int×Unit):=W.call (zte 0 amount) fun v1=>
 W.join (fun (z2:Bool×Unit)=>
 W.cnd z2.1 (some ([],v1.2))
  (W.call (zlf l ((from_,(v1.1,()))::((to_,(amount,()))::[]))) fun v3=>some v3))
 fun k4=>
 W.cnd (v1.2.1 != 0) (W.call (zux l) fun v5=>(k4 (v5,())))
  ((k4 (false,())))
def zfu:=zjf stdW
theorem ycq:ECok Tryz.prog 149 (.es ⟨(.pair (.slc tAFlow) (.pair tAUnit (.pair tAUnit (.pair (.int .i64) .unit)))),(.pair (.own 143 tAFlow) (.pair (.v (.int .i64)) .unit)),fun x=>zfu x.1 x.2.1 x.2.2.1 x.2.2.2.1⟩):=es_z (fun W x=>zjf W x.1 x.2.1 x.2.2.1 x.2.2.2.1) (cc ztd (cc zww (cc yfm cn))) [] [(500022,⟨[(22,.t .bool)],[],[]⟩)] [] Tryz.func149
def zmj(W:Wd)(l:List AFlow')(u:AUnit'):Option Int:=
 W.loop (fun (z1:Int×Unit) again2=>
 W.cnd (decide (z1.1<(l.length:Int))) (W.idx l z1.1 fun x3=>
  W.cnd (Go.Vc.notIf false ((x3.1.1==u.1)&&(x3.1.2.1==u.2.1))) (W.idx l z1.1 fun x4=>some x4.2.1)
  ((again2 ((IntKind.i64.wrap (z1.1+1)),()))))
  (some 0))
 (0,())
def zhm:=zmj stdW
theorem yff:ECok Tryz.prog 39 (.es ⟨(.pair (.slc tAFlow) (.pair tAUnit .unit)),(.v (.int .i64)),fun x=>zhm x.1 x.2.1⟩):=es_z (fun W x=>zmj W x.1 x.2.1) cn [(4,[],(oN [1,3,5,7,9,11,13]))] [] [(2,⟨[(5,.t (.int .i64))],[],[]⟩)] Tryz.func39
def znj(W:Wd)(l:List zao):Option (List zao):=
 W.cnd (decide (20<(l.length:Int))) (W.bnd 20 l.length fun h1=>some (l.take h1))
 (some l)
def zlq:=znj stdW
theorem ygk:ECok Tryz.prog 73 (.es ⟨(.pair (.slc tAChoice) .unit),(.v (.slc tAChoice)),fun x=>zlq x.1⟩):=es_z (fun W x=>znj W x.1) cn [] [] [] Tryz.func73
def znh(W:Wd)(l:List zct):Option (List zct):=
 W.cnd (decide (20<(l.length:Int))) (W.bnd 20 l.length fun h1=>some (l.take h1))
 (some l)
def zxs:=znh stdW
theorem ygi:ECok Tryz.prog 205 (.es ⟨(.pair (.slc tAAsset) .unit),(.v (.slc tAAsset)),fun x=>zxs x.1⟩):=es_z (fun W x=>znh W x.1) cn [] [] [] Tryz.func205
def znf(W:Wd)(l:List AHold'):Option (List AHold'):=
 W.join (fun (z1:List AHold'×Unit)=>some z1.1)
 fun k2=>
 W.loop (fun (z3:Int×List AHold'×Unit) again4=>
  W.cnd (decide (z3.1<(l.length:Int))) (
  W.cnd (decide (z3.1<10)) (W.idx l z3.1 fun x5=>W.idx l z3.1 fun x6=>W.call (zxs x6.2.1) fun v7=>W.room (z3.2.1.length+((x5.1,(v7,()))::[]).length) 40 ((again4 ((IntKind.i64.wrap (z3.1+1)),((z3.2.1++((x5.1,(v7,()))::[])),())))))
   ((k2 z3.2)))
  ((k2 z3.2)))
  (0,([],()))
def zlm:=znf stdW
theorem ygg:ECok Tryz.prog 76 (.es ⟨(.pair (.slc tAHold) .unit),(.own 55 tAHold),fun x=>zlm x.1⟩):=es_z (fun W x=>znf W x.1) (cc ygi cn) [(5,[],(oN [1,3,5,7,9,11,13,15,17,19,21,22,25,26,28,31]))] [(6,⟨[(3,.row 1)],[],[.dead,.own 55 tAHold]⟩)] [(3,⟨[(3,.row 1),(4,.t (.int .i64))],[],[.dead,.own 55 tAHold]⟩)] Tryz.func76
def zne(W:Wd)(s:zaf):Option zaf:=
 W.join (fun (z1:List zab×Unit)=>W.call (ziz s.2.1) fun v2=>W.call (ziv z1.1) fun v3=>W.call (zlq s.2.2.2.2.2.1) fun v4=>W.call (zln s.2.2.2.2.2.2.2.2.1) fun v5=>W.call (zlp s.2.2.2.2.2.2.2.2.2.2.1) fun v6=>W.call (zlm s.2.2.2.2.2.2.2.2.2.2.2.1) fun v7=>some (s.1,(v2,([],([],(v3,(v4,([],([],(v5,([],(v6,(v7,())))))))))))))
 fun k8=>
 W.loop (fun (z9:Int×List zab×Unit) again10=>
  W.cnd (decide (z9.1<(s.2.2.2.2.1.length:Int))) (
  W.cnd (decide (z9.1<20)) (W.idx s.2.2.2.2.1 z9.1 fun x11=>W.call (zov x11) fun v12=>W.room (z9.2.1.length+(v12::[]).length) 48 ((again10 ((IntKind.i64.wrap (z9.1+1)),((z9.2.1++(v12::[])),())))))
   ((k8 z9.2)))
  ((k8 z9.2)))
  (0,([],()))
def zqt:=zne stdW
theorem ygf:ECok Tryz.prog 41 (.es ⟨(.pair tAState .unit),(.v tAState),fun x=>zqt x.1⟩):=es_z (fun W x=>zne W x.1) (cc zzg (cc zza (cc zyz (cc ygk (cc ygh (cc ygj (cc ygg cn))))))) [(6,[1],(oN [1,3,5,7,11,15,17,21,23,27,29,33,35,8,12,18,24,30,36,39,40]))] [(6,⟨[(3,.row 1)],[],[.dead,.own 60 tAAccount]⟩)] [(3,⟨[(3,.row 1),(4,.t (.int .i64))],[],[.dead,.own 60 tAAccount]⟩)] Tryz.func41
def zgl(W:Wd)(s:zaf)(u:AUnit'):Option (zab×Int×Unit):=W.call (zyu s.2.2.2.2.1 u.1) fun v1=>
 W.join (fun (z2:Bool×Unit)=>
 W.cnd z2.1 (some ((0,(0,(0,([],())))),(11,())))
  (
  W.cnd (v1.1.2.2.1==1) (some ((0,(0,(0,([],())))),(17,())))
  (some (v1.1,(0,())))))
 fun k3=>
 W.cnd (!v1.2.1) ((k3 (true,())))
  (W.call (zwa v1.1 u) fun v4=>(k3 ((!v4),())))
def zjj:=zgl stdW
theorem zoe:ECok Tryz.prog 363 (.es ⟨(.pair tAState (.pair tAUnit .unit)),(.pair (.v tAAccount) (.pair (.v (.int .i64)) .unit)),fun x=>zjj x.1 x.2.1⟩):=es_z (fun W x=>zgl W x.1 x.2.1) (cc yhn (cc yjo cn)) [] [(500016,⟨[(16,.t .bool)],[],[]⟩)] [] Tryz.func363
def zjk(W:Wd)(m:zad)(day:Int):Option Int:=
 W.join (fun (z1:Bool×Unit)=>
 W.cnd z1.1 (some 0)
  (some (if (IntKind.i64.wrap ((IntKind.i64.wrap (m.2.2.2.1 - day))+1))>1 then (IntKind.i64.wrap ((IntKind.i64.wrap (m.2.2.2.1 - day))+1)) else 1)))
 fun k2=>
 W.cnd (m.2.2.1 != 1) ((k2 (true,())))
  ((k2 ((decide (m.2.2.2.1<day)),())))
def zsl:=zjk stdW
theorem ycv:ECok Tryz.prog 404 (.es ⟨(.pair tAMember (.pair (.int .i64) .unit)),(.v (.int .i64)),fun x=>zsl x.1 x.2.1⟩):=es_z (fun W x=>zjk W x.1 x.2.1) cn [] [(500013,⟨[(13,.t .bool)],[],[]⟩)] [] Tryz.func404
def zjl(W:Wd)(m:zad)(day:Int):Option Int:=W.call (zsl m day) fun v1=>
 W.cnd (v1==0) (some 18)
 (some 0)
def zmv:=zjl stdW
theorem ycw:ECok Tryz.prog 364 (.es ⟨(.pair tAMember (.pair (.int .i64) .unit)),(.v (.int .i64)),fun x=>zmv x.1 x.2.1⟩):=es_z (fun W x=>zjl W x.1 x.2.1) (cc ycv cn) [] [] [] Tryz.func364
def zgk(W:Wd)(s:zaf)(from_:AUnit'):Option Int:=W.call (zjj s from_) fun v1=>
 W.cnd (v1.2.1 != 0) (some v1.2.1)
 (W.call (zex s.2.1 v1.1.2.1) fun v2=>
 W.cnd (!v2.2.1) (some 18)
  (W.call (zmv v2.1 s.1) fun v3=>some v3))
def zoo:=zgk stdW
theorem zzb:ECok Tryz.prog 282 (.es ⟨(.pair tAState (.pair tAUnit .unit)),(.v (.int .i64)),fun x=>zoo x.1 x.2.1⟩):=es_z (fun W x=>zgk W x.1 x.2.1) (cc zoe (cc zof (cc ycw cn))) [] [] [] Tryz.func282
def zyj(W:Wd)(c:zao)(free10:Int)(free11:Int):Option (Bool×(AUnit')):=some ((Go.Vc.notIf false ((c.1.1==free10)&&(c.1.2.1==free11))),(free10,(free11,())))
def zti:=zyj stdW
theorem ydx:ECok Tryz.prog 425 (.ls ⟨[.v tAChoice,.ptr],[⟨47,[.v (.int .i64),.v (.int .i64)]⟩],[⟨47,[.v (.int .i64),.v (.int .i64)]⟩],(.q (.v .bool)),fun x=>zti x.1 x.2.1 x.2.2.1⟩):=ls_z (fun W x=>zyj W x.1 x.2.1 x.2.2.1) cn [] [] [] Tryz.func425
def zam(W:Wd)(s:List zao)(f0_0:Int)(f0_1:Int):Option (Int×(AUnit')):=
 W.loop (fun (z1:zct) again2=>
 W.cnd (decide (z1.1<(s.length:Int))) (W.idx s z1.1 fun x3=>W.call (zti x3 z1.2.1 z1.2.2.1) fun v4=>
  W.cnd v4.1 (some (z1.1,v4.2))
  ((again2 ((IntKind.i64.wrap (z1.1+1)),v4.2))))
  (some ((-1),z1.2)))
 (0,(f0_0,(f0_1,())))
def zbb:=zam stdW
theorem zcn:ECok Tryz.prog 371 (.ls ⟨[.v (.slc tAChoice),.fn 425 1],[⟨47,[.v (.int .i64),.v (.int .i64)]⟩],[⟨47,[.v (.int .i64),.v (.int .i64)]⟩],(.q (.v (.int .i64))),fun x=>zbb x.1 x.2.1 x.2.2.1⟩):=ls_z (fun W x=>zam W x.1 x.2.1 x.2.2.1) (cc ydx cn) [] [] [(2,⟨[(8,.t (.int .i64))],[(0,[.t (.int .i64),.t (.int .i64)])],[]⟩)] Tryz.func371
def zrf(W:Wd)(l:List zao)(from_:AUnit'):Option Int:=W.call (zbb l from_.1 from_.2.1) fun v1=>some v1.1
def ydy:=zrf stdW
theorem yji:ECok Tryz.prog 405 (.es ⟨(.pair (.slc tAChoice) (.pair tAUnit .unit)),(.v (.int .i64)),fun x=>ydy x.1 x.2.1⟩):=es_z (fun W x=>zrf W x.1 x.2.1) (cc zcn cn) [] [] [] Tryz.func405
def zkc(W:Wd)(l:List zao)(from_:AUnit'):Option (zao×Bool×Unit):=W.call (ydy l from_) fun v1=>
 W.cnd (decide (v1<0)) (some (((0,(0,())),((0,(0,())),(false,()))),(false,())))
 (W.idx l v1 fun x2=>some (x2,(true,())))
def ztj:=zkc stdW
theorem ydz:ECok Tryz.prog 365 (.es ⟨(.pair (.slc tAChoice) (.pair tAUnit .unit)),(.pair (.v tAChoice) (.pair (.v .bool) .unit)),fun x=>ztj x.1 x.2.1⟩):=es_z (fun W x=>zkc W x.1 x.2.1) (cc yji cn) [] [] [] Tryz.func365
def zgt(W:Wd)(l:List zao)(from_:AUnit'):Option (AUnit'×Int×Unit):=W.call (ztj l from_) fun v1=>
 W.cnd (!v1.2.1) (some ((0,(0,())),(19,())))
 (
 W.cnd (!v1.1.2.2.1) (some ((0,(0,())),(20,())))
  (some (v1.1.2.1,(0,()))))
def zkb:=zgt stdW
theorem zzj:ECok Tryz.prog 283 (.es ⟨(.pair (.slc tAChoice) (.pair tAUnit .unit)),(.pair (.v tAUnit) (.pair (.v (.int .i64)) .unit)),fun x=>zkb x.1 x.2.1⟩):=es_z (fun W x=>zgt W x.1 x.2.1) (cc ydz cn) [] [] [] Tryz.func283
def zmr(W:Wd)(l:List AFlow')(u:AUnit'):Option Int:=
 W.loop (fun (z1:Int×Unit) again2=>
 W.cnd (decide (z1.1<(l.length:Int))) (W.idx l z1.1 fun x3=>
  W.cnd (Go.Vc.notIf false ((x3.1.1==u.1)&&(x3.1.2.1==u.2.1))) (some x3.2.1)
  ((again2 ((IntKind.i64.wrap (z1.1+1)),()))))
  (some 0))
 (0,())
def zep:=zmr stdW
theorem ztt:ECok Tryz.prog 165 (.es ⟨(.pair (.slc tAFlow) (.pair tAUnit .unit)),(.v (.int .i64)),fun x=>zep x.1 x.2.1⟩):=es_z (fun W x=>zmr W x.1 x.2.1) cn [] [] [(2,⟨[(9,.t (.int .i64))],[],[]⟩)] Tryz.func165
def zbs(W:Wd)(s:List zct):Option (List zct):=W.nilq (List.isEmpty s) fun g1=>
 W.cnd (Go.Vc.notIf false g1) (some [])
 (W.room ((0:Nat)+s.length) 24 (some ([]++s)))
def zau:=zbs stdW
theorem zdd:ECok Tryz.prog 134 (.es ⟨(.pair (.slc tAAsset) .unit),(.own 57 tAAsset),fun x=>zau x.1⟩):=es_z (fun W x=>zbs W x.1) cn [] [] [] Tryz.func134
def znn(W:Wd)(l:List AHold')(u:AUnit'):Option (List zct):=
 W.loop (fun (z1:Int×Unit) again2=>
 W.cnd (decide (z1.1<(l.length:Int))) (W.idx l z1.1 fun x3=>
  W.cnd (Go.Vc.notIf false ((x3.1.1==u.1)&&(x3.1.2.1==u.2.1))) (W.call (zau x3.2.1) fun v4=>some v4)
  ((again2 ((IntKind.i64.wrap (z1.1+1)),()))))
  (some []))
 (0,())
def zht:=znn stdW
theorem zua:ECok Tryz.prog 178 (.es ⟨(.pair (.slc tAHold) (.pair tAUnit .unit)),(.own 57 tAAsset),fun x=>zht x.1 x.2.1⟩):=es_z (fun W x=>znn W x.1 x.2.1) (cc zdd cn) [] [] [(2,⟨[(9,.t (.int .i64))],[],[]⟩)] Tryz.func178
def zjh(W:Wd)(s:zaf)(u:AUnit'):Option Bool:=W.call (zly s.2.2.2.2.2.2.2.2.1 u) fun v1=>
 W.cnd ((v1.length:Int)==0) (W.call (zep s.2.2.2.2.2.2.2.2.2.2.1 u) fun v2=>
 W.cnd (v2==0) (W.call (zht s.2.2.2.2.2.2.2.2.2.2.2.1 u) fun v3=>some ((v3.length:Int)==0))
  (some false))
 (some false)
def zms:=zjh stdW
theorem ycs:ECok Tryz.prog 366 (.es ⟨(.pair tAState (.pair tAUnit .unit)),(.v .bool),fun x=>zms x.1 x.2.1⟩):=es_z (fun W x=>zjh W x.1 x.2.1) (cc znu (cc ztt (cc zua cn))) [] [] [] Tryz.func366
def zvn(W:Wd)(a:Int):Option (AUnit'):=
 W.cnd (decide (a<0)) (W.call (zte 0 a) fun v1=>some v1)
 (some (a,(0,())))
def ydu:=zvn stdW
theorem fix_Abs_ok:ECok Tryz.prog 176 (.es ⟨(.pair (.int .i64) .unit),(.pair (.v (.int .i64)) (.pair (.v (.int .i64)) .unit)),fun x=>ydu x.1⟩):=es_z (fun W x=>zvn W x.1) (cc ztd cn) [] [] [] Tryz.func176
def zmd(W:Wd)(l:List AUnit'):Option (AUnit'):=W.call (zpk l) fun v1=>
 W.cnd v1 (some (0,(3,())))
 (
 W.loop (fun (z2:Int×List Int×Unit) again3=>
  W.cnd (decide (z2.1<(l.length:Int))) (W.idx l z2.1 fun x4=>W.call (ydu x4.2.1) fun v5=>
  W.cnd (v5.2.1 != 0) (some (0,v5.2))
   (W.room (z2.2.1.length+(v5.1::[]).length) 8 ((again3 ((IntKind.i64.wrap (z2.1+1)),((z2.2.1++(v5.1::[])),()))))))
  (W.call (zka z2.2.1) fun v6=>some v6))
  (0,([],())))
def zwe:=zmd stdW
theorem yet:ECok Tryz.prog 406 (.es ⟨(.pair (.slc tAUnit) .unit),(.pair (.v (.int .i64)) (.pair (.v (.int .i64)) .unit)),fun x=>zwe x.1⟩):=es_z (fun W x=>zmd W x.1) (cc zok (cc fix_Abs_ok (cc zhw cn))) [] [] [(5,⟨[(4,.row 1),(13,.t (.int .i64))],[],[.dead,.own 2 (.int .i64)]⟩)] Tryz.func406
def znw(W:Wd)(l:List APos')(units:List AUnit'):Option (AUnit'):=W.call (zys l) fun v1=>
 W.cnd (!v1) (some (0,(3,())))
 (
 W.loop (fun (z2:Int×List Int×Unit) again3=>
  W.cnd (decide (z2.1<(units.length:Int))) (W.idx units z2.1 fun x4=>W.call (zly l x4) fun v5=>W.call (zwe v5) fun v6=>
  W.cnd (v6.2.1 != 0) (some (0,v6.2))
   (W.room (z2.2.1.length+(v6.1::[]).length) 8 ((again3 ((IntKind.i64.wrap (z2.1+1)),((z2.2.1++(v6.1::[])),()))))))
  (W.call (zka z2.2.1) fun v7=>some v7))
  (0,([],())))
def zib:=znw stdW
theorem zug:ECok Tryz.prog 367 (.es ⟨(.pair (.slc tAPos) (.pair (.slc tAUnit) .unit)),(.pair (.v (.int .i64)) (.pair (.v (.int .i64)) .unit)),fun x=>zib x.1 x.2.1⟩):=es_z (fun W x=>znw W x.1 x.2.1) (cc ztp (cc znu (cc yet (cc zhw cn)))) [] [] [(5,⟨[(6,.row 2),(16,.t (.int .i64))],[],[.dead,.dead,.own 2 (.int .i64)]⟩)] Tryz.func367
def zjg(W:Wd)(s:zaf)(id:Int):Option (List AUnit'):=W.call (yjn s.2.2.2.2.1 id) fun v1=>
 W.loop (fun (z2:Int×List AUnit'×Unit) again3=>
 W.cnd (decide (z2.1<(v1.length:Int))) (W.idx v1 z2.1 fun x4=>W.call (zoa x4) fun v5=>W.room (z2.2.1.length+v5.length) 16 ((again3 ((IntKind.i64.wrap (z2.1+1)),((z2.2.1++v5),())))))
  (some z2.2.1))
 (0,([],()))
def zsj:=zjg stdW
theorem ycr:ECok Tryz.prog 407 (.es ⟨(.pair tAState (.pair (.int .i64) .unit)),(.own 47 tAUnit),fun x=>zsj x.1 x.2.1⟩):=es_z (fun W x=>zjg W x.1 x.2.1) (cc acct_Of_ok (cc zro cn)) [] [] [(3,⟨[(5,.row 1),(13,.t (.int .i64))],[],[.dead,.own 47 tAUnit]⟩)] Tryz.func407
def zmt(W:Wd)(s:zaf)(id:Int):Option (AUnit'):=W.call (zsj s id) fun v1=>W.call (zib s.2.2.2.2.2.2.2.2.1 v1) fun v2=>some v2
def zqj:=zmt stdW
theorem yfr:ECok Tryz.prog 368 (.es ⟨(.pair tAState (.pair (.int .i64) .unit)),(.pair (.v (.int .i64)) (.pair (.v (.int .i64)) .unit)),fun x=>zqj x.1 x.2.1⟩):=es_z (fun W x=>zmt W x.1 x.2.1) (cc ycr (cc zug cn)) [(1,[],(oN [1,3,5,7,8,10,13,15,17,19]))] [] [] Tryz.func368
def znr(W:Wd)(a:Int)(l:List Int):Option Int:=
 W.loop (fun (z1:AUnit') again2=>
 W.cnd (decide (z1.2.1<(l.length:Int))) (W.idx l z1.2.1 fun x3=>(again2 ((if x3<z1.1 then x3 else z1.1),((IntKind.i64.wrap (z1.2.1+1)),()))))
  (some z1.1))
 (a,(0,()))
def zyh:=znr stdW
theorem ygz:ECok Tryz.prog 408 (.es ⟨(.pair (.int .i64) (.pair (.slc (.int .i64)) .unit)),(.v (.int .i64)),fun x=>zyh x.1 x.2.1⟩):=es_z (fun W x=>znr W x.1 x.2.1) cn [] [] [(2,⟨[(0,.t (.int .i64)),(9,.t (.int .i64))],[],[]⟩)] Tryz.func408
def zgp(W:Wd)(m:zad)(used:Int)(more:Int):Option Int:=W.call (zyh used (more::[])) fun v1=>
 W.cnd (decide (v1<0)) (some 2)
 (W.call (zka (used::(more::[]))) fun v2=>
 W.join (fun (z3:Bool×Unit)=>
  W.cnd z3.1 (some 16)
  (some 0))
  fun k4=>
  W.cnd (v2.2.1 != 0) ((k4 (true,())))
  ((k4 ((decide (m.2.1<v2.1)),()))))
def zjo:=zgp stdW
theorem zzd:ECok Tryz.prog 369 (.es ⟨(.pair tAMember (.pair (.int .i64) (.pair (.int .i64) .unit))),(.v (.int .i64)),fun x=>zjo x.1 x.2.1 x.2.2.1⟩):=es_z (fun W x=>zgp W x.1 x.2.1 x.2.2.1) (cc ygz (cc zhw cn)) [] [(500028,⟨[(28,.t .bool)],[],[]⟩)] [] Tryz.func369
def zji(W:Wd)(s:zaf)(from_:AUnit')(to_:AUnit'):Option Int:=W.call (zjj s to_) fun v1=>
 W.cnd (v1.2.1 != 0) (some v1.2.1)
 (W.call (zex s.2.1 v1.1.2.1) fun v2=>
 W.join (fun (z3:Bool×Unit)=>
  W.cnd z3.1 (some 15)
  (W.call (zms s to_) fun v4=>
  W.cnd (!v4) (some 21)
   (W.call (zib s.2.2.2.2.2.2.2.2.1 (from_::[])) fun v5=>
   W.cnd (v5.2.1 != 0) (some v5.2.1)
   (W.call (zqj s v2.1.1) fun v6=>
   W.cnd (v6.2.1 != 0) (some v6.2.1)
    (W.call (zjo v2.1 v6.1 v5.1) fun v7=>some v7)))))
  fun k8=>
  W.cnd (!v2.2.1) ((k8 (true,())))
  (W.call (zmx v2.1) fun v9=>(k8 ((v9 != 0),()))))
def zsk:=zji stdW
theorem yct:ECok Tryz.prog 284 (.es ⟨(.pair tAState (.pair tAUnit (.pair tAUnit .unit))),(.v (.int .i64)),fun x=>zsk x.1 x.2.1 x.2.2.1⟩):=es_z (fun W x=>zji W x.1 x.2.1 x.2.2.1) (cc zoe (cc zof (cc ydf (cc ycs (cc zug (cc yfr (cc zzd cn))))))) [] [(500030,⟨[(30,.t .bool)],[],[]⟩)] [] Tryz.func284
def zqk(W:Wd)(s:zaf)(from_:AUnit'):Option (AUnit'×Int×Unit):=W.call (zoo s from_) fun v1=>
 W.cnd (v1 != 0) (some ((0,(0,())),(v1,())))
 (W.call (zkb s.2.2.2.2.2.1 from_) fun v2=>
 W.cnd (v2.2.1 != 0) (some ((0,(0,())),v2.2))
  (W.call (zsk s from_ v2.1) fun v3=>
  W.cnd (v3 != 0) (some ((0,(0,())),(v3,())))
  (some (v2.1,(0,())))))
def ycu:=zqk stdW
theorem yii:ECok Tryz.prog 161 (.es ⟨(.pair tAState (.pair tAUnit .unit)),(.pair (.v tAUnit) (.pair (.v (.int .i64)) .unit)),fun x=>ycu x.1 x.2.1⟩):=es_z (fun W x=>zqk W x.1 x.2.1) (cc zzb (cc zzj (cc yct cn))) [] [] [] Tryz.func161
def znv(W:Wd)(l:List APos')(from_:AUnit')(to_:AUnit')(legs:List AUnit'):Option ((List APos')×Int×Unit):=W.call (zys l) fun v1=>
 W.cnd (!v1) (some ([],(3,())))
 (W.call (yhv legs) fun v2=>
 W.cnd (v2.2.1 != 0) (some ([],v2.2))
  (W.call (znt l from_ v2.1) fun v3=>
  W.cnd (v3.2.1 != 0) (some ([],v3.2))
  (W.call (znt v3.1 to_ legs) fun v4=>some v4)))
def zrm:=znv stdW
theorem yhk:ECok Tryz.prog 164 (.es ⟨(.pair (.slc tAPos) (.pair tAUnit (.pair tAUnit (.pair (.slc tAUnit) .unit)))),(.pair (.own 50 tAPos) (.pair (.v (.int .i64)) .unit)),fun x=>zrm x.1 x.2.1 x.2.2.1 x.2.2.2.1⟩):=es_z (fun W x=>znv W x.1 x.2.1 x.2.2.1 x.2.2.2.1) (cc ztp (cc vec_Neg_ok (cc yek cn))) [] [] [] Tryz.func164
def zjr(W:Wd)(x:zct):Option Bool:=
 W.cnd (decide (1≤x.1)) (
 W.cnd (decide (x.1≤4)) (
  W.cnd (decide (0≤x.2.1)) (
  W.cnd (decide (x.2.1≤255)) (some (decide (0<x.2.2.1)))
   (some false))
  (some false))
  (some false))
 (some false)
def zsq:=zjr stdW
theorem ydi:ECok Tryz.prog 379 (.es ⟨(.pair tAAsset .unit),(.v .bool),fun x=>zsq x.1⟩):=es_z (fun W x=>zjr W x.1) cn [] [] [] Tryz.func379
def yaw(W:Wd)(x:Int):Option Bool:=some (x != x)
def zri:=yaw stdW
theorem yhh:ECok Tryz.prog 426 (.es ⟨(.pair (.int .i64) .unit),(.v .bool),fun x=>zri x.1⟩):=es_z (fun W x=>yaw W x.1) cn [] [] [] Tryz.func426
def zgv(W:Wd)(x:Int)(y:Int):Option Int:=W.call (zri x) fun v1=>W.call (zri y) fun v2=>
 W.cnd v1 (
 W.cnd v2 (some 0)
  (some (-1)))
 (
 W.cnd v2 (some 1)
  (
  W.cnd (decide (x<y)) (some (-1))
  (
  W.cnd (decide (y<x)) (some 1)
   (some 0))))
def zkg:=zgv stdW
theorem zzk:ECok Tryz.prog 410 (.es ⟨(.pair (.int .i64) (.pair (.int .i64) .unit)),(.v (.int .i64)),fun x=>zkg x.1 x.2.1⟩):=es_z (fun W x=>zgv W x.1 x.2.1) (cc yhh cn) [] [] [] Tryz.func410
def yee(W:Wd)(vals:List Int):Option Int:=
 W.loop (fun (z1:Int×Unit) again2=>
 W.cnd (decide (z1.1<(vals.length:Int))) (W.idx vals z1.1 fun x3=>
  W.cnd (x3 != 0) (some x3)
  ((again2 ((IntKind.i64.wrap (z1.1+1)),()))))
  (some 0))
 (0,())
def cmp_Or:=yee stdW
theorem cmp_Or_ok:ECok Tryz.prog 409 (.es ⟨(.pair (.slc (.int .i64)) .unit),(.v (.int .i64)),fun x=>cmp_Or x.1⟩):=es_z (fun W x=>yee W x.1) cn [] [] [(3,⟨[(8,.t (.int .i64))],[],[]⟩)] Tryz.func409
def zjs(W:Wd)(a:zct)(b:zct):Option Int:=W.call (zkg a.1 b.1) fun v1=>W.call (zkg a.2.1 b.2.1) fun v2=>W.call (cmp_Or (v1::(v2::[]))) fun v3=>some v3
def zna:=zjs stdW
theorem ydj:ECok Tryz.prog 380 (.es ⟨(.pair tAAsset (.pair tAAsset .unit)),(.v (.int .i64)),fun x=>zna x.1 x.2.1⟩):=es_z (fun W x=>zjs W x.1 x.2.1) (cc zzk (cc cmp_Or_ok cn)) [(1,[],(oN [1,3,5,7,11,13,15,17,8,18,20,22,25]))] [] [] Tryz.func380
def zvc(W:Wd)(l:List zct):Option Bool:=
 W.loop (fun (z1:Int×Unit) again2=>
 W.cnd (decide (z1.1<(l.length:Int))) (W.idx l z1.1 fun x3=>
  W.join (fun (z4:Bool×Unit)=>
  W.cnd z4.1 (some false)
   ((again2 ((IntKind.i64.wrap (z1.1+1)),()))))
  fun k5=>W.call (zsq x3) fun v6=>
  W.cnd (!v6) (W.both ((k5 (true,()))) ((k5 (true,()))))
   (
   W.cnd (decide (0<z1.1)) (W.idx l (IntKind.i64.wrap (z1.1 - 1)) fun x7=>W.both (W.call (zna x7 x3) fun v8=>(k5 ((decide (0≤v8)),()))) (W.call (zna x7 x3) fun v9=>(k5 ((decide (0≤v9)),()))))
   (W.both ((k5 (false,()))) ((k5 (false,()))))))
  (some (decide ((l.length:Int)≤16))))
 (0,())
def yim:=zvc stdW
theorem lots_Is_ok:ECok Tryz.prog 305 (.es ⟨(.pair (.slc tAAsset) .unit),(.v .bool),fun x=>yim x.1⟩):=es_z (fun W x=>zvc W x.1) (cc ydi (cc ydj cn)) [(4,[],(.rd 0 (.op 1 (.rd 2 (.rd 3 (.rd 4 (.rd 5 (.rd 6 (.rd 7 (.rd 8 (.rd 9 (.rd 10 (.two 11 12 (oN [24,26,29,31,33]) (oN [22,26,29,31,33]))))))))))))))] [(500028,⟨[(28,.t .bool)],[],[]⟩)] [(2,⟨[(7,.t (.int .i64))],[],[]⟩)] Tryz.func305
def zvf(W:Wd)(l:List AHold'):Option Bool:=
 W.loop (fun (z1:Int×Unit) again2=>
 W.cnd (decide (z1.1<(l.length:Int))) (W.idx l z1.1 fun x3=>
  W.join (fun (z4:Bool×Unit)=>
  W.cnd z4.1 (some false)
   ((again2 ((IntKind.i64.wrap (z1.1+1)),()))))
  fun k5=>
  W.cnd ((x3.2.1.length:Int)==0) (W.both ((k5 (true,()))) ((k5 (true,()))))
   (W.call (yim x3.2.1) fun v6=>
   W.cnd (!v6) (W.both ((k5 (true,()))) ((k5 (true,()))))
   (
   W.cnd (decide (0<z1.1)) (W.idx l (IntKind.i64.wrap (z1.1 - 1)) fun x7=>W.both (W.call (zdo x7.1 x3.1) fun v8=>(k5 ((!v8),()))) (W.call (zdo x7.1 x3.1) fun v9=>(k5 ((!v9),()))))
    (W.both ((k5 (false,()))) ((k5 (false,())))))))
  (some true))
 (0,())
def yiy:=zvf stdW
theorem hold_Is_ok:ECok Tryz.prog 182 (.es ⟨(.pair (.slc tAHold) .unit),(.v .bool),fun x=>yiy x.1⟩):=es_z (fun W x=>zvf W x.1) (cc lots_Is_ok (cc zfm cn)) [(4,[],(.rd 0 (.rd 1 (.rd 2 (.rd 3 (.rd 4 (.rd 5 (.rd 6 (.op 7 (.rd 8 (.rd 9 (.rd 10 (.rd 11 (.rd 12 (.rd 13 (.rd 14 (.rd 15 (.rd 16 (.rd 17 (.rd 18 (.rd 20 (.two 19 21 (oN [42,44,47,49,51]) (oN [38,44,47,49,51])))))))))))))))))))))))] [(500037,⟨[(37,.t .bool)],[],[]⟩)] [(2,⟨[(7,.t (.int .i64))],[],[]⟩)] Tryz.func182
def zqx(W:Wd)(l:List AHold')(u:AUnit')(all:List zct):Option (List AHold'):=W.both (W.call (zau all) fun v1=>
 W.loop (fun (z2:Bool×Int×Int×Int×List zct×List AHold'×Unit) again3=>
  W.cnd (decide (z2.2.1<(l.length:Int))) (
  W.join (fun (z4:Bool×List AHold'×Unit)=>(again3 (z4.1,((IntKind.i64.wrap (z2.2.1+1)),(z2.2.2.1,(z2.2.2.2.1,(z2.2.2.2.2.1,z4.2)))))))
   fun k5=>W.idx l z2.2.1 fun x6=>
   W.join (fun (z7:Bool×List AHold'×Unit)=>
   W.cnd (Go.Vc.notIf true ((x6.1.1==u.1)&&(x6.1.2.1==u.2.1))) (W.call (zau x6.2.1) fun v8=>W.room (z7.2.1.length+((x6.1,(v8,()))::[]).length) 40 ((k5 (z7.1,((z7.2.1++((x6.1,(v8,()))::[])),())))))
    (
    W.cnd (!z7.1) (W.room (z7.2.1.length+(((z2.2.2.1,(z2.2.2.2.1,())),(z2.2.2.2.2.1,()))::[]).length) 40 ((k5 (true,((z7.2.1++(((z2.2.2.1,(z2.2.2.2.1,())),(z2.2.2.2.2.1,()))::[])),())))))
    ((k5 z7))))
   fun k9=>
   W.join (fun (z10:Bool×List AHold'×Unit)=>
    W.cnd z10.1 (W.room (z10.2.1.length+(((z2.2.2.1,(z2.2.2.2.1,())),(z2.2.2.2.2.1,()))::[]).length) 40 ((k9 (true,((z10.2.1++(((z2.2.2.1,(z2.2.2.2.1,())),(z2.2.2.2.2.1,()))::[])),())))))
    ((k9 (z2.1,z10.2))))
    fun k11=>
    W.cnd (!z2.1) (W.call (zdo u x6.1) fun v12=>(k11 (v12,z2.2.2.2.2.2)))
    ((k11 (false,z2.2.2.2.2.2))))
  (
  W.join (fun (z13:List AHold'×Unit)=>some z13.1)
   fun k14=>
   W.cnd (!z2.1) (W.room (z2.2.2.2.2.2.1.length+(((z2.2.2.1,(z2.2.2.2.1,())),(z2.2.2.2.2.1,()))::[]).length) 40 ((k14 ((z2.2.2.2.2.2.1++(((z2.2.2.1,(z2.2.2.2.1,())),(z2.2.2.2.2.1,()))::[])),()))))
   ((k14 z2.2.2.2.2.2))))
  (((all.length:Int)==0),(0,(u.1,(u.2.1,(v1,([],()))))))) (W.call (zau all) fun v15=>
 W.loop (fun (z16:Bool×Int×Int×Int×List zct×List AHold'×Unit) again17=>
  W.cnd (decide (z16.2.1<(l.length:Int))) (
  W.join (fun (z18:Bool×List AHold'×Unit)=>(again17 (z18.1,((IntKind.i64.wrap (z16.2.1+1)),(z16.2.2.1,(z16.2.2.2.1,(z16.2.2.2.2.1,z18.2)))))))
   fun k19=>W.idx l z16.2.1 fun x20=>
   W.join (fun (z21:Bool×List AHold'×Unit)=>
   W.cnd (Go.Vc.notIf true ((x20.1.1==u.1)&&(x20.1.2.1==u.2.1))) (W.call (zau x20.2.1) fun v22=>W.room (z21.2.1.length+((x20.1,(v22,()))::[]).length) 40 ((k19 (z21.1,((z21.2.1++((x20.1,(v22,()))::[])),())))))
    (
    W.cnd (!z21.1) (W.room (z21.2.1.length+(((z16.2.2.1,(z16.2.2.2.1,())),(z16.2.2.2.2.1,()))::[]).length) 40 ((k19 (true,((z21.2.1++(((z16.2.2.1,(z16.2.2.2.1,())),(z16.2.2.2.2.1,()))::[])),())))))
    ((k19 z21))))
   fun k23=>
   W.join (fun (z24:Bool×List AHold'×Unit)=>
    W.cnd z24.1 (W.room (z24.2.1.length+(((z16.2.2.1,(z16.2.2.2.1,())),(z16.2.2.2.2.1,()))::[]).length) 40 ((k23 (true,((z24.2.1++(((z16.2.2.1,(z16.2.2.2.1,())),(z16.2.2.2.2.1,()))::[])),())))))
    ((k23 (z16.1,z24.2))))
    fun k25=>
    W.cnd (!z16.1) (W.call (zdo u x20.1) fun v26=>(k25 (v26,z16.2.2.2.2.2)))
    ((k25 (false,z16.2.2.2.2.2))))
  (
  W.join (fun (z27:List AHold'×Unit)=>some z27.1)
   fun k28=>
   W.cnd (!z16.1) (W.room (z16.2.2.2.2.2.1.length+(((z16.2.2.1,(z16.2.2.2.1,())),(z16.2.2.2.2.1,()))::[]).length) 40 ((k28 ((z16.2.2.2.2.2.1++(((z16.2.2.1,(z16.2.2.2.1,())),(z16.2.2.2.2.1,()))::[])),()))))
   ((k28 z16.2.2.2.2.2))))
  (((all.length:Int)==0),(0,(u.1,(u.2.1,(v15,([],())))))))
def zve:=zqx stdW
theorem yix:ECok Tryz.prog 286 (.es ⟨(.pair (.slc tAHold) (.pair tAUnit (.pair (.slc tAAsset) .unit))),(.own 55 tAHold),fun x=>zve x.1 x.2.1 x.2.2.1⟩):=es_z (fun W x=>zqx W x.1 x.2.1 x.2.2.1) (cc zdd (cc zfm cn)) [(2,[],(.rd 0 (.rd 1 (.two 2 4 (oN [7,8,10]) (oN [4,7,10]))))),(10,[],(oN [1,3,5,7,9,10,13,14,16,19]))] [(9,⟨[(7,.row 2),(9,.t .bool)],[],[.dead,.dead,.own 55 tAHold]⟩),(13,⟨[(7,.row 2),(9,.t .bool)],[],[.dead,.dead,.own 55 tAHold]⟩),(16,⟨[(7,.row 2)],[],[.dead,.dead,.own 55 tAHold]⟩),(500032,⟨[(7,.row 2),(32,.t .bool)],[],[.dead,.dead,.own 55 tAHold]⟩)] [(5,⟨[(7,.row 2),(9,.t .bool),(21,.t (.int .i64))],[(1,[.t (.int .i64),.t (.int .i64),.t (.slc tAAsset)])],[.dead,.dead,.own 55 tAHold]⟩)] Tryz.func286
def znm(W:Wd)(l:List AHold')(from_:AUnit')(to_:AUnit'):Option ((List AHold')×Int×Unit):=W.call (yiy l) fun v1=>
 W.cnd (!v1) (some ([],(3,())))
 (
 W.cnd (Go.Vc.notIf false ((from_.1==to_.1)&&(from_.2.1==to_.2.1))) (some ([],(24,())))
  (W.call (zht l to_) fun v2=>
  W.cnd (decide (0<(v2.length:Int))) (some ([],(21,())))
  (W.call (zht l from_) fun v3=>W.call (zve l from_ []) fun v4=>W.call (zve v4 to_ v3) fun v5=>some (v5,(0,())))))
def zls:=znm stdW
theorem ygr:ECok Tryz.prog 166 (.es ⟨(.pair (.slc tAHold) (.pair tAUnit (.pair tAUnit .unit))),(.pair (.own 55 tAHold) (.pair (.v (.int .i64)) .unit)),fun x=>zls x.1 x.2.1 x.2.2.1⟩):=es_z (fun W x=>znm W x.1 x.2.1 x.2.2.1) (cc hold_Is_ok (cc zua (cc yix cn))) [(8,[],(oN [1,3,7,9,4,10,13,15]))] [] [] Tryz.func166
def zbi(W:Wd)(s:List zao):Option (List zao):=W.nilq (List.isEmpty s) fun g1=>
 W.cnd (Go.Vc.notIf false g1) (some [])
 (W.room ((0:Nat)+s.length) 40 (some ([]++s)))
def zbu:=zbi stdW
theorem zdu:ECok Tryz.prog 124 (.es ⟨(.pair (.slc tAChoice) .unit),(.own 140 tAChoice),fun x=>zbu x.1⟩):=es_z (fun W x=>zbi W x.1) cn [] [] [] Tryz.func124
def zrg(W:Wd)(c:zao)(free10:Int)(free11:Int):Option (Bool×(AUnit')):=some ((Go.Vc.notIf false ((c.1.1==free10)&&(c.1.2.1==free11))),(free10,(free11,())))
def zfl:=zrg stdW
theorem zlv:ECok Tryz.prog 288 (.ls ⟨[.v tAChoice,.ptr],[⟨47,[.v (.int .i64),.v (.int .i64)]⟩],[⟨47,[.v (.int .i64),.v (.int .i64)]⟩],(.q (.v .bool)),fun x=>zfl x.1 x.2.1 x.2.2.1⟩):=ls_z (fun W x=>zrg W x.1 x.2.1 x.2.2.1) cn [] [] [] Tryz.func288
def zaj(W:Wd)(s:List zao)(f0_0:Int)(f0_1:Int):Option (Int×(AUnit')):=
 W.loop (fun (z1:zct) again2=>
 W.cnd (decide (z1.1<(s.length:Int))) (W.idx s z1.1 fun x3=>W.call (zfl x3 z1.2.1 z1.2.2.1) fun v4=>
  W.cnd v4.1 (some (z1.1,v4.2))
  ((again2 ((IntKind.i64.wrap (z1.1+1)),v4.2))))
  (some ((-1),z1.2)))
 (0,(f0_0,(f0_1,())))
def zag:=zaj stdW
theorem zci:ECok Tryz.prog 371 (.ls ⟨[.v (.slc tAChoice),.fn 288 1],[⟨47,[.v (.int .i64),.v (.int .i64)]⟩],[⟨47,[.v (.int .i64),.v (.int .i64)]⟩],(.q (.v (.int .i64))),fun x=>zag x.1 x.2.1 x.2.2.1⟩):=ls_z (fun W x=>zaj W x.1 x.2.1 x.2.2.1) (cc zlv cn) [] [] [(2,⟨[(8,.t (.int .i64))],[(0,[.t (.int .i64),.t (.int .i64)])],[]⟩)] Tryz.func371
def zai(W:Wd)(del0_0:Int)(del0_1:Int)(s:List zao):Option ((List zao)×(AUnit')):=W.call (zag s del0_0 del0_1) fun v1=>
 W.cnd (v1.1==(-1)) (some (s,v1.2))
 (
 W.loop (fun (z2:Int×Int×Int×Int×List zao×Unit) again3=>
  W.cnd (decide (z2.2.1<(z2.2.2.2.2.1.length:Int))) (
  W.join (fun (z4:Int×Int×Int×List zao×Unit)=>(again3 (z4.1,((IntKind.i64.wrap (z2.2.1+1)),z4.2))))
   fun k5=>W.idx z2.2.2.2.2.1 z2.2.1 fun x6=>W.nth z2.2.2.2.2.1 (Int.toNat z2.2.1) fun x7=>W.call (zfl x7 z2.2.2.1 z2.2.2.2.1) fun v8=>
   W.cnd (!v8.1) (W.idx z2.2.2.2.2.1 z2.1 fun x9=>W.nth z2.2.2.2.2.1 (Int.toNat z2.1) fun x10=>(k5 ((IntKind.i64.wrap (z2.1+1)),(v8.2.1,(v8.2.2.1,((List.set z2.2.2.2.2.1 (Int.toNat z2.1) x7),()))))))
   ((k5 (z2.1,(v8.2.1,(v8.2.2.1,z2.2.2.2.2))))))
  (W.bnd z2.1 z2.2.2.2.2.1.length fun h11=>W.bnd (h11:Int) z2.2.2.2.2.1.length fun h12=>W.bnd z2.1 ((z2.2.2.2.2.1.take h12)++(List.replicate (z2.2.2.2.2.1.length - h12) ((0,(0,())),((0,(0,())),(false,()))))).length fun h13=>some ((((z2.2.2.2.2.1.take h12)++(List.replicate (z2.2.2.2.2.1.length - h12) ((0,(0,())),((0,(0,())),(false,()))))).take h13),(z2.2.2.1,(z2.2.2.2.1,())))))
  (v1.1,((IntKind.i64.wrap (v1.1+1)),(v1.2.1,(v1.2.2.1,(s,()))))))
def zat:=zai stdW
theorem zcg:ECok Tryz.prog 287 (.ls ⟨[.row 140 tAChoice,.fn 288 1],[⟨47,[.v (.int .i64),.v (.int .i64)]⟩],[⟨47,[.v (.int .i64),.v (.int .i64)]⟩],(.q (.v (.slc tAChoice))),fun x=>zat x.1 x.2.1 x.2.2.1⟩):=ls_z (fun W x=>zai W x.1 x.2.1 x.2.2.1) (cb zci (cc zlv cn)) [] [(6,⟨[(0,.row 0),(5,.t (.int .i64))],[(0,[.t (.int .i64),.t (.int .i64)])],[.own 140 tAChoice]⟩)] [(5,⟨[(0,.row 0),(5,.t (.int .i64)),(6,.t (.int .i64))],[(0,[.t (.int .i64),.t (.int .i64)])],[.own 140 tAChoice]⟩)] Tryz.func287
def zkd(W:Wd)(l:List zao)(from_:AUnit'):Option (List zao):=W.call (zbu l) fun v1=>W.call (zat from_.1 from_.2.1 v1) fun v2=>some v2.1
def zfv:=zkd stdW
theorem yea:ECok Tryz.prog 167 (.es ⟨(.pair (.slc tAChoice) (.pair tAUnit .unit)),(.v (.slc tAChoice)),fun x=>zfv x.1 x.2.1⟩):=es_z (fun W x=>zkd W x.1 x.2.1) (cc zdu (cc zcg cn)) [] [] [] Tryz.func167
def zmu(W:Wd)(s:zaf)(from_:AUnit'):Option (zaf×AUnit'×Int×Unit):=W.call (ycu s from_) fun v1=>
 W.cnd (v1.2.1 != 0) (some ((0,([],([],([],([],([],([],([],([],([],([],([],())))))))))))),((0,(0,())),v1.2)))
 (W.call (zly s.2.2.2.2.2.2.2.2.1 from_) fun v2=>W.call (ybm (v2::[])) fun v3=>
 W.join (fun (z4:Int×zaf)=>
  W.join (fun (z5:Int×zaf)=>
  W.join (fun (z6:Int×zaf)=>
   W.cnd (z6.1 != 0) (some ((0,([],([],([],([],([],([],([],([],([],([],([],())))))))))))),((0,(0,())),(z6.1,()))))
   (W.call (zfv z6.2.2.2.2.2.2.1 from_) fun v7=>some ((z6.2.1,(z6.2.2.1,(z6.2.2.2.1,(z6.2.2.2.2.1,(z6.2.2.2.2.2.1,(v7,z6.2.2.2.2.2.2.2)))))),(v1.1,(0,())))))
   fun k8=>
   W.cnd (z5.1==0) (W.call (zls z5.2.2.2.2.2.2.2.2.2.2.2.2.1 from_ v1.1) fun v9=>(k8 (v9.2.1,(z5.2.1,(z5.2.2.1,(z5.2.2.2.1,(z5.2.2.2.2.1,(z5.2.2.2.2.2.1,(z5.2.2.2.2.2.2.1,(z5.2.2.2.2.2.2.2.1,(z5.2.2.2.2.2.2.2.2.1,(z5.2.2.2.2.2.2.2.2.2.1,(z5.2.2.2.2.2.2.2.2.2.2.1,(z5.2.2.2.2.2.2.2.2.2.2.2.1,(v9.1,())))))))))))))))
   ((k8 z5)))
  fun k10=>
  W.cnd (z4.1==0) (W.both (W.call (zep z4.2.2.2.2.2.2.2.2.2.2.2.1 from_) fun v11=>W.call (zfu z4.2.2.2.2.2.2.2.2.2.2.2.1 from_ v1.1 v11) fun v12=>(k10 (v12.2.1,(z4.2.1,(z4.2.2.1,(z4.2.2.2.1,(z4.2.2.2.2.1,(z4.2.2.2.2.2.1,(z4.2.2.2.2.2.2.1,(z4.2.2.2.2.2.2.2.1,(z4.2.2.2.2.2.2.2.2.1,(z4.2.2.2.2.2.2.2.2.2.1,(z4.2.2.2.2.2.2.2.2.2.2.1,(v12.1,z4.2.2.2.2.2.2.2.2.2.2.2.2)))))))))))))) (W.both (W.call (zep z4.2.2.2.2.2.2.2.2.2.2.2.1 from_) fun v13=>W.call (zfu z4.2.2.2.2.2.2.2.2.2.2.2.1 from_ v1.1 v13) fun v14=>(k10 (v14.2.1,(z4.2.1,(z4.2.2.1,(z4.2.2.2.1,(z4.2.2.2.2.1,(z4.2.2.2.2.2.1,(z4.2.2.2.2.2.2.1,(z4.2.2.2.2.2.2.2.1,(z4.2.2.2.2.2.2.2.2.1,(z4.2.2.2.2.2.2.2.2.2.1,(z4.2.2.2.2.2.2.2.2.2.2.1,(v14.1,z4.2.2.2.2.2.2.2.2.2.2.2.2)))))))))))))) (W.call (zep z4.2.2.2.2.2.2.2.2.2.2.2.1 from_) fun v15=>W.call (zfu z4.2.2.2.2.2.2.2.2.2.2.2.1 from_ v1.1 v15) fun v16=>(k10 (v16.2.1,(z4.2.1,(z4.2.2.1,(z4.2.2.2.1,(z4.2.2.2.2.1,(z4.2.2.2.2.2.1,(z4.2.2.2.2.2.2.1,(z4.2.2.2.2.2.2.2.1,(z4.2.2.2.2.2.2.2.2.1,(z4.2.2.2.2.2.2.2.2.2.1,(z4.2.2.2.2.2.2.2.2.2.2.1,(v16.1,z4.2.2.2.2.2.2.2.2.2.2.2.2))))))))))))))))
   ((k10 z4)))
  fun k17=>
  W.cnd (v3.2.1==0) (W.call (zrm s.2.2.2.2.2.2.2.2.1 from_ v1.1 v3.1) fun v18=>(k17 (v18.2.1,(s.1,(s.2.1,(s.2.2.1,(s.2.2.2.1,(s.2.2.2.2.1,(s.2.2.2.2.2.1,(s.2.2.2.2.2.2.1,(s.2.2.2.2.2.2.2.1,(v18.1,s.2.2.2.2.2.2.2.2.2))))))))))))
  ((k17 (v3.2.1,s))))
def zlh:=zmu stdW
theorem ztu:ECok Tryz.prog 42 (.es ⟨(.pair tAState (.pair tAUnit .unit)),(.pair (.v tAState) (.pair (.v tAUnit) (.pair (.v (.int .i64)) .unit))),fun x=>zlh x.1 x.2.1⟩):=es_z (fun W x=>zmu W x.1 x.2.1) (cc yii (cc znu (cc zzq (cc yhk (cc ztt (cc ycq (cc ygr (cc yea cn)))))))) [(8,[0],(.rd 0 (.rd 2 (.rd 3 (.rd 4 (.rd 6 (.two 1 5 (oN [10,14,16,19,21,23,25,26,29]) (.two 1 7 (oN [14,16,19,21,23,25,26,29]) (oN [2,16,19,21,23,25,26,29]))))))))),(14,[2,3],(oN [1,3,4,6,9]))] [(7,⟨[(8,.t (.int .i64))],[(0,[.t (.int .i64),.t (.slc tAMember),.t (.slc tAInst),.t (.slc tAAsset),.t (.slc tAAccount),.t (.slc tAChoice),.t (.slc tAGroup),.t (.slc tAGive),.t (.slc tAPos),.t (.slc tAPos),.t (.slc tAFlow),.t (.slc tAHold)])],[]⟩),(9,⟨[(8,.t (.int .i64))],[(0,[.t (.int .i64),.t (.slc tAMember),.t (.slc tAInst),.t (.slc tAAsset),.t (.slc tAAccount),.t (.slc tAChoice),.t (.slc tAGroup),.t (.slc tAGive),.t (.slc tAPos),.t (.slc tAPos),.t (.slc tAFlow),.t (.slc tAHold)])],[]⟩),(11,⟨[(8,.t (.int .i64))],[(0,[.t (.int .i64),.t (.slc tAMember),.t (.slc tAInst),.t (.slc tAAsset),.t (.slc tAAccount),.t (.slc tAChoice),.t (.slc tAGroup),.t (.slc tAGive),.t (.slc tAPos),.t (.slc tAPos),.t (.slc tAFlow),.t (.slc tAHold)])],[]⟩)] [] Tryz.func42
def ziq(W:Wd)(l:List AHold')(u:AUnit'):Option (List zct):=
 W.loop (fun (z1:Int×Unit) again2=>
 W.cnd (decide (z1.1<(l.length:Int))) (W.idx l z1.1 fun x3=>
  W.cnd (Go.Vc.notIf false ((x3.1.1==u.1)&&(x3.1.2.1==u.2.1))) (W.idx l z1.1 fun x4=>some x4.2.1)
  ((again2 ((IntKind.i64.wrap (z1.1+1)),()))))
  (some []))
 (0,())
def zew:=ziq stdW
theorem ycb:ECok Tryz.prog 173 (.es ⟨(.pair (.slc tAHold) (.pair tAUnit .unit)),(.v (.slc tAAsset)),fun x=>zew x.1 x.2.1⟩):=es_z (fun W x=>ziq W x.1 x.2.1) cn [(4,[],(oN [1,3,5,7,9,11,13]))] [] [(2,⟨[(5,.t (.int .i64))],[],[]⟩)] Tryz.func173
def zja(W:Wd)(a:List zad)(b:List zad):Option Bool:=
 W.cnd ((a.length:Int) != (b.length:Int)) (some false)
 (
 W.loop (fun (z1:Int×Unit) again2=>
  W.cnd (decide (z1.1<(a.length:Int))) (W.idx a z1.1 fun x3=>W.idx b z1.1 fun x4=>
  W.cnd (Go.Vc.notIf true ((x3.1==x4.1)&&((x3.2.1==x4.2.1)&&((x3.2.2.1==x4.2.2.1)&&(x3.2.2.2.1==x4.2.2.2.1))))) (some false)
   ((again2 ((IntKind.i64.wrap (z1.1+1)),()))))
  (some true))
  (0,()))
def zmn:=zja stdW
theorem zqb:ECok Tryz.prog 47 (.es ⟨(.pair (.slc tAMember) (.pair (.slc tAMember) .unit)),(.v .bool),fun x=>zmn x.1 x.2.1⟩):=es_z (fun W x=>zja W x.1 x.2.1) cn [(6,[],(oN [1,3,5,7,9,11,13,15,17]))] [] [(4,⟨[(5,.t (.int .i64))],[],[]⟩)] Tryz.func47
def zfc(W:Wd)(a:zab)(b:zab):Option Bool:=
 W.join (fun (z1:Bool×Unit)=>
 W.cnd z1.1 (some false)
  (
  W.loop (fun (z2:Int×Unit) again3=>
  W.cnd (decide (z2.1<(a.2.2.2.1.length:Int))) (W.idx a.2.2.2.1 z2.1 fun x4=>W.idx b.2.2.2.1 z2.1 fun x5=>
   W.cnd (x4 != x5) (some false)
   ((again3 ((IntKind.i64.wrap (z2.1+1)),()))))
   (some true))
  (0,())))
 fun k6=>
 W.cnd (a.1 != b.1) ((k6 (true,())))
  (
  W.cnd (a.2.1 != b.2.1) ((k6 (true,())))
  (
  W.cnd (a.2.2.1 != b.2.2.1) ((k6 (true,())))
   ((k6 (((a.2.2.2.1.length:Int) != (b.2.2.2.1.length:Int)),())))))
def zix:=zfc stdW
theorem zuk:ECok Tryz.prog 174 (.es ⟨(.pair tAAccount (.pair tAAccount .unit)),(.v .bool),fun x=>zix x.1 x.2.1⟩):=es_z (fun W x=>zfc W x.1 x.2.1) cn [(6,[],(oN [1,3,5,7,9,11,13,15,17,19,21]))] [(500033,⟨[(33,.t .bool)],[],[]⟩)] [(4,⟨[(5,.t (.int .i64))],[],[]⟩)] Tryz.func174
def ziw(W:Wd)(a:List zab)(b:List zab):Option Bool:=
 W.cnd ((a.length:Int) != (b.length:Int)) (some false)
 (
 W.loop (fun (z1:Int×Unit) again2=>
  W.cnd (decide (z1.1<(a.length:Int))) (W.idx a z1.1 fun x3=>W.idx b z1.1 fun x4=>W.call (zix x3 x4) fun v5=>
  W.cnd (!v5) (some false)
   ((again2 ((IntKind.i64.wrap (z1.1+1)),()))))
  (some true))
  (0,()))
def zml:=ziw stdW
theorem zpy:ECok Tryz.prog 48 (.es ⟨(.pair (.slc tAAccount) (.pair (.slc tAAccount) .unit)),(.v .bool),fun x=>zml x.1 x.2.1⟩):=es_z (fun W x=>ziw W x.1 x.2.1) (cc zuk cn) [(6,[],(oN [1,3,5,7,9,11,13,15,16,19]))] [] [(4,⟨[(5,.t (.int .i64))],[],[]⟩)] Tryz.func48
def ziu(W:Wd)(a:List zao)(b:List zao):Option Bool:=
 W.cnd ((a.length:Int) != (b.length:Int)) (some false)
 (
 W.loop (fun (z1:Int×Unit) again2=>
  W.cnd (decide (z1.1<(a.length:Int))) (W.idx a z1.1 fun x3=>W.idx b z1.1 fun x4=>
  W.cnd (Go.Vc.notIf true ((x3.1.1==x4.1.1)&&((x3.1.2.1==x4.1.2.1)&&((x3.2.1.1==x4.2.1.1)&&((x3.2.1.2.1==x4.2.1.2.1)&&(x3.2.2.1==x4.2.2.1)))))) (some false)
   ((again2 ((IntKind.i64.wrap (z1.1+1)),()))))
  (some true))
  (0,()))
def zmk:=ziu stdW
theorem ycf:ECok Tryz.prog 117 (.es ⟨(.pair (.slc tAChoice) (.pair (.slc tAChoice) .unit)),(.v .bool),fun x=>zmk x.1 x.2.1⟩):=es_z (fun W x=>ziu W x.1 x.2.1) cn [(6,[],(oN [1,3,5,7,9,11,13,15,17]))] [] [(4,⟨[(5,.t (.int .i64))],[],[]⟩)] Tryz.func117
def zis(W:Wd)(a:List zct)(b:List zct):Option Bool:=
 W.cnd ((a.length:Int) != (b.length:Int)) (some false)
 (
 W.loop (fun (z1:Int×Unit) again2=>
  W.cnd (decide (z1.1<(a.length:Int))) (W.idx a z1.1 fun x3=>W.idx b z1.1 fun x4=>
  W.cnd (Go.Vc.notIf true ((x3.1==x4.1)&&((x3.2.1==x4.2.1)&&(x3.2.2.1==x4.2.2.1)))) (some false)
   ((again2 ((IntKind.i64.wrap (z1.1+1)),()))))
  (some true))
  (0,()))
def zsf:=zis stdW
theorem ycd:ECok Tryz.prog 251 (.es ⟨(.pair (.slc tAAsset) (.pair (.slc tAAsset) .unit)),(.v .bool),fun x=>zsf x.1 x.2.1⟩):=es_z (fun W x=>zis W x.1 x.2.1) cn [(6,[],(oN [1,3,5,7,9,11,13,15,17]))] [] [(4,⟨[(5,.t (.int .i64))],[],[]⟩)] Tryz.func251
def zip(W:Wd)(a:List AHold')(b:List AHold'):Option Bool:=
 W.cnd ((a.length:Int) != (b.length:Int)) (some false)
 (
 W.loop (fun (z1:Int×Unit) again2=>
  W.cnd (decide (z1.1<(a.length:Int))) (
  W.join (fun (z3:Bool×Unit)=>
   W.cnd z3.1 (some false)
   ((again2 ((IntKind.i64.wrap (z1.1+1)),()))))
   fun k4=>W.idx a z1.1 fun x5=>W.idx b z1.1 fun x6=>
   W.cnd (Go.Vc.notIf true ((x5.1.1==x6.1.1)&&(x5.1.2.1==x6.1.2.1))) ((k4 (true,())))
   (W.idx a z1.1 fun x7=>W.idx b z1.1 fun x8=>W.call (zsf x7.2.1 x8.2.1) fun v9=>(k4 ((!v9),()))))
  (some true))
  (0,()))
def zdq:=zip stdW
theorem zpw:ECok Tryz.prog 121 (.es ⟨(.pair (.slc tAHold) (.pair (.slc tAHold) .unit)),(.v .bool),fun x=>zdq x.1 x.2.1⟩):=es_z (fun W x=>zip W x.1 x.2.1) (cc ycd cn) [(6,[],(oN [1,3,5,7,9,11,13,15,17,19,21,23,25,27,29,31,33,35,37,39,41,43,44,47,49]))] [(500041,⟨[(41,.t .bool)],[],[]⟩)] [(4,⟨[(5,.t (.int .i64))],[],[]⟩)] Tryz.func121
def zio(W:Wd)(a:zaf)(b:zaf):Option Bool:=
 W.cnd (a.1==b.1) (W.call (zmn a.2.1 b.2.1) fun v1=>
 W.cnd v1 (W.call (zml a.2.2.2.2.1 b.2.2.2.2.1) fun v2=>
  W.cnd v2 (W.call (zmk a.2.2.2.2.2.1 b.2.2.2.2.2.1) fun v3=>
  W.cnd v3 (W.call (zmg a.2.2.2.2.2.2.2.2.1 b.2.2.2.2.2.2.2.2.1) fun v4=>
   W.cnd v4 (W.call (zmi a.2.2.2.2.2.2.2.2.2.2.1 b.2.2.2.2.2.2.2.2.2.2.1) fun v5=>
   W.cnd v5 (W.call (zdq a.2.2.2.2.2.2.2.2.2.2.2.1 b.2.2.2.2.2.2.2.2.2.2.2.1) fun v6=>some v6)
    (some false))
   (some false))
   (some false))
  (some false))
  (some false))
 (some false)
def zhl:=zio stdW
theorem yca:ECok Tryz.prog 44 (.es ⟨(.pair tAState (.pair tAState .unit)),(.v .bool),fun x=>zhl x.1 x.2.1⟩):=es_z (fun W x=>zio W x.1 x.2.1) (cc zqb (cc zpy (cc ycf (cc ycc (cc yce (cc zpw cn)))))) [] [] [] Tryz.func44
def ztz(W:Wd):Option zaf:=some (5,(((1,(0,(1,(6,()))))::((2,(9,(0,(0,()))))::[])),([],([],(((1,(1,(2,((2::[]),()))))::((3,(2,(4,((2::[]),()))))::[])),((((1,(2,())),((3,(2,())),(true,())))::[]),([],([],((((1,(2,())),(((1,((-9),()))::[]),()))::[]),([],((((1,(2,())),(7,()))::[]),([],()))))))))))))
def zxr:=ztz stdW
theorem zze:ECok Tryz.prog 172 (.es ⟨.unit,(.v tAState),fun x=>zxr ⟩):=es_z (fun W x=>ztz W ) cn [] [] [] Tryz.func172
def zgr(W:Wd):Option Bool:=W.call (zxr) fun v1=>W.call (zlh v1 (1,(2,()))) fun v2=>
 W.cnd (v2.2.2.1==0) (
 W.cnd (Go.Vc.notIf false ((v2.2.1.1==3)&&(v2.2.1.2.1==2))) (
  W.cnd ((v2.1.2.2.2.2.2.2.2.2.1.length:Int)==1) (W.idx v2.1.2.2.2.2.2.2.2.2.1 0 fun x3=>
  W.cnd (Go.Vc.notIf false ((x3.1.1==v2.2.1.1)&&(x3.1.2.1==v2.2.1.2.1))) (some ((v2.1.2.2.2.2.2.1.length:Int)==0))
   (some false))
  (some false))
  (some false))
 (some false)
def zjv:=zgr stdW
theorem zzf:ECok Tryz.prog 45 (.es ⟨.unit,(.v .bool),fun x=>zjv ⟩):=es_z (fun W x=>zgr W ) (cc zze (cc ztu cn)) [(2,[],(oN [1,3,5,7,9,11,13,15,17,19,21,23,25,27,29,31,33,35,37,39,41,43,45,47,49,51,53,55,57]))] [] [] Tryz.func45
def zmf(W:Wd)(s:zaf)(u:AUnit')(t:zaf)(v:AUnit'):Option Bool:=
 W.join (fun (z1:Bool×Unit)=>
 W.cnd z1.1 (some false)
  (W.call (zew s.2.2.2.2.2.2.2.2.2.2.2.1 u) fun v2=>W.both (W.call (zew t.2.2.2.2.2.2.2.2.2.2.2.1 v) fun v3=>W.call (zdq (((0,(0,())),(v2,()))::[]) (((0,(0,())),(v3,()))::[])) fun v4=>some v4) (W.call (zew t.2.2.2.2.2.2.2.2.2.2.2.1 v) fun v5=>W.both (W.call (zdq (((0,(0,())),(v2,()))::[]) (((0,(0,())),(v5,()))::[])) fun v6=>some v6) (W.call (zdq (((0,(0,())),(v2,()))::[]) (((0,(0,())),(v5,()))::[])) fun v7=>some v7))))
 fun k8=>W.call (zmh s.2.2.2.2.2.2.2.2.1 u) fun v9=>W.call (zmh t.2.2.2.2.2.2.2.2.1 v) fun v10=>W.call (zhn v9 v10) fun v11=>
 W.cnd (!v11) ((k8 (true,())))
  (W.call (zhm s.2.2.2.2.2.2.2.2.2.2.1 u) fun v12=>W.call (zhm t.2.2.2.2.2.2.2.2.2.2.1 v) fun v13=>(k8 ((v12 != v13),())))
def zdh:=zmf stdW
theorem yfe:ECok Tryz.prog 46 (.es ⟨(.pair tAState (.pair tAUnit (.pair tAState (.pair tAUnit .unit)))),(.v .bool),fun x=>zdh x.1 x.2.1 x.2.2.1 x.2.2.2.1⟩):=es_z (fun W x=>zmf W x.1 x.2.1 x.2.2.1 x.2.2.2.1) (cc yia (cc zqe (cc yff (cc ycb (cc zpw cn))))) [(1,[],(oN [1,3,5,9,11,13,6,14,16,19,21,23,25,27,31,33,35,28,36,39,41])),(3,[],(.rd 0 (.rd 1 (.rd 2 (.rd 6 (.rd 7 (.rd 8 (.op 3 (.rd 4 (.two 5 9 (oN [18,21,22,24,27]) (.rd 10 (.two 5 11 (oN [22,24,27]) (oN [10,24,27])))))))))))))] [(500029,⟨[(29,.t .bool)],[],[]⟩)] [] Tryz.func46
def zea(W:Wd)(s:zaf)(from_:AUnit')(other:AUnit'):Option Bool:=W.call (zqt s) fun v1=>W.call (zlh v1 from_) fun v2=>
 W.cnd (v2.2.2.1 != 0) (W.call (zhl v2.1 (0,([],([],([],([],([],([],([],([],([],([],([],()))))))))))))) fun v3=>
 W.cnd v3 (W.call (zjv) fun v4=>some v4)
  (some false))
 (
 W.join (fun (z5:Bool×Unit)=>
  W.cnd z5.1 (some false)
  (
  W.join (fun (z6:Bool×Unit)=>
   W.cnd z6.1 (some false)
   (W.call (zmn v2.1.2.1 v1.2.1) fun v7=>
   W.cnd v7 (W.call (zml v2.1.2.2.2.2.1 v1.2.2.2.2.1) fun v8=>
    W.cnd v8 (
    W.cnd (v2.1.1==v1.1) (W.call (zjv) fun v9=>some v9)
     (some false))
    (some false))
    (some false)))
   fun k10=>
   W.cnd (Go.Vc.notIf true ((other.1==from_.1)&&(other.2.1==from_.2.1))) (
   W.cnd (Go.Vc.notIf true ((other.1==v2.2.1.1)&&(other.2.1==v2.2.1.2.1))) (W.call (zdh v2.1 other v1 other) fun v11=>(k10 ((!v11),())))
    ((k10 (false,()))))
   ((k10 (false,())))))
  fun k12=>W.call (zdh v2.1 v2.2.1 v1 from_) fun v13=>
  W.cnd (!v13) ((k12 (true,())))
  (W.call (zdh v2.1 from_ (0,([],([],([],([],([],([],([],([],([],([],([],())))))))))))) from_) fun v14=>
  W.cnd (!v14) ((k12 (true,())))
   (W.call (zdh v1 v2.2.1 (0,([],([],([],([],([],([],([],([],([],([],([],())))))))))))) v2.2.1) fun v15=>(k12 ((!v15),())))))
def zll:=zea stdW
theorem zqs:ECok Tryz.prog 10 (.es ⟨(.pair tAState (.pair tAUnit (.pair tAUnit .unit))),(.v .bool),fun x=>zll x.1 x.2.1 x.2.2.1⟩):=es_z (fun W x=>zea W x.1 x.2.1 x.2.2.1) (cc ygf (cc ztu (cc yca (cc zzf (cc yfe (cc zqb (cc zpy cn))))))) [] [(500048,⟨[(48,.t .bool)],[],[]⟩),(500064,⟨[(64,.t .bool)],[],[]⟩)] [] Tryz.func10
end
end Go.Proofs.YtllkmncnmlmefaaGreat

namespace Go.Proofs.YtllkmncnmlmefaaGreat
open Go Go.Vc Go.RowKit
end Go.Proofs.YtllkmncnmlmefaaGreat

namespace Go.Proofs.YtllkmncnmlmefaaGreat
open Go Go.Vc Go.RowKit
theorem zaa{α β:Type}{o:Option α}{a:α}(h:o=some a)(K:α→Option β):stdW.call o K=K a:=by subst h; rfl
end Go.Proofs.YtllkmncnmlmefaaGreat
namespace Go.Vc
open Go Go.RowKit
variable {β:Type}
theorem zbx{α S:Type}{l:List α}(hl:l.length≤9223372036854775807){f:Int×S→(Int×S→Option β)→Option β}(Inv:Nat→S→Prop)(g:List α→S→Option β){s0:S}(h0:Inv 0 s0)
  (hend:∀s (again:Int×S→Option β),Inv l.length s→f ((l.length:Int),s) again=g [] s)
  (hstep:∀i (h:i<l.length) s,Inv i s→∀again:Int×S→Option β,(∀s',Inv (i+1) s'→again (((i+1:Nat):Int),s')=g (l.drop (i+1)) s')→f ((i:Int),s) again=g (l[i]::l.drop (i+1)) s):
  stdW.loop f (0,s0)=g l s0:=by
 refine(zjt (fun z=>(l.length+1) - z.1.toNat) (fun z=>∃i:Nat,z.1=(i:Int)∧i≤l.length∧Inv i z.2) (fun z=>g (l.drop z.1.toNat) z.2) ⟨0,rfl,by omega,h0⟩ (by show l.length+1 - 0<_; omega) ?_).trans ?_
 ·rintro⟨z,s⟩ ⟨i,hi,hle,hs⟩ again ha
  dsimp only at hi hs
  subst hi
  simp only[Int.toNat_natCast]
  by_cases h:i<l.length
  ·rw[drop_cons' l i h]
   refine hstep i h s hs again fun s' hs'=>?_
   have:=ha (((i+1:Nat):Int),s') ⟨i+1,rfl,by omega,hs'⟩ (by simp only[Int.toNat_natCast]; omega)
   simpa only[Int.toNat_natCast]using this
  ·obtain rfl:i=l.length:=by omega
   rw[List.drop_length]
   exact hend s again hs
 ·simp
theorem cnd_lt{i n:Nat}(h:i<n)(a b:Option β):stdW.cnd (decide ((i:Int)<(n:Int))) a b=a:=by rw[decide_eq_true (by omega)]; rfl
theorem zaq{n:Nat}(a b:Option β):stdW.cnd (decide ((n:Int)<(n:Int))) a b=b:=by rw[decide_eq_false (by omega)]; rfl
theorem cnd_p{p:Prop}[Decidable p](a b:Option β):stdW.cnd (decide p) a b=if p then a else b:=by by_cases h:p<;>simp[h]
theorem cnd_y{c:Bool}(h:c=true)(a b:Option β):stdW.cnd c a b=a:=by subst h; rfl
theorem cnd_n{c:Bool}(h:c=false)(a b:Option β):stdW.cnd c a b=b:=by subst h; rfl
theorem idx_w{α:Type}{l:List α}{i:Nat}(h:i<l.length)(K:α→Option β):stdW.idx l (i:Int) K=K l[i]:=idx_eq h K
theorem nth_w{α:Type}{l:List α}{i:Nat}(h:i<l.length)(K:α→Option β):stdW.nth l (Int.toNat (i:Int)) K=K l[i]:=by
 show idxR l _ K=_
 unfold idxR
 rw[Int.toNat_natCast,List.getElem?_eq_getElem h]
theorem room_w{n b:Nat}(h:n≤281474976710656)(h2:n*b≤140737488355328)(K:Option β):stdW.room n b K=K:=room_eq h h2 K
theorem nn_w{b:Int}(h:0≤b)(K:Option β):stdW.nn b K=K:=nn_eq h K
theorem both_w(a:Option β):stdW.both a a=a:=both_eq a
theorem join_w{X:Type}(k:X→Option β)(f:(X→Option β)→Option β):stdW.join k f=f k:=rfl
theorem bnd_w{i:Int}{n:Nat}(h:0≤i)(h2:i≤n)(K:Nat→Option β):stdW.bnd i n K=K i.toNat:=bnd_eq h h2 K
theorem i64_s(i:Nat)(h:i<9223372036854775807):IntKind.i64.wrap ((i:Int)+1)=((i+1:Nat):Int):=i64_succ i h
end Go.Vc
namespace Go.Vc
variable {β:Type}
theorem loop_n{S:Type}{N:Nat}(hN:N<9223372036854775807){f:Int×S→(Int×S→Option β)→Option β}(Inv:Nat→S→Prop)(r:Option β){s0:S}(h0:Inv 0 s0)
  (hend:∀s (again:Int×S→Option β),Inv N s→f (((N:Nat):Int),s) again=r)
  (hstep:∀i,i<N→∀s,Inv i s→∀again:Int×S→Option β,(∀s',Inv (i+1) s'→again (((i+1:Nat):Int),s')=r)→f ((i:Int),s) again=r):
  stdW.loop f (0,s0)=r:=by
 refine(zjt (fun z=>(N+1) - z.1.toNat) (fun z=>∃i:Nat,z.1=(i:Int)∧i≤N∧Inv i z.2) (fun _=>r) ⟨0,rfl,by omega,h0⟩ (by show N+1 - 0<_; omega) ?_)
 rintro⟨z,s⟩ ⟨i,hi,hle,hs⟩ again ha
 dsimp only at hi hs
 subst hi
 by_cases h:i<N
 ·refine hstep i h s hs again fun s' hs'=>?_
  exact ha (((i+1:Nat):Int),s') ⟨i+1,rfl,by omega,hs'⟩ (by simp only[Int.toNat_natCast]; omega)
 ·obtain rfl:i=N:=by omega
  exact hend s again hs
def sumBy{α:Type}(f:α→Int)(l:List α):Int:=(l.map f).sum
theorem sumBy_nil{α:Type}(f:α→Int):sumBy f []=0:=rfl
theorem zzs{α:Type}(f:α→Int)(x:α)(l:List α):sumBy f (x::l)=f x+sumBy f l:=by simp[sumBy]
theorem zpm{α:Type}(f:α→Int)(a b:List α):sumBy f (a++b)=sumBy f a+sumBy f b:=by simp[sumBy]
theorem yjw{α:Type}{f:α→Int}{B:Int}:∀{l:List α},(∀x∈l,-B≤f x∧f x≤B) → -(B*(l.length:Int))≤sumBy f l∧sumBy f l≤B*(l.length:Int)
 |[],_=>by simp[sumBy]
 |x::l,h=>by
  have h1:=h x (by simp)
  have h2:=yjw (l:=l) fun w hw=>h w (by simp[hw])
  rw[zzs,List.length_cons,Int.natCast_add,Int.mul_add]
  omega
theorem yjf{α:Type}(p:α→Bool)(l:List α)(i:Nat)(h:i<l.length):(l.take (i+1)).filter p=(l.take i).filter p++(if p l[i]=true then [l[i]] else []):=by
 rw[show l.take (i+1)=l.take i++[l[i]] by simp,List.filter_append]
 congr 1
 by_cases hp:p l[i]=true<;>simp[hp]
theorem call_w{α β:Type}{o:Option α}{a:α}(h:o=some a)(K:α→Option β):stdW.call o K=K a:=by subst h; rfl
end Go.Vc

