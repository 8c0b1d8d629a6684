import Derived.Test.YtllkmncnmlmefaaGreatB4
import Derived.Laws.Externs
import Derived.Lib.SliceRun
import Derived.Lib.SlicesDelete
import Derived.Lib.Overlaps
import Derived.Lib.AppendZerosOnto
import Derived.Laws.IdiomCopy
import Derived.Laws.NewBlocks
import Derived.Deep.RegionLaw
import Derived.Shelf.RegionOpenPlain
import Derived.WalkKit
namespace Go.Vc
open Go Go.RowKit
variable {β:Type} {r:β}
theorem yby(t:DT)(x:t.den):flatR (t.encA x)∧∀vs,t.encA x≠.val (.tuple vs):=by
 cases t with
 |pair a b=>exact⟨ypt (enc_one (.pair a b) x),by intro vs h; cases h⟩
 |unit=>exact⟨ypt rfl,by intro vs h; cases h⟩
 |slc t=>exact⟨trivial,by intro vs h; cases h⟩
 |_=>exact⟨(by intro vs h; cases h),(by intro vs h; cases h)⟩
theorem yem:∀(P:DT) (x:P.den),flatL (encAs P x)
 | .pair a b,x=>⟨(yby a x.1).1,yem b x.2⟩
 | .unit,_=>trivial
 | .int _,_=>trivial
 | .bool,_=>trivial
 | .str,_=>trivial
 | .slc _,_=>trivial
theorem yow:∀(P:DT) (x:P.den) {K:List PV→Prop},K (pL (argVs P x))→r1pLK (encAs P x) K
 | .pair a b,x,_,k=>ygo a x.1 (yow b x.2 k)
 | .unit,_,_,k=>k
 | .int _,_,_,k=>k
 | .bool,_,_,k=>k
 | .str,_,_,k=>k
 | .slc _,_,_,k=>k
theorem ymz:∀{xs:List DV} {n:Nat} {K:List DV→Option β},initE xs n K=some r→∃ts,K ts=some r∧∀K':List PV→Prop,K' (pL ts)→initP (pL xs) n K'
 |[],n,K,h=>by
  refine⟨_,h,fun K' k=>?_⟩
  have e:pL (List.replicate n (DV.x .und))=List.replicate n (.x .und):=by rw[pL_map,List.map_replicate]; rfl
  rw[e]at k
  exact k
 |x::xs,0,K,h=>by cases h
 |x::xs,n+1,K,h=>by
  simp only[initE]at h
  obtain⟨ts,h1,h2⟩:=ymz h
  exact⟨_,h1,fun K' k=>by simp only[pL,initP]; exact h2 _ k⟩
theorem resE_p{T:List TI}{ts:List DV}{pb:DBs}{rw:List DR}:∀{rs:List ResultVar} {K:List DV→Option β},resE stdW T rs ts pb rw K=some r→∃xs,K xs=some r∧∀K':List PV→Prop,K' (pL xs)→resP T rs (pL ts) (bP pb) (rP rw) K'
 |[],K,h=>⟨[],h,fun K' k=>k⟩
 | .tmp t::rs,K,h=>by
  simp only[resE]at h
  split at h
  ·rename_i x hx
   obtain⟨xs,h1,h2⟩:=resE_p h
   exact⟨_,h1,fun K' k=>gtV_p hx (h2 _ k)⟩
  ·cases h
 | .cell c t::rs,K,h=>by
  simp only[resE]at h
  split at h
  ·rename_i A hA
   obtain⟨v,h1,h2⟩:=yhf h
   obtain⟨xs,h3,h4⟩:=resE_p h1
   refine⟨_,h3,fun K' k=>?_⟩
   simp only[resP]
   exact gtV_p hA (h2 (fun x=>resP T rs (pL ts) (bP pb) (rP rw) fun xs=>K' (x::xs)) (h4 (fun xs=>K' (v.p::xs)) k))
  ·cases h
mutual
theorem zyu:(Q:QT)→(q:Q.den)→(p:DV)→(acc:List Nat)→frows (Q.q q) p.p acc=frowsT Q p acc
 | .v t,q,p,acc=>by simp only[QT.q,frows,frowsT,DV.p_rows]
 | .own e t,q,p,acc=>by simp only[QT.q,frows,frowsT]
 | .unit,q,p,acc=>by
  simp only[QT.q,frows,frowsT]
  cases p<;>simp only[DV.p,frowsL]
 | .pair a b,q,p,acc=>by
  simp only[QT.q,frows,frowsT]
  cases p with
  |tup ps=>
   cases ps with
   |nil=>simp only[DV.p,pL,frowsL]
   |cons p ps=>simp only[DV.p,pL,frowsL,zyu a q.1 p,yky b q.2 ps]
  |_=>simp only[DV.p]
theorem yky:(Q:QT)→(q:Q.den)→(ps:List DV)→(acc:List Nat)→frowsL (Q.qs q) (pL ps) acc=zrj Q ps acc
 | .v t,q,ps,acc=>by simp only[QT.qs,frowsL,zrj]
 | .own e t,q,ps,acc=>by simp only[QT.qs,frowsL,zrj]
 | .unit,q,ps,acc=>by simp only[QT.qs,frowsL,zrj]
 | .pair a b,q,ps,acc=>by
  simp only[QT.qs,zrj]
  cases ps with
  |nil=>simp only[pL,frowsL]
  |cons p ps=>simp only[pL,frowsL,zyu a q.1 p,yky b q.2 ps]
end
mutual
theorem qOf_p:(Q:QT)→{p:DV}→{rw:List DR}→{q:Q.den}→{rw':List DR}→qOf Q p rw=some (q,rw')→∀K:List RS→Prop,K (rP rw')→qOk (Q.q q) p.p (rP rw) K
 | .v t,p,rw,q,rw',h,K,k=>by
  simp only[qOf]at h
  split at h
  ·rename_i x hx
   simp only[Option.some.injEq,Prod.mk.injEq]at h
   obtain⟨rfl,rfl⟩:=h
   exact⟨(ztk hx).2.1,k⟩
  ·cases h
 | .own e t,p,rw,q,rw',h,K,k=>by
  simp only[qOf]at h
  split at h
  ·rename_i j
   split at h
   ·rename_i e' t' l hd
    split at h
    ·rename_i hc h1 h2
     subst hc
     simp only[Option.some.injEq,Prod.mk.injEq]at h
     obtain⟨rfl,rfl⟩:=h
     simp only[QT.q,DV.p,qOk]
     refine drV_p hd ⟨Nat.eq_of_beq_eq_true h1,rfl,rfl,?_⟩
     rw[zca]
     have e4:(RS.dead)=DR.p .dead:=rfl
     rw[e4,←rP_set]; exact k
    ·cases h
   ·cases h
  ·simp only[Option.some.injEq,Prod.mk.injEq]at h
   obtain⟨rfl,rfl⟩:=h
   exact⟨trivial,rfl,k⟩
  ·cases h
 | .unit,p,rw,q,rw',h,K,k=>by
  simp only[qOf]at h
  split at h
  ·simp only[Option.some.injEq,Prod.mk.injEq]at h
   obtain⟨_,rfl⟩:=h
   exact k
  ·cases h
 | .pair a b,p,rw,q,rw',h,K,k=>by
  simp only[qOf]at h
  split at h
  ·rename_i p ps
   split at h
   ·rename_i x rw1 h1
    split at h
    ·rename_i y rw2 h2
     simp only[Option.some.injEq,Prod.mk.injEq]at h
     obtain⟨rfl,rfl⟩:=h
     simp only[QT.q,DV.p,pL,qOk,qOkL]
     exact qOf_p a h1 _ (qOfs_p b h2 K k)
    ·cases h
   ·cases h
  ·cases h
theorem qOfs_p:(Q:QT)→{ps:List DV}→{rw:List DR}→{q:Q.den}→{rw':List DR}→qOfs Q ps rw=some (q,rw')→∀K:List RS→Prop,K (rP rw')→qOkL (Q.qs q) (pL ps) (rP rw) K
 | .v t,ps,rw,q,rw',h,K,k=>by simp[qOfs]at h
 | .own e t,ps,rw,q,rw',h,K,k=>by simp[qOfs]at h
 | .unit,ps,rw,q,rw',h,K,k=>by
  simp only[qOfs]at h
  split at h
  ·simp only[Option.some.injEq,Prod.mk.injEq]at h
   obtain⟨_,rfl⟩:=h
   exact k
  ·cases h
 | .pair a b,ps,rw,q,rw',h,K,k=>by
  simp only[qOfs]at h
  split at h
  ·rename_i p ps
   split at h
   ·rename_i x rw1 h1
    split at h
    ·rename_i y rw2 h2
     simp only[Option.some.injEq,Prod.mk.injEq]at h
     obtain⟨rfl,rfl⟩:=h
     simp only[QT.qs,pL,qOkL]
     exact qOf_p a h1 _ (qOfs_p b h2 K k)
    ·cases h
   ·cases h
  ·cases h
end
structure ESok(P:Program)(g:FuncId)(s:ES):Prop where
 q:s.Q.ok=true
 ct:∀x q,s.fn x=some q→CtQ P g (encAs s.P x) (s.Q.q q)
def CK.cok:CK→Bool
 | .v t=>!t.agg
 | .row _ _=>true
def LQT.ok:LQT→Bool
 | .q Q=>Q.ok
 | .ptr _=>true
 | .obj B=>B.cells.all CK.cok
structure LSok(P:Program)(g:FuncId)(s:LS):Prop where
 q:s.Q.ok=true
 t:tysE s.B s.E=true
 c:(s.E.all fun B=>B.cells.all CK.cok)=true
 ct:∀z o,s.fn z=some o→CtL P g (laZ s.P s.B z) (bkZ s.P s.B z) (s.Q.lq o.1) (bkQ s.E .unit o.2)
def ECok(P:Program)(g:FuncId):EC→Prop
 | .es s=>ESok P g s
 | .ls s=>LSok P g s
 | .lb s=>LSok P g s
def ESsOk(P:Program):ESs→Prop
 |[]=>True
 |(g,s)::C=>ECok P g s∧ESsOk P C
theorem yho(Q:QT)(h:Q.ok=true)(q:Q.den):flatQs (Q.q q):=by
 have one:∀(Q:QT),Q.cellOk=true→∀q,flatQ (Q.q q):=by
  intro Q hQ q
  cases Q with
  |v t=>exact yby t q
  |own e t=>trivial
  |unit=>cases hQ
  |pair a b=>cases hQ
 have many:∀(Q:QT),Q.oks=true→∀q,∀x∈Q.qs q,flatQ x:=by
  intro Q
  induction Q with
  |pair a b iha ihb=>
   intro hQ q x hx
   simp only[QT.oks,Bool.and_eq_true]at hQ
   simp only[QT.qs]at hx
   rcases List.mem_cons.1 hx with rfl|hx
   ·exact one a hQ.1 _
   ·exact ihb hQ.2 _ x hx
  |_=>intro hQ q x hx; cases hx
 cases Q with
 |v t=>exact one (.v t) rfl q
 |own e t=>exact one (.own e t) rfl q
 |unit=>intro x hx; cases hx
 |pair a b=>
  have h1:(QT.pair a b).oks=true:=by simpa[QT.ok,QT.cellOk]using h
  intro x hx
  exact many (.pair a b) h1 q x hx
theorem cellQ_r{t:DT}(h:t.agg=false)(x:t.den):cellQ (.r (t.encA x)):=by
 cases t<;>first|(cases h; done)|rfl
theorem zuf:∀{l:List CK} {r:DT} {z:(ckT l r).den},l.all CK.cok=true→∀q∈ckQ l r z,cellQ q
 |[],r,z,h,q,hq=>by simp[ckQ]at hq
 | .v t::l,r,z,h,q,hq=>by
  simp only[List.all_cons,Bool.and_eq_true,CK.cok,Bool.not_eq_true']at h
  simp only[ckQ]at hq
  rcases List.mem_cons.1 hq with rfl|hq
  ·exact cellQ_r h.1 _
  ·exact zuf h.2 q hq
 | .row e t::l,r,z,h,q,hq=>by
  simp only[List.all_cons,Bool.and_eq_true]at h
  simp only[ckQ]at hq
  rcases List.mem_cons.1 hq with rfl|hq
  ·trivial
  ·exact zuf h.2 q hq
theorem zzj:∀{l:List BK} {r:DT} {z:(bkT l r).den},(l.all fun B=>B.cells.all CK.cok)=true→∀B∈bkQ l r z,∀q∈B.cells,cellQ q
 |[],r,z,h,B,hB=>by simp[bkQ]at hB
 |B0::l,r,z,h,B,hB=>by
  simp only[List.all_cons,Bool.and_eq_true]at h
  simp only[bkQ]at hB
  rcases List.mem_cons.1 hB with rfl|hB
  ·exact zuf (l:=B0.cells) (r:=bkT l r) (z:=z) h.1
  ·exact zzj h.2 B hB
theorem tysE_p:∀{l l':List BK},tysE l l'=true→l'.map (·.ty)=l.map (·.ty)
 |[],[],_=>rfl
 |[],_::_,h=>by cases h
 |_::_,[],h=>by cases h
 |B::l,E::l',h=>by
  simp only[tysE,Bool.and_eq_true]at h
  simp only[List.map_cons,tysE_p h.2,Nat.eq_of_beq_eq_true h.1]
theorem zsf{P:Program}:∀{C:ESs},ESsOk P C→zeh P (C.map fun z=>(z.1,z.2.spec))
 |[],_=>trivial
 |(g,.es s)::C,h=>by
  have h1:ESok P g s:=h.1
  exact⟨ctS_ok (fun x hx=>h1.ct x.1 x.2 hx) (fun x=>yho s.Q h1.q x.2),zsf h.2⟩
 |(g,.ls s)::C,h=>by
  have h1:LSok P g s:=h.1
  refine⟨ypk (fun x hx=>h1.ct x.1 x.2 hx) (fun x=>by rw[bkZ,bkQ_ty,bkQ_ty]; exact tysE_p h1.t) (fun x=>zzj h1.c) (fun x q hq=>?_) (fun x B hB=>?_),zsf h.2⟩
  ·have h2:=h1.q
   have h3:∀(Q':LQT) (y:Q'.den),Q'.lq y=.q q→Q'.ok=true→flatQs q:=by
    intro Q' y hy ho
    cases Q' with
    |q Q=>simp only[LQT.lq,LQ.q.injEq]at hy; subst hy; exact yho Q ho y
    |ptr k=>cases hy
    |obj B=>cases hy
   exact h3 s.Q x.2.1 hq h2
  ·have h2:=h1.q
   have h3:∀(Q':LQT) (y:Q'.den),Q'.lq y=.obj B→Q'.ok=true→∀q∈B.cells,cellQ q:=by
    intro Q' y hy ho
    cases Q' with
    |q Q=>cases hy
    |ptr k=>cases hy
    |obj B'=>simp only[LQT.lq,LQ.obj.injEq]at hy; subst hy; exact zuf ho
   exact h3 s.Q x.2.1 hB h2
 |(g,.lb s)::C,h=>by
  have h1:LSok P g s:=h.1
  refine⟨ypk (fun x hx=>h1.ct x.1 x.2 hx) (fun x=>by rw[bkZ,bkQ_ty,bkQ_ty]; exact tysE_p h1.t) (fun x=>zzj h1.c) (fun x q hq=>?_) (fun x B hB=>?_),zsf h.2⟩
  ·have h2:=h1.q
   have h3:∀(Q':LQT) (y:Q'.den),Q'.lq y=.q q→Q'.ok=true→flatQs q:=by
    intro Q' y hy ho
    cases Q' with
    |q Q=>simp only[LQT.lq,LQ.q.injEq]at hy; subst hy; exact yho Q ho y
    |ptr k=>cases hy
    |obj B=>cases hy
   exact h3 s.Q x.2.1 hq h2
  ·have h2:=h1.q
   have h3:∀(Q':LQT) (y:Q'.den),Q'.lq y=.obj B→Q'.ok=true→∀q∈B.cells,cellQ q:=by
    intro Q' y hy ho
    cases Q' with
    |q Q=>cases hy
    |ptr k=>cases hy
    |obj B'=>simp only[LQT.lq,LQ.obj.injEq]at hy; subst hy; exact zuf ho
   exact h3 s.Q x.2.1 hB h2
theorem yob{P:Program}{C:ESs}(h:ESsOk P C):zeh P (csP C):=by
 have app:∀{A B:Specs},zeh P A→zeh P B→zeh P (A++B):=by
  intro A B
  induction A with
  |nil=>exact fun _ h=>h
  |cons a A ih=>exact fun h h'=>⟨h.1,ih h.2 h'⟩
 refine app (zsf h) ?_
 induction keysE C with
 |nil=>trivial
 |cons n l ih=>exact⟨fun _ _ _ _ _ h=>h.elim,ih⟩
theorem evF_ct{P:Program}{T:List TI}{C:ESs}{O:DTs}{JC JL:List (Nat×DJ)}(hT:zbb P T)(hC:ESsOk P C)(hm:P.follows .mixedOrders=true){f:FuncId}{fn:Func}{c:Code}
  (hf:P.funcs[f]?=some fn) (hb:fn.body=some c) (hn:(fn.name== "runtime.NumGoroutine")=false) (hl:zdh (cuts (JC.map (·.1))) c=true) {A:DT} {Q:QT} {x:A.den} {q:Q.den}
  (h:lenL (encAs A x)→evF stdW T C O JC JL fn A Q x=some q):CtQ P f (encAs A x) (Q.q q):=by
 refine ctq_start (LK:=lkOf T) (C:=csP C) (O:=trP O) (JC.map (·.1)) hT (yob hC) hm hf hb hn hl (yem A x) fun hlen=>?_
 have h:=h hlen
 unfold evF at h
 rw[hb]at h
 obtain⟨ts,h1,h2⟩:=ymz h
 refine yow A x (h2 _ ?_)
 have e:([]:PBs)=bP []:=rfl
 have e':([]:List RS)=rP []:=rfl
 rw[e,e']
 have fin:∀{ts pb rw xs},(frzE 0 (frowsT Q (oneV xs) []) ts pb rw [oneV xs] fun _ _ rw ps=>match ps with
   |[p]=>match qOf Q p rw with|some (q,_)=>some q|none=>none
   |_=>none)=some q→endP 0 (Q.q q) (oneP' (pL xs)) (pL ts) (bP pb) (rP rw):=by
  intro ts pb rw xs h
  have e1:oneP' (pL xs)=(oneV xs).p:=by
   cases xs with
   |nil=>rfl
   |cons x xs=>cases xs<;>rfl
  rw[e1]
  obtain⟨ts1,pb1,rw1,ps,h3,h4,_,h5⟩:=frzE_p h
  unfold endP
  rw[zyu]
  refine h5 _ ?_
  split at h3
  ·rename_i p
   split at h3
   ·rename_i q' rw2 hq
    simp only[Option.some.injEq]at h3; subst h3
    exact qOf_p Q hq _ trivial
   ·cases h3
  ·cases h3
 refine ev_pv c h1 fun e ts1 pb1 rw1 h3 _=>?_
 cases e with
 |normal=>
  simp only[retD]at h3
  obtain⟨xs,h4,h5⟩:=resE_p h3
  exact h5 _ (fin h4)
 |ret=>
  simp only[retD]at h3
  obtain⟨xs,h4,h5⟩:=resE_p h3
  exact h5 _ (fin h4)
 |_=>cases h3
end Go.Vc

namespace Go.Vc
open Go Go.RowKit
variable {β:Type} {r:β}
def pkVs:(l:List PK)→(r:DT)→(pkT l r).den→Nat→List DV→List DV
 |[],_,_,_,_=>[]
 | .v t::l,r,z,n,vs=>t.val z.1::pkVs l r z.2 n vs
 | .ptr::l,r,z,n,vs=>.own n 0::pkVs l r z (n+1) vs
 | .fn g k::l,r,z,n,vs=>.fn g ((List.range' n k).map fun i=>.own i 0)::pkVs l r z (n+k) vs
 | .row _ _::l,r,z,n,vs=>match vs with|v::vs=>v::pkVs l r z n vs|[]=>.junk::pkVs l r z n []
def bkS:(l:List BK)→(r:DT)→(bkT l r).den→DBs→List DR→(DBs→List DR→Option β)→Option β
 |[],_,_,pb,rw,K=>K pb rw
 |B::l,r,z,pb,rw,K=>ckS B.cells (bkT l r) z rw fun vs y rw=>pushE pb (some ⟨B.ty,vs,true⟩) fun pb=>bkS l r y pb rw K
def frowsC:List CK→List DV→List Nat→List Nat
 |[],_,acc=>acc
 | .v _::l,ps,acc=>match ps with|p::ps=>p.rows (frowsC l ps acc)|[]=>acc
 | .row _ _::l,ps,acc=>match ps with|_::ps=>frowsC l ps acc|[]=>acc
def frowsB:List BK→List DV→List Nat→List Nat
 |[],_,acc=>acc
 |B::l,ps,acc=>match ps with
  |p::ps=>match p with | .agg cs=>frowsC B.cells cs (frowsB l ps acc)|_=>frowsB l ps acc
  |[]=>acc
def lendV:List BK→Nat→DBs→Option (List DV)
 |[],_,_=>some []
 |B::l,n,pb=>match dbV pb n with
  |some b=>match Nat.beq b.ty B.ty,lendV l (n+1) pb with|true,some vs=>some (.agg b.cells::vs)|_,_=>none
  |none=>none
def endLV(Q:LQT)(l:List BK)(p:DV)(ts:List DV)(pb:DBs)(rw:List DR):Option (Q.den×(bkT l .unit).den):=
 match lendV l 0 pb with
 |some ps=>match Q with
  | .q Q=>frzE 0 (frowsT Q p (frowsB l ps [])) ts pb rw [.tup (p::ps)] fun _ _ rw qs=>match qs with
   |[.tup (p::ps)]=>match qOf Q p rw with
    |some (q,rw)=>match bkX l .unit ps rw (fun rw=>some ((),rw)) with|some (z,_)=>some (q,z)|none=>none
    |none=>none
   |_=>none
  | .ptr i=>match p with
   | .own i' 0=>match Nat.beq i' i,Nat.blt i l.length with
    |true,true=>frzE 0 (frowsB l ps []) ts pb rw [.tup ps] fun _ _ rw qs=>match qs with
     |[.tup ps]=>match bkX l .unit ps rw (fun rw=>some ((),rw)) with|some (z,_)=>some ((),z)|none=>none
     |_=>none
    |_,_=>none
   |_=>none
  | .obj B=>match p with
   | .own i 0=>match Nat.ble l.length i,dbV pb i with
    |true,some b=>match Nat.beq b.ty B.ty with
     |true=>frzE 0 (frowsC B.cells b.cells (frowsB l ps [])) ts pb rw [.tup (.agg b.cells::ps)] fun _ _ rw qs=>match qs with
      |[.tup (.agg cs::ps)]=>match ckX B.cells .unit cs rw (fun rw=>some ((),rw)) with
       |some (x,rw)=>match bkX l .unit ps rw (fun rw=>some ((),rw)) with|some (z,_)=>some (x,z)|none=>none
       |none=>none
      |_=>none
     |false=>none
    |_,_=>none
   |_=>none
 |none=>none
def retDL(W:Wd)(T:List TI)(rs:List ResultVar)(Q:LQT)(l:List BK)(e:Exit)(ts:List DV)(pb:DBs)(rw:List DR):Option (Q.den×(bkT l .unit).den):=
 match e with
 | .normal=>resE W T rs ts pb rw fun xs=>endLV Q l (oneV xs) ts pb rw
 | .ret=>resE W T rs ts pb rw fun xs=>endLV Q l (oneV xs) ts pb rw
 |_=>none
def evFL(W:Wd)(T:List TI)(C:ESs)(O:DTs)(JC JL:List (Nat×DJ))(fn:Func)(P:List PK)(B E:List BK)(Q:LQT)(z:(pkT P (inT P B)).den):Option (Q.den×(bkT E .unit).den):=
 match fn.body with
 |some c=>bkS B (ckT (rowC P) .unit) (pkR P (inT P B) z) [] [] fun pb rw=>ckS (rowC P) .unit (bkR B (ckT (rowC P) .unit) (pkR P (inT P B) z)) rw fun vs _ rw=>
   initE (pkVs P (inT P B) z 0 vs) fn.ntmps fun ts=>ev W T C O JC JL 0 c (retDL W T fn.results.toList Q E) ts pb rw
 |none=>none
theorem bkS_p:∀{l:List BK} {r:DT} {z:(bkT l r).den} {pb:DBs} {rw:List DR} {K:DBs→List DR→Option β} {b:β},bkS l r z pb rw K=some b→
  ∃pb' rw',K pb' rw'=some b∧∀K':PBs→List RS→Prop,K' (bP pb') (rP rw')→lbK (bkQ l r z) (bP pb) (rP rw) K'
 |[],r,z,pb,rw,K,b,h=>⟨pb,rw,h,fun K' k=>k⟩
 |B::l,r,z,pb,rw,K,b,h=>by
  replace h:(ckS B.cells (bkT l r) z rw fun vs y rw=>pushE pb (some ⟨B.ty,vs,true⟩) fun pb=>bkS l r y pb rw K)=some b:=h
  obtain⟨vs,rw1,g1,g2⟩:=ckS_p h
  rw[zem]at g1
  obtain⟨pb2,rw2,g3,g4⟩:=bkS_p g1
  refine⟨pb2,rw2,g3,fun K' k=>?_⟩
  simp only[bkQ,lbK]
  refine g2 _ ?_
  rw[zbp]
  have:=g4 K' k
  rw[bP_app]at this
  exact this
theorem laK_p{β:Type}:∀{l:List PK} {r:DT} {z:(pkT l r).den} {n:Nat} {d:(ckT (rowC l) .unit).den} {rw:List DR} {K:List DV→Unit→List DR→Option β} {b:β},ckS (rowC l) .unit d rw K=some b→
  ∃vs rw',K vs () rw'=some b∧∀K':List PV→List RS→Prop,K' (pL (pkVs l r z n vs)) (rP rw')→laK (laP l r z n d) (rP rw) K'
 |[],r,z,n,d,rw,K,b,h=>⟨[],rw,h,fun K' k=>k⟩
 | .v t::l,r,z,n,d,rw,K,b,h=>by
  obtain⟨vs,rw',h1,h2⟩:=laK_p (l:=l) (r:=r) (z:=z.2) (n:=n) (d:=d) h
  refine⟨vs,rw',h1,fun K' k=>?_⟩
  simp only[laP,laK]
  exact ygo t z.1 (h2 _ k)
 | .ptr::l,r,z,n,d,rw,K,b,h=>by
  obtain⟨vs,rw',h1,h2⟩:=laK_p (l:=l) (r:=r) (z:=z) (n:=n+1) (d:=d) h
  refine⟨vs,rw',h1,fun K' k=>?_⟩
  simp only[laP,laK]
  exact h2 _ k
 | .fn g m::l,r,z,n,d,rw,K,b,h=>by
  obtain⟨vs,rw',h1,h2⟩:=laK_p (l:=l) (r:=r) (z:=z) (n:=n+m) (d:=d) h
  refine⟨vs,rw',h1,fun K' k=>?_⟩
  simp only[laP,laK]
  refine h2 _ ?_
  have e:(DV.fn g ((List.range' n m).map fun i=>.own i 0)).p=PV.fn g ((List.range' n m).map fun i=>.own i 0):=by
   simp only[DV.p,pL_map,List.map_map]; rfl
  rw[←e]; exact k
 | .row e t::l,r,z,n,d,rw,K,b,h=>by
  replace h:(pushE rw (.own e t d.1) fun rw'=>litE rw.length fun n=>ckS (rowC l) .unit d.2 rw' fun vs y rw=>K (.row n::vs) y rw)=some b:=h
  rw[zem,zgt]at h
  obtain⟨vs,rw',h1,h2⟩:=laK_p (l:=l) (r:=r) (z:=z) (n:=n) (d:=d.2) h
  refine⟨.row rw.length::vs,rw',h1,fun K' k=>?_⟩
  simp only[laP,laK,q0K]
  rw[zbp,zcd,rP_len]
  have:=h2 (fun ps rw2=>K' (.row rw.length::ps) rw2) k
  rw[rP_app]at this
  exact this
theorem zty:∀{l:List PK} {r:DT} {z:(pkT l r).den} {n:Nat} {d:(ckT (rowC l) .unit).den},flatLA (laP l r z n d)
 |[],_,_,_,_=>trivial
 | .v t::l,r,z,n,d=>⟨(yby t z.1).1,zty (l:=l) (r:=r) (z:=z.2) (n:=n) (d:=d)⟩
 | .ptr::l,r,z,n,d=>zty (l:=l) (r:=r) (z:=z) (n:=n+1) (d:=d)
 | .fn _ m::l,r,z,n,d=>zty (l:=l) (r:=r) (z:=z) (n:=n+m) (d:=d)
 | .row _ _::l,r,z,n,d=>zty (l:=l) (r:=r) (z:=z) (n:=n) (d:=d.2)
theorem zyv:∀{l:List CK} {r:DT} {z:(ckT l r).den} {ps:List DV} {acc:List Nat},frowsL (ckQ l r z) (pL ps) acc=frowsC l ps acc
 |[],r,z,ps,acc=>by cases ps<;>rfl
 | .v t::l,r,z,ps,acc=>by
  cases ps with
  |nil=>rfl
  |cons p ps=>
   simp only[ckQ,pL,frowsL,frows,frowsC,DV.p_rows]
   rw[zyv (l:=l) (r:=r) (z:=z.2)]
 | .row e t::l,r,z,ps,acc=>by
  cases ps with
  |nil=>rfl
  |cons p ps=>
   simp only[ckQ,pL,frowsL,frows,frowsC]
   exact zyv (l:=l) (r:=r) (z:=z.2)
theorem zyw:∀{l:List BK} {r:DT} {z:(bkT l r).den} {ps:List DV} {acc:List Nat},frowsL (aggQ (bkQ l r z)) (pL ps) acc=frowsB l ps acc
 |[],r,z,ps,acc=>by cases ps<;>rfl
 |B::l,r,z,ps,acc=>by
  cases ps with
  |nil=>rfl
  |cons p ps=>
   simp only[bkQ,aggQ,pL,frowsL,frows,frowsB]
   rw[zyw (l:=l) (r:=r)]
   cases p<;>first|exact zyv|rfl
theorem lendV_p:∀{l:List BK} {n:Nat} {pb:DBs} {olds:List DV} {Bs:List LB} {K:List PV→Prop},lendV l n pb=some olds→Bs.map (·.ty)=l.map (·.ty)→K (pL olds)→lendK Bs n (bP pb) K
 |[],n,pb,olds,Bs,K,h,ht,k=>by
  cases Bs with
  |cons _ _=>simp at ht
  |nil=>simp only[lendV,Option.some.injEq]at h; subst h; exact k
 |B::l,n,pb,olds,Bs,K,h,ht,k=>by
  cases Bs with
  |nil=>simp at ht
  |cons B' Bs=>
   simp only[lendV]at h
   split at h
   ·rename_i b hb
    split at h
    ·rename_i vs h1 h2
     simp only[Option.some.injEq]at h; subst h
     simp only[List.map_cons,List.cons.injEq]at ht
     simp only[lendK]
     exact dbV_p hb ⟨(Nat.eq_of_beq_eq_true h1).trans ht.1.symm,lendV_p h2 ht.2 k⟩
    ·cases h
   ·cases h
theorem endLV_p:∀{Q:LQT} {l:List BK} {p:DV} {ts:List DV} {pb:DBs} {rw:List DR} {o:Q.den×(bkT l .unit).den},endLV Q l p ts pb rw=some o→endL (Q.lq o.1) (bkQ l .unit o.2) p.p (pL ts) (bP pb) (rP rw):=by
 intro Q l p ts pb rw o h
 unfold endLV at h
 split at h
 ·rename_i ps hps
  refine lendV_p hps (bkQ_ty l .unit o.2) ?_
  cases Q with
  |q Q=>
   simp only at h
   obtain⟨ts1,pb1,rw1,qs,h3,h4,_,h5⟩:=frzE_p h
   simp only[LQT.lq]
   unfold endP
   have e1:frows (.tup (Q.q o.1::aggQ (bkQ l .unit o.2))) (.tup (p.p::pL ps)) []=frowsT Q p (frowsB l ps []):=by
    simp only[frows,frowsL]
    rw[zyw,zyu]
   have e2:PV.tup (p.p::pL ps)=(DV.tup (p::ps)).p:=rfl
   rw[e1,e2]
   refine h5 _ ?_
   split at h3
   ·rename_i p' ps'
    split at h3
    ·rename_i q' rw2 hq
     split at h3
     ·rename_i z rw3 hz
      simp only[Option.some.injEq]at h3; subst h3
      obtain⟨rw4,y,k1,k2,k3⟩:=bkX_p hz
      simp only[pL,DV.p,qOk,qOkL]
      exact qOf_p Q hq _ (k3 _ trivial)
     ·cases h3
    ·cases h3
   ·cases h3
  |ptr i=>
   simp only at h
   split at h
   ·rename_i i'
    split at h
    ·rename_i h1 h2
     obtain⟨ts1,pb1,rw1,qs,h3,h4,_,h5⟩:=frzE_p h
     simp only[LQT.lq,DV.p]
     have:=Nat.eq_of_beq_eq_true h1
     subst this
     refine⟨rfl,?_,?_⟩
     ·have e:=congrArg List.length (bkQ_ty l .unit o.2)
      simp only[List.length_map]at e
      rw[e]
      simp only[Nat.blt,Nat.ble_eq]at h2; omega
     ·unfold endP
      have e1:frows (.tup (aggQ (bkQ l .unit o.2))) (.tup (pL ps)) []=frowsB l ps []:=by
       simp only[frows]
       rw[zyw]
      have e2:PV.tup (pL ps)=(DV.tup ps).p:=rfl
      rw[e1,e2]
      refine h5 _ ?_
      split at h3
      ·rename_i ps'
       split at h3
       ·rename_i z rw3 hz
        simp only[Option.some.injEq]at h3; subst h3
        obtain⟨rw4,y,k1,k2,k3⟩:=bkX_p hz
        simp only[pL,DV.p,qOk]
        exact k3 _ trivial
       ·cases h3
      ·cases h3
    ·cases h
   ·cases h
  |obj B=>
   simp only at h
   split at h
   ·rename_i i
    split at h
    ·rename_i b h1 hb
     split at h
     ·rename_i hty
      obtain⟨ts1,pb1,rw1,qs,h3,h4,_,h5⟩:=frzE_p h
      simp only[LQT.lq,DV.p]
      have hlen:(bkQ l .unit o.2).length=l.length:=by
       have e:=congrArg List.length (bkQ_ty l .unit o.2)
       simpa only[List.length_map]using e
      refine⟨trivial,by rw[hlen]; simpa using h1,dbV_p hb ⟨Nat.eq_of_beq_eq_true hty,?_⟩⟩
      unfold endP
      have e1:frows (.tup (.agg (ckQ B.cells .unit o.1)::aggQ (bkQ l .unit o.2))) (.tup (.agg (pL b.cells)::pL ps)) []=frowsC B.cells b.cells (frowsB l ps []):=by
       simp only[frows,frowsL]
       rw[zyw,zyv]
      have e2:PV.tup (.agg (pL b.cells)::pL ps)=(DV.tup (.agg b.cells::ps)).p:=rfl
      rw[e1,e2]
      refine h5 _ ?_
      split at h3
      ·rename_i cs ps'
       split at h3
       ·rename_i x rw2 hx
        split at h3
        ·rename_i z rw3 hz
         simp only[Option.some.injEq]at h3; subst h3
         obtain⟨rw2',y0,hy0,_,k0⟩:=ckX_p hx
         have hy0:=Option.some.inj hy0
         injection hy0 with _ hy0; subst hy0
         obtain⟨rw4,y,k1,k2,k3⟩:=bkX_p hz
         simp only[pL,DV.p,qOk,qOkL]
         exact k0 _ (k3 _ trivial)
        ·cases h3
       ·cases h3
      ·cases h3
     ·cases h
    ·cases h
   ·cases h
 ·cases h
theorem evFL_ct{P:Program}{T:List TI}{C:ESs}{O:DTs}{JC JL:List (Nat×DJ)}(hT:zbb P T)(hC:ESsOk P C)(hm:P.follows .mixedOrders=true){f:FuncId}{fn:Func}{c:Code}
  (hf:P.funcs[f]?=some fn) (hb:fn.body=some c) (hn:(fn.name== "runtime.NumGoroutine")=false) (hl:zdh (cuts (JC.map (·.1))) c=true) {A:List PK} {B E:List BK} {Q:LQT} (hBE:tysE B E=true) (hB:(B.all fun B=>B.cells.all CK.cok)=true) {z:(pkT A (inT A B)).den} {o:Q.den×(bkT E .unit).den}
  (h:evFL stdW T C O JC JL fn A B E Q z=some o):CtL P f (laZ A B z) (bkZ A B z) (Q.lq o.1) (bkQ E .unit o.2):=by
 have hlen:(bkQ E .unit o.2).length=(bkZ A B z).length:=by
  have e:=congrArg List.length (bkQ_ty E .unit o.2)
  have e2:=congrArg List.length (tysE_p hBE)
  have e':((bkZ A B z).map (·.ty)).length=(B.map (·.ty)).length:=congrArg List.length (bkQ_ty B (ckT (rowC A) .unit) (pkR A (inT A B) z))
  simp only[List.length_map]at e e' e2
  rw[e,e',e2]
 refine ctl_start (LK:=lkOf T) (C:=csP C) (O:=trP O) (JC.map (·.1)) hT (yob hC) hm hf hb hn hl zty (zzj hB) hlen ?_
 unfold evFL at h
 rw[hb]at h
 simp only at h
 obtain⟨pb1,rw1,h1,h2⟩:=bkS_p h
 obtain⟨vs,rw2,h1,h2'⟩:=laK_p (r:=inT A B) (z:=z) (n:=0) h1
 obtain⟨ts,h3,h4⟩:=ymz h1
 have e:([]:PBs)=bP []:=rfl
 have e':([]:List RS)=rP []:=rfl
 rw[e,e']
 refine h2 _ (h2' _ (h4 _ ?_))
 have e1:∀xs,oneP' (pL xs)=(oneV xs).p:=by
  intro xs
  cases xs with
  |nil=>rfl
  |cons x xs=>cases xs<;>rfl
 refine ev_pv c h3 fun e ts1 pb1 rw1 h5 _=>?_
 cases e with
 |normal=>
  simp only[retDL]at h5
  obtain⟨xs,h6,h7⟩:=resE_p h5
  exact h7 _ (by rw[e1]; exact endLV_p h6)
 |ret=>
  simp only[retDL]at h5
  obtain⟨xs,h6,h7⟩:=resE_p h5
  exact h7 _ (by rw[e1]; exact endLV_p h6)
 |_=>cases h5
end Go.Vc

namespace Go.Proofs.YtllkmncnmlmefaaGreat
open Go Go.Vc Go.RowKit
theorem mixedP:Tryz.prog.follows .mixedOrders=true:=by decide +kernel
def oN(l:List Nat):OT:=ofL (l.map fun n=>(n / 2,n % 2==1))
theorem cn:ESsOk Tryz.prog []:=trivial
theorem cc{n:Nat}{s:EC}{C:ESs}(h:ECok Tryz.prog n s)(k:ESsOk Tryz.prog C):ESsOk Tryz.prog ((n,s)::C):=⟨h,k⟩
theorem cb{n:Nat}{s:LS}{C:ESs}(h:ECok Tryz.prog n (.ls s))(k:ESsOk Tryz.prog C):ESsOk Tryz.prog ((n,.lb s)::C):=⟨h,k⟩
theorem es_z{f:FuncId}{fn:Func}{s:ES}(F:Wd→s.P.den→Option s.Q.den){C:ESs}(hC:ESsOk Tryz.prog C)(O:DTs)(JC JL:List (Nat×DJ))(hf:Tryz.prog.funcs[f]?=some fn)
  (hF:F stdW=s.fn:=by rfl) (hb:fn.body.isSome=true:=by rfl) (hn:(fn.name== "runtime.NumGoroutine")=false:=by decide +kernel) (hl:zdh (cuts (JC.map (·.1))) (fn.body.get hb)=true:=by rfl) (hq:s.Q.ok=true:=by rfl)
  (h:∀W x,evF W tab C O JC JL fn s.P s.Q x=F W x:=by intro W x; kernel_rfl):ECok Tryz.prog f (.es s):=
 ⟨hq,fun x _ hx=>evF_ct tab_ok hC mixedP hf (Option.some_get hb).symm hn hl fun _=>(h stdW x).trans ((congrFun hF x).trans hx)⟩
theorem ls_z{f:FuncId}{fn:Func}{s:LS}(F:Wd→(pkT s.P (inT s.P s.B)).den→Option (s.Q.den×(bkT s.E .unit).den)){C:ESs}(hC:ESsOk Tryz.prog C)(O:DTs)(JC JL:List (Nat×DJ))(hf:Tryz.prog.funcs[f]?=some fn)
  (hF:F stdW=s.fn:=by rfl) (hb:fn.body.isSome=true:=by rfl) (hn:(fn.name== "runtime.NumGoroutine")=false:=by decide +kernel) (hl:zdh (cuts (JC.map (·.1))) (fn.body.get hb)=true:=by rfl) (hq:s.Q.ok=true:=by rfl) (hBE:tysE s.B s.E=true:=by rfl) (hB:(s.B.all fun B=>B.cells.all CK.cok)=true:=by rfl) (hE:(s.E.all fun B=>B.cells.all CK.cok)=true:=by rfl)
  (h:∀W z,evFL W tab C O JC JL fn s.P s.B s.E s.Q z=F W z:=by intro W z; kernel_rfl):ECok Tryz.prog f (.ls s):=
 ⟨hq,hBE,hE,fun z _ hz=>evFL_ct tab_ok hC mixedP hf (Option.some_get hb).symm hn hl hBE hB ((h stdW z).trans ((congrFun hF z).trans hz))⟩
end Go.Proofs.YtllkmncnmlmefaaGreat
namespace Go.Vc
open Go Go.RowKit
theorem QRsH_of{U:Nat→Prop}{w:World}:∀{rs:List R} {vs:List Value},listH U w rs vs→QRsH U w (rs.map .r) vs []
 |[],vs,h=>by simp only[listH]at h; exact⟨h,rfl⟩
 |r::rs,vs,h=>by
  simp only[listH]at h
  obtain⟨u,us,rfl,h1,h2⟩:=h
  exact⟨u,us,[],[],rfl,rfl,⟨rfl,h1⟩,QRsH_of h2⟩
theorem CtQ.tup{P:Program}{f:FuncId}{ars rs:List R}(h:CtQ P f ars (.r (.tup rs))):CtQ P f ars (.tup (rs.map .r)):=by
 intro U w vs hU hvs
 refine(h U w vs hU hvs).mono fun v w' ⟨os,h1,h2⟩=>⟨os,?_,h2⟩
 simp only[QR.h,R.h]at h1 ⊢
 obtain⟨rfl,us,rfl,h3⟩:=h1
 exact⟨us,rfl,QRsH_of h3⟩
end Go.Vc
namespace Go.Proofs.YtllkmncnmlmefaaGreat
open Go Go.Vc Go.RowKit
abbrev rU(n:Int):R:=.val (.int .u64 n)
theorem add64_ct(x y c:Int)(hx:0≤x)(hy:0≤y)(hc0:0≤c)(hc:c≤1):Ct Tryz.prog 356 [rU x,rU y,rU c] (.tup [rU ((x+y+c) % 18446744073709551616),rU ((x+y+c) / 18446744073709551616)]):=by
 refine ctG_ext (v:=.tuple #[.int .u64 ((x+y+c) % 18446744073709551616),.int .u64 ((x+y+c) / 18446744073709551616)]) (fun w=>?_) ⟨rfl,rfl,trivial⟩
 rw[run_callFunc_extern Tryz.func356 (by decide +kernel) rfl rfl (e:=add64Entry) (by kernel_rfl)]
 show ((add64Entry #[.int .u64 x,.int .u64 y,.int .u64 c]).run Tryz.prog w).andThen _=_
 rw[run_add64 x y c hx hy hc0 hc]; rfl
theorem run_sub64'(x y:Nat)(b:Nat)(hb:b≤1)(w:World):((Extern.MathBitsCarry.rows[1]!).2 #[.int .u64 x,.int .u64 y,.int .u64 b]).run Tryz.prog w=
  .ok (.tuple #[.int .u64 (((x+18446744073709551616 - y - b) % 18446744073709551616:Nat):Int),.int .u64 ((if x<y+b then 1 else 0:Nat):Int)]) w:=by
 have:b=0∨b=1:=by omega
 rcases this with rfl|rfl<;>rfl
theorem sub64_ct(x y b:Int)(hx:0≤x)(hy:0≤y)(hy2:y<18446744073709551616)(hb0:0≤b)(hb:b≤1):Ct Tryz.prog 400 [rU x,rU y,rU b] (.tup [rU ((x - y - b) % 18446744073709551616),rU (if x<y+b then 1 else 0)]):=by
 obtain⟨x,rfl⟩:=Int.eq_ofNat_of_zero_le hx
 obtain⟨y,rfl⟩:=Int.eq_ofNat_of_zero_le hy
 obtain⟨b,rfl⟩:=Int.eq_ofNat_of_zero_le hb0
 refine ctG_ext (v:=.tuple #[.int .u64 (((x:Int) - y - b) % 18446744073709551616),.int .u64 (if (x:Int)<y+b then 1 else 0)]) (fun w=>?_) ⟨rfl,rfl,trivial⟩
 rw[run_callFunc_extern Tryz.func400 (by decide +kernel) rfl rfl (e:=(Extern.MathBitsCarry.rows[1]!).2) (by kernel_rfl)]
 show (((Extern.MathBitsCarry.rows[1]!).2 #[.int .u64 x,.int .u64 y,.int .u64 b]).run Tryz.prog w).andThen _=_
 rw[run_sub64' x y b (by omega) w]
 have e1:(((x+18446744073709551616 - y - b) % 18446744073709551616:Nat):Int)=((x:Int) - y - b) % 18446744073709551616:=by omega
 have e2:((if x<y+b then 1 else 0:Nat):Int)=if (x:Int)<y+b then 1 else 0:=by split<;>split<;>omega
 rw[e1,e2]; rfl
def add64(x y c:Int):Option (Int×Int×Unit):=if 0≤x∧0≤y∧0≤c∧c≤1 then some ((x+y+c) % 18446744073709551616,(x+y+c) / 18446744073709551616,()) else none
def sub64(x y b:Int):Option (Int×Int×Unit):=if 0≤x∧0≤y∧y<18446744073709551616∧0≤b∧b≤1 then some ((x - y - b) % 18446744073709551616,if x<y+b then 1 else 0,()) else none
def add64_s:ES:=⟨.pair (.int .u64) (.pair (.int .u64) (.pair (.int .u64) .unit)),.pair (.v (.int .u64)) (.pair (.v (.int .u64)) .unit),fun x=>add64 x.1 x.2.1 x.2.2.1⟩
def sub64_s:ES:=⟨.pair (.int .u64) (.pair (.int .u64) (.pair (.int .u64) .unit)),.pair (.v (.int .u64)) (.pair (.v (.int .u64)) .unit),fun x=>sub64 x.1 x.2.1 x.2.2.1⟩
theorem yqg:ECok Tryz.prog 356 (.es add64_s):=by
 refine⟨rfl,fun x q h=>?_⟩
 replace h:add64 x.1 x.2.1 x.2.2.1=some q:=h
 unfold add64 at h
 split at h
 ·rename_i hc
  have h:=Option.some.inj h
  subst h
  exact(CtQ.of (add64_ct x.1 x.2.1 x.2.2.1 hc.1 hc.2.1 hc.2.2.1 hc.2.2.2)).tup
 ·cases h
theorem ynz:ECok Tryz.prog 400 (.es sub64_s):=by
 refine⟨rfl,fun x q h=>?_⟩
 replace h:sub64 x.1 x.2.1 x.2.2.1=some q:=h
 unfold sub64 at h
 split at h
 ·rename_i hc
  have h:=Option.some.inj h
  subst h
  exact(CtQ.of (sub64_ct x.1 x.2.1 x.2.2.1 hc.1 hc.2.1 hc.2.2.1 hc.2.2.2.1 hc.2.2.2.2)).tup
 ·cases h
end Go.Proofs.YtllkmncnmlmefaaGreat

namespace Go.Proofs.YtllkmncnmlmefaaGreat
open Go Go.Vc Go.RowKit
@[reducible] def tU0:DT:=(.pair (.int .i64) (.pair (.int .i64) .unit))
@[reducible] def tF0:DT:=(.pair tU0 (.pair (.int .i64) .unit))
abbrev U0':=Int×Int×Unit
abbrev F0':=U0'×Int×Unit
def ofU(u:Int×Int):U0':=(u.1,u.2,())
def toF(x:F0'):FlD:=((x.1.1,x.1.2.1),x.2.1)
def zci(l:List F0'):List U0':=(srtU (uniqU (l.map fun x=>(x.1.1,x.1.2.1)))).map ofU
def namedO(l:List F0'):Option (List U0'):=if (l.length+1)*16≤140737488355328 then some (zci l) else none
def zwl(ll:List (List F0')):Option (List F0'):=if ll.flatten.length*24≤140737488355328 then some ll.flatten else none
noncomputable def named_s:ES:=⟨.pair (.slc tF0) .unit,.own 47 tU0,fun x=>namedO x.1⟩
noncomputable def concat_s:ES:=⟨.pair (.slc (.slc tF0)) .unit,.own 143 tF0,fun x=>zwl x.1⟩
theorem yne(l:List F0'):(l.map toF).map flR=l.map fun x=>tF0.enc x:=by rw[List.map_map]; rfl
theorem named_ok:ECok Tryz.prog 361 (.es named_s):=by
 refine⟨rfl,fun x q h=>?_⟩
 replace h:namedO x.1=some q:=h
 unfold namedO at h
 split at h
 ·rename_i hc
  have h:=Option.some.inj h
  subst h
  have hct:=named_ct (x.1.map toF) (by rw[List.length_map]; exact hc)
  rw[yne]at hct
  have e2:encs encU (srtU (uniqU ((x.1.map toF).map (·.1))))=(zci x.1).map fun x=>tU0.enc x:=by
   unfold zci encs
   rw[List.map_map,List.map_map]; rfl
  rw[e2]at hct
  exact hct
 ·cases h
theorem concat_ok:ECok Tryz.prog 360 (.es concat_s):=by
 refine⟨rfl,fun x q h=>?_⟩
 replace h:zwl x.1=some q:=h
 unfold zwl at h
 split at h
 ·rename_i hc
  have h:=Option.some.inj h
  subst h
  have e0:(x.1.map fun l=>l.map toF).flatten=x.1.flatten.map toF:=by rw[List.map_flatten]
  have hct:=concatF_ct (x.1.map fun l=>l.map toF) (by rw[←yiz,e0,List.length_map]; exact hc)
  have e1:((x.1.map fun l=>l.map toF).map fun l=>[R.sl 3 (l.map flR)])=x.1.map fun l=>(DT.slc tF0).enc l:=by
   rw[List.map_map]
   refine List.map_congr_left fun l _=>?_
   show [R.sl 3 ((l.map toF).map flR)]=_
   rw[yne]; rfl
  rw[e1,e0,yne]at hct
  exact hct
 ·cases h
end Go.Proofs.YtllkmncnmlmefaaGreat
namespace Go.Proofs.YtllkmncnmlmefaaGreat
open Go Go.Vc Go.RowKit Go.Sort
def ltA(a b:U0'):Prop:=a.1<b.1∨(a.1=b.1∧a.2.1<b.2.1)
instance (a b:U0'):Decidable (ltA a b):=by unfold ltA; infer_instance
instance:DecidableEq U0':=inferInstanceAs (DecidableEq (Int×Int×Unit))
theorem extA{a b:U0'}(h1:a.1=b.1)(h2:a.2.1=b.2.1):a=b:=by
 obtain⟨a1,a2,⟨⟩⟩:=a; obtain⟨b1,b2,⟨⟩⟩:=b; simp only at h1 h2; subst h1 h2; rfl
theorem zex(a:U0'):¬ltA a a:=by unfold ltA; omega
theorem ltA_tr{a b c:U0'}(h1:ltA a b)(h2:ltA b c):ltA a c:=by unfold ltA at *; omega
theorem yhe{a b:U0'}(h1:¬ltA a b)(h2:¬ltA b a):a=b:=by
 unfold ltA at *; exact extA (by omega) (by omega)
theorem ltA_as{a b:U0'}(h1:ltA a b)(h2:ltA b a):False:=zex a (ltA_tr h1 h2)
abbrev SrtA(l:List U0'):Prop:=l.Pairwise ltA
theorem srt_ext:∀{l m:List U0'},SrtA l→SrtA m→(∀x,x∈l↔x∈m)→l=m
 |[],[],_,_,_=>rfl
 |[],b::m,_,_,h=>absurd ((h b).2 (by simp)) (by simp)
 |a::l,[],_,_,h=>absurd ((h a).1 (by simp)) (by simp)
 |a::l,b::m,hl,hm,h=>by
  obtain⟨h1,h2⟩:=List.pairwise_cons.1 hl
  obtain⟨h3,h4⟩:=List.pairwise_cons.1 hm
  have hab:a=b:=by
   rcases List.mem_cons.1 ((h a).1 (by simp)) with e|e
   ·exact e
   ·rcases List.mem_cons.1 ((h b).2 (by simp)) with e'|e'
    ·exact e'.symm
    ·exact(ltA_as (h1 b e') (h3 a e)).elim
  subst hab
  rw[srt_ext h2 h4 fun x=>?_]
  constructor
  ·intro hx
   rcases List.mem_cons.1 ((h x).1 (List.mem_cons_of_mem _ hx)) with rfl|e
   ·exact(zex _ (h1 _ hx)).elim
   ·exact e
  ·intro hx
   rcases List.mem_cons.1 ((h x).2 (List.mem_cons_of_mem _ hx)) with rfl|e
   ·exact(zex _ (h3 _ hx)).elim
   ·exact e
theorem yft:∀(l ks:List (Int×Int)) (x:Int×Int),x∈l.foldl addU ks↔x∈ks∨x∈l
 |[],ks,x=>by simp
 |y::l,ks,x=>by
  rw[List.foldl_cons,yft l]
  unfold addU
  split
  ·rename_i hy
   constructor
   ·rintro(h|h)
    ·exact .inl h
    ·exact .inr (by simp[h])
   ·rintro(h|h)
    ·exact .inl h
    ·rcases List.mem_cons.1 h with rfl|h
     ·exact .inl hy
     ·exact .inr h
  ·simp only[List.mem_append,List.mem_cons,List.not_mem_nil,or_false]
   constructor
   ·rintro((h|h)|h)<;>simp[h]
   ·rintro(h|h|h)<;>simp[h]
theorem uniq_nd:∀(l ks:List (Int×Int)),ks.Nodup→(l.foldl addU ks).Nodup
 |[],ks,h=>h
 |y::l,ks,h=>by
  rw[List.foldl_cons]
  refine uniq_nd l _ ?_
  unfold addU
  split
  ·exact h
  ·rename_i hy
   exact List.nodup_append.2 ⟨h,by simp,fun a ha b hb=>by simp at hb; subst hb; rintro rfl; exact hy ha⟩
theorem zzt(l:List F0')(u:U0'):u∈zci l↔∃x∈l,x.1=u:=by
 unfold zci
 rw[List.mem_map]
 constructor
 ·rintro⟨y,hy,rfl⟩
  have hy:=(List.mergeSort_perm _ _).subset hy
  rcases (yft _ [] y).1 hy with h|h
  ·cases h
  ·obtain⟨x,hx,rfl⟩:=List.mem_map.1 h
   exact⟨x,hx,extA rfl rfl⟩
 ·rintro⟨x,hx,rfl⟩
  refine⟨(x.1.1,x.1.2.1),(List.mergeSort_perm _ _).symm.subset ((yft _ [] _).2 (.inr (List.mem_map.2 ⟨x,hx,rfl⟩))),extA rfl rfl⟩
theorem zsa(l:List F0'):SrtA (zci l):=by
 unfold zci SrtA
 rw[List.pairwise_map]
 have h1:=zvf (uniqU (l.map fun x=>(x.1.1,x.1.2.1)))
 have h2:(srtU (uniqU (l.map fun x=>(x.1.1,x.1.2.1)))).Nodup:=(List.mergeSort_perm _ _).nodup_iff.2 (uniq_nd _ [] (by simp))
 refine List.Pairwise.imp_of_mem (fun {a b} _ _ h=>?_) (h1.and h2)
 obtain⟨h3,h4⟩:=h
 rw[ltU,Bool.not_eq_true',zvu]at h3
 unfold ltA ofU
 simp only
 by_cases e1:a.1=b.1
 ·have:a.2≠b.2:=fun e2=>h4 (Prod.ext e1 e2)
  omega
 ·omega
def lowU(u:U0')(l:List U0'):List U0':=l.filter fun x=>decide (ltA x u)
def highU(u:U0')(l:List U0'):List U0':=l.filter fun x=>!decide (ltA x u)
theorem yph:∀{l:List U0'},SrtA l→∀u,l.take (lowU u l).length=lowU u l∧l.drop (lowU u l).length=highU u l
 |[],_,u=>by simp[lowU,highU]
 |a::l,h,u=>by
  obtain⟨h1,h2⟩:=List.pairwise_cons.1 h
  obtain⟨e1,e2⟩:=yph h2 u
  by_cases ha:ltA a u
  ·have p1:lowU u (a::l)=a::lowU u l:=by simp[lowU,ha]
   have p2:highU u (a::l)=highU u l:=by simp[highU,ha]
   rw[p1,p2]; simp[e1,e2]
  ·have hall:∀x∈l,¬ltA x u:=fun x hx hxu=>ha (ltA_tr (h1 x hx) hxu)
   have p1:lowU u (a::l)=[]:=by
    unfold lowU; rw[List.filter_eq_nil_iff]
    intro x hx
    rcases List.mem_cons.1 hx with rfl|hx
    ·simp[ha]
    ·simp[hall x hx]
   have p2:highU u (a::l)=a::l:=by
    unfold highU; rw[List.filter_eq_self]
    intro x hx
    rcases List.mem_cons.1 hx with rfl|hx
    ·simp[ha]
    ·simp[hall x hx]
   rw[p1,p2]; simp
theorem low_step{l:List U0'}(h:SrtA l)(u:U0')(i:Nat)(hi:i<l.length):(lowU u (l.take (i+1))).length=if ltA l[i] u then i+1 else (lowU u (l.take i)).length:=by
 have e:l.take (i+1)=l.take i++[l[i]]:=by simp
 rw[e]
 unfold lowU
 rw[List.filter_append,List.length_append]
 by_cases hu:ltA l[i] u
 ·have hall:(l.take i).filter (fun x=>decide (ltA x u))=l.take i:=by
   rw[List.filter_eq_self]
   intro x hx
   have hs:=h
   rw[←List.take_append_drop i l]at hs
   have:=(List.pairwise_append.1 hs).2.2 x hx l[i] (List.mem_of_getElem? (i:=0) (by rw[List.getElem?_drop]; simp[hi]))
   simp[ltA_tr this hu]
  rw[hall]; simp[hu]; omega
 ·simp[hu]
def insA(u:U0')(l:List U0'):List U0':=if u∈l then l else lowU u l++u::highU u l
theorem insA_mem(u:U0')(l:List U0')(x:U0'):x∈insA u l↔x=u∨x∈l:=by
 unfold insA lowU highU
 split
 ·rename_i h
  constructor
  ·exact .inr
  ·rintro(rfl|h')<;>assumption
 ·simp only[List.mem_append,List.mem_filter,List.mem_cons,decide_eq_true_eq,Bool.not_eq_true',decide_eq_false_iff_not]
  constructor
  ·rintro(h|h|h)
   ·exact .inr h.1
   ·exact .inl h
   ·exact .inr h.1
  ·rintro(h|h)
   ·exact .inr (.inl h)
   ·by_cases hx:ltA x u
    ·exact .inl ⟨h,hx⟩
    ·exact .inr (.inr ⟨h,hx⟩)
theorem insA_srt{u:U0'}{l:List U0'}(h:SrtA l):SrtA (insA u l):=by
 unfold insA
 split
 ·exact h
 ·rename_i hu
  refine List.pairwise_append.2 ⟨h.filter _,List.pairwise_cons.2 ⟨fun x hx=>?_,h.filter _⟩,fun a ha b hb=>?_⟩
  ·unfold highU at hx
   simp only[List.mem_filter,Bool.not_eq_true',decide_eq_false_iff_not]at hx
   by_cases hux:ltA u x
   ·exact hux
   ·exact absurd (yhe hux hx.2▸hx.1) hu
  ·unfold lowU at ha
   simp only[List.mem_filter,decide_eq_true_eq]at ha
   rcases List.mem_cons.1 hb with rfl|hb
   ·exact ha.2
   ·unfold highU at hb
    simp only[List.mem_filter,Bool.not_eq_true',decide_eq_false_iff_not]at hb
    by_cases hub:ltA u b
    ·exact ltA_tr ha.2 hub
    ·exact absurd (yhe hub hb.2▸hb.1) hu
theorem ymy:∀(l:List F0') (acc:List U0'),SrtA acc→SrtA (l.foldl (fun a x=>insA x.1 a) acc)∧∀u,u∈l.foldl (fun a x=>insA x.1 a) acc↔u∈acc∨∃x∈l,x.1=u
 |[],acc,h=>⟨h,fun u=>by simp⟩
 |x::l,acc,h=>by
  obtain⟨h1,h2⟩:=ymy l (insA x.1 acc) (insA_srt h)
  refine⟨h1,fun u=>?_⟩
  rw[List.foldl_cons,h2,insA_mem]
  constructor
  ·rintro((rfl|h)|⟨y,hy,e⟩)
   ·exact .inr ⟨x,by simp,rfl⟩
   ·exact .inl h
   ·exact .inr ⟨y,by simp[hy],e⟩
  ·rintro(h|⟨y,hy,e⟩)
   ·exact .inl (.inr h)
   ·rcases List.mem_cons.1 hy with rfl|hy
    ·exact .inl (.inl e.symm)
    ·exact .inr ⟨y,hy,e⟩
theorem ykr(l:List F0'):l.foldl (fun a x=>insA x.1 a) []=zci l:=by
 obtain⟨h1,h2⟩:=ymy l [] List.Pairwise.nil
 exact srt_ext h1 (zsa l) fun u=>by rw[h2,zzt]; simp
end Go.Proofs.YtllkmncnmlmefaaGreat
namespace Go.Vc
open Go Go.RowKit
variable {β:Type} {r:β}
theorem loop_ok{X:Type}{f:X→(X→Option β)→Option β}(μ:X→Nat)(R:X→Prop)(g:X→Option β)
  (h:∀z,R z→∀again:X→Option β,(∀z',R z'→μ z'<μ z→again z'=g z')→f z again=g z):∀(n:Nat) (z:X),R z→μ z<n→loopF n f z=g z
 |0,z,_,hm=>by omega
 |n+1,z,hz,hm=>h z hz _ fun z' hz' hm'=>loop_ok μ R g h n z' hz' (by omega)
theorem zdr{X:Type}{f:X→(X→Option β)→Option β}(μ:X→Nat)(R:X→Prop)(g:X→Option β){z:X}(hz:R z)(hm:μ z<18446744073709551616)
  (h:∀z,R z→∀again:X→Option β,(∀z',R z'→μ z'<μ z→again z'=g z')→f z again=g z):stdW.loop f z=g z:=
 loop_ok μ R g h FU z hz (by rw[FU_eq]; exact hm)
theorem both_eq(a:Option β):bothF a a=a:=by unfold bothF; exact if_pos rfl
theorem idx_eq{α:Type}{l:List α}{i:Nat}(h:i<l.length)(K:α→Option β):idxF l (i:Int) K=K l[i]:=by
 unfold idxF
 rw[Int.toNat_natCast,List.getElem?_eq_getElem h]
 simp
theorem nz_eq{b:Int}(h:b≠0)(K:Option β):nzF b K=K:=by unfold nzF; simp[h]
theorem nn_eq{b:Int}(h:0≤b)(K:Option β):nnF b K=K:=by unfold nnF; simp[h]
theorem yaf{n b:Nat}(h:n≤281474976710656)(h2:n*b≤140737488355328)(K:Option β):roomF n b K=K:=by unfold roomF; simp[h,h2]
theorem bnd_eq{i:Int}{n:Nat}(h:0≤i)(h2:i≤n)(K:Nat→Option β):bndF i n K=K i.toNat:=by unfold bndF; simp[h,h2]
theorem yms{X:Type}(k:X→Option β)(f:(X→Option β)→Option β):joinF k f=f k:=rfl
theorem ymn{e:Bool}{f:Bool→Option β}{b:Option β}(h0:f false=b)(h1:e=true→f true=b):nilF e f=b:=by
 unfold nilF
 cases e
 ·exact h0
 ·simp only[cond_true]; rw[h0,h1 rfl,both_eq]
end Go.Vc

namespace Go.Vc
open Go Go.RowKit
abbrev BigT := Bool × List Int × Unit
theorem zjx {α : Type} (l : List α) (i : Nat) (h : i < l.length) : l.drop i = l[i] :: l.drop (i + 1) := List.drop_eq_getElem_cons h
def bitsOf (n : Nat) : List Int := if h : n = 0 then [] else ((n % 2 : Nat) : Int) :: bitsOf (n / 2)
termination_by n
decreasing_by omega
theorem bits0 : bitsOf 0 = [] := by rw [bitsOf]; rfl
theorem bitsS {n : Nat} (h : n ≠ 0) : bitsOf n = ((n % 2 : Nat) : Int) :: bitsOf (n / 2) := by rw [bitsOf]; simp [h]
def valB : List Int → Nat
  | [] => 0
  | x :: l => x.toNat + 2 * valB l
def bitL (l : List Int) : Prop := ∀ x ∈ l, x = 0 ∨ x = 1
def Nrm (l : List Int) : Prop := bitsOf (valB l) = l
theorem zgh (n : Nat) : valB (bitsOf n) = n := by
  induction n using Nat.strongRecOn with
  | ind n ih =>
    by_cases h : n = 0
    · subst h; rw [bits0]; rfl
    · rw [bitsS h, valB, ih (n / 2) (by omega)]; omega
theorem ygz (n : Nat) : Nrm (bitsOf n) := by unfold Nrm; rw [zgh]
theorem zog (n : Nat) : bitL (bitsOf n) := by
  induction n using Nat.strongRecOn with
  | ind n ih =>
    by_cases h : n = 0
    · subst h; rw [bits0]; intro x hx; cases hx
    · rw [bitsS h]; intro x hx
      rcases List.mem_cons.1 hx with rfl | hx
      · omega
      · exact ih (n / 2) (by omega) x hx
theorem Nrm.bits {l : List Int} (h : Nrm l) : bitL l := h ▸ zog _
theorem zuj (k : Nat) : ∀ n, n < 2 ^ k → (bitsOf n).length ≤ k := by
  induction k with
  | zero => intro n h; have : n = 0 := by simp at h; exact h
            subst this; rw [bits0]; simp
  | succ k ih => intro n h; by_cases h0 : n = 0
                 · subst h0; rw [bits0]; simp
                 · rw [bitsS h0]; have := ih (n / 2) (by rw [Nat.pow_succ] at h; omega); simp; omega
theorem zgq {xs : List Int} {i x : Nat} (h : xs.drop i = bitsOf x) (hi : i < xs.length) : xs[i] = ((x % 2 : Nat) : Int) ∧ xs.drop (i + 1) = bitsOf (x / 2) ∧ x ≠ 0 := by
  have hx : x ≠ 0 := by rintro rfl; rw [bits0] at h; have := congrArg List.length h; simp at this; omega
  rw [zjx xs i hi, bitsS hx] at h
  exact ⟨(List.cons.inj h).1, (List.cons.inj h).2, hx⟩
theorem zqe {xs : List Int} {i x : Nat} (h : xs.drop i = bitsOf x) (hi : ¬ i < xs.length) : x = 0 := by
  by_cases h0 : x = 0
  · exact h0
  · rw [bitsS h0, List.drop_eq_nil_of_le (by omega)] at h; cases h
theorem zzb {xs : List Int} {i x : Nat} (h : xs.drop i = bitsOf x) : xs.drop (i + 1) = bitsOf (x / 2) := by
  by_cases hi : i < xs.length
  · exact (zgq h hi).2.1
  · rw [zqe h hi, List.drop_eq_nil_of_le (by omega)]; exact bits0.symm
theorem zoo : ∀ (a b : List Int), valB (a ++ b) = valB a + 2 ^ a.length * valB b
  | [], b => by simp [valB]
  | x :: a, b => by simp only [List.cons_append, valB, zoo a b, List.length_cons, Nat.pow_succ, Nat.mul_add]; rw [← Nat.mul_assoc 2, Nat.mul_comm 2 (2 ^ a.length)]; omega
theorem zvc : ∀ (a : List Int), bitL a → valB a < 2 ^ a.length
  | [], _ => by simp [valB]
  | x :: a, h => by
    have h1 := zvc a fun y hy => h y (by simp [hy])
    have := h x (by simp)
    simp only [valB, List.length_cons, Nat.pow_succ]; omega
theorem nrm_of : ∀ (l : List Int), bitL l → (∀ h : l ≠ [], l.getLast h = 1) → Nrm l ∧ (l ≠ [] → valB l ≠ 0)
  | [], _, _ => ⟨bits0, fun h => absurd rfl h⟩
  | x :: l, h, hl => by
    have hx := h x (by simp)
    have ih := nrm_of l (fun y hy => h y (by simp [hy])) (fun hn => by have := hl (by simp); rwa [List.getLast_cons hn] at this)
    have hv : valB (x :: l) ≠ 0 := by
      by_cases hn : l = []
      · subst hn; have := hl (by simp); simp at this; subst this; simp [valB]
      · have := ih.2 hn; simp only [valB]; omega
    refine ⟨?_, fun _ => hv⟩
    unfold Nrm; rw [bitsS hv]
    have h2 : valB (x :: l) / 2 = valB l := by simp only [valB]; omega
    have h3 : ((valB (x :: l) % 2 : Nat) : Int) = x := by simp only [valB]; omega
    rw [h2, h3, ih.1]
theorem bits_top : ∀ (n : Nat), n ≠ 0 → 2 ^ ((bitsOf n).length - 1) ≤ n := by
  intro n
  induction n using Nat.strongRecOn with
  | ind n ih =>
    intro h; rw [bitsS h]
    by_cases h2 : n / 2 = 0
    · rw [h2, bits0]; simp; omega
    · have h3 := ih (n / 2) (by omega) h2
      have h4 : (bitsOf (n / 2)).length ≠ 0 := by rw [bitsS h2]; simp
      have h5 : (bitsOf (n / 2)).length = (bitsOf (n / 2)).length - 1 + 1 := by omega
      simp only [List.length_cons, Nat.add_sub_cancel]
      rw [h5, Nat.pow_succ]; omega
theorem nrm_len {xs ys : List Int} (hx : Nrm xs) (hy : Nrm ys) (h : xs.length < ys.length) : valB xs < valB ys := by
  have h1 := zvc xs hx.bits
  have h2 : valB ys ≠ 0 := by intro h0; unfold Nrm at hy; rw [h0, bits0] at hy; subst hy; simp at h
  have h3 := bits_top _ h2
  unfold Nrm at hy; rw [hy] at h3
  have := Nat.pow_le_pow_right (n := 2) (by omega) (show xs.length ≤ ys.length - 1 by omega)
  omega
theorem zvb (xs : List Int) (i : Nat) (h : i ≤ xs.length) : valB xs = valB (xs.take i) + 2 ^ i * valB (xs.drop i) := by
  have := zoo (xs.take i) (xs.drop i)
  rw [List.take_append_drop, List.length_take, Nat.min_eq_left h] at this
  exact this
theorem zgd (xs : List Int) (i : Nat) (h : i < xs.length) : valB (xs.take (i + 1)) = valB (xs.take i) + 2 ^ i * (xs[i]).toNat := by
  rw [show xs.take (i + 1) = xs.take i ++ [xs[i]] by simp, zoo]
  simp [valB, Nat.min_eq_left (Nat.le_of_lt h)]
theorem ycj {xs : List Int} (h : bitL xs) (i : Nat) : bitL (xs.take i) := fun x hx => h x (List.mem_of_mem_take hx)
theorem valB_cmp {xs ys : List Int} (hx : bitL xs) (hy : bitL ys) {i : Nat} (h1 : i < xs.length) (h2 : i < ys.length) (hd : xs.drop (i + 1) = ys.drop (i + 1)) (hn : xs[i] ≠ ys[i]) : decide (valB xs < valB ys) = decide (xs[i] < ys[i]) := by
  rw [zvb xs (i + 1) (by omega), zvb ys (i + 1) (by omega), hd, zgd xs i h1, zgd ys i h2]
  have b1 := zvc _ (ycj hx i); have b2 := zvc _ (ycj hy i)
  rw [List.length_take, Nat.min_eq_left (by omega)] at b1 b2
  rcases hx _ (List.getElem_mem h1) with e1 | e1 <;> rcases hy _ (List.getElem_mem h2) with e2 | e2 <;> rw [e1, e2] at hn ⊢ <;> first | exact absurd rfl hn | (simp; omega)
def bitsK : Nat → Nat → List Int
  | 0, _ => []
  | k + 1, n => ((n % 2 : Nat) : Int) :: bitsK k (n / 2)
theorem bitL_K : ∀ k n, bitL (bitsK k n)
  | 0, _ => by intro x hx; cases hx
  | k + 1, n => by
    intro x hx; rcases List.mem_cons.1 hx with rfl | hx
    · omega
    · exact bitL_K k _ x hx
theorem valB_K : ∀ k n, n < 2 ^ k → valB (bitsK k n) = n
  | 0, n, h => by simp at h; subst h; rfl
  | k + 1, n, h => by rw [bitsK, valB, valB_K k (n / 2) (by rw [Nat.pow_succ] at h; omega)]; omega
theorem len_K : ∀ k n, (bitsK k n).length = k
  | 0, _ => rfl
  | k + 1, n => by rw [bitsK, List.length_cons, len_K k]
theorem u8_add (a b : Nat) (h : a + b < 256) : IntKind.u8.wrap ((a : Int) + (b : Int)) = ((a + b : Nat) : Int) := by
  have : (a : Int) + b = ((a + b : Nat) : Int) := by omega
  rw [this]; simp only [IntKind.wrap, IntKind.signed, IntKind.bits]; simp; omega
theorem u8_is (a : Nat) (h : a < 256) : IntKind.u8.wrap (a : Int) = (a : Int) := by simp only [IntKind.wrap, IntKind.signed, IntKind.bits]; simp; omega
theorem u8_half (a : Nat) (h : a < 256) : IntKind.u8.wrap ((a : Int).tdiv 2) = ((a / 2 : Nat) : Int) := by
  rw [Int.tdiv_eq_ediv_of_nonneg (by omega), show (a : Int) / 2 = ((a / 2 : Nat) : Int) by omega, u8_is _ (by omega)]
theorem zyk (a : Nat) : ((a : Int).tmod 2) = ((a % 2 : Nat) : Int) := by rw [Int.tmod_eq_emod_of_nonneg (by omega)]; omega
theorem sum_step {x y c : Nat} {A : Nat} {s : List Int} (h : bitsOf A = s ++ bitsOf (x + y + c)) (hn : x + y ≠ 0) : bitsOf A = (s ++ [((((c + x % 2 + y % 2 : Nat)) % 2 : Nat) : Int)]) ++ bitsOf (x / 2 + y / 2 + (c + x % 2 + y % 2) / 2) := by
  rw [h, bitsS (show x + y + c ≠ 0 by omega), List.append_assoc, List.singleton_append, show (x + y + c) % 2 = (c + x % 2 + y % 2) % 2 by omega, show (x + y + c) / 2 = x / 2 + y / 2 + (c + x % 2 + y % 2) / 2 by omega]
def bigS (g : Bool) (n : Nat) : BigT := (g && decide (0 < n), bitsOf n, ())
def big (z : Int) : BigT := (decide (z < 0), bitsOf z.natAbs, ())
def bv (x : BigT) : Int := if x.1 then -(valB x.2.1 : Int) else valB x.2.1
theorem bv_big (z : Int) : bv (big z) = z := by unfold bv big; simp only [zgh, decide_eq_true_eq]; split <;> omega
def Nb (x : BigT) : Prop := x = big (bv x)
theorem nb_big (z : Int) : Nb (big z) := by unfold Nb; rw [bv_big]
theorem K_step {L i x y c : Nat} {D : Nat} {s : List Int} (h : bitsK L D = s ++ bitsK (L - i) (x - y - c)) (hi : i < L) (hc : c ≤ 1) (hle : y + c ≤ x) :
    bitsK L D = (s ++ [(((x % 2 + 2 - (c + y % 2)) % 2 : Nat) : Int)]) ++ bitsK (L - (i + 1)) (x / 2 - y / 2 - (if x % 2 + 2 - (c + y % 2) < 2 then 1 else 0)) := by
  rw [h, show L - i = (L - (i + 1)) + 1 by omega, bitsK, List.append_assoc, List.singleton_append]
  have h1 : (x - y - c) % 2 = (x % 2 + 2 - (c + y % 2)) % 2 := by omega
  have h2 : (x - y - c) / 2 = x / 2 - y / 2 - (if x % 2 + 2 - (c + y % 2) < 2 then 1 else 0) := by split <;> omega
  rw [h1, h2]
theorem K_le {x y c : Nat} (hc : c ≤ 1) (hle : y + c ≤ x) : y / 2 + (if x % 2 + 2 - (c + y % 2) < 2 then 1 else 0) ≤ x / 2 := by split <;> omega
theorem u8_dif (e : Int) (x t : Nat) (he : e = ((x % 2 : Nat) : Int)) (ht : t ≤ 2) : IntKind.u8.wrap ((IntKind.u8.wrap ((e) + (2))) - ((t : Nat) : Int)) = ((x % 2 + 2 - t : Nat) : Int) := by
  subst he
  rw [show (((x % 2 : Nat) : Int)) + (2) = ((x % 2 + 2 : Nat) : Int) by omega, u8_is _ (by omega), show ((x % 2 + 2 : Nat) : Int) - ((t : Nat) : Int) = ((x % 2 + 2 - t : Nat) : Int) by omega, u8_is _ (by omega)]
theorem less_len {xs ys : List Int} (hx : Nrm xs) (hy : Nrm ys) (h : ¬ xs.length = ys.length) : decide (valB xs < valB ys) = decide ((xs.length : Int) < (ys.length : Int)) := by
  rcases Nat.lt_or_gt_of_ne h with h | h
  · have := nrm_len hx hy h; rw [decide_eq_true this, decide_eq_true (by omega)]
  · have := nrm_len hy hx h; rw [decide_eq_false (by omega), decide_eq_false (by omega)]
theorem zgy (i : Nat) (h : 0 < i) (h2 : i ≤ maxLen) : IntKind.i64.wrap (((i : Int)) - (1)) = ((i - 1 : Nat) : Int) := by
  rw [zat] at h2; rw [IntWalk.i64_in _ (by omega)]; omega
theorem trim_nrm {xs : List Int} {i : Nat} (h : bitL xs) (hi : i ≤ xs.length) (hl : i = 0 ∨ ∃ h : i - 1 < xs.length, ¬ xs[i - 1] = 0) : Nrm (xs.take i) ∧ (i ≠ 0 → valB (xs.take i) ≠ 0) := by
  rcases hl with rfl | ⟨hl, hn⟩
  · exact ⟨by simp only [List.take_zero]; exact bits0, fun h => absurd rfl h⟩
  · have h0 := nrm_of (xs.take i) (ycj h i) fun hne => by
      rw [List.getLast_eq_getElem]
      have : (xs.take i).length - 1 = i - 1 := by rw [List.length_take]; omega
      simp only [this, List.getElem_take]
      rcases h _ (List.getElem_mem hl) with e | e
      · exact absurd e hn
      · exact e
    refine ⟨h0.1, fun hi0 => h0.2 fun he => ?_⟩
    have := congrArg List.length he; rw [List.length_take, List.length_nil] at this; omega
theorem trim_eq {g : Bool} {xs : List Int} {i : Nat} (h : bitL xs) (hi : i ≤ xs.length) (hv : valB (xs.take i) = valB xs) (hl : i = 0 ∨ ∃ h : i - 1 < xs.length, ¬ xs[i - 1] = 0) : bigS g (valB xs) = (g && decide ((0 : Int) < (i : Int)), xs.take i, ()) := by
  obtain ⟨h1, h2⟩ := trim_nrm h hi hl
  unfold bigS; rw [← hv, h1]
  congr 2
  by_cases h0 : i = 0
  · subst h0; rfl
  · have := h2 h0; rw [decide_eq_true (by omega), decide_eq_true (by omega)]
theorem bigS_t (n : Nat) : bigS true n = big (-(n : Int)) := by unfold bigS big; rw [Int.natAbs_neg]; congr 1; simp
theorem bigS_f (n : Nat) : bigS false n = big (n : Int) := by unfold bigS big; congr 1
theorem nb_nrm {x : BigT} (h : Nb x) : Nrm x.2.1 := by rw [h]; exact ygz _
theorem bv_t {x : BigT} (h : x.1 = true) : bv x = -(valB x.2.1 : Int) := by simp [bv, h]
theorem bv_f {x : BigT} (h : x.1 = false) : bv x = (valB x.2.1 : Int) := by simp [bv, h]
theorem yck (g : Bool) (n : Nat) : bigS g n = big (if g = true then -(n : Int) else n) := by cases g <;> simp [bigS_t, bigS_f]
theorem add_same {x y : BigT} (h : x.1 = y.1) : big (bv x + bv y) = bigS x.1 (valB (bitsOf (valB x.2.1 + valB y.2.1))) := by
  rw [zgh, yck]; congr 1
  cases hx : x.1 <;> rw [hx] at h
  · rw [bv_f hx, bv_f h.symm]; simp
  · rw [bv_t hx, bv_t h.symm]; simp; omega
theorem K_val {a b : List Int} (h : Nrm a) : valB (bitsK a.length (valB a - valB b)) = valB a - valB b := valB_K _ _ (by have := zvc a h.bits; omega)
theorem add_less {x y : BigT} (hy : Nrm y.2.1) (h : ¬ x.1 = y.1) (hl : valB x.2.1 < valB y.2.1) : big (bv x + bv y) = bigS y.1 (valB (bitsK y.2.1.length (valB y.2.1 - valB x.2.1))) := by
  rw [K_val hy, yck]; congr 1
  cases hx : x.1 <;> cases hyn : y.1 <;> rw [hx, hyn] at h
  · exact absurd rfl h
  · rw [bv_f hx, bv_t hyn]; simp; omega
  · rw [bv_t hx, bv_f hyn]; simp; omega
  · exact absurd rfl h
theorem add_more {x y : BigT} (hx0 : Nrm x.2.1) (h : ¬ x.1 = y.1) (hl : ¬ valB x.2.1 < valB y.2.1) : big (bv x + bv y) = bigS x.1 (valB (bitsK x.2.1.length (valB x.2.1 - valB y.2.1))) := by
  rw [K_val hx0, yck]; congr 1
  cases hx : x.1 <;> cases hyn : y.1 <;> rw [hx, hyn] at h
  · exact absurd rfl h
  · rw [bv_f hx, bv_t hyn]; simp; omega
  · rw [bv_t hx, bv_f hyn]; simp; omega
  · exact absurd rfl h
theorem neg_is (x : BigT) : big (-(bv x)) = bigS (!(x.1)) (valB x.2.1) := by
  rw [yck]; congr 1
  cases hx : x.1
  · rw [bv_f hx]; simp
  · rw [bv_t hx]; simp
theorem neg_len {x : BigT} (h : Nb x) : (big (-(bv x))).2.1.length = x.2.1.length := by
  have h1 := congrArg (fun z => z.2.1.length) h
  simp only [big] at h1 ⊢; rw [Int.natAbs_neg, ← h1]
theorem len_big (z : Int) (h : z.natAbs < 2 ^ 200) : (big z).2.1.length ≤ 200 := zuj 200 _ h
theorem yqd (z : Int) : (big z).2.1.length = 0 ↔ z = 0 := by
  constructor
  · intro h
    have : (big z).2.1 = [] := List.length_eq_zero_iff.1 h
    have h1 := congrArg valB this; simp only [big, zgh] at h1; simp only [valB] at h1; omega
  · rintro rfl; simp [big, bits0]
theorem u64_id (z : Int) (h : 0 ≤ z ∧ z < 18446744073709551616) : IntKind.u64.wrap z = z := by simp only [IntKind.wrap, IntKind.signed, IntKind.bits]; simp; omega
theorem of_neg {z : Int} (h : z < 0) (h2 : -9223372036854775808 ≤ z) : IntKind.u64.wrap (IntKind.i64.wrap (0 - (IntKind.i64.wrap ((z) + (1))))) = -(z + 1) := by
  rw [IntWalk.i64_in (z + 1) (by omega), IntWalk.i64_in _ (by omega), u64_id _ (by omega)]; omega
theorem of_negB {z : Int} (h : z < 0) (h2 : -9223372036854775808 ≤ z) {n : Int} (hn : n = -(z + 1)) : big z = (true, bitsOf (valB (bigS false n.toNat).2.1 + valB [1]), ()) := by
  have h1 : valB (bigS false n.toNat).2.1 = n.toNat := zgh _
  have h3 : valB [1] = 1 := rfl
  rw [h1, h3]; unfold big
  rw [decide_eq_true h, show z.natAbs = n.toNat + 1 by omega]
theorem nrm1 : Nrm [1] := by unfold Nrm; show bitsOf 1 = [1]; rw [bitsS (by omega), bits0]; rfl
theorem zys(i:Nat)(h:i<9223372036854775807):IntKind.i64.wrap ((i:Int)+1)=((i+1:Nat):Int):=by rw[IntWalk.i64_in _ (by omega)]; omega
theorem u64_half(a:Nat)(h:a<18446744073709551616):IntKind.u64.wrap ((a:Int).tdiv 2)=((a / 2:Nat):Int):=by
 rw[Int.tdiv_eq_ediv_of_nonneg (by omega),show (a:Int) / 2=((a / 2:Nat):Int) by omega]; exact u64_id _ (by omega)
noncomputable def natW(W:Wd)(u:Int):Option BigT:=
 W.loop (fun (z1:Int×List (Int)×Unit) again2=>
 W.cnd (decide (0<z1.1)) (W.nz 2 (W.room (z1.2.1.length+((IntKind.u8.wrap (Int.tmod z1.1 2))::[]).length) 1 (W.nz 2 ((again2 ((IntKind.u64.wrap (Int.tdiv z1.1 2)),((z1.2.1++((IntKind.u8.wrap (Int.tmod z1.1 2))::[])),())))))))
  (some (false,(z1.2.1,()))))
 (u,([],()))
theorem nat_is(u:Nat)(hu:u<18446744073709551616):natW stdW u=some (bigS false u):=by
 unfold natW
 have:=zdr (β:=BigT) (f:=fun (z1:Int×List (Int)×Unit) again2=>
  stdW.cnd (decide (0<z1.1)) (stdW.nz 2 (stdW.room (z1.2.1.length+((IntKind.u8.wrap (Int.tmod z1.1 2))::[]).length) 1 (stdW.nz 2 ((again2 ((IntKind.u64.wrap (Int.tdiv z1.1 2)),((z1.2.1++((IntKind.u8.wrap (Int.tmod z1.1 2))::[])),())))))))
   (some (false,(z1.2.1,())))) (z:=((u:Int),([],()))) (fun z=>z.1.toNat) (fun z=>0≤z.1∧z.1<18446744073709551616∧z.2.1.length+(bitsOf z.1.toNat).length≤64) (fun z=>some (false,z.2.1++bitsOf z.1.toNat,()))
  (by simp only[List.length_nil,Nat.zero_add,Int.toNat_natCast]; exact⟨by omega,by omega,zuj 64 _ (by omega)⟩) (by simpa using hu) ?_
 ·rw[this]; simp[bigS]
 ·rintro⟨a,s,⟨⟩⟩ ⟨h0,h1,h2⟩ again ha
  obtain⟨n,rfl⟩:=Int.eq_ofNat_of_zero_le h0
  simp only[Int.toNat_natCast]at h2 ha h1 ⊢
  by_cases hn:n=0
  ·subst hn; simp[bits0]
  ·have hd:decide ((0:Int)<(n:Int))=true:=decide_eq_true (by omega)
   rw[bitsS hn]at h2 ⊢
   simp only[List.length_cons]at h2
   rw[hd]
   simp only[cond_true]
   rw[nz_eq (by omega),yaf (by simp; omega) (by simp; omega),nz_eq (by omega),u64_half n (by omega),zyk,u8_is _ (by omega)]
   rw[ha _ (by simp only[Int.toNat_natCast,List.length_append,List.length_singleton]; exact⟨by omega,by omega,by omega⟩) (by simp only[Int.toNat_natCast]; omega)]
   simp only[Int.toNat_natCast,List.append_assoc,List.singleton_append]
noncomputable def plusW(W:Wd)(a:List Int)(b:List Int):Option (List Int):=
 W.loop (fun (z1:Int×Int×List (Int)×Unit) again2=>
 W.join (fun (z3:List (Int)×Unit)=>
  W.join (fun (z4:Int×List (Int)×Unit)=>
  W.join (fun (z5:Int×List (Int)×Unit)=>W.nz 2 (W.room (z5.2.1.length+((Int.tmod z5.1 2)::[]).length) 1 (W.nz 2 ((again2 ((IntKind.u8.wrap (Int.tdiv z5.1 2)),((IntKind.i64.wrap (z1.2.1+1)),((z5.2.1++((Int.tmod z5.1 2)::[])),()))))))))
   fun k6=>
   W.cnd (decide (z1.2.1<(b.length:Int))) (W.idx b z1.2.1 fun x7=>(k6 ((IntKind.u8.wrap (z4.1+x7)),(z4.2.1,()))))
   ((k6 (z4.1,(z4.2.1,())))))
  fun k8=>
  W.cnd (decide (z1.2.1<(a.length:Int))) (W.idx a z1.2.1 fun x9=>(k8 ((IntKind.u8.wrap (z1.1+x9)),(z3.1,()))))
   ((k8 (z1.1,(z3.1,())))))
  fun k10=>
  W.cnd (decide (z1.2.1<(a.length:Int))) ((k10 (z1.2.2.1,())))
  (
  W.cnd (decide (z1.2.1<(b.length:Int))) ((k10 (z1.2.2.1,())))
   (
   W.join (fun (z11:List (Int)×Unit)=>some z11.1)
   fun k12=>
   W.cnd (decide (0<z1.1)) (W.room (z1.2.2.1.length+(z1.1::[]).length) 1 ((k12 ((z1.2.2.1++(z1.1::[])),()))))
    ((k12 (z1.2.2.1,()))))))
 (0,(0,([],())))
theorem plus_is{xs ys:List Int}(hx:Nrm xs)(hy:Nrm ys)(lx:xs.length≤1000)(ly:ys.length≤1000):plusW stdW xs ys=some (bitsOf (valB xs+valB ys)):=by
 unfold plusW
 refine(zdr (fun z=>2001 - z.2.1.toNat) (fun z=>∃(i x y c:Nat) (s:List Int),z=((c:Int),(i:Int),s,())∧xs.drop i=bitsOf x∧ys.drop i=bitsOf y∧c≤1∧bitsOf (valB xs+valB ys)=s++bitsOf (x+y+c)∧s.length=i∧i≤1000)
  (fun _=>some (bitsOf (valB xs+valB ys))) ⟨0,valB xs,valB ys,0,[],rfl,(by rw[List.drop_zero]; exact hx.symm),(by rw[List.drop_zero]; exact hy.symm),by omega,by simp,rfl,by omega⟩ (by simp) ?_)
 rintro _ ⟨i,x,y,c,s,rfl,hdx,hdy,hc,hsum,hsl,hi⟩ again ha
 simp only[yms]
 have go:∀(u v:Nat),(x % 2=u)→(y % 2=v)→(i<xs.length∨i<ys.length)→nzF 2 (roomF (s.length+[Int.tmod ((c+u+v:Nat):Int) 2].length) 1 (nzF 2 (again (IntKind.u8.wrap (Int.tdiv ((c+u+v:Nat):Int) 2),IntKind.i64.wrap ((i:Int)+1),s++[Int.tmod ((c+u+v:Nat):Int) 2],()))))=some (bitsOf (valB xs+valB ys)):=by
  intro u v hu hv hlt
  have hn:x+y≠0:=by
   rcases hlt with h|h
   ·have:=(zgq hdx h).2.2; omega
   ·have:=(zgq hdy h).2.2; omega
  rw[nz_eq (by omega),yaf (by simp; omega) (by simp; omega),nz_eq (by omega),u8_half _ (by omega),zyk,zys i (by omega)]
  refine ha _ ⟨i+1,x / 2,y / 2,(c+x % 2+y % 2) / 2,s++[(((c+x % 2+y % 2) % 2:Nat):Int)],?_,zzb hdx,zzb hdy,by omega,?_,by simp[hsl],by omega⟩ (by show 2001 - ((i+1:Nat):Int).toNat<2001 - ((i:Nat):Int).toNat; omega)
  ·subst hu; subst hv; rfl
  ·subst hu; subst hv; exact sum_step hsum hn
 by_cases h1:i<xs.length
 ·have d1:decide ((i:Int)<(xs.length:Int))=true:=decide_eq_true (by omega)
  simp only[d1,cond_true]
  rw[idx_eq h1,(zgq hdx h1).1]
  by_cases h2:i<ys.length
  ·have d2:decide ((i:Int)<(ys.length:Int))=true:=decide_eq_true (by omega)
   simp only[d2,cond_true]
   rw[idx_eq h2,(zgq hdy h2).1,u8_add c _ (by omega),u8_add _ _ (by omega)]
   exact go _ _ rfl rfl (.inl h1)
  ·have d2:decide ((i:Int)<(ys.length:Int))=false:=decide_eq_false (by omega)
   simp only[d2,cond_false]
   rw[u8_add c _ (by omega)]
   have:=go (x % 2) 0 rfl (by rw[zqe hdy h2]) (.inl h1)
   simpa using this
 ·have d1:decide ((i:Int)<(xs.length:Int))=false:=decide_eq_false (by omega)
  simp only[d1,cond_false]
  by_cases h2:i<ys.length
  ·have d2:decide ((i:Int)<(ys.length:Int))=true:=decide_eq_true (by omega)
   simp only[d2,cond_true]
   rw[idx_eq h2,(zgq hdy h2).1,u8_add c _ (by omega)]
   have:=go 0 (y % 2) (by rw[zqe hdx h1]) rfl (.inr h2)
   simpa using this
  ·have d2:decide ((i:Int)<(ys.length:Int))=false:=decide_eq_false (by omega)
   simp only[d2,cond_false]
   rw[hsum,zqe hdx h1,zqe hdy h2]
   by_cases h3:c=0
   ·subst h3; simp[bits0]
   ·have:c=1:=by omega
    subst this
    rw[yaf (by simp; omega) (by simp; omega)]
    simp[bitsS,bits0]
noncomputable def lessW(W:Wd)(a:List Int)(b:List Int):Option Bool:=
 W.cnd ((a.length:Int) != (b.length:Int)) (some (decide ((a.length:Int)<(b.length:Int))))
 (
 W.loop (fun (z1:Int×Unit) again2=>
  W.cnd (decide (0<z1.1)) (W.idx a (IntKind.i64.wrap (z1.1 - 1)) fun x3=>W.idx b (IntKind.i64.wrap (z1.1 - 1)) fun x4=>
  W.cnd (x3 != x4) (W.idx a (IntKind.i64.wrap (z1.1 - 1)) fun x5=>W.idx b (IntKind.i64.wrap (z1.1 - 1)) fun x6=>some (decide (x5<x6)))
   ((again2 ((IntKind.i64.wrap (z1.1 - 1)),()))))
  (some false))
  ((a.length:Int),()))
theorem less_is{xs ys:List Int}(hx:Nrm xs)(hy:Nrm ys)(lx:xs.length≤1000)(ly:ys.length≤1000):lessW stdW xs ys=some (decide (valB xs<valB ys)):=by
 unfold lessW
 by_cases hl:xs.length=ys.length
 ·have e0:((xs.length:Int) != (ys.length:Int))=false:=by simp[hl]
  simp only[e0,cond_false]
  refine(zdr (fun z=>z.1.toNat) (fun z=>∃i:Nat,z=((i:Int),())∧i≤xs.length∧xs.drop i=ys.drop i) (fun _=>some (decide (valB xs<valB ys))) ⟨xs.length,rfl,Nat.le_refl _,by rw[List.drop_eq_nil_of_le (Nat.le_refl _),List.drop_eq_nil_of_le (by omega)]⟩ (by simp only[Int.toNat_natCast]; omega) ?_)
  rintro _ ⟨i,rfl,hi,hd⟩ again ha
  by_cases h0:i=0
  ·subst h0
   rw[List.drop_zero,List.drop_zero]at hd
   subst hd
   simp
  ·have d0:decide ((0:Int)<(i:Int))=true:=decide_eq_true (by omega)
   simp only[d0,cond_true]
   have hm:i - 1<xs.length:=by omega
   have hm':i - 1<ys.length:=by omega
   have he:i - 1+1=i:=by omega
   rw[zgy i (by omega) (by rw[zat]; omega),idx_eq hm,idx_eq hm']
   by_cases hq:xs[i - 1]=ys[i - 1]
   ·have e1:(xs[i - 1] != ys[i - 1])=false:=by simp[hq]
    rw[e1]
    simp only[cond_false]
    refine ha _ ⟨i - 1,rfl,by omega,?_⟩ (by show ((i - 1:Nat):Int).toNat<(i:Int).toNat; omega)
    rw[zjx xs _ hm,zjx ys _ hm',hq,he,hd]
   ·have e1:(xs[i - 1] != ys[i - 1])=true:=by simp[hq]
    rw[e1]
    simp only[cond_true]
    rw[idx_eq hm,idx_eq hm',valB_cmp hx.bits hy.bits hm hm' (by rw[he]; exact hd) hq]
 ·have e0:((xs.length:Int) != (ys.length:Int))=true:=by simp; omega
  simp only[e0,cond_true]
  rw[less_len hx hy hl]
noncomputable def minusW(W:Wd)(a:List Int)(b:List Int):Option (List Int):=
 W.loop (fun (z1:Int×Int×List (Int)×Unit) again2=>
 W.cnd (decide (z1.2.1<(a.length:Int))) (
  W.join (fun (z3:Int×List (Int)×Unit)=>W.idx a z1.2.1 fun x4=>
  W.join (fun (z5:Int×List (Int)×Unit)=>W.nz 2 (W.room (z5.2.1.length+((Int.tmod (IntKind.u8.wrap ((IntKind.u8.wrap (x4+2)) - z3.1)) 2)::[]).length) 1 ((again2 (z5.1,((IntKind.i64.wrap (z1.2.1+1)),((z5.2.1++((Int.tmod (IntKind.u8.wrap ((IntKind.u8.wrap (x4+2)) - z3.1)) 2)::[])),())))))))
   fun k6=>
   W.cnd (decide ((IntKind.u8.wrap ((IntKind.u8.wrap (x4+2)) - z3.1))<2)) ((k6 (1,(z3.2.1,()))))
   ((k6 (0,(z3.2.1,())))))
  fun k7=>
  W.cnd (decide (z1.2.1<(b.length:Int))) (W.idx b z1.2.1 fun x8=>(k7 ((IntKind.u8.wrap (z1.1+x8)),(z1.2.2.1,()))))
   ((k7 (z1.1,(z1.2.2.1,())))))
  (some z1.2.2.1))
 (0,(0,([],())))
theorem minus_is{xs ys:List Int}(hx:Nrm xs)(hy:Nrm ys)(lx:xs.length≤1000)(hle0:valB ys≤valB xs):minusW stdW xs ys=some (bitsK xs.length (valB xs - valB ys)):=by
 unfold minusW
 refine(zdr (fun z=>2001 - z.2.1.toNat) (fun z=>∃(i x y c:Nat) (s:List Int),z=((c:Int),(i:Int),s,())∧xs.drop i=bitsOf x∧ys.drop i=bitsOf y∧c≤1∧y+c≤x∧bitsK xs.length (valB xs - valB ys)=s++bitsK (xs.length - i) (x - y - c)∧s.length=i∧i≤xs.length)
  (fun _=>some (bitsK xs.length (valB xs - valB ys))) ⟨0,valB xs,valB ys,0,[],rfl,(by rw[List.drop_zero]; exact hx.symm),(by rw[List.drop_zero]; exact hy.symm),by omega,by omega,by simp,rfl,by omega⟩ (by simp) ?_)
 rintro _ ⟨i,x,y,c,s,rfl,hdx,hdy,hc,hle,hsum,hsl,hi⟩ again ha
 simp only[yms]
 by_cases h1:i<xs.length
 ·have d1:decide ((i:Int)<(xs.length:Int))=true:=decide_eq_true (by omega)
  simp only[d1,cond_true]
  have go:∀(t:Nat),t=c+y % 2→(idxF xs (i:Int) fun x4=>bif decide (IntKind.u8.wrap (IntKind.u8.wrap (x4+2) - (t:Int))<2) then
    (nzF 2 (roomF (s.length+[Int.tmod (IntKind.u8.wrap (IntKind.u8.wrap (x4+2) - (t:Int))) 2].length) 1 (again (1,IntKind.i64.wrap ((i:Int)+1),s++[Int.tmod (IntKind.u8.wrap (IntKind.u8.wrap (x4+2) - (t:Int))) 2],())))) else
    (nzF 2 (roomF (s.length+[Int.tmod (IntKind.u8.wrap (IntKind.u8.wrap (x4+2) - (t:Int))) 2].length) 1 (again (0,IntKind.i64.wrap ((i:Int)+1),s++[Int.tmod (IntKind.u8.wrap (IntKind.u8.wrap (x4+2) - (t:Int))) 2],())))))=some (bitsK xs.length (valB xs - valB ys)):=by
   intro t ht
   rw[idx_eq h1,u8_dif _ x t (zgq hdx h1).1 (by omega),zyk,zys i (by omega)]
   have st:=K_step hsum h1 hc hle
   rw[←ht]at st
   have kl:=K_le (x:=x) (y:=y) hc hle
   rw[←ht]at kl
   have fin:∀c':Nat,c'=(if x % 2+2 - t<2 then 1 else 0)→nzF 2 (roomF (s.length+[(((x % 2+2 - t) % 2:Nat):Int)].length) 1 (again ((c':Int),((i+1:Nat):Int),s++[(((x % 2+2 - t) % 2:Nat):Int)],())))=some (bitsK xs.length (valB xs - valB ys)):=by
    intro c' hc'
    rw[nz_eq (by omega),yaf (by simp; omega) (by simp; omega)]
    refine ha _ ⟨i+1,x / 2,y / 2,c',s++[(((x % 2+2 - t) % 2:Nat):Int)],rfl,zzb hdx,zzb hdy,by rw[hc']; split<;>omega,by rw[hc']; exact kl,by rw[hc']; exact st,by simp[hsl],by omega⟩ (by show 2001 - ((i+1:Nat):Int).toNat<2001 - ((i:Nat):Int).toNat; omega)
   by_cases h2:x % 2+2 - t<2
   ·have d2:decide (((x % 2+2 - t:Nat):Int)<2)=true:=decide_eq_true (by omega)
    rw[d2]; exact fin 1 (by rw[if_pos h2])
   ·have d2:decide (((x % 2+2 - t:Nat):Int)<2)=false:=decide_eq_false (by omega)
    rw[d2]; exact fin 0 (by rw[if_neg h2])
  by_cases h2:i<ys.length
  ·have d2:decide ((i:Int)<(ys.length:Int))=true:=decide_eq_true (by omega)
   simp only[d2,cond_true]
   rw[idx_eq h2,(zgq hdy h2).1,u8_add c _ (by omega)]
   exact go _ rfl
  ·have d2:decide ((i:Int)<(ys.length:Int))=false:=decide_eq_false (by omega)
   simp only[d2,cond_false]
   exact go c (by rw[zqe hdy h2]; simp)
 ·have d1:decide ((i:Int)<(xs.length:Int))=false:=decide_eq_false (by omega)
  simp only[d1,cond_false]
  rw[hsum,show xs.length - i=0 by omega]
  simp[bitsK]
noncomputable def trimW(W:Wd)(neg:Bool)(b:List Int):Option BigT:=
 W.join (fun (z1:Int×Unit)=>
 W.cnd neg (W.bnd z1.1 b.length fun h2=>some ((decide (0<z1.1)),((b.take h2),())))
  (W.bnd z1.1 b.length fun h3=>some (false,((b.take h3),()))))
 fun k4=>
 W.loop (fun (z5:Int×Unit) again6=>
  W.cnd (decide (0<z5.1)) (W.idx b (IntKind.i64.wrap (z5.1 - 1)) fun x7=>
  W.cnd (x7==0) ((again6 ((IntKind.i64.wrap (z5.1 - 1)),())))
   ((k4 z5)))
  ((k4 z5)))
  ((b.length:Int),())
theorem trim_is{g:Bool}{xs:List Int}(h:bitL xs)(lx:xs.length≤1000):trimW stdW g xs=some (bigS g (valB xs)):=by
 unfold trimW
 simp only[yms]
 refine(zdr (fun z=>z.1.toNat) (fun z=>∃i:Nat,z=((i:Int),())∧i≤xs.length∧valB (xs.take i)=valB xs) (fun _=>some (bigS g (valB xs))) ⟨xs.length,rfl,Nat.le_refl _,by rw[List.take_length]⟩ (by simp only[Int.toNat_natCast]; omega) ?_)
 rintro _ ⟨i,rfl,hi,hv⟩ again ha
 have out:(i=0∨∃h:i - 1<xs.length,¬xs[i - 1]=0)→(bif g then bndF (i:Int) xs.length fun h2=>some (decide ((0:Int)<(i:Int)),xs.take h2,()) else bndF (i:Int) xs.length fun h3=>some (false,xs.take h3,()))=some (bigS g (valB xs)):=by
  intro hl
  rw[bnd_eq (by omega) (by omega),bnd_eq (by omega) (by omega),Int.toNat_natCast,trim_eq h hi hv hl]
  cases g<;>rfl
 by_cases h0:i=0
 ·have d0:decide ((0:Int)<(i:Int))=false:=decide_eq_false (by omega)
  rw[d0]at out ⊢
  exact out (.inl h0)
 ·have d0:decide ((0:Int)<(i:Int))=true:=decide_eq_true (by omega)
  rw[d0]at out ⊢
  have hm:i - 1<xs.length:=by omega
  simp only[cond_true]
  rw[zgy i (by omega) (by rw[zat]; omega),idx_eq hm]
  by_cases hq:xs[i - 1]=0
  ·have e1:(xs[i - 1]==0)=true:=by simp[hq]
   rw[e1]
   simp only[cond_true]
   refine ha _ ⟨i - 1,rfl,by omega,?_⟩ (by show ((i - 1:Nat):Int).toNat<(i:Int).toNat; omega)
   have:=zgd xs (i - 1) hm
   rw[show i - 1+1=i by omega,hv,hq]at this
   simpa using this.symm
  ·have e1:(xs[i - 1]==0)=false:=by simp[hq]
   rw[e1]
   simp only[cond_false]
   exact out (.inr ⟨hm,hq⟩)
end Go.Vc
namespace Go.Vc
open Go Go.RowKit Go.Lib
theorem zfl (b : Nat) (vs : List Value) (o : Nat) (w : World) (h : ∀ j, j < vs.length → (w.cell? ⟨b, o + j, none⟩).isSome = true) (k : Nat) (hk : (w.cell? ⟨b, k, none⟩).isSome = true) : ((w.setCells b o vs).cell? ⟨b, k, none⟩).isSome = true := by
  by_cases hin : o ≤ k ∧ k < o + vs.length
  · have := World.cell?_setCells_in b vs o w h (k - o) (by omega)
    rw [show o + (k - o) = k by omega] at this
    rw [this]; rfl
  · rw [World.cell?_setCells_out b vs o w ⟨b, k, none⟩ (fun _ _ => by show k < o ∨ o + vs.length ≤ k; omega)]
    exact hk
theorem yab {P : Program} (w : World) (t e ty : TypeId) (z : Value) (ht : P.underlying t = some (.slice e)) (hv : ∀ w, (zeroValue e).run P w = .ok z w) (b o n c : Nat) (hn : 0 < n)
    (hc : ∀ j, j < (Builtin.zeroCells z.cells n).toList.length → (w.cell? ⟨b, o + j, none⟩).isSome = true) (hf : ∀ j, j < (Builtin.zeroCells z.cells n).toList.length → w.frozen? ⟨b, o + j, none⟩ = false) (h1 : ∀ v ∈ (Builtin.zeroCells z.cells n).toList, v.oneCell' = true) :
    (Builtin.clear_ #[t] ty #[.slice (some ⟨b, o, none⟩) n c]).run P w = .ok (.tuple #[]) (w.setCells b o (Builtin.zeroCells z.cells n).toList) := by
  have hst := run_storeCells_cells (P := P) b o (Builtin.zeroCells z.cells n).toList 0 w (by simpa using hc) (by simpa using hf) h1
  simp only [Nat.add_zero] at hst
  obtain ⟨m, rfl⟩ : ∃ m, n = m + 1 := ⟨n - 1, by omega⟩
  simp [Builtin.clear_, run_underlying ht, hv, hst]
end Go.Vc
namespace Go.Proofs.YtllkmncnmlmefaaGreat
open Go Go.Vc Go.RowKit Go.Lib Go.Sort Go.Proofs
theorem zoc : ElemOk Tryz.prog 29 50 3 40 := ybz (by kernel_rfl) (by kernel_rfl) (by decide)
theorem undPos : Tryz.prog.underlying 29 = some (.slice 50) := by kernel_rfl
def zPos : Value := .agg #[.int .i64 0, .int .i64 0, .slice none 0 0]
theorem zvPos (w : World) : (zeroValue 50).run Tryz.prog w = .ok zPos w := by kernel_rfl
theorem yfi (n : Nat) : (Builtin.zeroCells zPos.cells n).toList.length = n * 3 := by simp [zPos, Builtin.zeroCells, Value.cells]
theorem zPos_one (n : Nat) : ∀ v ∈ (Builtin.zeroCells zPos.cells n).toList, v.oneCell' = true := by
  intro v hv
  simp only [zPos, Builtin.zeroCells, Value.cells, Array.toList_map, List.mem_map] at hv
  obtain ⟨k, _, rfl⟩ := hv
  have : k % 3 = 0 ∨ k % 3 = 1 ∨ k % 3 = 2 := by omega
  rcases this with h | h | h <;> simp [h] <;> rfl
set_option maxHeartbeats 4000000 in
set_option maxRecDepth 1000000 in
theorem del_raw (g n c i j : Nat) (us : List Value) (w : World) (hl : us.length = n * 3) (hc : ∀ t u, us[t]? = some u → w.cell? ⟨g, t, none⟩ = some u) (h1 : ∀ u ∈ us, u.oneCell' = true)
    (hf : ∀ t, w.frozen? ⟨g, t, none⟩ = false) (hij : i < j) (hj : j ≤ n) (hn : n ≤ c) (_ : c ≤ 9223372036854775807) :
    Calls Tryz.prog 263 #[.slice (some ⟨g, 0, none⟩) n c, .int .i64 i, .int .i64 j] w fun e w' => e = .returned (.slice (some ⟨g, 0, none⟩) (i + (n - j)) c) ∧
      w' = (w.drew.setCells g (0 + i * 3) (us.drop (j * 3))).setCells g ((i + (n - j)) * 3) (Builtin.zeroCells zPos.cells (n - (i + (n - j)))).toList := by
  obtain ⟨i0, z0, hi0, hz0, hz1, hby, hzs⟩ := zoc.info
  have hlen : (us.drop (j * 3)).length = (n - j) * 3 := by rw [List.length_drop, hl, Nat.sub_mul]
  obtain ⟨news, hnews⟩ : ∃ news, news = us.drop (j * 3) := ⟨_, rfl⟩
  rw [← hnews] at hlen ⊢
  have hget : ∀ t u, news[t]? = some u → w.cell? ⟨g, j * 3 + t, none⟩ = some u := fun t u h => hc _ _ (by rw [hnews, List.getElem?_drop] at h; exact h)
  obtain ⟨A, hA, hsrc⟩ : ∃ A : Addr, (if c = j then some (⟨g, 0, none⟩ : Addr) else some ⟨g, j * 3, none⟩) = some A ∧ Hid (∀ t u, news[t]? = some u → w.drew.cell? (A.add t) = some u) := by
    by_cases h : c = j
    · refine ⟨⟨g, 0, none⟩, by simp [h], fun t u hu => ?_⟩
      have h0 : news.length = 0 := by rw [hlen]; have : n - j = 0 := by omega
                                      rw [this, Nat.zero_mul]
      rw [List.length_eq_zero_iff.1 h0] at hu
      simp at hu
    · refine ⟨⟨g, j * 3, none⟩, by simp [h], fun t u hu => ?_⟩
      rw [Addr.add_lit]
      exact hget t u hu
  have s1 : Hid (news.length = (n - j) * 3) := hlen
  have s2 : Hid (∀ u ∈ news, u.oneCell' = true) := fun u hu => h1 u (by rw [hnews] at hu; exact List.mem_of_mem_drop hu)
  have hall : ∀ t, t < n * 3 → (w.cell? ⟨g, t, none⟩).isSome = true := fun t ht => by rw [hc t _ (List.getElem?_eq_getElem (by omega))]; rfl
  have s3 : Hid (∀ t, t < news.length → (w.drew.cell? ⟨g, 0 + i * 3 + t, none⟩).isSome = true ∧ w.drew.frozen? ⟨g, 0 + i * 3 + t, none⟩ = false) := fun t ht => ⟨hall _ (by omega), hf _⟩
  obtain ⟨W1, hW1⟩ : ∃ W1, W1 = w.drew.setCells g (0 + i * 3) news := ⟨_, rfl⟩
  have hs1 : ∀ t, t < n * 3 → (W1.cell? ⟨g, t, none⟩).isSome = true := fun t ht => by
    rw [hW1]
    exact zfl g news (0 + i * 3) w.drew (fun t ht => hall _ (by omega)) _ (hall t ht)
  have hf1 : ∀ t, W1.frozen? ⟨g, t, none⟩ = false := fun t => by rw [hW1, World.frozen?_setCells]; exact hf t
  have hcl : ∀ ty, (Builtin.clear_ #[29] ty #[.slice (some ⟨g, (i + (n - j)) * 3, none⟩) (n - (i + (n - j))) (c - (i + (n - j)))]).run Tryz.prog W1 = .ok (.tuple #[]) (W1.setCells g ((i + (n - j)) * 3) (Builtin.zeroCells zPos.cells (n - (i + (n - j)))).toList) := fun ty => by
    have := yab W1 29 50 ty zPos undPos zvPos g ((i + (n - j)) * 3) (n - (i + (n - j))) (c - (i + (n - j))) (by omega) (fun t ht => hs1 _ (by rw [yfi] at ht; omega)) (fun t _ => hf1 _) (zPos_one _)
    exact this
  obtain ⟨W2, hW2⟩ : ∃ W2, W2 = W1.setCells g ((i + (n - j)) * 3) (Builtin.zeroCells zPos.cells (n - (i + (n - j)))).toList := ⟨_, rfl⟩
  have X : Hid (W1 = w.drew.setCells g (0 + i * 3) news) := hW1
  have mixed := zvq
  have hic : i ≤ c := by omega
  have hjc : j ≤ c := by omega
  rw [← hW1, ← hW2]
  rw [← hW2] at hcl
  clear hW1 hW2 hs1 hf1 hall hget hnews hlen hc hf h1 hl
  go_enter Tryz.func263, Tryz.ntmps263
  go_wp2_with fail
  go_region_law_o (refine step_append_room rfl (.tmp 22) (.tmp 25) 29 rfl 50 i0 3 undPos hi0 hz1 g 0 i c (by simp [Act.eval, Act.put]) A (n - j) (c - j) news (by simp [Act.eval, Act.put]) s1.out hsrc.out s2.out (by omega) s3.out ?_; rw [← X.out])
  go_wp2
  go_ret
  exact ⟨rfl, rfl⟩
end Go.Proofs.YtllkmncnmlmefaaGreat

namespace Go.Vc
open Go Go.RowKit Go.Lib
theorem zxm{P:Program}(w:World)(tS tR e:TypeId)(ht:P.underlying tS=some (.slice e))(size:Nat)(hz:∀w,(Go.sizeOf e).run P w=.ok size w)
  (a b:Addr) (la ca lb cb:Nat) (hne:a.block≠b.block) (u:Value) (j:Nat) (hc:w.cell? (a.add j)=some u) (cur:Array Value) (eb:TypeId) (hb:w.heap[b.block]?=some (.cells cur eb (0,0))):
  (Extern.SlicesOverlaps.overlaps #[tS,tS] #[tR] #[.slice (some a) la ca,.slice (some b) lb cb]).run P w=.ok (.bool false) w:=by
 have hnb:(a.block != b.block)=true:=by simpa using hne
 have hnb':(a.block==b.block)=false:=by simpa using hne
 obtain⟨ca',ea,fa,ha,h0⟩:∃ca' ea fa,w.heap[a.block]?=some (.cells ca' ea fa)∧0<ca'.size:=by
  unfold World.cell? at hc
  rw[zbv]at hc
  split at hc
  ·rename_i c e f h
   refine⟨c,e,f,h,?_⟩
   split at hc
   ·cases hc
   ·have:=(Array.getElem?_eq_some_iff.1 hc).1; omega
  ·cases hc
 have hsa:w.shape? a.block=some (ea,ca'.size):=by simp[World.shape?,ha]
 have hsb:w.shape? b.block=some (eb,cur.size):=by simp[World.shape?,hb]
 have hfb:w.frozen? b=false:=by simp[World.frozen?,hb]
 have hfb2:w.frozen? { block:=b.block,off:=cur.size }=false:=by simp[World.frozen?,hb]
 change Sem.run P (α:=Value) (do
  let some t:=(#[tS,tS]:Array TypeId)[0]? | stuck "slices.overlaps: no parameter types"
  let .slice elem ←underlying t|stuck "slices.overlaps: slice type expected"
  let size ←sizeOf elem
  match (some a:Option Addr),(some b:Option Addr) with
  |some a,some b=>
   if la=0∨lb=0∨size=0 then pure (Value.bool false)
   else if a.block != b.block&&(←frozen a)&&(←frozen b) then unsupported .addressObserved
   else do
    if a.block != b.block then do
     noView a; noView b
     if ←mayBeOne a b then return Value.bool ((←choose (.extern "sameAddr.stringBytes" 2))==1)
    pure (Value.bool (a.block==b.block&&a.off<b.off+lb*size&&b.off<a.off+la*size))
  |_,_=>pure (Value.bool false)) w=_
 by_cases h0':la=0∨lb=0∨size=0
 ·simp[run_underlying ht,hz,h0']
 ·obtain⟨k,hk⟩:∃k,ca'.size=k+1:=⟨ca'.size - 1,by omega⟩
  rw[hk]at hsa
  cases hfa:w.frozen? a<;>cases hfa2:w.frozen? { block:=a.block,off:=k+1 }<;>
   simp[run_underlying ht,hz,h0',hnb,hnb',frozen,noView,viewAt,mayBeOne,stringish,shape,Sem.run,hsa,hsb,hfa,hfb,hfa2,hfb2]
theorem zgu{P:Program}(w:World)(dT sT ty elem:TypeId)(i0:TypeInfo)(b o dLen dCap:Nat)(a:Addr)(sLen sCap:Nat)(cs:List Value)
  (hu:P.underlying dT=some (.slice elem)) (hs:P.info? elem=some i0) (m:Nat) (hm:m=Nat.min sLen dLen) (hn:cs.length=m*i0.size)
  (hsrc:∀j v,cs[j]?=some v→w.cell? (a.add j)=some v) (hc:∀j,j<cs.length→(w.cell? ⟨b,o+j,none⟩).isSome=true) (hf:∀j,j<cs.length→w.frozen? ⟨b,o+j,none⟩=false) (h1:∀v∈cs,v.oneCell'=true):
  (Builtin.copy_ #[dT,sT] ty #[.slice (some ⟨b,o,none⟩) dLen dCap,.slice (some a) sLen sCap]).run P w=.ok (goInt m) (w.setCells b o cs):=by
 have hl:=run_loadCells_list (P:=P) w a cs hsrc
 have hst:=run_storeCells_cells (P:=P) b o cs 0 w (by simpa using hc) (by simpa using hf) h1
 subst hm
 simp[Builtin.copy_,run_underlying hu,Builtin.lenOf,Builtin.firstCells,sizeOf,typeInfo,hs,←hn,hl,hst]
end Go.Vc
namespace Go.Proofs.YtllkmncnmlmefaaGreat
open Go Go.Vc Go.RowKit Go.Lib Go.Sort Go.Proofs
theorem szPos(w:World):(Go.sizeOf 50).run Tryz.prog w=.ok 3 w:=by kernel_rfl
set_option maxHeartbeats 4000000 in
set_option maxRecDepth 1000000 in
theorem yks(g n c:Nat)(x:Addr)(vc:Nat)(vs:List Value)(w:World)(hroom:n+1≤c)(hm:c≤9223372036854775807)(hvl:vs.length=3)
  (hsp:∀t,t<c*3→(w.cell? ⟨g,t,none⟩).isSome=true) (hf:∀t,w.frozen? ⟨g,t,none⟩=false) (hvs:∀t u,vs[t]?=some u→w.cell? (x.add t)=some u) (h1v:∀u∈vs,u.oneCell'=true):
  Calls Tryz.prog 264 #[.slice (some ⟨g,0,none⟩) n c,.int .i64 n,.slice (some x) 1 vc] w fun e w'=>e=.returned (.slice (some ⟨g,0,none⟩) (n+1) c)∧w'=w.setCells g (n*3) vs:=by
 obtain⟨i0,z0,hi0,hz0,hz1,hby,hzs⟩:=zoc.info
 have mixed:=zvq
 have hrun:∀ty,(Builtin.append_ #[29,29] ty #[.slice (some ⟨g,0,none⟩) n c,.slice (some x) 1 vc]).run Tryz.prog w=.ok (.slice (some ⟨g,0,none⟩) (n+1) c) (w.setCells g (n*3) vs):=fun ty=>by
  have:=run_append_room_cells (P:=Tryz.prog) (w:=w) 29 ty 50 i0 undPos hi0 g 0 n c x 1 vc vs (by rw[hvl,hz1]) hvs h1v hroom (fun t ht=>hsp _ (by rw[hz1]; omega)) (fun t _=>hf _)
  rwa [hz1,Nat.zero_add]at this
 obtain⟨W2,hW2⟩:∃W2,W2=w.setCells g (n*3) vs:=⟨_,rfl⟩
 rw[←hW2]at hrun ⊢
 clear hW2 hsp hf hvs h1v hvl
 go_enter Tryz.func264,Tryz.ntmps264
 go_wp2_with (at_builtin; refine Lib.wpList_append_run _ rfl _ _ _ _ rfl _ _ rfl rfl _ _ (hrun _) ?_)
 go_ret
 exact⟨rfl,rfl⟩
end Go.Proofs.YtllkmncnmlmefaaGreat

namespace Go.Vc
open Go Go.RowKit Go.Lib
theorem yio(w:World){P:Program}{o:Oper}{a:Act}{K:Act→World→Prop}{Q:Exit→Act→World→Prop}(d s:Operand)(t t':TypeId)
  (ho:o.op=.call { callee:=.builtin .copy,args := #[d,s],argTypes := #[t,t'] }) (v u:Value) (hd:a.eval d=v) (hs:a.eval s=u) {v':Value} {w':World}
  (hr:(Builtin.copy_ #[t,t'] o.type #[v,u]).run P w=.ok v' w') (h:K (a.put o.dst v') w'):o.wp P a w K Q:=by
 unfold Oper.wp execOp
 simp only[ho,resolve,invoke,builtin,Sem.run_bind,Sem.run_pure,Result.andThen_ok,List.map_toArray,List.map_cons,List.map_nil,hd,hs,hr]
 exact h
theorem zgr(w:World){P:Program}{ops:Array Oper}{rest:List Oper}{o:Oper}{a:Act}{Q:Exit→Act→World→Prop}(hgd:o.guard=none)(d s:Operand)(t t':TypeId)
  (ho:o.op=.call { callee:=.builtin .copy,args := #[d,s],argTypes := #[t,t'] }) (v u:Value) (hd:a.eval d=v) (hs:a.eval s=u) {v':Value} {w':World}
  (hr:(Builtin.copy_ #[t,t'] o.type #[v,u]).run P w=.ok v' w') (h:wpList P ops Q rest (a.put o.dst v') w'):wpList P ops Q (o::rest) a w:=
 wpList_plain hgd fun _ hK=>yio w d s t t' ho v u hd hs hr (hK _ _ h)
theorem zqp{P:Program}{ops:Array Oper}{o:Oper}{a:Act}{w:World}{K:Act→World→Prop}{Q:Exit→Act→World→Prop}{E:Prop}
  (hg:o.guard=none) (d x:Operand) (dT sT:TypeId) (hop:o.op=Op.call { callee:=Callee.builtin Builtin.copy,args := #[d,x],argTypes := #[dT,sT] })
  (v u:Value) (hd:a.eval d=v) (hx:a.eval x=u) {v':Value} {w':World} (hr:(Builtin.copy_ #[dT,sT] o.type #[v,u]).run P w=.ok v' w') (hK:K (a.put o.dst v') w'):
  if Region.wanted o (yielded ops a.tmps)=true then Oper.wp P o a w K Q else E:=by
 have hw:Region.wanted o (yielded ops a.tmps)=true:=by simp[Region.wanted,hg]
 rw[if_pos hw]
 unfold Oper.wp
 simp[execOp,hop,resolve,invoke,builtin,hd,hx,hr,Result.andThen]
 exact hK
end Go.Vc
namespace Go.Proofs.YtllkmncnmlmefaaGreat
open Go Go.Vc Go.RowKit Go.Lib Go.Sort Go.Proofs
set_option maxHeartbeats 4000000 in
set_option maxRecDepth 1000000 in
theorem ins_shift(g n c i:Nat)(x:Addr)(vc:Nat)(us vs:List Value)(cur:Array Value)(eb:TypeId)(w:World)(hi:i<n)(hroom:n+1≤c)(hm:c≤9223372036854775807)(hul:us.length=n*3)(hvl:vs.length=3)
  (hg:w.heap[g]?=some (.cells cur eb (0,0))) (hx:x.block≠g) (hc:∀t u,us[t]?=some u→w.cell? ⟨g,t,none⟩=some u) (h1:∀u∈us,u.oneCell'=true)
  (hsp:∀t,t<c*3→(w.cell? ⟨g,t,none⟩).isSome=true) (hf:∀t,w.frozen? ⟨g,t,none⟩=false) (hvs:∀t u,vs[t]?=some u→w.cell? (x.add t)=some u) (h1v:∀u∈vs,u.oneCell'=true):
  Calls Tryz.prog 264 #[.slice (some ⟨g,0,none⟩) n c,.int .i64 i,.slice (some x) 1 vc] w fun e w'=>e=.returned (.slice (some ⟨g,0,none⟩) (n+1) c)∧
   w'=(w.drew.setCells g ((i+1)*3) (us.drop (i*3))).setCells g (i*3) vs:=by
 obtain⟨i0,z0,hi0,hz0,hz1,hby,hzs⟩:=zoc.info
 have mixed:=zvq
 obtain⟨u0,hu0⟩:∃u,vs[0]?=some u:=⟨vs[0],List.getElem?_eq_getElem (by omega)⟩
 have hov:∀lb cb,(callFunc 344 #[.slice (some x) 1 vc,.slice (some ⟨g,(i+1)*3,none⟩) lb cb]).run Tryz.prog w=.ok (.value (.bool false)) w:=fun lb cb=>by
  rw[run_callFunc_extern Tryz.func344 (by kernel_rfl) (by kernel_rfl) (by kernel_rfl) (e:=Extern.SlicesOverlaps.overlaps #[29,29] #[4]) (by kernel_rfl),
   zxm w 29 4 50 undPos 3 szPos x ⟨g,(i+1)*3,none⟩ 1 vc lb cb hx u0 0 (hvs 0 u0 hu0) cur eb hg]
  rfl
 have hdl:(us.drop (i*3)).length=(n - i)*3:=by rw[List.length_drop,hul,Nat.sub_mul]
 have hcp1:∀ty dc sc,(Builtin.copy_ #[29,29] ty #[.slice (some ⟨g,(i+1)*3,none⟩) (n - i) dc,.slice (some ⟨g,i*3,none⟩) (n+1 - i) sc]).run Tryz.prog w.drew=.ok (goInt (n - i:Nat)) (w.drew.setCells g ((i+1)*3) (us.drop (i*3))):=fun ty dc sc=>
  zgu w.drew 29 29 ty 50 i0 g ((i+1)*3) (n - i) dc ⟨g,i*3,none⟩ (n+1 - i) sc (us.drop (i*3)) undPos hi0 (n - i) (by simp only[Nat.min_def]; split<;>omega) (by rw[hdl,hz1])
   (fun t v ht=>by rw[Addr.add_lit]; exact hc _ v (by rwa [List.getElem?_drop]at ht))
   (fun t ht=>hsp _ (by omega)) (fun t _=>hf _) (fun v hv=>h1 v (List.mem_of_mem_drop hv))
 obtain⟨W1,hW1⟩:∃W1,W1=w.drew.setCells g ((i+1)*3) (us.drop (i*3)):=⟨_,rfl⟩
 have hsp1:∀t,t<c*3→(W1.cell? ⟨g,t,none⟩).isSome=true:=fun t ht=>by
  rw[hW1]
  exact zfl g _ _ w.drew (fun t ht=>hsp _ (by omega)) _ (hsp t ht)
 obtain⟨W2,hW2⟩:∃W2,W2=W1.setCells g (i*3) vs:=⟨_,rfl⟩
 have hcp2:∀ty dc,(Builtin.copy_ #[29,29] ty #[.slice (some ⟨g,i*3,none⟩) (n+1 - i) dc,.slice (some x) 1 vc]).run Tryz.prog W1=.ok (goInt (1:Nat)) W2:=fun ty dc=>by
  rw[hW2]
  exact zgu W1 29 29 ty 50 i0 g (i*3) (n+1 - i) dc x 1 vc vs undPos hi0 1 (by simp only[Nat.min_def]; split<;>omega) (by rw[hvl,hz1])
   (fun t v ht=>by
    rw[hW1,World.cell?_setCells_out g _ _ _ _ (fun h _=>absurd (by rwa [zbv]at h) hx)]
    exact hvs t v ht)
   (fun t ht=>hsp1 _ (by omega)) (fun t _=>by rw[hW1,World.frozen?_setCells]; exact hf _) h1v
 rw[←hW1,←hW2]
 rw[←hW1]at hcp1
 have hw1:IntKind.i64.wrap ((i:Int)+1)=(i:Int)+1:=by rw[IntKind.wrap_i64]; omega
 have hw2:IntKind.i64.wrap ((n:Int)+1)=(n:Int)+1:=by rw[IntKind.wrap_i64]; omega
 have hb1:(0:Int)≤(i:Int)+1:=by omega
 have hb5:(0:Int)≤(n:Int)+1:=by omega
 have htn:((i:Int)+1).toNat=i+1:=by omega
 have htn2:((n:Int)+1).toNat=n+1:=by omega
 have hb3:(i:Int)≤(n:Int)+1:=by omega
 have hb6:(i:Int)+1≤(n:Int)+1:=by omega
 have hb7:i≤n:=by omega
 have hb2:¬(c=i+1):=by omega
 have hb4:¬(c=i):=by omega
 have hz2:¬((i:Int)=(n:Int)):=by omega
 clear hW1 hW2 hsp1 hsp hf hvs h1v hc h1 hdl hu0 hvl hul
 go_enter Tryz.func264,Tryz.ntmps264
 go_wp2_with (simp only[hov])
 go_region_law_o (refine zqp rfl _ _ 29 29 rfl _ _ (by simp[Act.eval,Act.put]) (by simp[Act.eval,Act.put]) (hcp1 _ _ _) ?_)
 go_wp2_with (at_builtin; refine zgr _ rfl _ _ 29 29 rfl _ _ rfl rfl (hcp2 _ _) ?_)
 go_ret
 exact⟨rfl,rfl⟩
end Go.Proofs.YtllkmncnmlmefaaGreat

namespace Go.Proofs.YtllkmncnmlmefaaGreat
open Go Go.Vc Go.RowKit Go.Lib Go.Sort Go.Proofs
theorem z0Pos{i0:TypeInfo}(h:Tryz.prog.info? 50=some i0):i0.zero=some zPos:=by
 have e:(Tryz.prog.info? 50).bind (fun i=>i.zero)=some zPos:=by kernel_rfl
 rw[h]at e; exact e
set_option maxHeartbeats 4000000 in
set_option maxRecDepth 1000000 in
theorem ykt(a:Option Addr)(n c:Nat)(x:Addr)(vc:Nat)(us vs:List Value)(w:World)(hroom:c<n+1)(hn:n≤c)(hbig:(n+1)*40≤140737488355328)(hul:us.length=n*3)(hvl:vs.length=3)
  (hnil:a=none→n=0) (hsp:∀b,a=some b→b.spot=none) (hc:∀b,a=some b→∀t u,us[t]?=some u→w.cell? (b.add t)=some u)
  (hvs:∀t u,vs[t]?=some u→w.cell? (x.add t)=some u) (h1v:∀u∈vs,u.oneCell'=true):
  Calls Tryz.prog 264 #[.slice a n c,.int .i64 n,.slice (some x) 1 vc] w fun e w'=>e=.returned (.slice (some ⟨w.heap.size,0,none⟩) (n+1) (grownCap w (n+1) c 50))∧
   w'=w.drew.alloc (.cells ((us++vs).toArray++Builtin.zeroCells zPos.cells (grownCap w (n+1) c 50 - (n+1))) 50):=by
 obtain⟨i0,z0,hi0,hz0,hz1,hby,hzs⟩:=zoc.info
 have mixed:=zvq
 have hsrc:Src Tryz.prog i0.size 29 (.slice (some x) 1 vc) 1 vs w:=by
  rw[hz1]
  exact Src.ofSlice w undPos x 1 vc vs (by omega) hvs h1v
 have hold:(Builtin.firstCells i0.size n (.slice a n c)).run Tryz.prog w.drew=.ok us.toArray w.drew:=by
  rw[hz1]
  cases a with
  |none=>
   have h0:=hnil rfl
   subst h0
   rw[List.length_eq_zero_iff.1 (by omega:us.length=0)]
   exact run_firstCells_none w.drew 3 0 0 c
  |some b=>exact run_firstCells_some w.drew 3 n b n c us hul (fun j v hj=>hc b rfl j v hj)
 have hrun:∀ty,(Builtin.append_ #[29,29] ty #[.slice a n c,.slice (some x) 1 vc]).run Tryz.prog w=_:=fun ty=>
  run_append_grow_src w 29 29 ty 50 i0 zPos undPos hi0 (z0Pos hi0) a n c us hold (.slice (some x) 1 vc) 1 vs hsrc hroom (by omega) (by rw[hby]; exact growslice_fits hroom hbig)
 obtain⟨W2,hW2⟩:∃W2,W2=w.drew.alloc (.cells ((us++vs).toArray++Builtin.zeroCells zPos.cells (grownCap w (n+1) c 50 - (n+1))) 50):=⟨_,rfl⟩
 obtain⟨C,hC⟩:∃C,C=grownCap w (n+1) c 50:=⟨_,rfl⟩
 rw[←hW2,←hC]at hrun
 rw[←hW2,←hC]
 clear hW2 hC hc hvs h1v hvl hul hold hsrc
 cases a with
 |none=>
  have h0:=hnil rfl
  subst h0
  go_enter Tryz.func264,Tryz.ntmps264
  go_wp2_with (at_builtin; refine Lib.wpList_append_run _ rfl _ _ _ _ rfl _ _ rfl rfl _ _ (hrun _) ?_)
  go_ret
  exact⟨rfl,rfl⟩
 |some b=>
  obtain⟨ab,ao,asp⟩:=b
  have:=hsp _ rfl
  simp only at this
  subst this
  go_enter Tryz.func264,Tryz.ntmps264
  go_wp2_with (at_builtin; refine Lib.wpList_append_run _ rfl _ _ _ _ rfl _ _ rfl rfl _ _ (hrun _) ?_)
  all_goals (go_ret; exact⟨rfl,rfl⟩)
set_option maxHeartbeats 4000000 in
set_option maxRecDepth 1000000 in
theorem ins_grow(g n c i:Nat)(x:Addr)(vc:Nat)(us vs:List Value)(w:World)(hi:i<n)(hroom:c<n+1)(hn:n≤c)(hm:c≤9223372036854775807)(hbig:(n+1)*40≤140737488355328)(hul:us.length=n*3)(hvl:vs.length=3)
  (hc:∀t u,us[t]?=some u→w.cell? ⟨g,t,none⟩=some u) (h1:∀u∈us,u.oneCell'=true) (hvs:∀t u,vs[t]?=some u→w.cell? (x.add t)=some u) (h1v:∀u∈vs,u.oneCell'=true):
  Calls Tryz.prog 264 #[.slice (some ⟨g,0,none⟩) n c,.int .i64 i,.slice (some x) 1 vc] w fun e w'=>e=.returned (.slice (some ⟨w.heap.size,0,none⟩) (n+1) (grownCap w (n+1) c 50))∧
   w'=(((w.alloc (.cells ((us.take (i*3)).toArray++Builtin.zeroCells zPos.cells (n+1 - i)++Builtin.zeroCells zPos.cells (grownCap w (n+1) c 50 - (n+1))) 50)).drew.setCells w.heap.size (i*3) vs).drew).setCells w.heap.size ((i+1)*3) (us.drop (i*3)):=by
 obtain⟨i0,z0,hi0,hz0,hz1,hby,hzs⟩:=zoc.info
 have mixed:=zvq
 have hbw:g<w.heap.size:=block_lt_of_cell (hc 0 _ (List.getElem?_eq_getElem (by omega)))
 have hxw:x.block<w.heap.size:=by have:=block_lt_of_cell (hvs 0 _ (List.getElem?_eq_getElem (by omega))); rwa [zbv]at this
 have htl:(us.take (i*3)).length=i*3:=by rw[List.length_take,hul]; omega
 have hold:(Builtin.firstCells i0.size i (.slice (some ⟨g,0,none⟩) i c)).run Tryz.prog w.drew=.ok (us.take (i*3)).toArray w.drew:=by
  rw[hz1]
  exact run_firstCells_some w.drew 3 i ⟨g,0,none⟩ i c (us.take (i*3)) htl (fun j v hj=>by
   rw[Addr.add_lit,Nat.zero_add]
   rw[List.getElem?_take]at hj
   split at hj
   ·exact hc j v hj
   ·cases hj)
 have hkk:(n:Int)+1 - (i:Int)=((n+1 - i:Nat):Int):=by omega
 have hik:i+(n+1 - i)=n+1:=by omega
 have hrz:∀ty,(Builtin.append_ #[29,3] ty #[.slice (some ⟨g,0,none⟩) i c,.int .i64 ((n:Int)+1 - (i:Int))]).run Tryz.prog w=
   .ok (.slice (some ⟨w.heap.size,0,none⟩) (n+1) (grownCap w (n+1) c 50)) (w.drew.alloc (.cells ((us.take (i*3)).toArray++Builtin.zeroCells zPos.cells (n+1 - i)++Builtin.zeroCells zPos.cells (grownCap w (n+1) c 50 - (n+1))) 50)):=fun ty=>by
  have h:=Lib.run_append_grow_zeros w 29 3 ty 50 i0 zPos .i64 .i64 undPos und3 hi0 (z0Pos hi0) (some ⟨g,0,none⟩) i c (us.take (i*3)) hold (n+1 - i) (by omega) (by omega) (by omega) (by omega) (by rw[hby]; omega) (by rw[hby,hik]; exact growslice_fits hroom hbig)
  rw[hik]at h
  rw[hkk]
  exact h
 obtain⟨G,hG⟩:∃G,G=grownCap w (n+1) c 50:=⟨_,rfl⟩
 obtain⟨ROW,hROW⟩:∃ROW:Array Value,ROW=(us.take (i*3)).toArray++Builtin.zeroCells zPos.cells (n+1 - i)++Builtin.zeroCells zPos.cells (G - (n+1)):=⟨_,rfl⟩
 rw[←hG]at hrz ⊢
 rw[←hROW]at hrz ⊢
 have hzl:∀m:Nat,(Builtin.zeroCells zPos.cells m).size=m*3:=fun m=>by have:=yfi m; simpa using this
 have hRl:(n+1)*3≤ROW.size:=by
  rw[hROW,Array.size_append,Array.size_append,hzl,hzl,List.size_toArray,htl]
  omega
 obtain⟨W1,hW1⟩:∃W1,W1=w.drew.alloc (.cells ROW 50):=⟨_,rfl⟩
 rw[←hW1]at hrz
 have hN:∀j,j<(n+1)*3→(W1.cell? ⟨w.heap.size,j,none⟩).isSome=true:=fun j hj=>by
  rw[hW1,World.cell?_alloc_at (w:=w.drew) ROW _ w.heap.size j rfl,Array.getElem?_eq_getElem (by omega)]; rfl
 have hNf:∀j,W1.frozen? ⟨w.heap.size,j,none⟩=false:=fun j=>by rw[hW1]; exact World.frozen?_alloc_at (w:=w.drew) ROW _ w.heap.size j rfl
 have hOb:∀j v,w.cell? ⟨g,j,none⟩=some v→W1.cell? ⟨g,j,none⟩=some v:=fun j v h=>by rw[hW1,World.cell?_alloc_past (w:=w.drew) _ g j hbw]; exact h
 have hOv:∀j v,w.cell? (x.add j)=some v→W1.cell? (x.add j)=some v:=fun j v h=>by
  rw[hW1]
  refine(World.cell?_of_block ?_).trans h
  rw[zbv]
  exact zcr w.drew _ x.block hxw
 have hdl:(us.drop (i*3)).length=(n - i)*3:=by rw[List.length_drop,hul,Nat.sub_mul]
 have hcpA:∀(W:World),(∀x,W.cell? x=W1.cell? x)→(∀x,W.frozen? x=W1.frozen? x)→∀ty dc,(Builtin.copy_ #[29,29] ty #[.slice (some ⟨w.heap.size,i*3,none⟩) (n+1 - i) dc,.slice (some x) 1 vc]).run Tryz.prog W=.ok (goInt (1:Nat)) (W.setCells w.heap.size (i*3) vs):=fun W hWc hWf ty dc=>
  zgu W 29 29 ty 50 i0 w.heap.size (i*3) (n+1 - i) dc x 1 vc vs undPos hi0 1 (by simp only[Nat.min_def]; split<;>omega) (by rw[hvl,hz1])
   (fun j v hj=>by rw[hWc]; exact hOv _ v (hvs j v hj))
   (fun j hj=>by rw[hWc]; exact hN _ (by omega)) (fun j hj=>by rw[hWf]; exact hNf _) h1v
 have hGn:n+1≤G:=by rw[hG]; exact grownCap_ge w _ _ _
 have hG63:G≤9223372036854775807:=by
  have:=grownCap_le_maxLen w (n+1) c 50 (by unfold maxLen; omega)
  rw[←hG]at this
  unfold maxLen at this
  omega
 have hGi:¬(G=i):=by omega
 have hGim:¬(G=i+1):=by omega
 have hci:¬(c=i):=by omega
 have hbN:g≠w.heap.size:=by omega
 have hcpB:∀(W:World),(∀x,W.cell? x=(W1.setCells w.heap.size (i*3) vs).cell? x)→(∀x,W.frozen? x=(W1.setCells w.heap.size (i*3) vs).frozen? x)→∀ty dc sc,(Builtin.copy_ #[29,29] ty #[.slice (some ⟨w.heap.size,(i+1)*3,none⟩) (n - i) dc,.slice (some ⟨g,i*3,none⟩) (n - i) sc]).run Tryz.prog W=.ok (goInt (n - i:Nat)) (W.setCells w.heap.size ((i+1)*3) (us.drop (i*3))):=fun W hWc hWf ty dc sc=>
  zgu W 29 29 ty 50 i0 w.heap.size ((i+1)*3) (n - i) dc ⟨g,i*3,none⟩ (n - i) sc (us.drop (i*3)) undPos hi0 (n - i) (by simp only[Nat.min_def]; split<;>omega) (by rw[hdl,hz1])
   (fun j v hj=>by
    rw[Addr.add_lit,hWc,World.cell?_setCells_out _ _ _ _ _ (fun h _=>absurd h hbN)]
    exact hOb _ v (hc (i*3+j) v (by rwa [List.getElem?_drop]at hj)))
   (fun j hj=>by rw[hWc]; exact zfl _ _ _ _ (fun t ht=>hN _ (by omega)) _ (hN _ (by omega)))
   (fun j hj=>by rw[hWf,World.frozen?_setCells]; exact hNf _) (fun v hv=>h1 v (List.mem_of_mem_drop hv))
 subst hW1
 have hE1:∀x,((w.alloc (.cells ROW 50)).drew).cell? x=(w.drew.alloc (.cells ROW 50)).cell? x:=fun x=>rfl
 have hE2:∀x,((w.alloc (.cells ROW 50)).drew).frozen? x=(w.drew.alloc (.cells ROW 50)).frozen? x:=fun x=>rfl
 have hF1:∀x,(((w.alloc (.cells ROW 50)).drew.setCells w.heap.size (i*3) vs).drew).cell? x=((w.drew.alloc (.cells ROW 50)).setCells w.heap.size (i*3) vs).cell? x:=fun x=>rfl
 have hF2:∀x,(((w.alloc (.cells ROW 50)).drew.setCells w.heap.size (i*3) vs).drew).frozen? x=((w.drew.alloc (.cells ROW 50)).setCells w.heap.size (i*3) vs).frozen? x:=fun x=>rfl
 have hw1:IntKind.i64.wrap ((i:Int)+1)=(i:Int)+1:=by rw[IntKind.wrap_i64]; omega
 have hb1:(0:Int)≤(i:Int)+1:=by omega
 have htn:((i:Int)+1).toNat=i+1:=by omega
 have hb3:(i:Int)≤(n:Int)+1:=by omega
 have hb6:(i:Int)+1≤(n:Int)+1:=by omega
 have hin:i≤n:=by omega
 have hz2:¬((i:Int)=(n:Int)):=by omega
 have hz3:(c:Int)<(n:Int)+1:=by omega
 clear hkk hik hold hROW hG hRl hc hvs h1 h1v hOb hOv hN hNf hzl htl hdl hvl hul
 go_enter Tryz.func264,Tryz.ntmps264
 go_wp2_with (first
  |(at_builtin; refine Lib.wpList_append_run _ rfl _ _ _ _ rfl _ _ rfl rfl _ _ (hrz _) ?_)
  |(at_builtin; refine zgr _ rfl _ _ 29 29 rfl _ _ rfl rfl (hcpA _ hE1 hE2 _ _) ?_)
  |(at_builtin; refine zgr _ rfl _ _ 29 29 rfl _ _ rfl rfl (hcpB _ (fun _=>rfl) (fun _=>rfl) _ _ _) ?_))
 go_region_law_o (refine zqp rfl _ _ 29 29 rfl (.slice (some ⟨w.heap.size,(i+1)*3,none⟩) (n - i) (G - (i+1))) (.slice (some ⟨g,i*3,none⟩) (n - i) (c - i)) (by simp[Act.eval,Act.put]) (by simp[Act.eval,Act.put]) (hcpB _ hF1 hF2 3 (G - (i+1)) (c - i)) ?_)
 go_wp2
 go_ret
 exact⟨rfl,rfl⟩
end Go.Proofs.YtllkmncnmlmefaaGreat
namespace Go.Vc
open Go Go.RowKit
def DT.okD:(t:DT)→t.den→Prop
 | .int k,n=>(Lit.int k n).wf=true
 | .bool,_=>True
 | .str,s=>s.size≤maxLen
 | .slc t,l=>(∀x∈l,t.okD x)∧l.length≤maxLen
 | .unit,_=>True
 | .pair a b,x=>a.okD x.1∧b.okD x.2
theorem wf_i64{n:Int}(h:(Lit.int .i64 n).wf=true) : -9223372036854775808≤n∧n≤9223372036854775807:=by
 simp[Lit.wf,IntKind.min,IntKind.max,IntKind.signed,IntKind.bits]at h; omega
theorem Ctx.turn2{V w w':World}{U0:Nat→Prop}{L bs:List Nat}{o o':Own}{os:List Own}{G:List (Value×R)}(H:Ctx V U0 L bs (o::os) G w)(hb:∀b∈bs,b<w.heap.size)
  (h1:w'.os=w.os) (h2:w'.tape=w.tape) (h3:w'.output=w.output) (h4:w.heap.size≤w'.heap.size) (h5:∀b,b<w.heap.size→b∉o.bl→w'.heap[b]?=w.heap[b]?)
  (h6:∀b∈o'.bl,w.heap.size≤b∨b∈o.bl) (h7:o'.bl.Nodup) (h8:Later (Us U0 bs (o::os)) (Us U0 bs (o'::os)) w w'→o'.h (Us U0 bs (o'::os)) w'):Ctx V U0 L bs (o'::os) G w':=by
 have hol:∀b∈o.bl,b<w.heap.size:=fun b hb=>H.ltOwn (by rw[ownBl]; exact List.mem_append.2 (.inl hb))
 have hos:∀b∈ownBl os,b<w.heap.size:=fun b hb=>H.ltOwn (by rw[ownBl]; exact List.mem_append.2 (.inr hb))
 have hnd:=List.nodup_append.1 H.nd
 have hnd2:=List.nodup_append.1 (show (o.bl++ownBl os).Nodup from hnd.2.1)
 have l:Later (Us U0 bs (o::os)) (Us U0 bs (o'::os)) w w':=by
  refine⟨fun b hb hn=>h5 b hb fun hm=>hn (.inr (.inr (by rw[ownBl]; exact List.mem_append.2 (.inl hm)))),h4,fun b hb h=>?_⟩
  rcases h with h|h|h
  ·exact .inl h
  ·exact .inr (.inl h)
  ·rw[ownBl]at h
   rcases List.mem_append.1 h with h|h
   ·rcases h6 b h with h'|h'
    ·omega
    ·exact .inr (.inr (by rw[ownBl]; exact List.mem_append.2 (.inl h')))
   ·exact .inr (.inr (by rw[ownBl]; exact List.mem_append.2 (.inr h)))
 refine⟨h1.trans H.os_,h2.trans H.tape,h3.trans H.output,Nat.le_trans H.size h4,fun b hb hL=>?_,H.low,fun b hb=>?_,H.u0,?_,fun x hx=>?_,H.facts.mono l⟩
 ·rw[h5 b (Nat.lt_of_lt_of_le hb H.size) fun hm=>?_]
  ·exact H.same b hb hL
  ·rcases H.lowo b (by rw[ownBl]; exact List.mem_append.2 (.inl hm)) with h|h
   ·omega
   ·exact hL h
 ·rw[ownBl]at hb
  rcases List.mem_append.1 hb with hb|hb
  ·rcases h6 b hb with h|h
   ·exact .inl (Nat.le_trans H.size h)
   ·exact H.lowo b (by rw[ownBl]; exact List.mem_append.2 (.inl h))
  ·exact H.lowo b (by rw[ownBl]; exact List.mem_append.2 (.inr hb))
 ·show (bs++(o'.bl++ownBl os)).Nodup
  refine List.nodup_append.2 ⟨hnd.1,List.nodup_append.2 ⟨h7,hnd2.2.1,fun x hx y hy e=>?_⟩,fun x hx y hy e=>?_⟩
  ·subst e
   rcases h6 x hx with h|h
   ·have:=hos x hy; omega
   ·exact hnd2.2.2 x h x hy rfl
  ·subst e
   rcases List.mem_append.1 hy with hy|hy
   ·rcases h6 x hy with h|h
    ·have:=hb x hx; omega
    ·exact hnd.2.2 x hx x (List.mem_append.2 (.inl h)) rfl
   ·exact hnd.2.2 x hx x (List.mem_append.2 (.inr hy)) rfl
 ·rcases List.mem_cons.1 hx with rfl|hx
  ·exact h8 l
  ·refine x.mono (H.own x (List.mem_cons_of_mem _ hx)) l fun b hb=>h5 b (x.lt (H.own x (List.mem_cons_of_mem _ hx)) b hb) fun hm=>?_
   exact hnd2.2.2 b hm b (zcz.2 ⟨x,hx,hb⟩) rfl
theorem CtL.one{P:Program}{f:FuncId}{e k:Nat}{els:List (List R)}{las:List LA}{q:QR}(hla:∀{U w vs ars},laH U w [] las vs ars→ars=[])
  (h:∀(U:Nat→Prop) (w:World) (a:Option Addr) (c:Nat) (vs:List Value),Ctx w U (oblk a) [] [Own.row e k a c els] [] w→(∀b∈oblk a,¬U b)→laH (Us U [] [Own.row e k a c els]) w [] las vs []→
   CallsX P f (Value.slice a els.length c::vs).toArray w fun v w'=>∃os,Ctx w U (oblk a) [] os [] w'∧q.h (Us U [] os) w' v os):
  CtL P f (.row e k els::las) [] (.q q) []:=by
 intro U w vs bl uss oss ars hbl H hU hlb hl
 have hbl0:bl=[]:=List.eq_nil_of_length_eq_zero (by simpa using hbl)
 subst hbl0
 simp only[lbH]at hlb
 obtain⟨rfl,rfl⟩:=hlb
 simp only[laH]at hl
 obtain⟨v,vs',o,ars',rfl,rfl,ho,hl⟩:=hl
 have h0:=hla hl
 subst h0
 simp only[QR.h]at ho
 obtain⟨a,c,rfl,rfl⟩:=ho
 have e1:objs [] ([]:List LB) []++(([]:List (List Own)).flatten++([Own.row e k a c els]++[]))=[Own.row e k a c els]:=rfl
 have e2:([]:List Nat)++ownBl (([]:List (List Own)).flatten++([Own.row e k a c els]++[]))=oblk a:=by simp[ownBl,Own.row]
 rw[e1]at H hl
 rw[e2]at H hU
 refine(h U w a c vs' H hU hl).mono fun v w' ⟨os,H',hq⟩=>⟨[],[],os,?_,⟨rfl,rfl⟩,?_⟩
 ·rw[e2]; simpa[objs]using H'
 ·simpa[objs,lqH]using hq
end Go.Vc
namespace Go.Proofs.YtllkmncnmlmefaaGreat
open Go Go.Vc Go.RowKit Go.Lib
theorem hasBody122:zmy Tryz.prog 263:=⟨_,Tryz.func263,by decide +kernel,rfl⟩
theorem zqb:zmy Tryz.prog 264:=⟨_,Tryz.func264,by decide +kernel,rfl⟩
theorem del_ctL(els:List (List R))(i j:Int)(h0:0≤i)(hij:i<j)(hj:j≤els.length):
  CtL Tryz.prog 263 [.row 50 3 els,.r (.val (.int .i64 i)),.r (.val (.int .i64 j))] [] (.q (.own 50 3 (els.take i.toNat++els.drop j.toNat))) []:=by
 obtain⟨i,rfl⟩:=Int.eq_ofNat_of_zero_le h0
 obtain⟨j,rfl⟩:=Int.eq_ofNat_of_zero_le (by omega:0≤j)
 have hij:i<j:=by omega
 have hj:j≤els.length:=by omega
 simp only[Int.toNat_natCast]
 refine CtL.one (fun h=>?_) fun U w a c vs H hU hl=>?_
 ·simp only[laH]at h
  obtain⟨_,_,_,_,_,_,_,_,_,h⟩:=h
  exact h
 ·simp only[laH,R.h]at hl
  obtain⟨_,_,rfl,rfl,_,_,rfl,rfl,rfl,_⟩:=hl
  obtain⟨us,ho,hus,h1,hk⟩:=H.own _ (List.mem_singleton.2 rfl)
  obtain⟨hxl,ho⟩:=ho
  rcases ho with ⟨_,hn⟩|⟨g,cap,cur,heq,hbase,hg,hn1,hn2,hn3,hn4⟩
  ·omega
  simp only[Value.slice.injEq]at heq
  obtain⟨rfl,_,rfl⟩:=heq
  have hgl:g<w.heap.size:=(Array.getElem?_eq_some_iff.1 hg).1
  have hc:∀t u,us[t]?=some u→w.cell? ⟨g,t,none⟩=some u:=fun t u ht=>by
   have ht':t<us.length:=(List.getElem?_eq_some_iff.1 ht).1
   have e1:(cur.toList.take (els.length*3))[t]?=us[t]?:=by rw[hn4]
   rw[List.getElem?_take_of_lt (by omega),ht,Array.getElem?_toList]at e1
   simp[World.cell?,hg,e1]
  have hf:∀t,w.frozen? ⟨g,t,none⟩=false:=fun t=>by simp[World.frozen?,hg]
  have hm:c≤9223372036854775807:=by rw[zat]at hn2; exact hn2
  refine⟨.inl ⟨hasBody122,(del_raw g els.length c i j us w hxl hc h1 hf hij hj hn1 hm).mono fun e w' ⟨he,hw⟩=>⟨_,he,?_⟩⟩⟩
  obtain⟨cur1,hg1,hs1⟩:=zki (o:=0+i*3) (vs:=us.drop (j*3)) (w:=w.drew) hg
  obtain⟨cur2,hg2,hs2⟩:=zki (o:=(i+(els.length - j))*3) (vs:=(Builtin.zeroCells zPos.cells (els.length - (i+(els.length - j)))).toList) hg1
  obtain⟨a1,a2,a3,a4⟩:=zfe g (0+i*3) (us.drop (j*3)) w.drew
  obtain⟨b1,b2,b3,b4⟩:=zfe g ((i+(els.length - j))*3) (Builtin.zeroCells zPos.cells (els.length - (i+(els.length - j)))).toList (w.drew.setCells g (0+i*3) (us.drop (j*3)))
  have hel:(els.take i++els.drop j).length=i+(els.length - j):=by rw[List.length_append,List.length_take,List.length_drop]; omega
  have hkk:∀l∈els.take i++els.drop j,l.length=3:=fun l hl=>(List.mem_append.1 hl).elim (fun h=>hk l (List.mem_of_mem_take h)) fun h=>hk l (List.mem_of_mem_drop h)
  have hdl:(us.drop (j*3)).length=(els.length - j)*3:=by rw[List.length_drop,hxl,Nat.sub_mul]
  have htl:(us.take (i*3)).length=i*3:=by rw[List.length_take,hxl]; omega
  refine⟨[Own.row 50 3 (some ⟨g,0,none⟩) c (els.take i++els.drop j)],?_,?_⟩
  ·have H0:Ctx w U (oblk (some ⟨g,0,none⟩)) [] (Own.row 50 3 (some ⟨g,0,none⟩) c els::[]) [] w:=H
   rw[hw]
   refine H0.turn2 (by simp) (b1.trans a1) (b2.trans a2) (b3.trans a3) (by rw[b4,a4]; exact Nat.le_refl _) (fun b hb hn=>?_) (fun b hb=>.inr hb) (by simp[Own.row,oblk]) fun l=>?_
   ·have hne:b≠g:=by simpa[Own.row,oblk]using hn
    rw[ziw hne,ziw hne]; rfl
   ·refine rowH hg2 (by rw[hs2,hs1,hn3]) (xs:=us.take (i*3)++us.drop (j*3)) (fun t u ht=>?_) ?_ (fun u hu=>(List.mem_append.1 hu).elim (fun h=>h1 u (List.mem_of_mem_take h)) fun h=>h1 u (List.mem_of_mem_drop h)) hkk ?_ (by omega) hn2
    ·have hlen:t<i*3+(els.length - j)*3:=by have:=(List.getElem?_eq_some_iff.1 ht).1; rw[List.length_append,htl,hdl]at this; exact this
     rw[World.cell?_setCells_out g _ _ _ _ (fun _ _=>by show t<(i+(els.length - j))*3∨_; omega)]
     by_cases h3:t<i*3
     ·rw[List.getElem?_append_left (by omega),List.getElem?_take_of_lt h3]at ht
      rw[World.cell?_setCells_out g _ _ _ _ (fun _ _=>by show t<0+i*3∨_; omega)]
      exact hc t u ht
     ·rw[List.getElem?_append_right (by omega),htl]at ht
      have h4:t - i*3<(us.drop (j*3)).length:=by omega
      have:=World.cell?_setCells_in g (us.drop (j*3)) (0+i*3) w.drew (fun q hq=>by
       show (w.cell? _).isSome=true
       rw[hc _ _ (List.getElem?_eq_getElem (by omega))]; rfl) (t - i*3) h4
      rw[show 0+i*3+(t - i*3)=t by omega]at this
      rw[this,←ht,List.getElem?_eq_getElem h4]
    ·rw[List.flatten_append,ybx hk i (by omega),yla hk j hj]
     exact zdf (zbk l _ (zjt _ hus)) (zbk l _ (zpp _ hus))
    ·rw[List.length_append,htl,hdl,hel,Nat.add_mul]
  ·simp only[QR.h]
   exact⟨_,_,by rw[hel],rfl⟩
end Go.Proofs.YtllkmncnmlmefaaGreat
namespace Go.Vc
open Go Go.RowKit Go.Lib
theorem ycd{U:Nat→Prop}{w:World}{x:Addr}:∀{rs:List R} {off:Nat},cellsH U w (some x) off rs→∃us,listH U w rs us∧(∀u∈us,u.oneCell'=true)∧∀t u,us[t]?=some u→w.cell? (x.add (off+t))=some u
 |[],off,_=>⟨[],by simp[listH],by simp,by simp⟩
 |r::rs,off,h=>by
  simp only[cellsH]at h
  obtain⟨⟨y,u,hy,_,_,hc,h1,hr⟩,h⟩:=h
  cases hy
  obtain⟨us,h2,h3,h4⟩:=ycd h
  refine⟨u::us,by simp only[listH]; exact⟨u,us,rfl,hr,h2⟩,fun v hv=>?_,fun t v ht=>?_⟩
  ·rcases List.mem_cons.1 hv with rfl|hv
   ·exact h1
   ·exact h3 v hv
  ·cases t with
   |zero=>simp only[List.getElem?_cons_zero,Option.some.injEq]at ht; subst ht; simpa using hc
   |succ t=>
    have:=h4 t v (by simpa using ht)
    rwa [show off+1+t=off+(t+1) by omega]at this
theorem yaq{W:World}{g i k n:Nat}{us vs:List Value}(hu:us.length=n*k)(hv:vs.length=k)(hi:i≤n)
  (hA:∀t u,t<i*k→us[t]?=some u→W.cell? ⟨g,t,none⟩=some u) (hB:∀t u,vs[t]?=some u→W.cell? ⟨g,i*k+t,none⟩=some u)
  (hC:∀t u,(us.drop (i*k))[t]?=some u→W.cell? ⟨g,(i+1)*k+t,none⟩=some u):
  ∀t u,(us.take (i*k)++(vs++us.drop (i*k)))[t]?=some u→W.cell? ⟨g,t,none⟩=some u:=by
 intro t u ht
 have hik:i*k≤n*k:=Nat.mul_le_mul_right k hi
 have htl:(us.take (i*k)).length=i*k:=by rw[List.length_take,hu]; omega
 by_cases h1:t<i*k
 ·rw[List.getElem?_append_left (by omega),List.getElem?_take_of_lt h1]at ht
  exact hA t u h1 ht
 ·rw[List.getElem?_append_right (by omega),htl]at ht
  by_cases h2:t - i*k<vs.length
  ·rw[List.getElem?_append_left h2]at ht
   have:=hB _ u ht
   rwa [show i*k+(t - i*k)=t by omega]at this
  ·rw[List.getElem?_append_right (by omega)]at ht
   have:=hC _ u ht
   rw[Nat.add_mul,Nat.one_mul,hv]at this
   rwa [show i*k+k+(t - i*k - k)=t by omega]at this
theorem Ctx.putOne{w w':World}{U0:Nat→Prop}{a:Option Addr}{e k c g c' i:Nat}{els:List (List R)}{v:List R}{us vs:List Value}{cur:Array Value}
  (H:Ctx w U0 (oblk a) [] [Own.row e k a c els] [] w) (hus:listH (Us U0 [] [Own.row e k a c els]) w els.flatten us) (h1:∀u∈us,u.oneCell'=true) (hk:∀l∈els,l.length=k)
  (hvs:listH (Us U0 [] [Own.row e k a c els]) w v vs) (h1v:∀u∈vs,u.oneCell'=true) (hv:v.length=k) (hi:i≤els.length)
  (e1:w'.os=w.os) (e2:w'.tape=w.tape) (e3:w'.output=w.output) (e4:w.heap.size≤w'.heap.size) (e5:∀b,b<w.heap.size→b∉oblk a→w'.heap[b]?=w.heap[b]?) (e6:w.heap.size≤g∨g∈oblk a)
  (hg:w'.heap[g]?=some (.cells cur e (0,0))) (hs:cur.size=c'*k) (hc:∀t u,(us.take (i*k)++(vs++us.drop (i*k)))[t]?=some u→w'.cell? ⟨g,t,none⟩=some u) (hn:els.length+1≤c') (hm:c'≤maxLen):
  ∃os,Ctx w U0 (oblk a) [] os [] w'∧(QR.own e k (els.take i++v::els.drop i)).h (Us U0 [] os) w' (.slice (some ⟨g,0,none⟩) (els.length+1) c') os:=by
 have hul:us.length=els.length*k:=by rw[zbg hus,zmd hk]
 have hvl:vs.length=k:=by rw[zbg hvs,hv]
 have hel:(els.take i++v::els.drop i).length=els.length+1:=by rw[List.length_append,List.length_cons,List.length_take,List.length_drop]; omega
 have hkk:∀l∈els.take i++v::els.drop i,l.length=k:=fun l hl=>by
  rcases List.mem_append.1 hl with h|h
  ·exact hk l (List.mem_of_mem_take h)
  ·rcases List.mem_cons.1 h with rfl|h
   ·exact hv
   ·exact hk l (List.mem_of_mem_drop h)
 refine⟨[Own.row e k (some ⟨g,0,none⟩) c' (els.take i++v::els.drop i)],?_,?_⟩
 ·have H0:Ctx w U0 (oblk a) [] (Own.row e k a c els::[]) [] w:=H
  refine H0.turn2 (by simp) e1 e2 e3 e4 e5 (fun b hb=>?_) (by simp[Own.row,oblk]) fun l=>?_
  ·simp only[Own.row,oblk,List.mem_singleton]at hb
   subst hb; exact e6
  ·refine rowH hg hs (xs:=us.take (i*k)++(vs++us.drop (i*k))) hc ?_ (fun u hu=>?_) hkk ?_ (by omega) hm
   ·rw[List.flatten_append,List.flatten_cons,ybx hk i hi,yla hk i hi]
    exact zdf (zbk l _ (zjt _ hus)) (zdf (zbk l _ hvs) (zbk l _ (zpp _ hus)))
   ·rcases List.mem_append.1 hu with h|h
    ·exact h1 u (List.mem_of_mem_take h)
    ·rcases List.mem_append.1 h with h|h
     ·exact h1v u h
     ·exact h1 u (List.mem_of_mem_drop h)
   ·have hik:i*k≤els.length*k:=Nat.mul_le_mul_right k hi
    rw[List.length_append,List.length_append,List.length_take,List.length_drop,hul,hvl,hel,Nat.succ_mul]; omega
 ·simp only[QR.h]
  exact⟨_,_,by rw[hel],rfl⟩
end Go.Vc
namespace Go.Proofs.YtllkmncnmlmefaaGreat
open Go Go.Vc Go.RowKit Go.Lib
theorem ins_ctL(els:List (List R))(v:List R)(i:Int)(h0:0≤i)(hi:i≤els.length)(hv:v.length=3)(hbig:(els.length+1)*40≤140737488355328):
  CtL Tryz.prog 264 [.row 50 3 els,.r (.val (.int .i64 i)),.r (.sl 3 [v])] [] (.q (.own 50 3 (els.take i.toNat++v::els.drop i.toNat))) []:=by
 obtain⟨i,rfl⟩:=Int.eq_ofNat_of_zero_le h0
 have hi:i≤els.length:=by omega
 simp only[Int.toNat_natCast]
 refine CtL.one (fun h=>?_) fun U w a c vs0 H hU hl=>?_
 ·simp only[laH]at h
  obtain⟨_,_,_,_,_,_,_,_,_,h⟩:=h
  exact h
 ·simp only[laH,R.h]at hl
  obtain⟨_,_,rfl,rfl,_,_,rfl,⟨av,vc,rfl,_,_,hrow⟩,rfl,_⟩:=hl
  simp only[rowsH]at hrow
  obtain⟨_,hcl,_⟩:=hrow
  obtain⟨x,hxU,hxw,hcl⟩:∃x,¬Us U [] [Own.row 50 3 a c els] x.block∧x.block<w.heap.size∧av=some x∧cellsH (Us U [] [Own.row 50 3 a c els]) w (some x) 0 v:=by
   cases v with
   |nil=>simp at hv
   |cons r rs=>
    have hcl2:=hcl
    simp only[cellsH]at hcl
    obtain⟨⟨x,u,rfl,h1,h2,_⟩,_⟩:=hcl
    exact⟨x,h1,h2,rfl,hcl2⟩
  obtain⟨rfl,hcl⟩:=hcl
  obtain⟨vs,hvs,h1v,hcv⟩:=ycd hcl
  simp only[Nat.zero_add]at hcv
  have hvl:vs.length=3:=by rw[zbg hvs,hv]
  obtain⟨us,ho,hus,h1,hk⟩:=H.own _ (List.mem_singleton.2 rfl)
  obtain⟨hxl,ho⟩:=ho
  have hzl:∀m:Nat,(Builtin.zeroCells zPos.cells m).size=m*3:=fun m=>by have:=yfi m; simpa using this
  have grow:(∀b,a=some b→b.spot=none)→(a=none→els.length=0)→(∀b,a=some b→∀t u,us[t]?=some u→w.cell? (b.add t)=some u)→els.length≤c→c<els.length+1→i=els.length→
    CallsX Tryz.prog 264 (Value.slice a els.length c::[Value.int .i64 (i:Int),.slice (some x) 1 vc]).toArray w fun v_1 w'=>∃os,Ctx w U (oblk a) [] os [] w'∧(QR.own 50 3 (els.take i++v::els.drop i)).h (Us U [] os) w' v_1 os:=by
   intro hsp hnil hc hnc hroom hie
   subst hie
   refine⟨.inl ⟨zqb,(ykt a els.length c x vc us vs w hroom hnc hbig hxl hvl hnil hsp hc hcv h1v).mono fun e w' ⟨he,hw⟩=>⟨_,he,?_⟩⟩⟩
   have hC:=grownCap_ge w (els.length+1) c 50
   have hC2:=grownCap_le_maxLen w (els.length+1) c 50 (by rw[zat]; omega)
   rw[hw]
   generalize grownCap w (els.length+1) c 50=C at*
   refine Ctx.putOne (us:=us) (vs:=vs) H hus h1 hk hvs h1v hv hi rfl rfl rfl (by simp) (fun b hb _=>zcr w.drew _ b hb) (.inl (Nat.le_refl _)) (heap_alloc_new w.drew _) ?_ ?_ hC hC2
   ·rw[Array.size_append,hzl,List.size_toArray,List.length_append,hxl,hvl]; omega
   ·have hcell:∀t u,(us++vs)[t]?=some u→(w.drew.alloc (.cells ((us++vs).toArray++Builtin.zeroCells zPos.cells (C - (els.length+1))) 50)).cell? ⟨w.heap.size,t,none⟩=some u:=fun t u ht=>by
     have hlt:=(List.getElem?_eq_some_iff.1 ht).1
     rw[World.cell?_alloc_at (w:=w.drew) _ _ w.heap.size t rfl,Array.getElem?_append_left (by simpa using hlt),List.getElem?_toArray]
     exact ht
    rw[←hxl,List.take_length,List.drop_length,List.append_nil]
    exact hcell
  rcases ho with ⟨he,hn⟩|⟨g,cap,cur,heq,hbase,hg,hn1,hn2,hn3,hn4⟩
  ·simp only[Value.slice.injEq]at he
   obtain⟨rfl,_,rfl⟩:=he
   refine grow (by simp) (fun _=>hn) (by simp) (by omega) (by omega) (by omega)
  simp only[Value.slice.injEq]at heq
  obtain⟨rfl,_,rfl⟩:=heq
  have hgl:g<w.heap.size:=(Array.getElem?_eq_some_iff.1 hg).1
  have hxg:x.block≠g:=fun e=>hxU (.inr (.inr (by rw[e]; simp[ownBl,Own.row,oblk])))
  have hc:∀t u,us[t]?=some u→w.cell? ⟨g,t,none⟩=some u:=fun t u ht=>by
   have ht':t<us.length:=(List.getElem?_eq_some_iff.1 ht).1
   have e1:(cur.toList.take (els.length*3))[t]?=us[t]?:=by rw[hn4]
   rw[List.getElem?_take_of_lt (by omega),ht,Array.getElem?_toList]at e1
   simp[World.cell?,hg,e1]
  have hsp:∀t,t<c*3→(w.cell? ⟨g,t,none⟩).isSome=true:=fun t ht=>by
   simp[World.cell?,hg,hn3,ht]
  have hf:∀t,w.frozen? ⟨g,t,none⟩=false:=fun t=>by simp[World.frozen?,hg]
  have hm:c≤9223372036854775807:=by rw[zat]at hn2; exact hn2
  by_cases hroom:els.length+1≤c
  ·by_cases hie:i=els.length
   ·subst hie
    refine⟨.inl ⟨zqb,(yks g els.length c x vc vs w hroom hm hvl hsp hf hcv h1v).mono fun e w' ⟨he,hw⟩=>⟨_,he,?_⟩⟩⟩
    obtain⟨cur1,hg1,hs1⟩:=zki (o:=els.length*3) (vs:=vs) (w:=w) hg
    obtain⟨a1,a2,a3,a4⟩:=zfe g (els.length*3) vs w
    rw[hw]
    refine Ctx.putOne (us:=us) (vs:=vs) H hus h1 hk hvs h1v hv hi a1 a2 a3 (by rw[a4]; exact Nat.le_refl _) (fun b hb hn=>ziw (by simpa[oblk]using hn)) (.inr (by simp[oblk])) hg1 (by rw[hs1,hn3]) ?_ hroom hn2
    refine yaq hxl hvl (Nat.le_refl _) (fun t u ht hu=>?_) (fun t u hu=>?_) (fun t u hu=>?_)
    ·rw[World.cell?_setCells_out g _ _ _ _ (fun _ _=>.inl ht)]; exact hc t u hu
    ·have h4:=(List.getElem?_eq_some_iff.1 hu).1
     have:=World.cell?_setCells_in g vs (els.length*3) w (fun q hq=>hsp _ (by omega)) t h4
     rw[this,←hu,List.getElem?_eq_getElem h4]
    ·rw[List.drop_eq_nil_of_le (by omega)]at hu; simp at hu
   ·have hlt:i<els.length:=by omega
    refine⟨.inl ⟨zqb,(ins_shift g els.length c i x vc us vs cur 50 w hlt hroom hm hxl hvl hg hxg hc h1 hsp hf hcv h1v).mono fun e w' ⟨he,hw⟩=>⟨_,he,?_⟩⟩⟩
    obtain⟨cur1,hg1,hs1⟩:=zki (o:=(i+1)*3) (vs:=us.drop (i*3)) (w:=w.drew) hg
    obtain⟨cur2,hg2,hs2⟩:=zki (o:=i*3) (vs:=vs) hg1
    obtain⟨a1,a2,a3,a4⟩:=zfe g ((i+1)*3) (us.drop (i*3)) w.drew
    obtain⟨b1,b2,b3,b4⟩:=zfe g (i*3) vs (w.drew.setCells g ((i+1)*3) (us.drop (i*3)))
    have hdl:(us.drop (i*3)).length=(els.length - i)*3:=by rw[List.length_drop,hxl,Nat.sub_mul]
    have hsp1:∀t,t<c*3→((w.drew.setCells g ((i+1)*3) (us.drop (i*3))).cell? ⟨g,t,none⟩).isSome=true:=fun t ht=>
     zfl g _ _ w.drew (fun t ht=>hsp _ (by omega)) _ (hsp t ht)
    rw[hw]
    refine Ctx.putOne (us:=us) (vs:=vs) H hus h1 hk hvs h1v hv hi (b1.trans a1) (b2.trans a2) (b3.trans a3) (by rw[b4,a4]; exact Nat.le_refl _) (fun b hb hn=>?_) (.inr (by simp[oblk])) hg2 (by rw[hs2,hs1,hn3]) ?_ hroom hn2
    ·have hne:b≠g:=by simpa[oblk]using hn
     rw[ziw hne,ziw hne]; rfl
    ·refine yaq hxl hvl hi (fun t u ht hu=>?_) (fun t u hu=>?_) (fun t u hu=>?_)
     ·rw[World.cell?_setCells_out g _ _ _ _ (fun _ _=>.inl ht),World.cell?_setCells_out g _ _ _ _ (fun _ _=>.inl (by show t<(i+1)*3; omega))]
      exact hc t u hu
     ·have h4:=(List.getElem?_eq_some_iff.1 hu).1
      have:=World.cell?_setCells_in g vs (i*3) (w.drew.setCells g ((i+1)*3) (us.drop (i*3))) (fun q hq=>hsp1 _ (by omega)) t h4
      rw[this,←hu,List.getElem?_eq_getElem h4]
     ·have h4:=(List.getElem?_eq_some_iff.1 hu).1
      rw[World.cell?_setCells_out g _ _ _ _ (fun _ _=>.inr (by show i*3+vs.length≤(i+1)*3+t; omega))]
      have:=World.cell?_setCells_in g (us.drop (i*3)) ((i+1)*3) w.drew (fun q hq=>hsp _ (by omega)) t h4
      rw[this,←hu,List.getElem?_eq_getElem h4]
  ·by_cases hie:i=els.length
   ·refine grow (fun b hb=>by cases hb; rfl) (by simp) (fun b hb t u hu=>?_) hn1 (by omega) hie
    cases hb
    rw[Addr.add_lit,Nat.zero_add]
    exact hc t u hu
   ·have hlt:i<els.length:=by omega
    refine⟨.inl ⟨zqb,(ins_grow g els.length c i x vc us vs w hlt (by omega) hn1 hm hbig hxl hvl hc h1 hcv h1v).mono fun e w' ⟨he,hw⟩=>⟨_,he,?_⟩⟩⟩
    have hC:=grownCap_ge w (els.length+1) c 50
    have hC2:=grownCap_le_maxLen w (els.length+1) c 50 (by rw[zat]; omega)
    rw[hw]
    generalize grownCap w (els.length+1) c 50=C at*
    generalize hROW:(us.take (i*3)).toArray++Builtin.zeroCells zPos.cells (els.length+1 - i)++Builtin.zeroCells zPos.cells (C - (els.length+1))=ROW
    have htl:(us.take (i*3)).length=i*3:=by rw[List.length_take,hxl]; omega
    have hRs:ROW.size=C*3:=by rw[←hROW,Array.size_append,Array.size_append,hzl,hzl,List.size_toArray,htl]; omega
    have hRt:∀t,t<i*3→ROW[t]?=us[t]?:=fun t ht=>by
     rw[←hROW,Array.append_assoc,Array.getElem?_append_left (by rw[List.size_toArray]; omega),List.getElem?_toArray,List.getElem?_take_of_lt ht]
    have hg0:(w.alloc (.cells ROW 50)).drew.heap[w.heap.size]?=some (.cells ROW 50 (0,0)):=heap_alloc_new w _
    obtain⟨cur1,hg1,hs1⟩:=zki (o:=i*3) (vs:=vs) hg0
    have hg1':((w.alloc (.cells ROW 50)).drew.setCells w.heap.size (i*3) vs).drew.heap[w.heap.size]?=some (.cells cur1 50 (0,0)):=hg1
    obtain⟨cur2,hg2,hs2⟩:=zki (o:=(i+1)*3) (vs:=us.drop (i*3)) hg1'
    obtain⟨a1,a2,a3,a4⟩:=zfe w.heap.size (i*3) vs (w.alloc (.cells ROW 50)).drew
    obtain⟨b1,b2,b3,b4⟩:=zfe w.heap.size ((i+1)*3) (us.drop (i*3)) ((w.alloc (.cells ROW 50)).drew.setCells w.heap.size (i*3) vs).drew
    have hdl:(us.drop (i*3)).length=(els.length - i)*3:=by rw[List.length_drop,hxl,Nat.sub_mul]
    have hcell0:∀t,(w.alloc (.cells ROW 50)).drew.cell? ⟨w.heap.size,t,none⟩=ROW[t]?:=fun t=>World.cell?_alloc_at (w:=w) ROW _ w.heap.size t rfl
    have hsp0:∀t,t<C*3→((w.alloc (.cells ROW 50)).drew.cell? ⟨w.heap.size,t,none⟩).isSome=true:=fun t ht=>by
     rw[hcell0,Array.getElem?_eq_getElem (by omega)]; rfl
    have hsp1:∀t,t<C*3→(((w.alloc (.cells ROW 50)).drew.setCells w.heap.size (i*3) vs).drew.cell? ⟨w.heap.size,t,none⟩).isSome=true:=fun t ht=>
     zfl w.heap.size _ _ (w.alloc (.cells ROW 50)).drew (fun t ht=>hsp0 _ (by omega)) _ (hsp0 t ht)
    refine Ctx.putOne (us:=us) (vs:=vs) H hus h1 hk hvs h1v hv hi (b1.trans a1) (b2.trans a2) (b3.trans a3) (by rw[b4]; show _≤(World.setCells _ _ _ _).heap.size; rw[a4]; simp[World.drew]) (fun b hb hn=>?_) (.inl (Nat.le_refl _)) hg2 (by rw[hs2,hs1,hRs]) ?_ hC hC2
    ·have hne:b≠w.heap.size:=by omega
     rw[ziw hne]
     show ((w.alloc (.cells ROW 50)).drew.setCells w.heap.size (i*3) vs).heap[b]?=_
     rw[ziw hne]
     exact zcr w _ b hb
    ·refine yaq hxl hvl hi (fun t u ht hu=>?_) (fun t u hu=>?_) (fun t u hu=>?_)
     ·rw[World.cell?_setCells_out _ _ _ _ _ (fun _ _=>.inl (by show t<(i+1)*3; omega))]
      show ((w.alloc (.cells ROW 50)).drew.setCells w.heap.size (i*3) vs).cell? _=_
      rw[World.cell?_setCells_out _ _ _ _ _ (fun _ _=>.inl ht),hcell0,hRt t ht]
      exact hu
     ·have h4:=(List.getElem?_eq_some_iff.1 hu).1
      rw[World.cell?_setCells_out _ _ _ _ _ (fun _ _=>.inl (by show i*3+t<(i+1)*3; omega))]
      show ((w.alloc (.cells ROW 50)).drew.setCells w.heap.size (i*3) vs).cell? _=_
      have:=World.cell?_setCells_in w.heap.size vs (i*3) (w.alloc (.cells ROW 50)).drew (fun q hq=>hsp0 _ (by omega)) t h4
      rw[this,←hu,List.getElem?_eq_getElem h4]
     ·have h4:=(List.getElem?_eq_some_iff.1 hu).1
      have:=World.cell?_setCells_in w.heap.size (us.drop (i*3)) ((i+1)*3) ((w.alloc (.cells ROW 50)).drew.setCells w.heap.size (i*3) vs).drew (fun q hq=>hsp1 _ (by omega)) t h4
      rw[this,←hu,List.getElem?_eq_getElem h4]
end Go.Proofs.YtllkmncnmlmefaaGreat

namespace Go.Proofs.YtllkmncnmlmefaaGreat
open Go Go.Vc Go.RowKit
@[reducible] def tP0:DT:=(.pair tU0 (.pair (.slc tU0) .unit))
def delO(l:List tP0.den)(i j:Int):Option (List tP0.den×Unit):=if 0≤i∧i<j∧j≤l.length then some (l.take i.toNat++l.drop j.toNat,()) else none
def insO(l:List tP0.den)(i:Int)(v:List tP0.den):Option (List tP0.den×Unit):=
 if 0≤i∧i≤l.length∧(l.length+1)*40≤140737488355328 then (match v with|[x]=>some (l.take i.toNat++x::l.drop i.toNat,())|_=>none) else none
noncomputable def delete_s:LS:=⟨[.row 50 tP0,.v (.int .i64),.v (.int .i64)],[],[],.q (.own 50 tP0),fun z=>delO z.2.2.1 z.1 z.2.1⟩
noncomputable def insert_s:LS:=⟨[.row 50 tP0,.v (.int .i64),.v (.slc tP0)],[],[],.q (.own 50 tP0),fun z=>insO z.2.2.1 z.1 z.2.1⟩
theorem delete_ok:ECok Tryz.prog 263 (.ls delete_s):=by
 refine⟨rfl,rfl,rfl,fun z o h=>?_⟩
 replace h:delO z.2.2.1 z.1 z.2.1=some o:=h
 unfold delO at h
 split at h
 ·rename_i hc
  have h:=Option.some.inj h
  subst h
  have:=del_ctL (z.2.2.1.map fun x=>tP0.enc x) z.1 z.2.1 hc.1 hc.2.1 (by rw[List.length_map]; exact hc.2.2)
  rw[←List.map_take,←List.map_drop,←List.map_append]at this
  exact this
 ·cases h
theorem insert_ok:ECok Tryz.prog 264 (.ls insert_s):=by
 refine⟨rfl,rfl,rfl,fun z o h=>?_⟩
 replace h:insO z.2.2.1 z.1 z.2.1=some o:=h
 unfold insO at h
 split at h
 ·rename_i hc
  obtain⟨i,v,l,u⟩:=z
  simp only at h hc
  split at h
  ·rename_i x
   have h:=Option.some.inj h
   subst h
   have:=ins_ctL (l.map fun x=>tP0.enc x) (tP0.enc x) i hc.1 (by rw[List.length_map]; exact hc.2.1) rfl (by rw[List.length_map]; exact hc.2.2)
   rw[←List.map_take,←List.map_drop]at this
   have e:(l.take i.toNat).map (fun x=>tP0.enc x)++tP0.enc x::(l.drop i.toNat).map (fun x=>tP0.enc x)=(l.take i.toNat++x::l.drop i.toNat).map fun x=>tP0.enc x:=by rw[List.map_append,List.map_cons]
   rw[e]at this
   exact this
  ·cases h
 ·cases h
end Go.Proofs.YtllkmncnmlmefaaGreat