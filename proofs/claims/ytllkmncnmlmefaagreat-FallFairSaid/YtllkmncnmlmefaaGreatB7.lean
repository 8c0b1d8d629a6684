import Derived.Test.YtllkmncnmlmefaaGreatB6
import Derived.Laws.Externs
import Derived.WalkKit
import Derived.ProofKit
import Derived.OpenShut
import Derived.ShutString
import Derived.ChangeOld
import Derived.Below
import Derived.Lib.SmallJoins
namespace Go.Vc
open Go Go.RowKit
theorem ykq{P:Program}{f:FuncId}{s:ES}(h:∀x q,s.fn x=some q→∀(E:Env) (vs:List Value),hL E (argVs s.P x) vs→∃v,(∀w,(callFunc f vs.toArray).run P w=.ok (.value v) w)∧(s.Q.mk q []).2=[]∧∀E,(s.Q.mk q []).1.h E v):ESok P f s:=by
 intro x q hx U0 B A vs w m hargs
 obtain⟨v,h1,h2,h3⟩:=h x q hx _ vs hargs
 refine⟨.inr ⟨v,w,h1 w,B,A,(s.Q.mk q []).1,[],[],m,h3 _,fun i hi=>(by obtain⟨b,hb⟩:=hi; simp at hb),rfl,?_⟩⟩
 exact Prod.ext rfl h2.symm
end Go.Vc
namespace Go.Vc
open Go Go.RowKit Go.ChangeShapes Go.WideShapes
def noU:Nat→Prop:=fun _=>False
def DT.okD:(t:DT)→t.den→Prop
 | .int k,n=>(Lit.int k n).wf=true
 | .bool,_=>True
 | .str,s=>s.size≤maxLen
 | .slc t,l=>(∀x∈l,t.okD x)∧l.length≤maxLen
 | .unit,_=>True
 | .pair a b,x=>a.okD x.1∧b.okD x.2
 | .set,_=>False
theorem wf_i64{n:Int}(h:(Lit.int .i64 n).wf=true) : -9223372036854775808≤n∧n≤9223372036854775807:=by
 simp[Lit.wf,IntKind.min,IntKind.max,IntKind.signed,IntKind.bits]at h; omega
def lay(P:Program):DT→(TypeId→Bool)×(List Field→Nat→Bool)
 | .int k=>(fun t=>match P.underlying t with|some (.int k')=>eqk k' k|_=>false,fun _ _=>false)
 | .bool=>(fun t=>match P.underlying t with|some .bool=>true|_=>false,fun _ _=>false)
 | .set=>(fun _=>false,fun _ _=>false)
 | .str=>(fun t=>match P.underlying t with|some .string=>true|_=>false,fun _ _=>false)
 | .slc d=>(fun t=>match P.underlying t with|some (.slice e)=>(lay P d).1 e&&Nat.beq (P.cellsOf e) d.size|_=>false,fun _ _=>false)
 | .unit=>(fun t=>match P.underlying t with|some (.struct fs)=>fs.toList.isEmpty&&Nat.beq (P.cellsOf t) 0|_=>false,fun fl _=>fl.isEmpty)
 | .pair a b=>
  (fun t=>match P.underlying t with
   |some (.struct fs)=>(match fs.toList with
    |f::fl=>Nat.beq f.offset 0&&Nat.beq (P.cellsOf f.type) a.size&&(lay P a).1 f.type&&(lay P b).2 fl a.size
    |[]=>false)&&Nat.beq (fs.toList.foldl (fun s f=>s+P.cellsOf f.type) 0) (P.cellsOf t)
   |_=>false,
  fun fl off=>match fl with
   |f::fl=>Nat.beq f.offset off&&Nat.beq (P.cellsOf f.type) a.size&&(lay P a).1 f.type&&(lay P b).2 fl (off+a.size)
   |[]=>false)
def OpnD(P:Program)(t:TypeId)(d:DT):Prop:=
 ∀(H:Type) (enc:TypeId×Value→H) (w:World) (base:Nat) (spare:Nat→Bool) (held:Bool) (fuel:Nat) (cs:List Value) (x:DataW H×List MemPlace),
  DataW.trod enc P w base spare held fuel t cs=some x→∃a,d.okD a∧d.h noU w a cs
def OpnF(P:Program)(fl:List Field)(off:Nat)(d:DT):Prop:=
 ∀(H:Type) (enc:TypeId×Value→H) (w:World) (base:Nat) (spare:Nat→Bool) (held:Bool) (fuel:Nat) (cs:List Value) (n:Nat),cs.length=n→fl.foldl (fun s f=>s+P.cellsOf f.type) off=n→
  (∀f∈fl,∃x,DataW.trod enc P w base spare held fuel f.type ((cs.drop f.offset).take (P.cellsOf f.type))=some x)→∃a,d.okD a∧d.h noU w a (cs.drop off)
theorem zwu{α:Type}{Q:Nat→α→Prop}:∀(n:Nat),(∀i,i<n→∃a,Q i a)→∃l:List α,l.length=n∧∀i a,l[i]?=some a→Q i a
 |0,_=>⟨[],rfl,by simp⟩
 |n+1,h=>by
  obtain⟨l,hl,hq⟩:=zwu n fun i hi=>h i (by omega)
  obtain⟨a,ha⟩:=h n (by omega)
  refine⟨l++[a],by simp[hl],fun i b hb=>?_⟩
  rcases Nat.lt_or_ge i n with hi|hi
  ·rw[List.getElem?_append_left (by omega)]at hb; exact hq i b hb
  ·rw[List.getElem?_append_right (by omega),hl]at hb
   rcases Nat.eq_or_lt_of_le hi with e|e
   ·subst e; simp at hb; subst hb; exact ha
   ·rw[List.getElem?_eq_none (by simp; omega)]at hb; cases hb
theorem cells_get{w:World}{base:Nat}{a:Addr}{n:Nat}{cs:List Value}(h:w.cells? base a n=some cs):cs.length=n∧∀j u,cs[j]?=some u→w.cell? (a.add j)=some u:=by
 unfold World.cells? at h
 split at h
 ·have hl:=mapM_some_length h
  refine⟨by simpa using hl,fun j u hj=>?_⟩
  have hlt:j<n:=by have:=(List.getElem?_eq_some_iff.1 hj).1; simp at hl; omega
  have:=mapM_some_get h j j (by simp[hlt])
  rw[this,hj]
 ·cases h
theorem opn_slice{P:Program}{t e:TypeId}{d:DT}(ht:P.underlying t=some (.slice e))(hk:P.cellsOf e=d.size)(he:OpnD P e d):OpnD P t (.slc d):=by
 intro H enc w base spare held fuel cs x h
 rcases DataW.trod_slice ht h with ⟨rfl,_⟩|⟨a,len,cap,elems,rest,n,_,rfl,_,hb,hl,hm,hlen,hel,_,_⟩
 ·exact⟨[],⟨by simp,Nat.zero_le _⟩,none,0,rfl,Nat.le_refl _,Nat.zero_le _,by simp⟩
 ·have hq:∀i,i<len→∃b:d.den,d.okD b∧∃us,d.h noU w b us∧∀j u,us[j]?=some u→w.cell? (a.add (i*d.size+j))=some u:=by
   intro i hi
   have h1:=hel i hi
   have h2:elems[i]?=some elems[i]:=List.getElem?_eq_getElem (by omega)
   rw[h2,Option.bind_eq_some_iff]at h1
   obtain⟨us,h3,h4⟩:=h1
   obtain⟨b,hb1,hb2⟩:=he H enc w base spare held n us _ h4
   obtain⟨_,g2⟩:=cells_get h3
   refine⟨b,hb1,us,hb2,fun j u hj=>?_⟩
   have:=g2 j u hj
   rwa [Addr.add_add,hk]at this
  obtain⟨l,hll,hl2⟩:=zwu len hq
  refine⟨l,⟨fun b hb=>?_,by omega⟩,some a,cap,by rw[hll],by omega,hm,fun i x hi=>?_⟩
  ·obtain⟨i,hi⟩:=List.mem_iff_getElem?.1 hb
   exact(hl2 i b hi).1
  ·obtain⟨_,us,g2,g3⟩:=hl2 i x hi
   refine⟨us,g2,fun j u hj=>⟨a,rfl,fun h=>h,?_,g3 j u hj⟩⟩
   have:=World.block_lt_of_cell? w _ (g3 j u hj)
   rwa [zbp]at this
theorem zyf{P:Program}{t:TypeId}{fs:Array Field}{d:DT}(ht:P.underlying t=some (.struct fs))(hs:fs.toList.foldl (fun s f=>s+P.cellsOf f.type) 0=P.cellsOf t)(h:OpnF P fs.toList 0 d):OpnD P t d:=by
 intro H enc w base spare held fuel cs x hx
 obtain⟨xs,n,_,_,hl,hxl,hf⟩:=DataW.trod_struct ht hx
 have:=h H enc w base spare held n cs _ hl hs fun f hf'=>by
  obtain⟨i,hi⟩:=List.mem_iff_getElem?.1 hf'
  have h1:=hf i f (by simpa using hi)
  have hlt:=(List.getElem?_eq_some_iff.1 hi).1
  rw[List.getElem?_eq_getElem (by rw[hxl]; simpa using hlt)]at h1
  exact⟨_,h1⟩
 simpa using this
theorem opn_nil{P:Program}{off:Nat}:OpnF P [] off .unit:=by
 intro H enc w base spare held fuel cs n hl hn _
 simp at hn
 exact⟨(),trivial,by simp only[DT.h]; simp; omega⟩
theorem opn_cons{P:Program}{f:Field}{fl:List Field}{off:Nat}{a b:DT}(ho:f.offset=off)(hk:P.cellsOf f.type=a.size)(h1:OpnD P f.type a)(h2:OpnF P fl (off+a.size) b):OpnF P (f::fl) off (.pair a b):=by
 intro H enc w base spare held fuel cs n hl hn hf
 subst ho
 obtain⟨x,hx⟩:=hf f (by simp)
 obtain⟨y,a1,a2⟩:=h1 H enc w base spare held fuel _ x hx
 obtain⟨z,b1,b2⟩:=h2 H enc w base spare held fuel cs n hl (by rw[←hk]; simpa using hn) fun g hg=>hf g (by simp[hg])
 refine⟨(y,z),⟨a1,b1⟩,_,_,?_,a2,b2⟩
 rw[←List.drop_drop,hk,List.take_append_drop]
theorem lay_ok(P:Program):∀d:DT,(∀t,(lay P d).1 t=true→OpnD P t d)∧∀fl off,(lay P d).2 fl off=true→OpnF P fl off d
 | .set=>⟨fun _ h=>by simp[lay]at h,fun _ _ h=>by simp[lay]at h⟩
 | .int k=>by
   refine⟨fun t h=>?_,fun fl off h=>?_⟩
   case refine_2=>simp[lay]at h
   simp only[lay]at h
   split at h
   ·rename_i k' ht
    have:=eqk_eq h
    subst this
    intro H enc w base spare held fuel cs x hx
    obtain⟨n,rfl,_,hw⟩:=DataW.trod_int ht hx
    exact⟨n,hw,rfl⟩
   ·cases h
 | .bool=>by
   refine⟨fun t h=>?_,fun fl off h=>?_⟩
   case refine_2=>simp[lay]at h
   simp only[lay]at h
   split at h
   ·rename_i ht
    intro H enc w base spare held fuel cs x hx
    obtain⟨n,rfl,_⟩:=DataW.trod_bool ht hx
    exact⟨n,trivial,rfl⟩
   ·cases h
 | .str=>by
   refine⟨fun t h=>?_,fun fl off h=>?_⟩
   case refine_2=>simp[lay]at h
   simp only[lay]at h
   split at h
   ·rename_i ht
    intro H enc w base spare held fuel cs x hx
    obtain⟨n,rfl,_,hl⟩:=DataW.trod_string ht hx
    exact⟨n,hl,rfl⟩
   ·cases h
 | .slc d=>by
   refine⟨fun t h=>?_,fun fl off h=>?_⟩
   case refine_2=>simp[lay]at h
   simp only[lay]at h
   split at h
   ·rename_i e ht
    simp only[Bool.and_eq_true]at h
    exact opn_slice ht (Nat.eq_of_beq_eq_true h.2) ((lay_ok P d).1 _ h.1)
   ·cases h
 | .unit=>by
   refine⟨fun t h=>?_,fun fl off h=>?_⟩
   case refine_2=>simp only[lay,List.isEmpty_iff]at h; subst h; exact opn_nil
   simp only[lay]at h
   split at h
   ·rename_i fs ht
    simp only[Bool.and_eq_true,List.isEmpty_iff]at h
    refine zyf ht (by rw[h.1,Nat.eq_of_beq_eq_true h.2]; rfl) ?_
    rw[h.1]; exact opn_nil
   ·cases h
 | .pair a b=>by
  have hF:∀fl off,(lay P (.pair a b)).2 fl off=true→OpnF P fl off (.pair a b):=fun fl off h=>by
   simp only[lay]at h
   split at h
   ·simp only[Bool.and_eq_true]at h
    obtain⟨⟨⟨h1,h2⟩,h3⟩,h4⟩:=h
    exact opn_cons (Nat.eq_of_beq_eq_true h1) (Nat.eq_of_beq_eq_true h2) ((lay_ok P a).1 _ h3) ((lay_ok P b).2 _ _ h4)
   ·cases h
  refine⟨fun t h=>?_,hF⟩
  simp only[lay]at h
  split at h
  ·rename_i fs ht
   simp only[Bool.and_eq_true]at h
   refine zyf ht (Nat.eq_of_beq_eq_true h.2) (hF _ _ ?_)
   have h1:=h.1
   simp only[lay]
   split at h1
   ·rename_i f fl hfs
    rw[Nat.zero_add]; exact h1
   ·cases h1
  ·cases h
theorem openD{P:Program}{t:TypeId}{d:DT}(hl:(lay P d).1 t=true){H:Type}{enc:TypeId×Value→H}{w:World}{re:Reach}{b0 base:Nat}{spare:Nat→Bool}{held:Bool}{v:Value}{D:DataW H}{p:List MemPlace}
  (hv:Value.okWide P w re b0 t v) (h:DataW.Trod enc P w base spare held t v D p):∃a,d.okD a∧d.hv noU w a v:=by
 have ho:=(lay_ok P d).1 t hl
 obtain⟨fuel,h⟩:=h
 obtain⟨a,h1,h2⟩:=ho H enc w base spare held fuel _ _ h
 refine⟨a,h1,_,h2,?_⟩
 cases d with
 |set=>simp[lay]at hl
 |int k=>
  simp only[lay]at hl
  split at hl
  ·rename_i ht; obtain⟨s,rfl⟩:=okWide_int ht hv; rfl
  ·cases hl
 |bool=>
  simp only[lay]at hl
  split at hl
  ·rename_i ht; obtain⟨s,rfl⟩:=okWide_bool ht hv; rfl
  ·cases hl
 |str=>
  simp only[lay]at hl
  split at hl
  ·rename_i ht; obtain⟨s,rfl⟩:=okWide_string ht hv; rfl
  ·cases hl
 |slc d=>
  simp only[lay]at hl
  split at hl
  ·rename_i ht; obtain⟨x,n,c,rfl⟩:=okWide_slice ht hv; rfl
  ·cases hl
 |unit=>
  simp only[lay]at hl
  split at hl
  ·rename_i ht; obtain⟨cs,rfl,_⟩:=okWide_struct ht hv; simp[DT.agg,Value.cells]
  ·cases hl
 |pair a b=>
  simp only[lay]at hl
  split at hl
  ·rename_i ht; obtain⟨cs,rfl,_⟩:=okWide_struct ht hv; simp[DT.agg,Value.cells]
  ·cases hl
def envS(w:World):Env:=⟨noU,w,fun _=>0,fun _=>(none,0),[],[]⟩
theorem argNil{w:World}:hL (envS w) (argVs .unit ()) []:=by simp only[argVs,hL]
theorem ybi{w:World}{a b:DT}{x:a.den}{y:b.den}{v:Value}{vs:List Value}(h:a.hv noU w x v)(k:hL (envS w) (argVs b y) vs):hL (envS w) (argVs (.pair a b) (x,y)) (v::vs):=by
 simp only[argVs,hL]
 exact⟨v,vs,rfl,a.val_h (E:=envS w) h,k⟩
theorem esays{P:Program}{f:FuncId}{A:DT}{F:A.den→Option Bool}(h:ESok P f ⟨A,.v .bool,F⟩){x:A.den}(hx:F x=some true){vs:List Value}{w:World}(hv:hL (envS w) (argVs A x) vs)(hb:zjb P f):
  Calls P f vs.toArray w fun e w'=>e=.returned (.bool true)∧Below w.heap.size w w':=by
 have hno:∀b,¬Ow (fun _=>0) (fun _=>(none,0)) [] [] b:=by
  rintro b ⟨k,i,h⟩
  cases k with
  |false=>obtain⟨⟨_,h⟩,_⟩:=h; simp at h
  |true=>obtain⟨r,ad,h,_⟩:=h; simp at h
 have m:Mem w noU (Ow (fun _=>0) (fun _=>(none,0)) [] []) (fun _=>0) (fun _=>(none,0)) [] [] w:=
  ⟨rfl,rfl,rfl,Nat.le_refl _,fun _ _ _=>rfl,fun b h=>h.elim,fun k i b h=>(hno b ⟨k,i,h⟩).elim,fun k i k' i' b h=>(hno b ⟨k,i,h⟩).elim,fun i b h=>by simp at h,fun j e t l h=>by simp at h,fun j d h=>by simp at h⟩
 have hU:∀b,Us noU (fun _=>0) (fun _=>(none,0)) [] [] b→noU b:=fun b h=>h.elim id fun h=>(hno b h).elim
 have s:Sub noF (envS w) (env noU (fun _=>0) (fun _=>(none,0)) [] [] w):=⟨⟨fun _ _ _=>rfl,Nat.le_refl _,fun b _ h=>hU b h⟩,fun i h=>⟨h,rfl⟩,fun j e t l _ h=>⟨l,h,rfl,rfl⟩,fun j d _ h=>⟨⟨d,h,rfl⟩,rfl⟩,fun j q e t l h=>(by cases h),fun j p d ad h=>(by cases h)⟩
 refine((h x true hx noU _ _ vs w m (noSub s hv)).calls hb).mono ?_
 rintro e w' ⟨v,rfl,B',A',r,pb',rw',m',hr,_,_,hq⟩
 simp only[QT.mk,Prod.mk.injEq]at hq
 obtain⟨rfl,_⟩:=hq
 simp only[DT.val,DV.h]at hr
 subst hr
 exact⟨rfl,m'.os,m'.tape,m'.output,m'.size,fun b hb=>m'.same b hb (hno b)⟩
end Go.Vc
namespace Go.Proofs.YtllkmncnmlmefaaGreat
open Go Go.Vc Go.RowKit
theorem few31_D{x:DT.den tAState}(o:DT.okD tAState x):∃t,zqn x=some t∧OkS t:=by
 obtain⟨_,o1,o2,o3,o4,o5,_,_,o8,o9,o10,o11,_⟩:=o
 have hm:maxLen=9223372036854775807:=zbc
 have h3:(asS x).length≤9223372036854775807:=by have:=o3.2; rw[hm]at this; exact this
 have h4:x.2.2.2.2.1.length≤9223372036854775807:=by have:=o4.2; rw[hm]at this; exact this
 have h4m:∀a∈x.2.2.2.2.1,a.2.2.2.1.length≤9223372036854775807:=fun a ha=>by have:=(o4.1 a ha).2.2.2.1.2; rw[hm]at this; exact this
 have p1:okF (pu x):=fun y hy=>wf_i64 (o10.1 y hy).2.1
 have p2:(pu x).length≤9223372036854775807:=by have:=o10.2; rw[hm]at this; exact this
 have h1:(ho x).length≤9223372036854775807:=by have:=o11.2; rw[hm]at this; exact this
 have h2:∀p∈ho x,p.2.1.length≤9223372036854775807:=fun p hp=>by have:=(o11.1 p hp).2.1.2; rw[hm]at this; exact this
 have h5:∀p∈ho x,∀y∈p.2.1,I64 y.2.2.1:=fun p hp y hy=>wf_i64 ((o11.1 p hp).2.1.1 y hy).2.2.1
 obtain⟨t,e,F⟩:=r_few31 h3 h4 h4m p2 h1 h2
 refine⟨t,e,F.a,F.aL,F.c,F.cL,?_,?_,?_,?_⟩
 ·rw[F.p]; exact fun y hy=>p1 y (List.mem_of_mem_take hy)
 ·rw[F.p,List.length_take]; omega
 ·rw[F.h]
  unfold few26
  refine⟨fun p hp=>?_,by rw[List.length_map,List.length_take]; omega⟩
  obtain⟨q,hq,rfl⟩:=List.mem_map.1 hp
  exact⟨by show (q.2.1.take 20).length≤20; rw[List.length_take]; omega,fun y hy=>h5 q (List.mem_of_mem_take hq) y (List.mem_of_mem_take hy)⟩
 ·rw[F.h]; unfold few26; rw[List.length_map,List.length_take]; omega
def quoGo(T S:Int):List Int→Int→List KQ3
 |[],_=>[]
 |w::l,i=>(i,(T*w / S,(T*w % S,())))::quoGo T S l (i+1)
def bump:List KQ3→List Int→List Int
 |[],o=>o
 |q::qs,o=>bump qs (o.set q.1.toNat (o.getD q.1.toNat 0+1))
def zer:List KQ3→List Int→List Int
 |[],o=>o
 |q::qs,o=>zer qs (o.set q.1.toNat 0)
def zai(Q:List KQ3):List Int:=Q.map fun q=>q.2.1
def leftOf(Q:List KQ3):List Int:=Q.map fun q=>q.2.2.1
def restP(T:Int)(l:List Int):Nat:=(T - (zai (quoGo T l.sum l 0)).sum).toNat
def splitP(T:Int)(l:List Int):List Int:=
 if T=0 then List.replicate l.length 0 else bump ((srtQ (quoGo T l.sum l 0)).take (restP T l)) (zai (quoGo T l.sum l 0))
theorem ziq(T S:Int):∀(l:List Int) (i:Int),(quoGo T S l i).length=l.length
 |[],_=>rfl
 |w::l,i=>by simp[quoGo,ziq T S l]
theorem zrs(T S:Int):∀(l:List Int) (i:Int) (k:Nat) (h:k<l.length),(quoGo T S l i)[k]'(by rw[ziq]; exact h)=(i+k,(T*l[k] / S,(T*l[k] % S,())))
 |w::l,i,0,h=>by simp[quoGo]
 |w::l,i,k+1,h=>by
  have:=zrs T S l (i+1) k (by simpa using h)
  simp only[quoGo,List.getElem_cons_succ]
  rw[this]
  congr 1
  omega
theorem yft{T S:Int}:∀{l:List Int} {i:Int} {q:KQ3},q∈quoGo T S l i→∃w∈l,q.2.1=T*w / S∧q.2.2.1=T*w % S∧i≤q.1∧q.1<i+l.length
 |[],_,_,h=>by cases h
 |w::l,i,q,h=>by
  rcases List.mem_cons.1 h with rfl|h
  ·exact⟨w,List.mem_cons_self,rfl,rfl,Int.le_refl _,by simp; omega⟩
  ·obtain⟨v,hv,h1,h2,h3,h4⟩:=yft h
   exact⟨v,List.mem_cons_of_mem _ hv,h1,h2,by omega,by simp only[List.length_cons]; omega⟩
theorem zvc(T S:Int):∀(l:List Int) (i:Int),(quoGo T S l i).Pairwise fun a b=>a.1<b.1
 |[],_=>.nil
 |w::l,i=>List.pairwise_cons.2 ⟨fun q hq=>by obtain⟨_,_,_,_,h,_⟩:=yft hq; show i<q.1; omega,zvc T S l (i+1)⟩
theorem quo_sum{T S:Int}(hS:0<S):∀(l:List Int) (i:Int),(zai (quoGo T S l i)).sum*S+(leftOf (quoGo T S l i)).sum=T*l.sum
 |[],_=>by simp[quoGo,zai,leftOf]
 |w::l,i=>by
  have ih:=quo_sum (T:=T) hS l (i+1)
  have e:=Int.mul_ediv_add_emod (T*w) S
  simp only[quoGo,zai,leftOf,List.map_cons,List.sum_cons]at ih ⊢
  rw[Int.add_mul,Int.mul_add,Int.mul_comm (T*w / S)]
  omega
theorem zxr{S:Int}:∀{L:List KQ3},(∀q∈L,q.2.2.1<S)→(leftOf L).sum≤L.length*(S - 1)
 |[],_=>by simp[leftOf]
 |q::L,h=>by
  have ih:=zxr (L:=L) fun x hx=>h x (List.mem_cons_of_mem _ hx)
  have h1:=h q List.mem_cons_self
  simp only[leftOf,List.map_cons,List.sum_cons,List.length_cons]at ih ⊢
  have e:((L.length+1:Nat):Int)*(S - 1)=L.length*(S - 1)+(S - 1):=by rw[Int.natCast_add,Int.add_mul]; simp
  rw[e]; omega
theorem yie:∀{L:List KQ3},(∀q∈L,q.2.2.1=0)→(leftOf L).sum=0
 |[],_=>by simp[leftOf]
 |q::L,h=>by
  have ih:=yie (L:=L) fun x hx=>h x (List.mem_cons_of_mem _ hx)
  have h1:=h q List.mem_cons_self
  simp only[leftOf,List.map_cons,List.sum_cons]at ih ⊢
  omega
theorem left_pos{S:Int}{r:Nat}{L:List KQ3}(hS:0<S)(hp:L.Pairwise fun a b=>leQ a b=true)(h0:∀q∈L,0≤q.2.2.1∧q.2.2.1<S)(hs:(leftOf L).sum=r*S):r≤L.length∧∀q∈L.take r,0<q.2.2.1:=by
 have key:∀k:Nat,k<r→((leftOf (L.drop k)).sum=0→False):=by
  intro k hk hz
  have e:(leftOf L).sum=(leftOf (L.take k)).sum+(leftOf (L.drop k)).sum:=by
   rw[←List.sum_append]
   unfold leftOf
   rw[←List.map_append,List.take_append_drop]
  have h1:=zxr (S:=S) (L:=L.take k) fun q hq=>(h0 q (List.mem_of_mem_take hq)).2
  have h2:((L.take k).length:Int)*(S - 1)≤k*(S - 1):=Int.mul_le_mul_of_nonneg_right (by rw[List.length_take]; omega) (by omega)
  have h3:((k:Nat):Int)*(S - 1)+k=k*S:=by rw[Int.mul_sub]; omega
  have h4:((k:Nat):Int)*S+S≤r*S:=by
   have:=Int.mul_le_mul_of_nonneg_right (show ((k+1:Nat):Int)≤r by omega) (show 0≤S by omega)
   rw[Int.natCast_add,Int.add_mul]at this
   simpa using this
  omega
 have hl:r≤L.length:=by
  rcases Nat.lt_or_ge L.length r with h|h
  ·exact(key _ h (by rw[List.drop_length]; simp[leftOf])).elim
  ·exact h
 refine⟨hl,fun q hq=>?_⟩
 obtain⟨k,hk,rfl⟩:=List.getElem_of_mem hq
 rw[List.length_take]at hk
 rw[List.getElem_take]
 have hk':k<L.length:=by omega
 have hb:=h0 _ (List.getElem_mem hk')
 rcases Decidable.em (0<(L[k]).2.2.1) with h|h
 ·exact h
 ·refine(key k (by omega) (yie fun x hx=>?_)).elim
  have hx0:=h0 x (List.mem_of_mem_drop hx)
  rw[List.drop_eq_getElem_cons hk']at hx
  rcases List.mem_cons.1 hx with rfl|hx
  ·omega
  ·have hd:=List.drop_eq_getElem_cons hk'
   have hpd:(L.drop k).Pairwise fun a b=>leQ a b=true:=hp.sublist (List.drop_sublist _ _)
   rw[hd]at hpd
   have:=(List.pairwise_cons.1 hpd).1 x hx
   rw[zpj]at this
   omega
theorem zuc:∀(qs:List KQ3) (o:List Int),(bump qs o).length=o.length
 |[],_=>rfl
 |q::qs,o=>by rw[bump,zuc qs]; simp
theorem ziu{o:List Int}{i j:Nat}{v:Int}(h:i≠j):(o.set i v).getD j 0=o.getD j 0:=by
 rw[List.getD_eq_getElem?_getD,List.getD_eq_getElem?_getD,List.getElem?_set_ne h]
theorem bump_bd{T:Int}:∀(qs:List KQ3) (o:List Int),(∀x∈o,0≤x∧x≤T)→(∀q∈qs,0≤q.1∧o.getD q.1.toNat 0+1≤T)→(qs.Pairwise fun a b=>a.1≠b.1)→∀x∈bump qs o,0≤x∧x≤T
 |[],o,h,_,_=>h
 |q::qs,o,h,hq,hp=>by
  obtain⟨p1,p2⟩:=List.pairwise_cons.1 hp
  have g0:0≤o.getD q.1.toNat 0:=by
   rw[List.getD_eq_getElem?_getD]
   cases e:o[q.1.toNat]? with
   |none=>simp
   |some v=>exact(h v (List.mem_of_getElem? e)).1
  have hq0:=hq q List.mem_cons_self
  refine bump_bd qs _ (fun x hx=>?_) (fun q' hq'=>?_) p2
  ·rcases List.mem_or_eq_of_mem_set hx with hx|rfl
   ·exact h x hx
   ·omega
  ·have h1:=hq q' (List.mem_cons_of_mem _ hq')
   have h2:=p1 q' hq'
   refine⟨h1.1,?_⟩
   rw[ziu (by omega)]
   exact h1.2
structure OkW(T:Int)(l:List Int):Prop where
 t0:0≤T
 ts:T≤l.sum
 nn:∀w∈l,0≤w
 s64:I64 l.sum
 len:l.length≤1000
theorem yjfA{a b:List Int}(h:a.Perm b):a.sum=b.sum:=by
 induction h with
 |nil=>rfl
 |cons x _ ih=>rw[List.sum_cons,List.sum_cons,ih]
 |swap x y l=>simp only[List.sum_cons]; omega
 |trans _ _ h1 h2=>exact h1.trans h2
theorem le_sum:∀{l:List Int},(∀w∈l,0≤w)→0≤l.sum∧∀w∈l,w≤l.sum
 |[],_=>by simp
 |x::l,h=>by
  obtain⟨h1,h2⟩:=le_sum (l:=l) fun w hw=>h w (List.mem_cons_of_mem _ hw)
  have h3:=h x List.mem_cons_self
  refine⟨by rw[List.sum_cons]; omega,fun w hw=>?_⟩
  rw[List.sum_cons]
  rcases List.mem_cons.1 hw with rfl|hw
  ·omega
  ·have:=h2 w hw; omega
theorem OkW.w64{T:Int}{l:List Int}(h:OkW T l):∀w∈l,I64 w:=fun w hw=>by
 have h1:=(le_sum h.nn).2 w hw
 have h2:=h.nn w hw
 have h3:=h.s64
 unfold I64 at *; omega
structure OkQ(T S:Int)(l:List Int)(Q:List KQ3)(r:Nat):Prop where
 len:Q.length=l.length
 q:∀q∈Q,0≤q.1∧q.1<l.length∧0≤q.2.1∧q.2.1≤T∧0≤q.2.2.1∧q.2.2.1<S∧(0<q.2.2.1→q.2.1+1≤T)
 re:(r:Int)=T - (zai Q).sum
 rl:r≤l.length
 pos:∀q∈(srtQ Q).take r,0<q.2.2.1
theorem OkW.quo{T:Int}{l:List Int}(h:OkW T l)(hT:T≠0):OkQ T l.sum l (quoGo T l.sum l 0) (restP T l):=by
 have hS:0<l.sum:=by have:=h.t0; have:=h.ts; omega
 have hq:∀q∈quoGo T l.sum l 0,0≤q.1∧q.1<l.length∧0≤q.2.1∧q.2.1≤T∧0≤q.2.2.1∧q.2.2.1<l.sum∧(0<q.2.2.1→q.2.1+1≤T):=by
  intro q hq
  obtain⟨w,hw,e1,e2,e3,e4⟩:=yft hq
  have w0:=h.nn w hw
  have w1:=(le_sum h.nn).2 w hw
  have a:=Int.mul_nonneg h.t0 w0
  have b:=Int.mul_le_mul_of_nonneg_left w1 h.t0
  have c:=Int.emod_nonneg (T*w) (Int.ne_of_gt hS)
  have d:=Int.emod_lt_of_pos (T*w) hS
  have m:=Int.mul_ediv_add_emod (T*w) l.sum
  rw[←e1,←e2]at m
  rw[←e2]at c d
  have f:0≤q.2.1:=by rw[e1]; exact Int.ediv_nonneg a (Int.le_of_lt hS)
  have g:q.2.1≤T:=by
   rcases Decidable.em (q.2.1≤T) with g|g
   ·exact g
   ·have:=Int.mul_le_mul_of_nonneg_left (show T+1≤q.2.1 by omega) (Int.le_of_lt hS)
    rw[Int.mul_add,Int.mul_comm l.sum T]at this; omega
  refine⟨e3,by omega,f,g,c,d,fun hp=>?_⟩
  rcases Decidable.em (q.2.1+1≤T) with g2|g2
  ·exact g2
  ·have e5:q.2.1=T:=by omega
   rw[e5,Int.mul_comm l.sum T]at m; omega
 have hsum:=quo_sum (T:=T) hS l 0
 have hperm:=zdt (quoGo T l.sum l 0)
 have hleft0:∀L:List KQ3,(∀q∈L,0≤q.2.2.1)→0≤(leftOf L).sum:=fun L hL=>by
  refine(le_sum (l:=leftOf L) fun w hw=>?_).1
  obtain⟨q,hq,rfl⟩:=List.mem_map.1 hw
  exact hL q hq
 have hl0:=hleft0 _ fun q hq'=>(hq q hq').2.2.2.2.1
 have e:(T - (zai (quoGo T l.sum l 0)).sum)*l.sum=(leftOf (quoGo T l.sum l 0)).sum:=by rw[Int.sub_mul]; omega
 have hr0:0≤T - (zai (quoGo T l.sum l 0)).sum:=by
  rcases Decidable.em (0≤T - (zai (quoGo T l.sum l 0)).sum) with g|g
  ·exact g
  ·have:=Int.mul_le_mul_of_nonneg_right (show T - (zai (quoGo T l.sum l 0)).sum ≤ -1 by omega) (Int.le_of_lt hS)
   omega
 have hr:((restP T l:Nat):Int)=T - (zai (quoGo T l.sum l 0)).sum:=by unfold restP; omega
 have hperml:(leftOf (srtQ (quoGo T l.sum l 0))).sum=(leftOf (quoGo T l.sum l 0)).sum:=yjfA (hperm.map _)
 have hh:=left_pos (r:=restP T l) hS (ztm (quoGo T l.sum l 0)) (fun q hq'=>by
  have:=hq q (hperm.mem_iff.1 hq')
  exact⟨this.2.2.2.2.1,this.2.2.2.2.2.1⟩) (by rw[hperml,hr,e])
 rw[hperm.length_eq,ziq]at hh
 exact⟨ziq _ _ _ _,hq,hr,hh.1,hh.2⟩
theorem zod{Q:List KQ3}{n:Nat}(hQ:∀(k:Nat) (h:k<Q.length),(Q[k]).1=(k:Int)){q:KQ3}(hq:q∈Q):(zai Q).getD q.1.toNat 0=q.2.1∧(leftOf Q).getD q.1.toNat 0=q.2.2.1:=by
 obtain⟨k,hk,rfl⟩:=List.getElem_of_mem hq
 rw[hQ k hk,Int.toNat_natCast]
 unfold zai leftOf
 simp[List.getD_eq_getElem?_getD,hk]
theorem quo_at(T S:Int)(l:List Int):∀(k:Nat) (h:k<(quoGo T S l 0).length),((quoGo T S l 0)[k]).1=(k:Int):=fun k h=>by
 rw[zrs T S l 0 k (by rwa [ziq]at h)]
 exact Int.zero_add _
theorem zui{Q:List KQ3}(h:Q.Pairwise fun a b=>a.1<b.1):(srtQ Q).Pairwise fun a b=>a.1≠b.1:=
 (List.Perm.pairwise_iff (fun h=>Ne.symm h) (zdt Q)).2 (h.imp fun h=>by omega)
theorem OkW.split{T:Int}{l:List Int}(h:OkW T l):(splitP T l).length=l.length∧∀x∈splitP T l,0≤x∧x≤T:=by
 unfold splitP
 by_cases hT:T=0
 ·rw[if_pos hT]
  refine⟨List.length_replicate,fun x hx=>?_⟩
  have:=List.eq_of_mem_replicate hx
  subst this; have:=h.t0; omega
 ·rw[if_neg hT]
  have K:=h.quo hT
  refine⟨by rw[zuc]; unfold zai; rw[List.length_map,K.len],bump_bd _ _ (fun x hx=>?_) (fun q hq=>?_) ((zui (zvc _ _ _ _)).sublist (List.take_sublist _ _))⟩
  ·obtain⟨q,hq,rfl⟩:=List.mem_map.1 hx
   have:=K.q q hq; exact⟨this.2.2.1,this.2.2.2.1⟩
  ·have hm:=(zdt _).mem_iff.1 (List.mem_of_mem_take hq)
   have k:=K.q q hm
   refine⟨k.1,?_⟩
   rw[(zod (n:=0) (quo_at _ _ _) hm).1]
   exact k.2.2.2.2.2.2 (K.pos q hq)
abbrev ActF:=List AFlow'→List AHold'→PHD
def runA:List ActF→List AFlow'→List AHold'→List zbf→PHD
 |[],p,h,d=>(p,h,d,0)
 |a::l,p,h,d=>if (a p h).2.2.2=0 then runA l (a p h).1 (a p h).2.1 (d++(a p h).2.2.1) else ([],[],[],(a p h).2.2.2)
theorem zur:∀(l1 l2:List ActF) (p:List AFlow') (h:List AHold') (d:List zbf),
  runA (l1++l2) p h d=if (runA l1 p h d).2.2.2=0 then runA l2 (runA l1 p h d).1 (runA l1 p h d).2.1 (runA l1 p h d).2.2.1 else runA l1 p h d
 |[],l2,p,h,d=>by simp[runA]
 |a::l1,l2,p,h,d=>by
  rw[List.cons_append,runA,runA]
  by_cases he:(a p h).2.2.2=0
  ·rw[if_pos he,if_pos he,zur l1 l2]
  ·rw[if_neg he,if_neg he,if_neg he]
theorem zuq:∀(l:List ActF) (p:List AFlow') (h:List AHold') (d d0:List zbf),
  (runA l p h (d0++d)).2.2.2=(runA l p h d).2.2.2∧((runA l p h d).2.2.2=0→runA l p h (d0++d)=((runA l p h d).1,(runA l p h d).2.1,d0++(runA l p h d).2.2.1,0))
 |[],p,h,d,d0=>by simp[runA]
 |a::l,p,h,d,d0=>by
  rw[runA,runA]
  by_cases he:(a p h).2.2.2=0
  ·rw[if_pos he,if_pos he,List.append_assoc]; exact zuq l _ _ _ d0
  ·rw[if_neg he,if_neg he]; exact⟨rfl,fun h0=>absurd h0 he⟩
abbrev UA:=AUnit'×Int
abbrev PayT:=AUnit'×AUnit'×Int
def twoGo:List UA→List UA→List PayT
 |[],_=>[]
 |_::_,[]=>[]
 |(u,x)::gs,(v,y)::ts=>(u,v,min x y)::if x≤y then twoGo gs ((v,y - x)::ts) else twoGo ((u,x - y)::gs) ts
termination_by gs ts=>gs.length+ts.length
def rowGo(u:AUnit'):Int→List UA→List PayT×List UA
 |_,[]=>([],[])
 |x,(v,y)::ts=>((u,v,min x y)::(rowGo u (x - min x y) ts).1,(v,y - min x y)::(rowGo u (x - min x y) ts).2)
def fullGo:List UA→List UA→List PayT
 |[],_=>[]
 |(u,x)::gs,ts=>(rowGo u x ts).1++fullGo gs (rowGo u x ts).2
def nzP(l:List PayT):List PayT:=l.filter fun x=>x.2.2 != 0
theorem nz_app(a b:List PayT):nzP (a++b)=nzP a++nzP b:=List.filter_append ..
theorem ztr{u v:AUnit'}{n:Int}(h:n=0)(l:List PayT):nzP ((u,v,n)::l)=nzP l:=by
 unfold nzP; rw[List.filter_cons,if_neg (by simp[h])]
theorem yag(a:PayT)(l:List PayT):nzP (a::l)=nzP [a]++nzP l:=nz_app [a] l
def okU(l:List UA):Prop:=∀a∈l,0≤a.2
def zU(l:List UA):Prop:=∀a∈l,a.2=0
theorem row_x0(u:AUnit'):∀(ts:List UA),okU ts→nzP (rowGo u 0 ts).1=[]∧(rowGo u 0 ts).2=ts
 |[],_=>⟨rfl,rfl⟩
 |(v,y)::ts,h=>by
  have hy:0≤y:=h (v,y) List.mem_cons_self
  obtain⟨h1,h2⟩:=row_x0 u ts fun a ha=>h a (List.mem_cons_of_mem _ ha)
  have e:min 0 y=0:=by omega
  rw[rowGo]
  simp only[e,Int.sub_zero]
  exact⟨by rw[ztr rfl,h1],by rw[h2]⟩
theorem row_z(u:AUnit'){x:Int}(hx:0≤x)(ts:List UA):∀(Z:List UA),zU Z→nzP (rowGo u x (Z++ts)).1=nzP (rowGo u x ts).1∧(rowGo u x (Z++ts)).2=Z++(rowGo u x ts).2
 |[],_=>⟨rfl,rfl⟩
 |(v,y)::Z,h=>by
  have hy:y=0:=h (v,y) List.mem_cons_self
  obtain⟨h1,h2⟩:=row_z u hx ts Z fun a ha=>h a (List.mem_cons_of_mem _ ha)
  have e:min x y=0:=by omega
  rw[List.cons_append,rowGo]
  simp only[e,Int.sub_zero]
  exact⟨by rw[ztr rfl,h1],by rw[h2]; rfl⟩
theorem full_z:∀(gs Z:List UA),okU gs→zU Z→nzP (fullGo gs Z)=[]
 |[],_,_,_=>rfl
 |(u,x)::gs,Z,hg,hz=>by
  have hx:0≤x:=hg (u,x) List.mem_cons_self
  obtain⟨h1,h2⟩:=row_z u hx [] Z hz
  rw[List.append_nil]at h1 h2
  rw[fullGo,nz_app,h1,h2]
  show []++nzP (fullGo gs (Z++[]))=[]
  rw[List.append_nil]
  exact full_z gs Z (fun a ha=>hg a (List.mem_cons_of_mem _ ha)) hz
theorem yat:∀(n:Nat) (gs ts Z:List UA),gs.length+ts.length≤n→okU gs→okU ts→zU Z→nzP (fullGo gs (Z++ts))=nzP (twoGo gs ts)
 |_,[],ts,Z,_,_,_,_=>by rw[fullGo,twoGo]
 |_,(u,x)::gs,[],Z,_,hg,_,hz=>by
  rw[List.append_nil,full_z _ _ hg hz,twoGo]; rfl
 |n,(u,x)::gs,(v,y)::ts,Z,hn,hg,ht,hz=>by
  have hx:0≤x:=hg (u,x) List.mem_cons_self
  have hy:0≤y:=ht (v,y) List.mem_cons_self
  have hg':okU gs:=fun a ha=>hg a (List.mem_cons_of_mem _ ha)
  have ht':okU ts:=fun a ha=>ht a (List.mem_cons_of_mem _ ha)
  obtain⟨h1,h2⟩:=row_z u hx ((v,y)::ts) Z hz
  rw[fullGo,nz_app,h1,h2,twoGo,rowGo]
  by_cases hc:x≤y
  ·have e:min x y=x:=by omega
   obtain⟨r1,r2⟩:=row_x0 u ts ht'
   simp only[e,Int.sub_self,if_pos hc]
   rw[yag,r1,r2,List.append_nil,yag (u,v,x) (twoGo _ _)]
   congr 1
   cases gs with
   |nil=>rw[fullGo,twoGo]
   |cons g gs=>
    obtain⟨m,rfl⟩:∃m,n=m+1:=⟨n - 1,by simp only[List.length_cons]at hn; omega⟩
    refine yat m (g::gs) ((v,y - x)::ts) Z (by simp only[List.length_cons]at hn ⊢; omega) hg' (fun a ha=>?_) hz
    rcases List.mem_cons.1 ha with rfl|ha
    ·show 0≤y - x; omega
    ·exact ht' a ha
  ·have e:min x y=y:=by omega
   simp only[e,if_neg hc,Int.sub_self]
   rw[yag,List.append_assoc,yag (u,v,y) (twoGo _ _)]
   congr 1
   obtain⟨m,rfl⟩:∃m,n=m+1:=⟨n - 1,by simp only[List.length_cons]at hn; omega⟩
   have hz':zU (Z++[(v,0)]):=fun a ha=>by
    rcases List.mem_append.1 ha with ha|ha
    ·exact hz a ha
    ·simp only[List.mem_singleton]at ha; subst ha; rfl
   have ih:=yat m ((u,x - y)::gs) ts (Z++[(v,0)]) (by simp only[List.length_cons]at hn ⊢; omega) (fun a ha=>by
    rcases List.mem_cons.1 ha with rfl|ha
    ·show 0≤x - y; omega
    ·exact hg' a ha) ht' hz'
   obtain⟨s1,s2⟩:=row_z u (show 0≤x - y by omega) ts (Z++[(v,0)]) hz'
   rw[fullGo,nz_app,s1,s2]at ih
   rw[←ih,List.append_assoc]
   rfl
theorem zyt:∀(n:Nat) (gs ts:List UA),gs.length+ts.length≤n→(twoGo gs ts).length≤gs.length+ts.length
 |_,[],ts,_=>by rw[twoGo]; simp
 |_,(u,x)::gs,[],_=>by rw[twoGo]; simp
 |n,(u,x)::gs,(v,y)::ts,hn=>by
  obtain⟨m,rfl⟩:∃m,n=m+1:=⟨n - 1,by simp only[List.length_cons]at hn; omega⟩
  rw[twoGo]
  simp only[List.length_cons]at hn ⊢
  split
  ·have:=zyt m gs ((v,y - x)::ts) (by simp only[List.length_cons]; omega)
   simp only[List.length_cons]at this; omega
  ·have:=zyt m ((u,x - y)::gs) ts (by simp only[List.length_cons]; omega)
   simp only[List.length_cons]at this; omega
def payAct(as:List zaf)(x:PayT):ActF:=fun p h=>paysP as p h x.1 x.2.1 x.2.2
theorem zzz(as:List zaf):∀(l:List PayT) (p:List AFlow') (h:List AHold') (d:List zbf),runA (l.map (payAct as)) p h d=runA ((nzP l).map (payAct as)) p h d
 |[],_,_,_=>rfl
 |(u,v,n)::l,p,h,d=>by
  by_cases hn:n=0
  ·have e:payAct as (u,v,n) p h=(p,h,[],0):=by
    unfold payAct paysP; rw[if_pos hn]
   rw[ztr hn,List.map_cons,runA,e,if_pos rfl,List.append_nil]
   exact zzz as l p h d
  ·have e:nzP ((u,v,n)::l)=(u,v,n)::nzP l:=by unfold nzP; rw[List.filter_cons,if_pos (by simpa using hn)]
   rw[e,List.map_cons,List.map_cons,runA,runA]
   split
   ·exact zzz as l _ _ _
   ·rfl
structure StR(p:List AFlow')(h:List AHold')(d:List zbf)(n:Nat):Prop where
 f:okF p
 pl:p.length≤20+40*n
 hh:okHs h
 hl:h.length≤10+32*n
 dl:d.length≤n
def GoodA(a:ActF)(k:Nat):Prop:=∀p h d n,StR p h d n→n+k≤10000→(a p h).2.2.2=0→StR (a p h).1 (a p h).2.1 (d++(a p h).2.2.1) (n+k)
theorem zzy(as:List zaf)(b t:AUnit')(m:Int):GoodA (fun p h=>paysP as p h b t m) 1:=by
 intro p h d n S hn he
 have hh:=S.hl
 have hp:=S.pl
 have hd:=S.dl
 dsimp only at he ⊢
 unfold paysP at he ⊢
 by_cases h0:m=0
 ·rw[if_pos h0]; exact⟨S.f,by show p.length≤_; omega,S.hh,by show h.length≤_; omega,by rw[List.append_nil]; omega⟩
 ·rw[if_neg h0]at he ⊢
  by_cases h1:(sellP as p h b m).2.2=0
  ·rw[if_pos h1]at he ⊢
   obtain⟨_,a2,a3,a4⟩:=zri S.hh (by omega) S.f h1
   by_cases h2:(moveP (sellP as p h b m).1 b t m).2.1=0
   ·rw[if_pos h2]
    have:=ztu h2
    refine⟨this.1,?_,a3,?_,?_⟩
    ·show (moveP (sellP as p h b m).1 b t m).1.length≤_; omega
    ·show (sellP as p h b m).2.1.length≤_; omega
    ·rw[List.length_append]; show d.length+1≤n+1; omega
   ·rw[if_neg h2]at he; exact absurd he h2
  ·rw[if_neg h1]at he; exact absurd he h1
theorem yga(as:List zaf)(b t:AUnit'):GoodA (fun p h=>payF as p h b t) 1:=by
 intro p h d n S hn he
 have hh:=S.hl
 have hp:=S.pl
 have hd:=S.dl
 dsimp only at he ⊢
 unfold payF at he ⊢
 by_cases h1:(owesP p t).2.1=0
 ·rw[if_pos h1]at he ⊢
  by_cases h2:(roomP as p h b).2.1=0
  ·rw[if_pos h2]at he ⊢
   by_cases h3:b=t
   ·rw[if_pos h3]; exact⟨S.f,by show p.length≤_; omega,S.hh,by show h.length≤_; omega,by rw[List.append_nil]; omega⟩
   ·rw[if_neg h3]at he ⊢; exact zzy as b t _ p h d n S hn he
  ·rw[if_neg h2]at he; exact absurd he h2
 ·rw[if_neg h1]at he; exact absurd he h1
theorem ygb(as:List zaf)(u:AUnit'):GoodA (fun p h=>ownF as p h u) 1:=by
 intro p h d n S hn he
 have hh:=S.hl
 have hp:=S.pl
 have hd:=S.dl
 dsimp only at he ⊢
 unfold ownF at he ⊢
 by_cases h1:(owesP p u).2.1=0
 ·rw[if_pos h1]at he ⊢
  by_cases h2:(sellP as p h u 0).2.2=0
  ·rw[if_pos h2]at he ⊢
   obtain⟨a1,a2,a3,a4⟩:=zri S.hh (by omega) S.f h2
   by_cases h3:(owesP p u).1=(owesP (sellP as p h u 0).1 u).1
   ·rw[if_pos h3]; exact⟨a1,by show (sellP as p h u 0).1.length≤_; omega,a3,by show (sellP as p h u 0).2.1.length≤_; omega,by rw[List.append_nil]; omega⟩
   ·rw[if_neg h3]; exact⟨a1,by show (sellP as p h u 0).1.length≤_; omega,a3,by show (sellP as p h u 0).2.1.length≤_; omega,by rw[List.length_append]; show d.length+1≤n+1; omega⟩
  ·rw[if_neg h2]at he; exact absurd he h2
 ·rw[if_neg h1]at he; exact absurd he h1
theorem runA_st{k:Nat}:∀(l:List ActF),(∀a∈l,GoodA a k)→∀p h d n,StR p h d n→n+k*l.length≤10000→(runA l p h d).2.2.2=0→StR (runA l p h d).1 (runA l p h d).2.1 (runA l p h d).2.2.1 (n+k*l.length)
 |[],_,p,h,d,n,S,_,_=>S
 |a::l,hl,p,h,d,n,S,hn,he=>by
  rw[List.length_cons,Nat.mul_succ]at hn ⊢
  rw[runA]at he ⊢
  by_cases h1:(a p h).2.2.2=0
  ·rw[if_pos h1]at he ⊢
   have:=runA_st l (fun b hb=>hl b (List.mem_cons_of_mem _ hb)) _ _ _ _ (hl a List.mem_cons_self p h d n S (by omega) h1) (by omega) he
   rwa [show n+k+k*l.length=n+(k*l.length+k) by omega]at this
  ·rw[if_neg h1]at he; exact absurd he h1
def blen(n:Nat):Nat:=if n=0 then 0 else n.log2+1
theorem blen_bd{n:Nat}(h:0<n):2 ^ blen n≤2*n∧n+1≤2 ^ blen n:=by
 unfold blen
 rw[if_neg (by omega)]
 have h1:=Nat.log2_self_le (n:=n) (by omega)
 have h2:=Nat.lt_log2_self (n:=n)
 rw[Nat.pow_succ]at*
 omega
def okLen(s:ByteArray)(n:Nat):Bool:=match s[n]? with|some b=>b.toNat==blen n|none=>false
theorem sidx_len{β:Type}{s:ByteArray}(hs:(List.range 256).all (okLen s)=true){n:Nat}(hn:n<256)(K:Int→Option β):stdW.sidx s (n:Int) K=K (blen n:Nat):=by
 have h1:=List.all_eq_true.1 hs n (List.mem_range.2 hn)
 show sidxF s (n:Int) K=_
 unfold sidxF
 rw[decide_eq_true (by omega)]
 unfold okLen at h1
 rw[Int.toNat_natCast]
 cases hb:s[n]? with
 |none=>rw[hb]at h1; cases h1
 |some b=>
  rw[hb]at h1
  have h2:b.toNat=blen n:=by simpa using h1
  show K (b.toNat:Int)=_
  rw[h2]
theorem lz_bd{x z n b:Nat}(h1:2 ^ n*z≤x)(h2:x<2 ^ n*(z+1))(h3:2 ^ b≤2*z)(h4:z+1≤2 ^ b)(hn:n+b≤64):9223372036854775808≤x*2 ^ (64 - (n+b))∧x*2 ^ (64 - (n+b))<18446744073709551616:=by
 have e:2 ^ n*2 ^ b*2 ^ (64 - (n+b))=18446744073709551616:=by
  rw[←Nat.pow_add,←Nat.pow_add,show n+b+(64 - (n+b))=64 by omega]
 have p:=Nat.two_pow_pos (64 - (n+b))
 constructor
 ·have a1:2 ^ n*2 ^ b≤2*x:=Nat.le_trans (Nat.mul_le_mul_left _ h3) (by rw[Nat.mul_left_comm]; omega)
  have a2:=Nat.mul_le_mul_right (2 ^ (64 - (n+b))) a1
  rw[e,Nat.mul_assoc]at a2
  omega
 ·have a1:x<2 ^ n*2 ^ b:=Nat.lt_of_lt_of_le h2 (Nat.mul_le_mul_left _ h4)
  have a2:=Nat.mul_lt_mul_of_pos_right a1 p
  rwa [e]at a2
theorem st_bd{x z n:Nat}(m:Nat)(h1:2 ^ n*z≤x)(h2:x<2 ^ n*(z+1)):2 ^ (n+m)*(z / 2 ^ m)≤x∧x<2 ^ (n+m)*(z / 2 ^ m+1):=by
 have p:=Nat.two_pow_pos m
 have a1:2 ^ m*(z / 2 ^ m)≤z:=Nat.mul_div_le z _
 have a2:z+1≤2 ^ m*(z / 2 ^ m+1):=Nat.lt_mul_div_succ z p
 rw[Nat.pow_add,Nat.mul_assoc,Nat.mul_assoc]
 exact⟨Nat.le_trans (Nat.mul_le_mul_left _ a1) h1,Nat.lt_of_lt_of_le h2 (Nat.mul_le_mul_left _ a2)⟩
def LenOf(x:Nat)(o:Option Int):Prop:=∃n z:Nat,o=some (((n+blen z:Nat):Int))∧0<z∧z<256∧n≤56∧2 ^ n*z≤x∧x<2 ^ n*(z+1)
theorem fd_eq(z m:Nat)(hm:m≤64):Int.fdiv (z:Int) (2 ^ (Min.min (Int.toNat (m:Int)) (Go.IntKind.bits Go.IntKind.u64)))=((z / 2 ^ m:Nat):Int):=by
 rw[Int.toNat_natCast,show Min.min m (Go.IntKind.bits Go.IntKind.u64)=m from Nat.min_eq_left hm,Int.fdiv_eq_ediv_of_nonneg _ (Int.pow_nonneg (by decide))]
 simp
theorem r_len64{x:Nat}(h0:0<x)(hx:x<18446744073709551616):LenOf x (zvl (x:Int)):=by
 show LenOf x (zdo stdW (x:Int))
 unfold zdo
 refine zlu (Q:=LenOf x) fun k7 hk7=>?_
 have P1:∀z n:Nat,0<z→z<4294967296→n≤32→2 ^ n*z≤x→x<2 ^ n*(z+1)→LenOf x (k7 ((z:Int),((n:Int),()))):=by
  intro z n a b c d e
  subst hk7
  refine zlu (Q:=LenOf x) fun k6 hk6=>?_
  have P2:∀z n:Nat,0<z→z<65536→n≤48→2 ^ n*z≤x→x<2 ^ n*(z+1)→LenOf x (k6 ((z:Int),((n:Int),()))):=by
   intro z n a b c d e
   subst hk6
   refine zlu (Q:=LenOf x) fun k5 hk5=>?_
   have P3:∀z n:Nat,0<z→z<256→n≤56→2 ^ n*z≤x→x<2 ^ n*(z+1)→LenOf x (k5 ((z:Int),((n:Int),()))):=by
    intro z n a b c d e
    subst hk5
    refine⟨n,z,?_,a,b,c,d,e⟩
    have eu:IntKind.u8.wrap (z:Int)=(z:Int):=IntWalk.u8_in _ (by omega)
    show stdW.sidx _ (IntKind.u8.wrap (z:Int)) _=_
    rw[eu,sidx_len (by kernel_rfl) b]
    have hb:blen z≤8:=by
     rcases Nat.lt_or_ge 8 (blen z) with h|h
     ·have h5:=Nat.pow_le_pow_right (show 0<2 by omega) h
      have h6:2 ^ 9≤2*z:=Nat.le_trans h5 (blen_bd a).1
      omega
     ·exact h
    show some (IntKind.i64.wrap ((n:Int)+IntKind.i64.wrap ((blen z:Nat):Int)))=_
    rw[IntWalk.i64_in ((blen z:Nat):Int) (by omega),IntWalk.i64_in _ (by omega)]
    rfl
   clear hk5
   show LenOf x (stdW.cnd (decide ((256:Int)≤(z:Int))) (stdW.nn 8 (k5 (Int.fdiv (z:Int) (2 ^ (Min.min (Int.toNat ((8:Nat):Int)) (Go.IntKind.bits Go.IntKind.u64))),(IntKind.i64.wrap ((n:Int)+8),())))) (k5 ((z:Int),((n:Int),()))))
   by_cases h:256≤z
   ·rw[cnd_y (decide_eq_true (by omega)),nn_w (by omega),fd_eq _ _ (by omega),IntWalk.i64_in _ (by omega)]
    obtain⟨s1,s2⟩:=st_bd 8 d e
    exact P3 (z / 2 ^ 8) (n+8) (by omega) (by omega) (by omega) s1 s2
   ·rw[cnd_n (decide_eq_false (by omega))]
    exact P3 z n a (by omega) (by omega) d e
  clear hk6
  show LenOf x (stdW.cnd (decide ((65536:Int)≤(z:Int))) (stdW.nn 16 (k6 (Int.fdiv (z:Int) (2 ^ (Min.min (Int.toNat ((16:Nat):Int)) (Go.IntKind.bits Go.IntKind.u64))),(IntKind.i64.wrap ((n:Int)+16),())))) (k6 ((z:Int),((n:Int),()))))
  by_cases h:65536≤z
  ·rw[cnd_y (decide_eq_true (by omega)),nn_w (by omega),fd_eq _ _ (by omega),IntWalk.i64_in _ (by omega)]
   obtain⟨s1,s2⟩:=st_bd 16 d e
   exact P2 (z / 2 ^ 16) (n+16) (by omega) (by omega) (by omega) s1 s2
  ·rw[cnd_n (decide_eq_false (by omega))]
   exact P2 z n a (by omega) (by omega) d e
 clear hk7
 show LenOf x (stdW.cnd (decide ((4294967296:Int)≤(x:Int))) (stdW.nn 32 (k7 (Int.fdiv (x:Int) (2 ^ (Min.min (Int.toNat ((32:Nat):Int)) (Go.IntKind.bits Go.IntKind.u64))),(((32:Nat):Int),())))) (k7 ((x:Int),(((0:Nat):Int),()))))
 by_cases h:4294967296≤x
 ·rw[cnd_y (decide_eq_true (by omega)),nn_w (by omega),fd_eq _ _ (by omega)]
  obtain⟨s1,s2⟩:=st_bd (x:=x) (z:=x) (n:=0) 32 (by simp) (by simp)
  exact P1 (x / 2 ^ 32) 32 (by omega) (by omega) (by omega) (by simpa using s1) (by simpa using s2)
 ·rw[cnd_n (decide_eq_false (by omega))]
  exact P1 x 0 h0 (by omega) (by omega) (by simp) (by simp)
theorem r_lz64{x:Nat}(h0:0<x)(hx:x<18446744073709551616):∃s:Nat,zks (x:Int)=some (s:Int)∧s≤63∧9223372036854775808≤x*2 ^ s∧x*2 ^ s<18446744073709551616:=by
 have key:=r_len64 h0 hx
 obtain⟨n,z,e,hz,hz2,hn,h1,h2⟩:=key
 obtain⟨h3,h4⟩:=blen_bd hz
 have hb:blen z≤8:=by
  rcases Nat.lt_or_ge 8 (blen z) with h|h
  ·have:=Nat.pow_le_pow_right (show 0<2 by omega) h
   have:2 ^ 9≤2*z:=Nat.le_trans this h3
   omega
  ·exact h
 have hb0:0<blen z:=by unfold blen; rw[if_neg (by omega)]; omega
 refine⟨64 - (n+blen z),?_,by omega,(lz_bd h1 h2 h3 h4 (by omega)).1,(lz_bd h1 h2 h3 h4 (by omega)).2⟩
 show zbj stdW (x:Int)=_
 unfold zbj
 rw[zaa e,IntWalk.i64_in _ (by omega)]
 congr 1
 omega
structure Half(yn1 yn0 u v:Int):Prop where
 a:2147483648≤yn1
 b:yn1<4294967296
 c:0≤yn0
 d:yn0<4294967296
 e:0≤v
 f:v<4294967296
 g:0≤u
 h:u<yn1*4294967296+yn0
def digit(yn1 yn0 u v:Int):Int:=(u*4294967296+v) / (yn1*4294967296+yn0)
theorem yhf(q yn1 yn0:Int):q*(yn1*4294967296+yn0)=q*yn1*4294967296+q*yn0:=by rw[Int.mul_add,Int.mul_assoc]
theorem Half.le{yn1 yn0 u v:Int}(H:Half yn1 yn0 u v){q:Int}(h:q*yn0≤(u - q*yn1)*4294967296+v):q≤digit yn1 yn0 u v:=by
 have:=H.a; have:=H.c
 refine(Int.le_ediv_iff_mul_le (by omega)).2 ?_
 rw[yhf]; omega
theorem Half.gt{yn1 yn0 u v:Int}(H:Half yn1 yn0 u v){q:Int}(h:(u - q*yn1)*4294967296+v<q*yn0):digit yn1 yn0 u v<q:=by
 have:=H.a; have:=H.c
 refine Int.ediv_lt_of_lt_mul (by omega) ?_
 rw[yhf]; omega
theorem Half.nn{yn1 yn0 u v:Int}(H:Half yn1 yn0 u v):0≤digit yn1 yn0 u v∧digit yn1 yn0 u v<4294967296:=by
 have h1:=H.a; have h2:=H.c; have h3:=H.g; have h4:=H.e; have h5:=H.f; have h6:=H.h
 constructor
 ·exact Int.ediv_nonneg (by omega) (by omega)
 ·refine Int.ediv_lt_of_lt_mul (by omega) ?_
  rw[Int.mul_comm]; omega
theorem Half.first{yn1 yn0 u v:Int}(H:Half yn1 yn0 u v):digit yn1 yn0 u v≤u / yn1∧u / yn1≤4294967297:=by
 have h1:=H.a; have h2:=H.c; have h3:=H.g; have h4:=H.e; have h5:=H.f; have h6:=H.h; have h7:=H.d
 constructor
 ·refine(Int.le_ediv_iff_mul_le (by omega)).2 ?_
  have a:=Int.ediv_mul_le (u*4294967296+v) (show yn1*4294967296+yn0≠0 by omega)
  have b:digit yn1 yn0 u v*(yn1*4294967296+yn0)≤u*4294967296+v:=a
  rw[yhf]at b
  have c:=Int.mul_nonneg H.nn.1 h2
  omega
 ·have:u / yn1<4294967298:=by
   refine Int.ediv_lt_of_lt_mul (by omega) ?_
   rw[Int.mul_comm]; omega
  omega
theorem Half.brk{yn1 yn0 u v:Int}(H:Half yn1 yn0 u v){q:Int}(hq:q≤4294967297)(h1:digit yn1 yn0 u v<q)(h2:4294967296≤u - (q - 1)*yn1):q - 1=digit yn1 yn0 u v:=by
 have g1:=H.a; have g2:=H.c; have g3:=H.g; have g4:=H.e; have g5:=H.f; have g6:=H.h; have g7:=H.d; have g8:=H.b
 have n0:=H.nn.1
 have hq2:q - 1≤4294967295:=by
  rcases Decidable.em (4294967295<q - 1) with hh|hh
  ·have e:q - 1=4294967296:=by omega
   rw[e]at h2
   omega
  ·omega
 have a1:(q - 1)*yn0≤4294967295*4294967295:=Int.mul_le_mul hq2 (by omega) g2 (by omega)
 have:=H.le (q:=q - 1) (by omega)
 omega
theorem u64_in(z:Int)(h0:0≤z)(h:z<18446744073709551616):IntKind.u64.wrap z=z:=u64_id z ⟨h0,h⟩
theorem Half.look{yn1 yn0 u v:Int}(H:Half yn1 yn0 u v){q r:Int}(hd:digit yn1 yn0 u v≤q)(hr:r=u - q*yn1)(hr0:0≤r)(hr1:r<4294967296):
  (4294967296≤q→digit yn1 yn0 u v<q)∧(q<4294967296→(if IntKind.u64.wrap (IntKind.u64.wrap (4294967296*r)+v)<IntKind.u64.wrap (q*yn0) then digit yn1 yn0 u v<q else digit yn1 yn0 u v=q)):=by
 have g4:=H.e; have g5:=H.f; have g2:=H.c; have g7:=H.d
 have n:=H.nn
 refine⟨fun h=>by omega,fun h=>?_⟩
 have a0:=Int.mul_nonneg (show 0≤q by omega) g2
 have a1:q*yn0≤4294967295*4294967295:=Int.mul_le_mul (by omega) (by omega) g2 (by omega)
 rw[u64_in (4294967296*r) (by omega) (by omega),u64_in _ (by omega) (by omega),u64_in (q*yn0) a0 (by omega)]
 split
 ·exact H.gt (by rw[←hr]; omega)
 ·have:=H.le (q:=q) (by rw[←hr]; omega)
  omega
theorem Half.loop1{β:Type}{yn1 yn0 u v q0 r0:Int}(H:Half yn1 yn0 u v)(hq:q0=u / yn1)(hr:r0=u - q0*yn1)(k:Int×Unit→Option β):
  stdW.loop (fun (z:Int×Int×Unit) again=>stdW.join (fun (_:Unit)=>stdW.cnd (decide (4294967296≤IntKind.u64.wrap (z.1+yn1))) (k (IntKind.u64.wrap (z.2.1 - 1),())) (again (IntKind.u64.wrap (z.1+yn1),(IntKind.u64.wrap (z.2.1 - 1),())))) fun k8=>
   stdW.cnd (decide (4294967296≤z.2.1)) (k8 ()) (stdW.cnd (decide (IntKind.u64.wrap (IntKind.u64.wrap (4294967296*z.1)+v)<IntKind.u64.wrap (z.2.1*yn0))) (k8 ()) (k z.2))) (r0,(q0,()))=k (digit yn1 yn0 u v,()):=by
 have g1:=H.a; have g8:=H.b; have n:=H.nn
 obtain⟨f1,f2⟩:=H.first
 have e1:u % yn1=r0:=by rw[hr,hq,Int.emod_def,Int.mul_comm]
 have e2:=Int.emod_nonneg u (show yn1≠0 by omega)
 have e3:=Int.emod_lt_of_pos u (show 0<yn1 by omega)
 refine(zdb (fun z=>z.2.1.toNat) (fun z=>digit yn1 yn0 u v≤z.2.1∧z.2.1≤4294967297∧z.1=u - z.2.1*yn1∧0≤z.1∧z.1<4294967296) (fun _=>k (digit yn1 yn0 u v,())) ⟨by show _≤q0; omega,by show q0≤_; omega,hr,by show 0≤r0; omega,by show r0<_; omega⟩ (by show q0.toNat<_; omega) ?_)
 rintro⟨r,q,⟨⟩⟩ ⟨h1,h2,h3,h4,h5⟩ again ha
 dsimp only at h1 h2 h3 h4 h5
 obtain⟨l1,l2⟩:=H.look h1 h3 h4 h5
 have down:digit yn1 yn0 u v<q→stdW.cnd (decide (4294967296≤IntKind.u64.wrap (r+yn1))) (k (IntKind.u64.wrap (q - 1),())) (again (IntKind.u64.wrap (r+yn1),(IntKind.u64.wrap (q - 1),())))=k (digit yn1 yn0 u v,()):=by
  intro hlt
  have er:u - (q - 1)*yn1=r+yn1:=by rw[h3,Int.sub_mul]; omega
  rw[u64_in (r+yn1) (by omega) (by omega),u64_in (q - 1) (by omega) (by omega)]
  by_cases hb:4294967296≤r+yn1
  ·rw[cnd_y (decide_eq_true hb),H.brk h2 hlt (by rw[er]; exact hb)]
  ·rw[cnd_n (decide_eq_false hb)]
   exact ha (r+yn1,(q - 1,())) ⟨by show _≤q - 1; omega,by show q - 1≤_; omega,er.symm,by show 0≤r+yn1; omega,by show r+yn1<_; omega⟩ (by show (q - 1).toNat<q.toNat; omega)
 show stdW.cnd (decide (4294967296≤q)) _ _=_
 by_cases hb:4294967296≤q
 ·rw[cnd_y (decide_eq_true hb)]; exact down (l1 hb)
 ·have l2:=l2 (by omega)
  rw[cnd_n (decide_eq_false hb)]
  by_cases hc:IntKind.u64.wrap (IntKind.u64.wrap (4294967296*r)+v)<IntKind.u64.wrap (q*yn0)
  ·rw[if_pos hc]at l2
   show stdW.cnd (decide (IntKind.u64.wrap (IntKind.u64.wrap (4294967296*r)+v)<IntKind.u64.wrap (q*yn0))) _ _=_
   rw[cnd_y (decide_eq_true hc)]; exact down l2
  ·rw[if_neg hc]at l2
   show stdW.cnd (decide (IntKind.u64.wrap (IntKind.u64.wrap (4294967296*r)+v)<IntKind.u64.wrap (q*yn0))) _ _=_
   rw[cnd_n (decide_eq_false hc),l2]
theorem Half.loop2{β:Type}{yn1 yn0 u v q0 r0:Int}(H:Half yn1 yn0 u v)(hq:q0=u / yn1)(hr:r0=u - q0*yn1)(k:Int×Unit→Option β):
  stdW.loop (fun (z:Int×Int×Unit) again=>stdW.join (fun (_:Unit)=>stdW.cnd (decide (4294967296≤IntKind.u64.wrap (z.2.1+yn1))) (k (IntKind.u64.wrap (z.1 - 1),())) (again (IntKind.u64.wrap (z.1 - 1),(IntKind.u64.wrap (z.2.1+yn1),())))) fun k8=>
   stdW.cnd (decide (4294967296≤z.1)) (k8 ()) (stdW.cnd (decide (IntKind.u64.wrap (IntKind.u64.wrap (4294967296*z.2.1)+v)<IntKind.u64.wrap (z.1*yn0))) (k8 ()) (k (z.1,())))) (q0,(r0,()))=k (digit yn1 yn0 u v,()):=by
 have g1:=H.a; have g8:=H.b; have n:=H.nn
 obtain⟨f1,f2⟩:=H.first
 have e1:u % yn1=r0:=by rw[hr,hq,Int.emod_def,Int.mul_comm]
 have e2:=Int.emod_nonneg u (show yn1≠0 by omega)
 have e3:=Int.emod_lt_of_pos u (show 0<yn1 by omega)
 refine(zdb (fun z=>z.1.toNat) (fun z=>digit yn1 yn0 u v≤z.1∧z.1≤4294967297∧z.2.1=u - z.1*yn1∧0≤z.2.1∧z.2.1<4294967296) (fun _=>k (digit yn1 yn0 u v,())) ⟨by show _≤q0; omega,by show q0≤_; omega,hr,by show 0≤r0; omega,by show r0<_; omega⟩ (by show q0.toNat<_; omega) ?_)
 rintro⟨q,r,⟨⟩⟩ ⟨h1,h2,h3,h4,h5⟩ again ha
 dsimp only at h1 h2 h3 h4 h5
 obtain⟨l1,l2⟩:=H.look h1 h3 h4 h5
 have down:digit yn1 yn0 u v<q→stdW.cnd (decide (4294967296≤IntKind.u64.wrap (r+yn1))) (k (IntKind.u64.wrap (q - 1),())) (again (IntKind.u64.wrap (q - 1),(IntKind.u64.wrap (r+yn1),())))=k (digit yn1 yn0 u v,()):=by
  intro hlt
  have er:u - (q - 1)*yn1=r+yn1:=by rw[h3,Int.sub_mul]; omega
  rw[u64_in (r+yn1) (by omega) (by omega),u64_in (q - 1) (by omega) (by omega)]
  by_cases hb:4294967296≤r+yn1
  ·rw[cnd_y (decide_eq_true hb),H.brk h2 hlt (by rw[er]; exact hb)]
  ·rw[cnd_n (decide_eq_false hb)]
   exact ha (q - 1,(r+yn1,())) ⟨by show _≤q - 1; omega,by show q - 1≤_; omega,er.symm,by show 0≤r+yn1; omega,by show r+yn1<_; omega⟩ (by show (q - 1).toNat<q.toNat; omega)
 show stdW.cnd (decide (4294967296≤q)) _ _=_
 by_cases hb:4294967296≤q
 ·rw[cnd_y (decide_eq_true hb)]; exact down (l1 hb)
 ·have l2:=l2 (by omega)
  rw[cnd_n (decide_eq_false hb)]
  by_cases hc:IntKind.u64.wrap (IntKind.u64.wrap (4294967296*r)+v)<IntKind.u64.wrap (q*yn0)
  ·rw[if_pos hc]at l2
   show stdW.cnd (decide (IntKind.u64.wrap (IntKind.u64.wrap (4294967296*r)+v)<IntKind.u64.wrap (q*yn0))) _ _=_
   rw[cnd_y (decide_eq_true hc)]; exact down l2
  ·rw[if_neg hc]at l2
   show stdW.cnd (decide (IntKind.u64.wrap (IntKind.u64.wrap (4294967296*r)+v)<IntKind.u64.wrap (q*yn0))) _ _=_
   rw[cnd_n (decide_eq_false hc),l2]
theorem or_sum(a b s:Nat)(hs:s≤64)(hb:b<2 ^ s)(h:a*2 ^ s+b<18446744073709551616):bits .or .u64 ((a*2 ^ s:Nat):Int) (b:Int)=((a*2 ^ s+b:Nat):Int):=by
 show IntKind.u64.wrap (((BitVec.ofInt 64 ((a*2 ^ s:Nat):Int) ||| BitVec.ofInt 64 ((b:Nat):Int)).toNat:Nat):Int)=_
 rw[BitVec.toNat_or,BitVec.toNat_ofInt,BitVec.toNat_ofInt]
 have e0:((2 ^ 64:Nat):Int)=18446744073709551616:=by decide
 have e1:(((a*2 ^ s:Nat):Int) % ((2 ^ 64:Nat):Int)).toNat=a*2 ^ s:=by rw[e0]; omega
 have e2:(((b:Nat):Int) % ((2 ^ 64:Nat):Int)).toNat=b:=by rw[e0]; omega
 rw[e1,e2,Nat.mul_comm a,←Nat.two_pow_add_eq_or_of_lt hb,Nat.mul_comm (2 ^ s),IntKind.wrap_u64]
 omega
theorem yhz{a b c:Int}(h0:0≤a+b - c)(h1:a+b - c<18446744073709551616):IntKind.u64.wrap (IntKind.u64.wrap (IntKind.u64.wrap a+b) - IntKind.u64.wrap c)=a+b - c:=by
 rw[IntKind.wrap_u64,IntKind.wrap_u64,IntKind.wrap_u64,IntKind.wrap_u64]; omega
theorem two_digits{yn1 yn0 u v1 v0:Int}(H:Half yn1 yn0 u v1)(h0:0≤v0)(h1:v0<4294967296){q1 w q0:Int}(e1:q1=digit yn1 yn0 u v1)(ew:w=u*4294967296+v1 - q1*(yn1*4294967296+yn0))(e0:q0=digit yn1 yn0 w v0):
  (0≤w∧w<yn1*4294967296+yn0)∧Half yn1 yn0 w v0∧(0≤w*4294967296+v0 - q0*(yn1*4294967296+yn0)∧w*4294967296+v0 - q0*(yn1*4294967296+yn0)<yn1*4294967296+yn0)∧
   u*18446744073709551616+(v1*4294967296+v0)=(q1*4294967296+q0)*(yn1*4294967296+yn0)+(w*4294967296+v0 - q0*(yn1*4294967296+yn0)):=by
 have a:=H.a; have c:=H.c
 have p:0<yn1*4294967296+yn0:=by omega
 have w1:w=(u*4294967296+v1) % (yn1*4294967296+yn0):=by
  rw[ew,e1,digit,Int.emod_def,Int.mul_comm ((u*4294967296+v1) / _)]
 have w2:=Int.emod_nonneg (u*4294967296+v1) (show yn1*4294967296+yn0≠0 by omega)
 have w3:=Int.emod_lt_of_pos (u*4294967296+v1) p
 rw[←w1]at w2 w3
 have H0:Half yn1 yn0 w v0:=⟨H.a,H.b,H.c,H.d,h0,h1,w2,w3⟩
 have r1:w*4294967296+v0 - q0*(yn1*4294967296+yn0)=(w*4294967296+v0) % (yn1*4294967296+yn0):=by
  rw[e0,digit,Int.emod_def,Int.mul_comm ((w*4294967296+v0) / _)]
 have r2:=Int.emod_nonneg (w*4294967296+v0) (show yn1*4294967296+yn0≠0 by omega)
 have r3:=Int.emod_lt_of_pos (w*4294967296+v0) p
 rw[←r1]at r2 r3
 refine⟨⟨w2,w3⟩,H0,⟨r2,r3⟩,?_⟩
 generalize yn1*4294967296+yn0=Y at*
 have m1:(q1*4294967296+q0)*Y=q1*Y*4294967296+q0*Y:=by rw[Int.add_mul,Int.mul_right_comm]
 rw[m1]
 omega
theorem r_div64g{hi lo y:Nat}(h0:0<hi)(h1:hi<y)(hy:y<18446744073709551616)(hl:lo<18446744073709551616):
  zdx (hi:Int) (lo:Int) (y:Int)=some ((((hi*18446744073709551616+lo) / y:Nat):Int),((((hi*18446744073709551616+lo) % y:Nat):Int),())):=by
 obtain⟨s,es,hs,b1,b2⟩:=r_lz64 (x:=y) (by omega) hy
 show zcc stdW (hi:Int) (lo:Int) (y:Int)=_
 unfold zcc
 have pP:=Nat.two_pow_pos s
 have pP':=Nat.two_pow_pos (64 - s)
 have ePP:2 ^ (64 - s)*2 ^ s=18446744073709551616:=by rw[←Nat.pow_add,show 64 - s+s=64 by omega]
 have hhi:hi*2 ^ s+2 ^ s≤y*2 ^ s:=by
  have:=Nat.mul_le_mul_right (2 ^ s) (show hi+1≤y from h1)
  rwa [Nat.add_mul,Nat.one_mul]at this
 have hlq:lo / 2 ^ (64 - s)<2 ^ s:=by rw[Nat.div_lt_iff_lt_mul pP']; rw[Nat.mul_comm,ePP]; exact hl
 have hlm:lo*2 ^ s=lo / 2 ^ (64 - s)*18446744073709551616+lo*2 ^ s % 18446744073709551616:=by
  have e:lo*2 ^ s / 18446744073709551616=lo / 2 ^ (64 - s):=by rw[←ePP,Nat.mul_div_mul_right _ _ pP]
  have:=Nat.div_add_mod (lo*2 ^ s) 18446744073709551616
  rw[e]at this; omega
 have eS:IntKind.u64.wrap (s:Int)=(s:Int):=u64_in _ (by omega) (by omega)
 have eS':IntKind.u64.wrap (64 - (s:Int))=((64 - s:Nat):Int):=by rw[u64_in _ (by omega) (by omega)]; omega
 have eP:∀m:Nat,m≤64→(2:Int) ^ (Min.min (Int.toNat (m:Int)) (Go.IntKind.bits Go.IntKind.u64))=((2 ^ m:Nat):Int):=fun m hm=>by
  rw[Int.toNat_natCast,show Min.min m (Go.IntKind.bits Go.IntKind.u64)=m from Nat.min_eq_left hm]; simp
 have ey:IntKind.u64.wrap ((y:Int)*((2 ^ s:Nat):Int))=((y*2 ^ s:Nat):Int):=by rw[←Int.natCast_mul,u64_in _ (by omega) (by omega)]
 have eh:IntKind.u64.wrap ((hi:Int)*((2 ^ s:Nat):Int))=((hi*2 ^ s:Nat):Int):=by rw[←Int.natCast_mul,u64_in _ (by omega) (by omega)]
 have el:IntKind.u64.wrap ((lo:Int)*((2 ^ s:Nat):Int))=((lo*2 ^ s % 18446744073709551616:Nat):Int):=by rw[←Int.natCast_mul,IntKind.wrap_u64]; omega
 have ef:Int.fdiv (lo:Int) ((2 ^ (64 - s):Nat):Int)=((lo / 2 ^ (64 - s):Nat):Int):=by rw[Int.fdiv_eq_ediv_of_nonneg _ (by omega)]; simp
 rw[cnd_n (by simp; omega),cnd_n (decide_eq_false (by omega)),cnd_n (by simp; omega),zaa es]
 simp (config:={proj:=false}) only[eS,eS',eP s (by omega),eP (64 - s) (by omega),ey,eh,el,ef,or_sum hi _ s (by omega) hlq (by omega)]
 rw[fdiv32 ((y*2 ^ s:Nat):Int) (by omega),fdiv32 ((lo*2 ^ s % 18446744073709551616:Nat):Int) (by omega),and32 ((y*2 ^ s:Nat):Int) (by omega),and32 ((lo*2 ^ s % 18446744073709551616:Nat):Int) (by omega)]
 have hN:((hi*18446744073709551616+lo)*2 ^ s:Nat)=(hi*2 ^ s+lo / 2 ^ (64 - s))*18446744073709551616+lo*2 ^ s % 18446744073709551616:=by
  rw[Nat.add_mul,Nat.mul_right_comm,hlm,Nat.add_mul]; omega
 obtain⟨N,hNe⟩:∃N,N=hi*18446744073709551616+lo:=⟨_,rfl⟩
 rw[←hNe]at hN ⊢
 have hu:hi*2 ^ s+lo / 2 ^ (64 - s)<y*2 ^ s:=by omega
 have hl2:lo*2 ^ s % 18446744073709551616<18446744073709551616:=Nat.mod_lt _ (by omega)
 generalize hi*2 ^ s+lo / 2 ^ (64 - s)=u at*
 generalize lo*2 ^ s % 18446744073709551616=l at*
 have fin:∀qt r:Int,((u:Nat):Int)*18446744073709551616+(l:Int)=qt*((y*2 ^ s:Nat):Int)+r→0≤r→r<((y*2 ^ s:Nat):Int)→0≤qt→qt=((N / y:Nat):Int)∧Int.fdiv r ((2 ^ s:Nat):Int)=((N % y:Nat):Int):=by
  intro qt r e r0 r1 q0
  obtain⟨qn,rfl⟩:=Int.eq_ofNat_of_zero_le q0
  obtain⟨rn,rfl⟩:=Int.eq_ofNat_of_zero_le r0
  have e2:N*2 ^ s=qn*(y*2 ^ s)+rn:=by
   rw[hN]; rw[←Int.natCast_mul]at e; omega
  have r2:rn<y*2 ^ s:=by omega
  have d1:N*2 ^ s / (y*2 ^ s)=N / y:=Nat.mul_div_mul_right _ _ pP
  have d2:N*2 ^ s % (y*2 ^ s)=N % y*2 ^ s:=Nat.mul_mod_mul_right _ _ _
  have d3:(qn*(y*2 ^ s)+rn) / (y*2 ^ s)=qn:=by
   rw[Nat.mul_comm qn,Nat.mul_add_div (by omega),Nat.div_eq_of_lt r2]; rfl
  have d4:(qn*(y*2 ^ s)+rn) % (y*2 ^ s)=rn:=by
   rw[Nat.mul_comm qn,Nat.mul_add_mod,Nat.mod_eq_of_lt r2]
  rw[e2,d3]at d1
  rw[e2,d4]at d2
  refine⟨by rw[d1],?_⟩
  rw[d2,Int.fdiv_eq_ediv_of_nonneg _ (by omega),←Int.natCast_ediv,Nat.mul_div_cancel _ pP]
 generalize hY:((y*2 ^ s:Nat):Int)=Y at*
 have Y1:9223372036854775808≤Y:=by omega
 have Y2:Y<18446744073709551616:=by omega
 have hu':((u:Nat):Int)<Y:=by omega
 have hu0:(0:Int)≤((u:Nat):Int):=by omega
 have hl0:(0:Int)≤((l:Nat):Int):=by omega
 have hl3:((l:Nat):Int)<18446744073709551616:=by omega
 generalize ((u:Nat):Int)=ui at*
 generalize ((l:Nat):Int)=li at*
 have hYs:Y / 4294967296*4294967296+Y % 4294967296=Y:=by omega
 have H1:Half (Y / 4294967296) (Y % 4294967296) ui (li / 4294967296):=⟨by omega,by omega,by omega,by omega,by omega,by omega,by omega,by omega⟩
 have guess:∀w:Int,0≤w→w<Y→IntKind.u64.wrap (Int.tdiv w (Y / 4294967296))=w / (Y / 4294967296)∧IntKind.u64.wrap (w - IntKind.u64.wrap (IntKind.u64.wrap (Int.tdiv w (Y / 4294967296))*(Y / 4294967296)))=w - IntKind.u64.wrap (Int.tdiv w (Y / 4294967296))*(Y / 4294967296):=by
  intro w w0 w1
  have g1:=Int.ediv_nonneg w0 (show 0≤Y / 4294967296 by omega)
  have g2:w / (Y / 4294967296)≤w:=Int.ediv_le_self _ w0
  have e:IntKind.u64.wrap (Int.tdiv w (Y / 4294967296))=w / (Y / 4294967296):=by rw[Int.tdiv_eq_ediv_of_nonneg w0,u64_in _ g1 (by omega)]
  refine⟨e,?_⟩
  rw[e]
  have g3:=Int.ediv_mul_le w (show Y / 4294967296≠0 by omega)
  have g4:=Int.mul_nonneg g1 (show 0≤Y / 4294967296 by omega)
  rw[u64_in (w / (Y / 4294967296)*(Y / 4294967296)) g4 (by omega),u64_in _ (by omega) (by omega)]
 rw[nn_w (by omega),nn_w (by omega),nn_w (by omega),nn_w (by omega),nn_w (by omega),nn_w (by omega),nz_w (by omega)]
 refine join_g fun k9 hk9=>?_
 refine(H1.loop2 (guess ui hu0 hu').1 (guess ui hu0 hu').2 k9).trans ?_
 subst hk9
 have pf:∀(a:Int) (b:Unit),((a,b):Int×Unit).1=a:=fun _ _=>rfl
 simp (config:={proj:=false}) only[pf]
 generalize hq1:digit (Y / 4294967296) (Y % 4294967296) ui (li / 4294967296)=q1
 have n1:=H1.nn
 rw[hq1]at n1
 obtain⟨⟨w0,w1⟩,H0,⟨r0,r1⟩,tot⟩:=two_digits H1 (v0:=li % 4294967296) (by omega) (by omega) hq1.symm rfl rfl
 rw[hYs]at w0 w1 r0 r1 tot
 have e21:IntKind.u64.wrap (IntKind.u64.wrap (IntKind.u64.wrap (ui*4294967296)+li / 4294967296) - IntKind.u64.wrap (q1*Y))=ui*4294967296+li / 4294967296 - q1*Y:=yhz w0 (by omega)
 rw[hYs]at H0
 simp (config:={proj:=false}) only[e21]
 generalize ui*4294967296+li / 4294967296 - q1*Y=w at*
 rw[nz_w (by omega)]
 refine join_g fun k4 hk4=>?_
 refine(H0.loop1 (guess w w0 w1).1 (guess w w0 w1).2 k4).trans ?_
 subst hk4
 simp (config:={proj:=false}) only[pf]
 generalize hq0:digit (Y / 4294967296) (Y % 4294967296) w (li % 4294967296)=q0 at*
 have n0:=H0.nn
 rw[hq0]at n0
 rw[nn_w (by omega),u64_in (q1*4294967296) (by omega) (by omega),u64_in (q1*4294967296+q0) (by omega) (by omega),yhz r0 (by omega)]
 obtain⟨f1,f2⟩:=fin (q1*4294967296+q0) _ (by rw[←tot]; omega) r0 r1 (by omega)
 rw[f1,f2]
theorem r_div64a{m d:Int}(hm:0≤m)(hd:0<d)(hd2:d<18446744073709551616)(hq:m / d<18446744073709551616):
  zdx (m / 18446744073709551616) (m % 18446744073709551616) d=some (m / d,(m % d,())):=by
 obtain⟨mn,rfl⟩:=Int.eq_ofNat_of_zero_le hm
 obtain⟨dn,rfl⟩:=Int.eq_ofNat_of_zero_le (show 0≤d by omega)
 have h1:mn<dn*18446744073709551616:=by
  have:=(Nat.div_lt_iff_lt_mul (x:=mn) (y:=18446744073709551616) (show 0<dn by omega)).1 (by omega)
  omega
 by_cases h0:(mn:Int) / 18446744073709551616=0
 ·rw[h0,show (mn:Int) % 18446744073709551616=(mn:Int) by omega]
  exact r_div64 (by omega) (by omega) hd hd2
 ·have:=r_div64g (hi:=mn / 18446744073709551616) (lo:=mn % 18446744073709551616) (y:=dn) (by omega) (by omega) (by omega) (by omega)
  rw[show mn / 18446744073709551616*18446744073709551616+mn % 18446744073709551616=mn by omega]at this
  have e1:((mn:Nat):Int) / 18446744073709551616=((mn / 18446744073709551616:Nat):Int):=by omega
  have e2:((mn:Nat):Int) % 18446744073709551616=((mn % 18446744073709551616:Nat):Int):=by omega
  rw[e1,e2,this,Int.natCast_ediv,Int.natCast_emod]
theorem r_wDivG{m d:Int}(hm:0≤m)(hm2:In128 m)(hd:0<d)(hd2:I64 d)(hq:m / d<9223372036854775808):yhu (wide m) d=some (wide (m / d),(m % d,(0,()))):=by
 show zgn stdW (wide m) d=_
 unfold zgn
 unfold I64 at hd2
 have h1:=Int.emod_nonneg m (Int.ne_of_gt hd)
 have h2:=Int.emod_lt_of_pos m hd
 have hq0:=Int.ediv_nonneg hm (Int.le_of_lt hd)
 have e0:IntKind.u64.wrap d=d:=u64_id _ (by omega)
 have esz:zjq (wide m)=some (szOf m):=by
  have:=r_size (wide m) (zjp m hm2)
  rw[zjo]at this
  rw[this]; unfold absI; rw[if_neg (by omega)]
 have ehi:m / 18446744073709551616<d:=by
  have h3:m<18446744073709551616*d:=by
   have:=Int.lt_mul_of_ediv_lt hd hq
   omega
  exact Int.ediv_lt_of_lt_mul (by omega) (by rw[Int.mul_comm]; exact h3)
 have ehi0:0≤m / 18446744073709551616:=Int.ediv_nonneg hm (by omega)
 have ebel:zcm (wide m)=some false:=by
  rw[zmt]
  have:¬(wide m).1<0:=by unfold wide; show ¬m / 18446744073709551616<0; omega
  rw[decide_eq_false this]
 have esg:zbz (0,(m / d,())) false=some (wide (m / d),(true,())):=by
  have hr:=zzp (m / d) false ⟨hq0,by omega⟩
  have hi:In128 (m / d):=by unfold In128; omega
  have es:szOf (m / d)=(0,(m / d,())):=by
   unfold szOf
   rw[Int.ediv_eq_zero_of_lt hq0 (by omega),Int.emod_eq_of_lt hq0 (by omega)]
  rw[es]at hr
  rw[hr]
  show some (w128 (m / d),(decide (In128 (m / d)),()))=_
  rw[yen _ hi,decide_eq_true hi]
 rw[cnd_n (by simp; omega),cnd_n (decide_eq_false (by omega)),e0,zaa esz,nz_w (by omega),nz_w (by omega)]
 show stdW.call (zdx (Int.tmod (m / 18446744073709551616) d) (m % 18446744073709551616) d) _=_
 rw[Int.tmod_eq_emod_of_nonneg ehi0,Int.emod_eq_of_lt ehi0 ehi,zaa (r_div64a hm hd (by omega) (by omega))]
 have etd:IntKind.u64.wrap (Int.tdiv (m / 18446744073709551616) d)=0:=by
  rw[Int.tdiv_eq_ediv_of_nonneg ehi0,Int.ediv_eq_zero_of_lt ehi0 ehi]; rfl
 refine join_g fun k hk=>?_
 have kk:k (m % d,(IntKind.u64.wrap (Int.tdiv (m / 18446744073709551616) d),(m / d,())))=some (wide (m / d),(m % d,(0,()))):=by
  subst hk
  rw[etd]
  have e5:IntKind.i64.wrap (m % d)=m % d:=IntWalk.i64_in _ (by omega)
  have inner:stdW.call (zcm (wide m)) (fun v7=>stdW.call (zbz (0,(m / d,())) v7) fun v8=>some (v8.1,(IntKind.i64.wrap (m % d),((0:Int),()))))=some (wide (m / d),(m % d,(0,()))):=by
   rw[zaa ebel,zaa esg,e5]
  refine zbe ?_ inner
  rw[zaa ebel]
  exact zbe (by rw[zaa esg,e5]) (by rw[zaa esg,e5])
 clear hk
 refine join_g fun k2 hk2=>?_
 have kf:k2 (false,())=some (wide (m / d),(m % d,(0,()))):=by
  subst hk2
  show stdW.cnd false _ (k (m % d,(IntKind.u64.wrap (Int.tdiv (m / 18446744073709551616) d),(m / d,()))))=_
  rw[cnd_n (by rfl)]; exact kk
 clear hk2
 show stdW.call (zcm (wide m)) _=_
 rw[zaa ebel,cnd_n (by rfl),kf]
theorem r_scale{t w s:Int}(ht:0≤t)(hw:0≤w)(hts:t≤s)(hws:w≤s)(hs:0<s)(hI:I64 s):zwh t w s=some (t*w / s,(t*w % s,(0,()))):=by
 show zlb stdW t w s=_
 unfold zlb
 have hI':=hI
 unfold I64 at hI'
 have a1:=Int.mul_nonneg ht hw
 have a2:t*w≤9223372036854775807*9223372036854775807:=Int.mul_le_mul (by omega) (by omega) hw (by omega)
 have hq:t*w / s≤t:=by
  have:t*w / s<t+1:=Int.ediv_lt_of_lt_mul hs (by
   have:=Int.mul_le_mul_of_nonneg_left hws ht
   rw[Int.add_mul]; omega)
  omega
 have hq0:=Int.ediv_nonneg a1 (Int.le_of_lt hs)
 have e1:=r_wMul (a:=t) (b:=w) (by unfold I64; omega) (by unfold I64; omega)
 have e2:=r_wDivG (m:=t*w) (d:=s) a1 (by unfold In128; omega) hs hI (by omega)
 rw[zaa e1,zaa e2]
 have hz:I64 (t*w / s):=by unfold I64; omega
 have e3:zoi (wide (t*w / s)) 0=some (t*w / s,(0,())):=by rw[zqg (zpl hz),zby hz]
 rw[zaa e3,cnd_n (by rfl)]
theorem r_least{T:Int}{l:List Int}(hT:0≤T)(h:∀w∈l,0≤w)(hl:l.length≤1000000):∃v,fix_Least T l=some v∧0≤v:=by
 show ∃v,zlc stdW T l=some v∧0≤v
 unfold zlc
 refine loop_P (fun o=>∃v,o=some v∧(0:Int)≤v) (fun z=>l.length+1 - z.2.1.toNat) (fun z=>∃(j:Nat) (a:Int),j≤l.length∧0≤a∧z=(a,((j:Int),()))) ⟨0,T,Nat.zero_le _,hT,rfl⟩ (by show _ - (0:Int).toNat<_; omega) ?_
 rintro _ ⟨j,a,hj,ha0,rfl⟩ again ha
 show ∃v,stdW.cnd (decide ((j:Int)<(l.length:Int))) _ _=some v∧0≤v
 by_cases hh:j<l.length
 ·rw[cnd_lt hh]
  show ∃v,stdW.idx l (j:Int) _=some v∧0≤v
  rw[idx_w hh]
  show ∃v,again ((if l[j]<a then l[j] else a),(IntKind.i64.wrap ((j:Int)+1),()))=some v∧0≤v
  rw[i64_s j (by omega)]
  refine ha _ ⟨j+1,_,by omega,?_,rfl⟩ (by show _ - ((j+1:Nat):Int).toNat<_ - ((j:Nat):Int).toNat; omega)
  have:=h _ (List.getElem_mem hh)
  split<;>omega
 ·have:j=l.length:=by omega
  subst this
  rw[zaj]; exact⟨a,rfl,ha0⟩
theorem r_right{T:Int}{l:List Int}(hT:0≤T)(h:∀w∈l,0≤w)(hl:l.length≤1000000):yeu T l=some true:=by
 obtain⟨v,e,hv⟩:=r_least hT h hl
 show zeu stdW T l=_
 unfold zeu
 rw[zaa e,decide_eq_true hv]
theorem zru{Q:List KQ3}{k:Nat}(h:k<Q.length):(zai (Q.take (k+1)))=zai (Q.take k)++[(Q[k]).2.1]:=by
 unfold zai
 rw[List.take_succ_eq_append_getElem h,List.map_append]; rfl
theorem zoc{Q:List KQ3}(h:∀q∈Q,0≤q.2.1)(k:Nat):0≤(zai (Q.take k)).sum∧(zai (Q.take k)).sum≤(zai Q).sum:=by
 have e:(zai Q).sum=(zai (Q.take k)).sum+(zai (Q.drop k)).sum:=by
  rw[←List.sum_append]; unfold zai; rw[←List.map_append,List.take_append_drop]
 have nn:∀L:List KQ3,(∀q∈L,0≤q.2.1)→0≤(zai L).sum:=fun L hL=>by
  refine(le_sum (l:=zai L) fun w hw=>?_).1
  obtain⟨q,hq,rfl⟩:=List.mem_map.1 hw
  exact hL q hq
 have h1:=nn (Q.take k) fun q hq=>h q (List.mem_of_mem_take hq)
 have h2:=nn (Q.drop k) fun q hq=>h q (List.mem_of_mem_drop hq)
 omega
theorem r_quotas{T:Int}{l:List Int}(h:OkW T l)(hT:T≠0):zsn T l.sum l=some (quoGo T l.sum l 0,((zai (quoGo T l.sum l 0)).sum,())):=by
 have K:=h.quo hT
 have hl:=h.len
 have h64:=h.s64
 have t0:=h.t0
 have ts:=h.ts
 have hS:0<l.sum:=by omega
 show zfj stdW T l.sum l=_
 unfold zfj
 rw[nn_w (by omega),room_w (by simp; omega) (by simp; omega)]
 have hw:∀(i:Nat) (hi:i<l.length),zwh T l[i] l.sum=some (T*l[i] / l.sum,(T*l[i] % l.sum,(0,()))):=fun i hi=>
  r_scale t0 (h.nn _ (List.getElem_mem hi)) ts ((le_sum h.nn).2 _ (List.getElem_mem hi)) hS h64
 have hg:∀(i:Nat) (hi:i<l.length),∃hi':i<(quoGo T l.sum l 0).length,(quoGo T l.sum l 0)[i]=((i:Int),(T*l[i] / l.sum,(T*l[i] % l.sum,()))):=fun i hi=>
  ⟨by rw[ziq]; exact hi,by have:=zrs T l.sum l 0 i hi; rwa [Int.zero_add]at this⟩
 generalize hQ:quoGo T l.sum l 0=Q at*
 have hm:=zoc (Q:=Q) fun q hq=>(K.q q hq).2.2.1
 have hlen:=K.len
 have hre:=K.re
 unfold I64 at h64
 refine zds (N:=l.length) (by omega) (fun i=>((zai (Q.take i)).sum,((i:Int),(Q.take i,())))) _ (by simp[zai]) ?_ ?_
 ·intro again
  show stdW.cnd (decide ((l.length:Int)<(l.length:Int))) _ (some (Q.take l.length,((zai (Q.take l.length)).sum,())))=_
  rw[zaj,←hlen,List.take_length]
 ·intro i hi again ha
  obtain⟨hi',eg⟩:=hg i hi
  show stdW.cnd (decide ((i:Int)<(l.length:Int))) (stdW.idx l (i:Int) _) _=_
  rw[cnd_lt hi,idx_w hi]
  show stdW.call (zwh T l[i] l.sum) _=_
  rw[zaa (hw i hi)]
  show stdW.room ((Q.take i).length+1) 24 (again (IntKind.i64.wrap ((zai (Q.take i)).sum+T*l[i] / l.sum),(IntKind.i64.wrap ((i:Int)+1),(Q.take i++[((i:Int),(T*l[i] / l.sum,(T*l[i] % l.sum,())))],()))))=_
  have e1:Q.take i++[((i:Int),(T*l[i] / l.sum,(T*l[i] % l.sum,())))]=Q.take (i+1):=by rw[List.take_succ_eq_append_getElem hi',eg]
  have e2:(zai (Q.take i)).sum+T*l[i] / l.sum=(zai (Q.take (i+1))).sum:=by
   rw[zru hi',List.sum_append,eg]; simp
  have b:=hm (i+1)
  rw[room_w (by rw[List.length_take]; omega) (by rw[List.length_take]; omega),e1,e2,i64_s i (by omega),IntWalk.i64_in _ (by omega)]
  exact ha
theorem zwv(q:KQ3):∀(qs:List KQ3) (o:List Int),bump (qs++[q]) o=(bump qs o).set q.1.toNat ((bump qs o).getD q.1.toNat 0+1)
 |[],o=>rfl
 |x::qs,o=>by rw[List.cons_append,bump,zwv q qs]; rfl
theorem zww{j:Nat}:∀(qs:List KQ3) (o:List Int),(∀q∈qs,q.1.toNat≠j)→(bump qs o).getD j 0=o.getD j 0
 |[],_,_=>rfl
 |q::qs,o,h=>by
  rw[bump,zww qs _ fun x hx=>h x (List.mem_cons_of_mem _ hx),ziu (h q List.mem_cons_self)]
theorem ydf{Q:List KQ3}(h:Q.Pairwise fun a b=>a.1<b.1)(hl:Q.length<4611686018427387904):zgy Q=some (srtQ Q):=by
 unfold zgy
 have h1:Nat.blt Q.length 4611686018427387904=true:=Nat.ble_eq_true_of_le hl
 rw[h1,(yaq Q).2 h]; rfl
theorem zqq{o:List Int}{k:Nat}(h:k<o.length):o.getD k 0=o[k]:=by rw[List.getD_eq_getElem?_getD,List.getElem?_eq_getElem h]; rfl
theorem yfv{S:List KQ3}(h:S.Pairwise fun a b=>a.1≠b.1){k:Nat}(hk:k<S.length):∀q∈S.take k,q.1≠(S[k]).1:=by
 intro q hq
 obtain⟨i,hi,rfl⟩:=List.getElem_of_mem hq
 rw[List.length_take]at hi
 rw[List.getElem_take]
 exact List.pairwise_iff_getElem.1 h i k (by omega) hk (by omega)
theorem r_split{T:Int}{l:List Int}(h:OkW T l):zun T l=some (splitP T l,(0,())):=by
 have hl:=h.len
 have h64:=h.s64
 have t0:=h.t0
 have ts:=h.ts
 show zgq stdW T l=_
 unfold zgq
 rw[zaa (r_right t0 h.nn (by omega)),cnd_n (by rfl),zaa (r_fSum h.w64 (by omega)),zby h64]
 rw[nn_w (by omega),room_w (by simp; omega) (by simp; omega),bnd_w (by omega) (by simp),cnd_n (by rfl),Int.toNat_natCast]
 unfold splitP
 by_cases hT:T=0
 ·rw[cnd_y (by simp[hT]),if_pos hT]
 ·rw[cnd_n (by simp[hT]),if_neg hT]
  have hS:0<l.sum:=by omega
  show stdW.cnd (l.sum==0) _ (stdW.call (zsn T l.sum l) _)=_
  rw[cnd_n (by simp; omega),zaa (r_quotas h hT)]
  have K:=h.quo hT
  have hat:=quo_at T l.sum l
  have hinc:=zvc T l.sum l 0
  have hown:=zui hinc
  have hperm:=zdt (quoGo T l.sum l 0)
  have hmem:∀q,q∈srtQ (quoGo T l.sum l 0)→q∈quoGo T l.sum l 0:=fun q hq=>hperm.mem_iff.1 hq
  generalize quoGo T l.sum l 0=Q at*
  generalize restP T l=r at*
  have hlen:=K.len
  have hre:=K.re
  have hm:=zoc (Q:=Q) fun q hq=>(K.q q hq).2.2.1
  have hm0:=hm Q.length
  rw[List.take_length]at hm0
  unfold I64 at h64
  refine zds (N:=l.length) (by omega) (fun i=>((i:Int),(zai (Q.take i)++List.replicate (l.length - i) 0,(Q,())))) _ (by simp[zai]) ?_ ?_
  ·intro again
   show stdW.cnd (decide ((l.length:Int)<(Q.length:Int))) _ (stdW.call (zgy Q) fun v11=>stdW.bnd (IntKind.i64.wrap (T - (zai Q).sum)) v11.length _)=_
   rw[hlen,zaj,zaa (ydf hinc (by omega)),IntWalk.i64_in _ (by omega),←hre]
   have hsl:(srtQ Q).length=l.length:=by rw[hperm.length_eq,hlen]
   rw[bnd_w (by omega) (by rw[hsl]; have:=K.rl; omega),Int.toNat_natCast]
   have hLl:((srtQ Q).take r).length=r:=by rw[List.length_take,hsl]; have:=K.rl; omega
   have hO:zai (Q.take l.length)++List.replicate (l.length - l.length) 0=zai Q:=by rw[←hlen,List.take_length]; simp
   refine zds (N:=r) (by have:=K.rl; omega) (fun k=>((k:Int),(bump ((srtQ Q).take k) (zai Q),()))) _ (by simp only[hO]; rfl) ?_ ?_
   ·intro again
    show stdW.cnd (decide ((r:Int)<(((srtQ Q).take r).length:Int))) _ (some (bump ((srtQ Q).take r) (zai Q),(0,())))=_
    rw[hLl,zaj]
   ·intro k hk again ha
    have hk':k<((srtQ Q).take r).length:=by omega
    have hk2:k<(srtQ Q).length:=by rw[hsl]; have:=K.rl; omega
    have eg:((srtQ Q).take r)[k]=(srtQ Q)[k]:=List.getElem_take
    have hqQ:=hmem _ (List.getElem_mem hk2)
    have kq:=K.q _ hqQ
    have hpos:=K.pos ((srtQ Q)[k]) (by rw[←eg]; exact List.getElem_mem hk')
    have hpa:=zod (n:=0) hat hqQ
    have hne:∀q∈(srtQ Q).take k,q.1.toNat≠((srtQ Q)[k]).1.toNat:=fun q hq=>by
     have h1:=yfv hown hk2 q hq
     have h2:=(K.q q (hmem q (List.mem_of_mem_take hq))).1
     omega
    have hgd:=zww ((srtQ Q).take k) (zai Q) hne
    have hsn:=zwv ((srtQ Q)[k]) ((srtQ Q).take k) (zai Q)
    rw[←List.take_succ_eq_append_getElem hk2,hgd,hpa.1]at hsn
    have hbl:(bump ((srtQ Q).take k) (zai Q)).length=l.length:=by rw[zuc]; unfold zai; rw[List.length_map,hlen]
    rw[hpa.1]at hgd
    show stdW.cnd (decide ((k:Int)<(((srtQ Q).take r).length:Int))) (stdW.idx ((srtQ Q).take r) (k:Int) _) _=_
    rw[cnd_lt hk',idx_w hk',eg]
    generalize (srtQ Q)[k]=q at*
    have eq1:q.1=((q.1.toNat:Nat):Int):=by omega
    have hq2:q.1.toNat<(bump ((srtQ Q).take k) (zai Q)).length:=by omega
    rw[zqq hq2]at hgd
    generalize bump ((srtQ Q).take k) (zai Q)=o at*
    show stdW.idx o q.1 (fun x16=>stdW.nth o (Int.toNat q.1) fun x17=>stdW.idx o q.1 fun x18=>stdW.nth o (Int.toNat q.1) fun x19=>again (IntKind.i64.wrap ((k:Int)+1),(List.set o (Int.toNat q.1) (IntKind.i64.wrap (x17+1)),())))=_
    rw[eq1,idx_w hq2,nth_w hq2,idx_w hq2,nth_w hq2,Int.toNat_natCast,hgd,IntWalk.i64_in (q.2.1+1) (by have:=kq.2.2.2.2.2.2 hpos; omega),i64_s k (by have:=K.rl; omega),←hsn]
    exact ha
  ·intro i hi again ha
   have hi':i<Q.length:=by omega
   show stdW.cnd (decide ((i:Int)<(Q.length:Int))) (stdW.idx Q (i:Int) fun x7=>stdW.nth Q (Int.toNat (i:Int)) _) _=_
   rw[cnd_lt hi',idx_w hi',nth_w hi']
   have eat:=hat i hi'
   have hpl:(zai (Q.take i)).length=i:=by unfold zai; rw[List.length_map,List.length_take]; omega
   have eo:(zai (Q.take i)++List.replicate (l.length - i) 0).set i (Q[i]).2.1=zai (Q.take (i+1))++List.replicate (l.length - (i+1)) 0:=by
    rw[List.set_append,if_neg (by omega),hpl,Nat.sub_self,show l.length - i=(l.length - (i+1))+1 by omega,List.replicate_succ,List.set_cons_zero,zru hi',List.append_assoc]
    rfl
   have hol:i<(zai (Q.take i)++List.replicate (l.length - i) 0).length:=by
    rw[List.length_append,List.length_replicate]; omega
   generalize Q[i]=q at*
   generalize zai (Q.take i)++List.replicate (l.length - i) 0=o at*
   show stdW.idx o q.1 (fun x9=>stdW.nth o (Int.toNat q.1) fun x10=>again (IntKind.i64.wrap ((i:Int)+1),(List.set o (Int.toNat q.1) q.2.1,(Q,()))))=_
   rw[eat,idx_w hol,nth_w hol,Int.toNat_natCast,i64_s i (by omega),eo]
   exact ha
theorem r_fill{T:Int}{l:List Int}(h:OkW T l):zrh T l=some (splitP T l,(0,())):=by
 have hl:=h.len
 have ts:=h.ts
 show zft stdW T l=_
 unfold zft
 rw[zaa (r_right h.t0 h.nn (by omega)),cnd_n (by rfl),zaa (r_fSum h.w64 (by omega)),zby h.s64,cnd_n (by rfl),cnd_n (decide_eq_false (by omega))]
 show stdW.call (zun T l) _=_
 rw[zaa (r_split h)]
end Go.Proofs.YtllkmncnmlmefaaGreat
namespace Go.Proofs.YtllkmncnmlmefaaGreat
open Go Go.Vc Go.RowKit
set_option synthInstance.maxSize 100000
set_option synthInstance.maxHeartbeats 0
abbrev NE:=Int×Int×Unit
def eachP(f:AUnit'→NE):List AUnit'→List Int→List Int×NE
 |[],acc=>(acc,fits64 acc.sum)
 |u::l,acc=>if (f u).2.1=0 then eachP f l (acc++[(f u).1]) else ([],(0,(f u).2))
def freeP(as:List zaf)(p:List AFlow')(h:List AHold')(u:AUnit'):NE:=
 ((if getP p u<0 then 0 else (roomP as p h u).1),((roomP as p h u).2.1,()))
theorem zwr{f:AUnit'→NE}:∀{l:List AUnit'} {acc:List Int},(eachP f l acc).2.2.1=0→(eachP f l acc).1=acc++l.map (fun u=>(f u).1)∧(eachP f l acc).2.1=(acc++l.map (fun u=>(f u).1)).sum∧I64 (acc++l.map (fun u=>(f u).1)).sum∧∀u∈l,(f u).2.1=0
 |[],acc,h=>by
  have e:eachP f [] acc=(acc,fits64 acc.sum):=rfl
  rw[e]at h ⊢
  unfold fits64 at h ⊢
  by_cases hI:I64 acc.sum
  ·rw[if_pos hI]
   simp[hI]
  ·rw[if_neg hI]at h; simp at h
 |u::l,acc,h=>by
  rw[eachP]at h ⊢
  by_cases he:(f u).2.1=0
  ·rw[if_pos he]at h ⊢
   obtain⟨h1,h2,h3,h4⟩:=zwr h
   rw[List.append_assoc]at h1 h2 h3
   refine⟨h1,h2,h3,fun v hv=>?_⟩
   rcases List.mem_cons.1 hv with rfl|hv
   ·exact he
   ·exact h4 v hv
  ·rw[if_neg he]at h; exact absurd h he
theorem r_free{s:zad}{p:List AFlow'}{h:List AHold'}{u:AUnit'}(ha:∀a∈asS s,okA1 a)(hl1:(asS s).length≤1000)(hh:okHs h)(hf:okF p)(hl:p.length≤1000000):
  yeb (updS s p h) u=some (freeP (asS s) p h u):=by
 show zle stdW (updS s p h) u=_
 unfold zle
 have e1:=r_room (s:=updS s p h) (u:=u) ha hl1 hh hf hl
 rw[zaa e1,join_w]
 show stdW.call (zmu p u) _=_
 rw[zaa (r_get hl)]
 unfold freeP
 by_cases hg:getP p u<0
 ·rw[cnd_y (decide_eq_true hg),if_pos hg]; rfl
 ·rw[cnd_n (decide_eq_false hg),if_neg hg]; rfl
theorem r_eachO{s:zad}{p:List AFlow'}{h:List AHold'}{l:List AUnit'}(hf:okF p)(hl:p.length≤1000000)(hn:l.length≤1000):
  zpn (updS s p h) l=some (eachP (owesP p) l [],()):=by
 show zcf stdW (updS s p h) l=_
 unfold zcf
 refine zbo (l:=l) (by omega) (s0:=(([]:List Int),())) (fun i z=>z.1.length=i∧∀x∈z.1,I64 x) (fun l' z=>some (eachP (owesP p) l' z.1,())) ⟨rfl,by simp⟩ ?_ ?_
 ·rintro⟨acc,⟨⟩⟩ again ⟨h1,h2⟩
  dsimp only at h1 h2
  show stdW.cnd (decide ((l.length:Int)<(l.length:Int))) _ (stdW.call (zne acc) _)=_
  rw[zaj,zaa (r_fSum h2 (by omega))]; rfl
 ·rintro i hi ⟨acc,⟨⟩⟩ ⟨h1,h2⟩ again hag
  dsimp only at h1 h2
  show stdW.cnd (decide ((i:Int)<(l.length:Int))) (stdW.idx l (i:Int) _) _=some (eachP (owesP p) (l[i]::l.drop (i+1)) acc,())
  rw[cnd_lt hi,idx_w hi,eachP]
  show stdW.call (zwo (updS s p h) l[i]) _=_
  rw[zaa (r_owes (s:=updS s p h) (u:=l[i]) hf hl)]
  have h64:=(zhi hf l[i]).1
  show stdW.cnd ((owesP p l[i]).2.1 != 0) (some (([],(0,(owesP p l[i]).2)),())) (stdW.room (acc.length+1) 8 (again (IntKind.i64.wrap ((i:Int)+1),(acc++[(owesP p l[i]).1],()))))=_
  generalize owesP p l[i]=r at*
  by_cases he:r.2.1=0
  ·rw[cnd_n (by simp[he]),if_pos he,room_w (by omega) (by omega),i64_s i (by omega)]
   refine hag (acc++[r.1],()) ⟨by simp[h1],fun x hx=>?_⟩
   rcases List.mem_append.1 hx with hx|hx
   ·exact h2 x hx
   ·simp only[List.mem_singleton]at hx; subst hx; exact h64
  ·rw[cnd_y (by simpa using he),if_neg he]
theorem ygw(as:List zaf)(p:List AFlow')(h:List AHold')(u:AUnit'):I64 (freeP as p h u).1∧0≤(freeP as p h u).1:=by
 unfold freeP
 split
 ·exact⟨by unfold I64; show (-9223372036854775808:Int)≤0∧(0:Int)≤_; omega,Int.le_refl _⟩
 ·exact yex as p h u
theorem r_eachF{s:zad}{p:List AFlow'}{h:List AHold'}{l:List AUnit'}(ha:∀a∈asS s,okA1 a)(hl1:(asS s).length≤1000)(hh:okHs h)(hf:okF p)(hl:p.length≤1000000)(hn:l.length≤1000):
  zpm (updS s p h) l=some (eachP (freeP (asS s) p h) l [],()):=by
 show zce stdW (updS s p h) l=_
 unfold zce
 refine zbo (l:=l) (by omega) (s0:=(([]:List Int),())) (fun i z=>z.1.length=i∧∀x∈z.1,I64 x) (fun l' z=>some (eachP (freeP (asS s) p h) l' z.1,())) ⟨rfl,by simp⟩ ?_ ?_
 ·rintro⟨acc,⟨⟩⟩ again ⟨h1,h2⟩
  dsimp only at h1 h2
  show stdW.cnd (decide ((l.length:Int)<(l.length:Int))) _ (stdW.call (zne acc) _)=_
  rw[zaj,zaa (r_fSum h2 (by omega))]; rfl
 ·rintro i hi ⟨acc,⟨⟩⟩ ⟨h1,h2⟩ again hag
  dsimp only at h1 h2
  show stdW.cnd (decide ((i:Int)<(l.length:Int))) (stdW.idx l (i:Int) _) _=some (eachP (freeP (asS s) p h) (l[i]::l.drop (i+1)) acc,())
  rw[cnd_lt hi,idx_w hi,eachP]
  show stdW.call (yeb (updS s p h) l[i]) _=_
  rw[zaa (r_free ha hl1 hh hf hl)]
  have h64:=(ygw (asS s) p h l[i]).1
  show stdW.cnd ((freeP (asS s) p h l[i]).2.1 != 0) (some (([],(0,(freeP (asS s) p h l[i]).2)),())) (stdW.room (acc.length+1) 8 (again (IntKind.i64.wrap ((i:Int)+1),(acc++[(freeP (asS s) p h l[i]).1],()))))=_
  generalize freeP (asS s) p h l[i]=r at*
  by_cases he:r.2.1=0
  ·rw[cnd_n (by simp[he]),if_pos he,room_w (by omega) (by omega),i64_s i (by omega)]
   refine hag (acc++[r.1],()) ⟨by simp[h1],fun x hx=>?_⟩
   rcases List.mem_append.1 hx with hx|hx
   ·exact h2 x hx
   ·simp only[List.mem_singleton]at hx; subst hx; exact h64
  ·rw[cnd_y (by simpa using he),if_neg he]
def dueP(as:List zaf)(p:List AFlow')(h:List AHold')(l:List AUnit'):Int:=min (eachP (owesP p) l []).2.1 (eachP (freeP as p h) l []).2.1
def giveP(as:List zaf)(p:List AFlow')(h:List AHold')(l:List AUnit'):List Int:=splitP (dueP as p h l) (eachP (freeP as p h) l []).1
def takeP(as:List zaf)(p:List AFlow')(h:List AHold')(l:List AUnit'):List Int:=splitP (dueP as p h l) (eachP (owesP p) l []).1
def zcr(as:List zaf)(l:List AUnit')(p:List AFlow')(h:List AHold'):PHD:=
 if (eachP (owesP p) l []).2.2.1=0 then if (eachP (freeP as p h) l []).2.2.1=0 then runA ((twoGo (l.zip (giveP as p h l)) (l.zip (takeP as p h l))).map (payAct as)) p h []
  else ([],[],[],(eachP (freeP as p h) l []).2.2.1) else ([],[],[],(eachP (owesP p) l []).2.2.1)
theorem zzb{as:List zaf}{p:List AFlow'}{h:List AHold'}{l:List AUnit'}(hf:okF p)(hn:l.length≤1000)(e1:(eachP (owesP p) l []).2.2.1=0)(e2:(eachP (freeP as p h) l []).2.2.1=0):
  OkW (dueP as p h l) (eachP (freeP as p h) l []).1∧OkW (dueP as p h l) (eachP (owesP p) l []).1∧(eachP (freeP as p h) l []).1.length=l.length∧(eachP (owesP p) l []).1.length=l.length:=by
 obtain⟨a1,a2,a3,_⟩:=zwr e1
 obtain⟨b1,b2,b3,_⟩:=zwr e2
 rw[List.nil_append]at a1 a2 a3 b1 b2 b3
 have n1:∀w∈l.map (fun u=>(owesP p u).1),0≤w:=fun w hw=>by
  obtain⟨u,_,rfl⟩:=List.mem_map.1 hw
  exact(zhi hf u).2
 have n2:∀w∈l.map (fun u=>(freeP as p h u).1),0≤w:=fun w hw=>by
  obtain⟨u,_,rfl⟩:=List.mem_map.1 hw
  exact(ygw as p h u).2
 have s1:=(le_sum n1).1
 have s2:=(le_sum n2).1
 unfold dueP
 rw[a1,a2,b1,b2]
 exact⟨⟨by omega,by omega,n2,b3,by rw[List.length_map]; exact hn⟩,⟨by omega,by omega,n1,a3,by rw[List.length_map]; exact hn⟩,List.length_map ..,List.length_map ..⟩
theorem zuk(as:List zaf)(l:List AUnit')(hn:l.length≤20):GoodA (fun p h=>zcr as l p h) 40:=by
 intro p h d n S hb he
 dsimp only at he ⊢
 unfold zcr at he ⊢
 by_cases e1:(eachP (owesP p) l []).2.2.1=0
 ·rw[if_pos e1]at he ⊢
  by_cases e2:(eachP (freeP as p h) l []).2.2.1=0
  ·rw[if_pos e2]at he ⊢
   have hlen:((twoGo (l.zip (giveP as p h l)) (l.zip (takeP as p h l))).map (payAct as)).length≤40:=by
    rw[List.length_map]
    refine Nat.le_trans (zyt _ _ _ (Nat.le_refl _)) ?_
    rw[List.length_zip,List.length_zip]; omega
   have hg:∀a∈(twoGo (l.zip (giveP as p h l)) (l.zip (takeP as p h l))).map (payAct as),GoodA a 1:=fun a ha=>by
    obtain⟨x,_,rfl⟩:=List.mem_map.1 ha
    exact zzy as x.1 x.2.1 x.2.2
   generalize (twoGo (l.zip (giveP as p h l)) (l.zip (takeP as p h l))).map (payAct as)=L at*
   have S':StR p h (d++[]) n:=by rw[List.append_nil]; exact S
   obtain⟨d1,d2⟩:=zuq L p h [] d
   have he':(runA L p h (d++[])).2.2.2=0:=by rw[d1]; exact he
   have R:=runA_st L hg p h (d++[]) n S' (by omega) he'
   rw[d2 he]at R
   have r1:(runA L p h []).1.length≤20+40*(n+1*L.length):=R.pl
   have r2:(runA L p h []).2.1.length≤10+32*(n+1*L.length):=R.hl
   have r3:(d++(runA L p h []).2.2.1).length≤n+1*L.length:=R.dl
   exact⟨R.f,by omega,R.hh,by omega,by omega⟩
  ·rw[if_neg e2]at he; exact absurd he e2
 ·rw[if_neg e1]at he; exact absurd he e1
end Go.Proofs.YtllkmncnmlmefaaGreat

namespace Go.Proofs.YtllkmncnmlmefaaGreat
open Go Go.Vc Go.RowKit
set_option synthInstance.maxSize 100000
set_option synthInstance.maxHeartbeats 0
set_option maxHeartbeats 1000000
def stT{T:Type}(s:zad)(p:List AFlow')(h:List AHold')(t:T):Int×List zbh×List AInst'×List ALot'×List zab×List zbi×List zbx×List AGive'×List APos'×List APos'×List AFlow'×List AHold'×T:=
 (s.1,(s.2.1,(s.2.2.1,(s.2.2.2.1,(s.2.2.2.2.1,(s.2.2.2.2.2.1,(s.2.2.2.2.2.2.1,(s.2.2.2.2.2.2.2.1,(s.2.2.2.2.2.2.2.2.1,(s.2.2.2.2.2.2.2.2.2.1,(p,(h,t))))))))))))
theorem zps{l:List AUnit'}{t:List Int}:∀{k:Nat} (hk:k<l.length) (ht:t.length=l.length),(l.zip t).drop k=(l[k],t[k]'(by omega))::(l.zip t).drop (k+1):=by
 intro k hk ht
 have h1:k<(l.zip t).length:=by rw[List.length_zip]; omega
 rw[List.drop_eq_getElem_cons h1,List.getElem_zip]
theorem zop:∀(l:List AUnit') (t:List Int) (k:Nat) (v:Int),(l.zip (t.set k v)).drop (k+1)=(l.zip t).drop (k+1)
 |[],t,k,v=>by simp
 |u::l,[],k,v=>by simp
 |u::l,x::t,0,v=>by simp
 |u::l,x::t,k+1,v=>by
  rw[List.set_cons_succ,List.zip_cons_cons,List.zip_cons_cons,List.drop_succ_cons,List.drop_succ_cons]
  exact zop l t k v
theorem yhq{l:List AUnit'}{t:List Int}{k:Nat}(hk:k<l.length)(ht:t.length=l.length)(v:Int):(l.zip (t.set k v)).drop k=(l[k],v)::(l.zip t).drop (k+1):=by
 rw[zps (t:=t.set k v) hk (by simpa using ht),zop]
 simp
def i64L(l:List Int):Prop:=∀x∈l,0≤x∧I64 x
theorem zse{l:List Int}(h:i64L l){k:Nat}{v:Int}(h0:0≤v)(h1:I64 v):i64L (l.set k v):=fun x hx=>by
 rcases List.mem_or_eq_of_mem_set hx with hx|rfl
 ·exact h x hx
 ·exact⟨h0,h1⟩
theorem r_shared{s:zad}{p:List AFlow'}{h:List AHold'}{l:List AUnit'}{m0:Nat}(ha:∀a∈asS s,okA1 a)(hl1:(asS s).length≤1000)(hn:l.length≤20)(S:StR p h [] m0)(hm0:m0+40≤10000):
  zwl (updS s p h) l=some (resD s (zcr (asS s) l p h)):=by
 have hpl:=S.pl
 have hhl:=S.hl
 show zhe stdW (updS s p h) l=_
 unfold zhe
 rw[zaa (r_eachO S.f (by omega) (by omega)),zaa (r_eachF ha hl1 S.hh S.f (by omega) (by omega))]
 refine join_g fun k59 hk59=>?_
 unfold zcr
 have err:∀e:Int,e≠0→resD s ([],[],[],e)=(zS,([],(e,()))):=fun e he=>by unfold resD; rw[if_neg he]
 have K59t:∀e,e=(if (eachP (owesP p) l []).2.2.1=0 then (eachP (freeP (asS s) p h) l []).2.2.1 else (eachP (owesP p) l []).2.2.1)→k59 (true,((eachP (owesP p) l []).1,((eachP (freeP (asS s) p h) l []).1,())))=some (zS,([],(e,()))):=by
  rintro _ rfl
  subst hk59
  show stdW.cnd true (stdW.call (yhi ((eachP (owesP p) l []).2.2.1::((eachP (freeP (asS s) p h) l []).2.2.1::[]))) _) _=_
  rw[cnd_y (by rfl),zaa (r_or2 _ _)]; rfl
 show stdW.cnd ((eachP (owesP p) l []).2.2.1 != 0) (k59 (true,((eachP (owesP p) l []).1,((eachP (freeP (asS s) p h) l []).1,())))) (k59 ((eachP (freeP (asS s) p h) l []).2.2.1 != 0,((eachP (owesP p) l []).1,((eachP (freeP (asS s) p h) l []).1,()))))=_
 by_cases e1:(eachP (owesP p) l []).2.2.1=0
 ·rw[cnd_n (by simp[e1]),if_pos e1]
  by_cases e2:(eachP (freeP (asS s) p h) l []).2.2.1=0
  ·rw[if_pos e2,show ((eachP (freeP (asS s) p h) l []).2.2.1 != 0)=false by simp[e2]]
   clear K59t
   obtain⟨w1,w2,c1,c2⟩:=zzb (as:=asS s) (h:=h) S.f (by omega) e1 e2
   have hT64:I64 (dueP (asS s) p h l):=by have:=w1.s64; have:=w1.t0; have:=w1.ts; unfold I64 at *; omega
   have f1:=r_fill w1
   have f2:=r_fill w2
   obtain⟨s1,s2⟩:=w1.split
   obtain⟨s3,s4⟩:=w2.split
   have g1:i64L (giveP (asS s) p h l):=fun x hx=>by have:=s2 x hx; unfold I64 at *; omega
   have g2:i64L (takeP (asS s) p h l):=fun x hx=>by have:=s4 x hx; unfold I64 at *; omega
   have g3:(giveP (asS s) p h l).length=l.length:=s1.trans c1
   have g4:(takeP (asS s) p h l).length=l.length:=s3.trans c2
   subst hk59
   have emin:(if (eachP (freeP (asS s) p h) l []).2.1<(eachP (owesP p) l []).2.1 then (eachP (freeP (asS s) p h) l []).2.1 else (eachP (owesP p) l []).2.1)=dueP (asS s) p h l:=by unfold dueP; split<;>omega
   show stdW.cnd false _ (stdW.call (zrh (if (eachP (freeP (asS s) p h) l []).2.1<(eachP (owesP p) l []).2.1 then (eachP (freeP (asS s) p h) l []).2.1 else (eachP (owesP p) l []).2.1) (eachP (freeP (asS s) p h) l []).1) fun v5=>stdW.call (zrh (if (eachP (freeP (asS s) p h) l []).2.1<(eachP (owesP p) l []).2.1 then (eachP (freeP (asS s) p h) l []).2.1 else (eachP (owesP p) l []).2.1) (eachP (owesP p) l []).1) _)=_
   rw[cnd_n (by rfl),emin,zaa f1,zaa f2]
   refine join_g fun k8 hk8=>?_
   have K8:∀p1 h1 (out:List zbf),k8 (stT s p1 h1 (out,()))=some (updS s p1 h1,(out,(0,()))):=by
    intro p1 h1 out; subst hk8; rfl
   clear hk8
   show stdW.loop _ ((0:Int),((0:Int),stT s p h (giveP (asS s) p h l,(takeP (asS s) p h l,(([]:List zbf),())))))=_
   generalize giveP (asS s) p h l=gv0 at*
   generalize takeP (asS s) p h l=tk0 at*
   generalize hres:some (resD s (runA ((twoGo (l.zip gv0) (l.zip tk0)).map (payAct (asS s))) p h []))=res
   refine loop_P (fun o=>o=res) (fun z=>2*l.length+1 - z.1.toNat - z.2.1.toNat)
    (fun z=>∃(i k:Nat) (p1:List AFlow') (h1:List AHold') (gv tk:List Int) (out:List zbf) (m:Nat),z=((i:Int),((k:Int),stT s p1 h1 (gv,(tk,(out,())))))∧i≤l.length∧k≤l.length∧gv.length=l.length∧tk.length=l.length∧i64L gv∧i64L tk∧StR p1 h1 out m∧m+(l.length - i)+(l.length - k)≤10000∧
     some (resD s (runA ((twoGo ((l.zip gv).drop i) ((l.zip tk).drop k)).map (payAct (asS s))) p1 h1 out))=res)
    ⟨0,0,p,h,gv0,tk0,[],m0,rfl,Nat.zero_le _,Nat.zero_le _,g3,g4,g1,g2,S,by omega,by rw[List.drop_zero,List.drop_zero]; exact hres⟩ (by show _ - (0:Int).toNat - (0:Int).toNat<_; omega) ?_
   clear hres f1 f2 s1 s2 s3 s4 w1 w2 c1 c2 g1 g2 g3 g4 emin hT64
   rintro _ ⟨i,k,p1,h1,gv,tk,out,m,rfl,hi,hk,lg,lt,ng,nt,St,hm,hr⟩ again hag
   have hp1:=St.pl
   have hh1:=St.hl
   have hd1:=St.dl
   have stop:(i=l.length∨k=l.length)→k8 (stT s p1 h1 (out,()))=res:=by
    intro hik
    rw[K8,←hr]
    have e:twoGo ((l.zip gv).drop i) ((l.zip tk).drop k)=[]:=by
     have lz1:(l.zip gv).length=l.length:=by rw[List.length_zip]; omega
     have lz2:(l.zip tk).length=l.length:=by rw[List.length_zip]; omega
     rcases hik with rfl|rfl
     ·rw[←lz1,List.drop_length,twoGo]
     ·rw[←lz2,List.drop_length]
      cases (l.zip gv).drop i with
      |nil=>rw[twoGo]
      |cons a b=>rw[twoGo]
    rw[e]; rfl
   show stdW.cnd (decide ((i:Int)<(gv.length:Int))) (stdW.cnd (decide ((k:Int)<(tk.length:Int))) _ (k8 (stT s p1 h1 (out,())))) (k8 (stT s p1 h1 (out,())))=res
   by_cases hil:i<l.length
   ·have hig:i<gv.length:=by omega
    rw[cnd_lt hig]
    by_cases hkl:k<l.length
    ·have hkt:k<tk.length:=by omega
     rw[cnd_lt hkt]
     clear stop K8
     rw[zps hil lg,zps hkl lt,twoGo,List.map_cons,runA]at hr
     have nx:=ng _ (List.getElem_mem hig)
     have ny:=nt _ (List.getElem_mem hkt)
     have sg:=zop l gv i
     have st:=zop l tk k
     have sg0:=yhq (l:=l) hil lg
     have st0:=yhq (l:=l) hkl lt
     have es1:∀v,(gv.set i v)[i]'(by rw[List.length_set]; exact hig)=v:=fun v=>List.getElem_set_self _
     generalize hx:gv[i]=x at*
     generalize hy:tk[k]=y at*
     refine join_g fun k52 hk52=>?_
     have K52:∀n,n=min x y→k52 (n,(gv,(tk,(out,()))))=res:=by
      intro n hn'
      rw[←hn']at hr
      have nI:I64 n:=by have:=nx.2; have:=ny.2; unfold I64 at *; omega
      have xn:0≤x - n∧I64 (x - n):=by have:=nx.2; unfold I64 at *; omega
      have yn:0≤y - n∧I64 (y - n):=by have:=ny.2; unfold I64 at *; omega
      subst hk52
      show stdW.idx l (i:Int) _=res
      rw[idx_w hil]
      show stdW.idx l (k:Int) _=res
      rw[idx_w hkl,two_w]
      show stdW.call (zwk (updS s p1 h1) l[i] l[k] n) _=res
      rw[zaa (r_pays ha hl1 St.hh (by omega) St.f (by omega) nI)]
      have good:=zzy (asS s) l[i] l[k] n p1 h1 out m St (by omega)
      have er:payAct (asS s) (l[i],l[k],n) p1 h1=paysP (asS s) p1 h1 l[i] l[k] n:=rfl
      rw[er]at hr
      dsimp only at good
      generalize paysP (asS s) p1 h1 l[i] l[k] n=r at*
      by_cases he:r.2.2.2=0
      ·rw[if_pos he]at hr
       have S2:=good he
       have erd:resD s r=(updS s r.1 r.2.1,(r.2.2.1,(0,()))):=by unfold resD; rw[if_pos he]
       have hd2:=S2.dl
       rw[List.length_append]at hd2
       rw[erd]
       show stdW.cnd ((0:Int) != 0) _ (stdW.room (out.length+r.2.2.1.length) 40 _)=res
       rw[cnd_n (by rfl),room_w (by omega) (by omega)]
       refine join_g fun k18 hk18=>?_
       have K18:k18 (gv.set i (x - n),(tk.set k (y - n),(out++r.2.2.1,())))=res:=by
        subst hk18
        have hig':i<(gv.set i (x - n)).length:=by rw[List.length_set]; exact hig
        show stdW.idx (gv.set i (x - n)) (i:Int) (fun _=>stdW.nth (gv.set i (x - n)) (Int.toNat (i:Int)) fun x17=>stdW.cnd (x17==0) (again (IntKind.i64.wrap ((i:Int)+1),((k:Int),stT s r.1 r.2.1 (gv.set i (x - n),(tk.set k (y - n),(out++r.2.2.1,())))))) (again ((i:Int),(IntKind.i64.wrap ((k:Int)+1),stT s r.1 r.2.1 (gv.set i (x - n),(tk.set k (y - n),(out++r.2.2.1,())))))))=res
        rw[idx_w hig',nth_w hig',es1]
        by_cases hc:x≤y
        ·have en:n=x:=by omega
         rw[if_pos hc]at hr
         rw[cnd_y (by simp; omega),i64_s i (by omega)]
         refine hag _ ⟨i+1,k,r.1,r.2.1,gv.set i (x - n),tk.set k (y - n),out++r.2.2.1,m+1,rfl,by omega,hk,by rw[List.length_set]; exact lg,by rw[List.length_set]; exact lt,zse ng xn.1 xn.2,zse nt yn.1 yn.2,S2,by omega,?_⟩ (by show _ - ((i+1:Nat):Int).toNat - (k:Int).toNat<_ - ((i:Nat):Int).toNat - (k:Int).toNat; omega)
         rw[sg,st0,en]; exact hr
        ·have en:n=y:=by omega
         rw[if_neg hc]at hr
         rw[cnd_n (by simp; omega),i64_s k (by omega)]
         refine hag _ ⟨i,k+1,r.1,r.2.1,gv.set i (x - n),tk.set k (y - n),out++r.2.2.1,m+1,rfl,by omega,by omega,by rw[List.length_set]; exact lg,by rw[List.length_set]; exact lt,zse ng xn.1 xn.2,zse nt yn.1 yn.2,S2,by omega,?_⟩ (by show _ - (i:Int).toNat - ((k+1:Nat):Int).toNat<_ - ((i:Nat):Int).toNat - (k:Int).toNat; omega)
         rw[sg0,st,en]; exact hr
       clear hk18
       have w1:IntKind.i64.wrap (x - n)=x - n:=IntWalk.i64_in _ (by have:=xn.2; unfold I64 at this; omega)
       have w2:IntKind.i64.wrap (y - n)=y - n:=IntWalk.i64_in _ (by have:=yn.2; unfold I64 at this; omega)
       show stdW.idx gv (i:Int) (fun _=>stdW.idx tk (k:Int) fun _=>stdW.both (stdW.nth gv (Int.toNat (i:Int)) fun x21=>stdW.nth tk (Int.toNat (k:Int)) fun x22=>stdW.idx gv (i:Int) fun _=>stdW.nth gv (Int.toNat (i:Int)) fun _=>stdW.idx tk (k:Int) fun _=>stdW.nth tk (Int.toNat (k:Int)) fun _=>k18 (gv.set (Int.toNat (i:Int)) (IntKind.i64.wrap (x21 - n)),(tk.set (Int.toNat (k:Int)) (IntKind.i64.wrap (x22 - n)),(out++r.2.2.1,()))))
        (stdW.nth tk (Int.toNat (k:Int)) fun x27=>stdW.nth gv (Int.toNat (i:Int)) fun x28=>stdW.idx gv (i:Int) fun _=>stdW.nth gv (Int.toNat (i:Int)) fun _=>stdW.idx tk (k:Int) fun _=>stdW.nth tk (Int.toNat (k:Int)) fun _=>k18 (gv.set (Int.toNat (i:Int)) (IntKind.i64.wrap (x28 - n)),(tk.set (Int.toNat (k:Int)) (IntKind.i64.wrap (x27 - n)),(out++r.2.2.1,())))))=res
       rw[idx_w hig,idx_w hkt]
       exact zbe (by rw[nth_w hig,nth_w hkt,idx_w hig,nth_w hig,idx_w hkt,nth_w hkt,hx,hy,w1,w2,Int.toNat_natCast,Int.toNat_natCast,K18]) (by rw[nth_w hkt,nth_w hig,idx_w hig,nth_w hig,idx_w hkt,nth_w hkt,hx,hy,w1,w2,Int.toNat_natCast,Int.toNat_natCast,K18])
      ·rw[if_neg he]at hr
       have erd:resD s r=(zS,([],(r.2.2.2,()))):=by unfold resD; rw[if_neg he]
       rw[erd]
       show stdW.cnd (r.2.2.2 != 0) (some (zS,([],(r.2.2.2,())))) _=res
       rw[cnd_y (by simpa using he),←hr,err _ he]
     clear hk52
     show stdW.idx gv (i:Int) (fun _=>stdW.idx tk (k:Int) fun _=>stdW.both (stdW.nth gv (Int.toNat (i:Int)) fun x55=>stdW.nth tk (Int.toNat (k:Int)) fun x56=>k52 ((if x56<x55 then x56 else x55),(gv,(tk,(out,())))))
      (stdW.nth tk (Int.toNat (k:Int)) fun x57=>stdW.nth gv (Int.toNat (i:Int)) fun x58=>k52 ((if x57<x58 then x57 else x58),(gv,(tk,(out,()))))))=res
     rw[idx_w hig,idx_w hkt]
     have ek:=K52 (if y<x then y else x) (by split<;>omega)
     exact zbe (by rw[nth_w hig,nth_w hkt,hx,hy,ek]) (by rw[nth_w hkt,nth_w hig,hx,hy,ek])
    ·have e:k=tk.length:=by omega
     have hkk:k=l.length:=by omega
     rw[show stdW.cnd (decide ((k:Int)<(tk.length:Int))) _ (k8 (stT s p1 h1 (out,())))=k8 (stT s p1 h1 (out,())) from by rw[e,zaj]]
     exact stop (.inr hkk)
   ·have e:i=gv.length:=by omega
    have hii:i=l.length:=by omega
    rw[show ∀A,stdW.cnd (decide ((i:Int)<(gv.length:Int))) A (k8 (stT s p1 h1 (out,())))=k8 (stT s p1 h1 (out,())) from fun A=>by rw[e,zaj]]
    exact stop (.inl hii)
  ·rw[if_neg e2,show ((eachP (freeP (asS s) p h) l []).2.2.1 != 0)=true by simpa using e2,K59t _ rfl,if_pos e1,err _ e2]
 ·rw[cnd_y (by simpa using e1),if_neg e1,K59t _ rfl,if_neg e1,err _ e1]
end Go.Proofs.YtllkmncnmlmefaaGreat

namespace Go.Proofs.YtllkmncnmlmefaaGreat
open Go Go.Vc Go.RowKit
theorem r_of1(a:zab)(id:Int):acct_Of_1 id a=some (!(isM id a),(id,())):=by
 show some ((a.2.1 != id),(id,()))=_
 unfold isM
 by_cases h:a.2.1=id<;>simp[h]
theorem r_ixM{l:List zab}{id:Int}(hl:l.length≤1000000):
  (zbg id l=some (-1,(id,()))∧∀a∈l,isM id a=true)∨
  ∃i:Nat,i<l.length∧zbg id l=some ((i:Int),(id,()))∧(∀a∈l.take i,isM id a=true)∧∀h:i<l.length,isM id l[i]=false:=by
 show (zak stdW id l=_∧_)∨∃i:Nat,_∧zak stdW id l=_∧_
 unfold zak
 refine loop_P (fun o=>(o=some ((-1:Int),(id,()))∧∀a∈l,isM id a=true)∨∃i:Nat,i<l.length∧o=some ((i:Int),(id,()))∧(∀a∈l.take i,isM id a=true)∧∀h:i<l.length,isM id l[i]=false) (fun z=>l.length+1 - z.1.toNat)
  (fun z=>∃j:Nat,j≤l.length∧z=((j:Int),(id,()))∧∀a∈l.take j,isM id a=true) ⟨0,Nat.zero_le _,rfl,by simp⟩ (by show _ - (0:Int).toNat<_; omega) ?_
 rintro _ ⟨j,hj,rfl,hp⟩ again ha
 show (stdW.cnd (decide ((j:Int)<(l.length:Int))) _ _=_∧_)∨∃i:Nat,_∧stdW.cnd (decide ((j:Int)<(l.length:Int))) _ _=_∧_
 by_cases h:j<l.length
 ·rw[cnd_lt h]
  show (stdW.idx l (j:Int) _=_∧_)∨∃i:Nat,_∧stdW.idx l (j:Int) _=_∧_
  rw[idx_w h,zaa (show zhz stdW id l[j]=_ from r_of1 _ _)]
  by_cases hv:isM id l[j]=true
  ·rw[hv,cnd_n (by rfl)]
   show (again (IntKind.i64.wrap ((j:Int)+1),(id,()))=_∧_)∨∃i:Nat,_∧again (IntKind.i64.wrap ((j:Int)+1),(id,()))=_∧_
   rw[i64_s j (by omega)]
   refine ha _ ⟨j+1,by omega,rfl,fun a hm=>?_⟩ (by show _ - ((j+1:Nat):Int).toNat<_ - ((j:Nat):Int).toNat; omega)
   rw[List.take_succ_eq_append_getElem h]at hm
   rcases List.mem_append.1 hm with hm|hm
   ·exact hp a hm
   ·simp only[List.mem_singleton]at hm; subst hm; exact hv
  ·have hv:isM id l[j]=false:=by simpa using hv
   rw[hv,cnd_y (by rfl)]
   exact .inr ⟨j,h,rfl,hp,fun _=>hv⟩
 ·have:j=l.length:=by omega
  subst this
  rw[zaj]
  rw[List.take_length]at hp
  exact .inl ⟨rfl,hp⟩
theorem r_delM{l:List zab}{id:Int}(hl:l.length≤1000000):zcq id l=some (l.filter (isM id),(id,())):=by
 show zam stdW id l=_
 unfold zam
 rcases r_ixM (id:=id) hl with ⟨e,hall⟩|⟨i0,hi0,e,hp,hn⟩
 ·rw[zaa e,cnd_y (by rfl),List.filter_eq_self.2 hall]
 ·rw[zaa e,cnd_n (show ((i0:Int) == -1)=false by simp)]
  have hi0':i0+1≤l.length:=hi0
  have hf0:(l.take (i0+1)).filter (isM id)=l.take i0:=by
   rw[List.take_succ_eq_append_getElem hi0,List.filter_append,List.filter_eq_self.2 hp,List.filter_cons,hn hi0]; simp
  have hz:((i0:Int),((IntKind.i64.wrap ((i0:Int)+1)),(id,(l,()))))=(((i0:Nat):Int),(((i0+1:Nat):Int),(id,(l,())))):=by rw[i64_s i0 (by omega)]
  show stdW.loop _ ((i0:Int),((IntKind.i64.wrap ((i0:Int)+1)),(id,(l,()))))=_
  rw[hz]
  refine(zdb (fun z=>l.length+1 - z.2.1.toNat) (fun z=>∃(i j:Nat) (s:List zab),i<j∧j≤l.length∧s.length=l.length∧s.take i=(l.take j).filter (isM id)∧s.drop j=l.drop j∧z=((i:Int),((j:Int),(id,(s,()))))) (fun _=>some (l.filter (isM id),(id,()))) ⟨i0,i0+1,l,by omega,hi0',rfl,hf0.symm,rfl,rfl⟩ (by show l.length+1 - (((i0+1:Nat):Int)).toNat<_; omega) ?_)
  rintro _ ⟨i,j,s,hij,hj,hs,ht,hd,rfl⟩ again ha
  show stdW.cnd (decide ((j:Int)<(s.length:Int))) _ _=_
  by_cases h:j<s.length
  ·have hjl:j<l.length:=by omega
   have hx:s[j]=l[j]:=by
    have h1:(s.drop j)[0]?=(l.drop j)[0]?:=by rw[hd]
    rw[List.getElem?_drop,List.getElem?_drop,Nat.add_zero,List.getElem?_eq_getElem h,List.getElem?_eq_getElem hjl]at h1
    exact Option.some.inj h1
   rw[cnd_lt h]
   refine join_g fun k5 hk5=>?_
   have kk:∀(i':Nat) (s':List zab),i'<j+1→s'.length=l.length→s'.take i'=(l.take (j+1)).filter (isM id)→s'.drop (j+1)=l.drop (j+1)→k5 ((i':Int),(id,(s',())))=some (l.filter (isM id),(id,())):=by
    intro i' s' g1 g2 g3 g4
    subst hk5
    show again ((i':Int),(IntKind.i64.wrap ((j:Int)+1),(id,(s',()))))=_
    rw[i64_s j (by omega)]
    exact ha _ ⟨i',j+1,s',by omega,by omega,g2,g3,g4,rfl⟩ (by show l.length+1 - (((j+1:Nat):Int)).toNat<l.length+1 - (((j:Nat):Int)).toNat; omega)
   clear hk5 ha
   have hd1:s.drop (j+1)=l.drop (j+1):=by
    have:=congrArg (List.drop 1) hd
    rwa [List.drop_drop,List.drop_drop]at this
   have il:i<s.length:=by omega
   show stdW.idx s (j:Int) _=_
   rw[idx_w h]
   show stdW.nth s (Int.toNat (j:Int)) _=_
   rw[nth_w h,hx,zaa (show zhz stdW id l[j]=_ from r_of1 _ _)]
   by_cases hv:isM id l[j]=true
   ·rw[hv,cnd_y (by rfl)]
    show stdW.idx s (i:Int) _=_
    rw[idx_w il]
    show stdW.nth s (Int.toNat (i:Int)) _=_
    rw[nth_w il]
    show k5 (IntKind.i64.wrap ((i:Int)+1),(id,(s.set (Int.toNat (i:Int)) l[j],())))=_
    rw[Int.toNat_natCast,i64_s i (by omega)]
    refine kk (i+1) (s.set i l[j]) (by omega) (by rw[List.length_set]; exact hs) ?_ ?_
    ·rw[List.take_succ_eq_append_getElem hjl,List.filter_append,←ht,List.filter_cons,hv,List.filter_nil,if_pos rfl]
     have h1:i<(s.set i l[j]).length:=by rw[List.length_set]; exact il
     rw[List.take_succ_eq_append_getElem h1,List.getElem_set_self]
     congr 1
     rw[List.take_set_of_le (Nat.le_refl _)]
    ·rw[List.drop_set_of_lt (by omega)]; exact hd1
   ·have hv:isM id l[j]=false:=by simpa using hv
    rw[hv,cnd_n (by rfl)]
    refine kk i s (by omega) hs ?_ hd1
    rw[List.take_succ_eq_append_getElem hjl,List.filter_append,List.filter_cons,hv,ht]; simp
  ·have:j=s.length:=by omega
   subst this
   have hll:s.length=l.length:=hs
   rw[zaj]
   show stdW.bnd (i:Int) s.length _=_
   rw[bnd_w (by omega) (by omega),Int.toNat_natCast]
   show stdW.bnd (i:Int) s.length _=_
   rw[bnd_w (by omega) (by omega),Int.toNat_natCast]
   show stdW.bnd (i:Int) (s.take i++List.replicate (s.length - i) (0,(0,(0,([],()))))).length _=_
   have hlt:(s.take i).length=i:=by rw[List.length_take]; omega
   rw[bnd_w (by omega) (by rw[List.length_append,hlt]; omega),Int.toNat_natCast]
   show some ((s.take i++List.replicate (s.length - i) (0,(0,(0,([],()))))).take i,(id,()))=_
   rw[List.take_append_of_le_length (by omega),List.take_take,Nat.min_self,ht,hll,List.take_length]
theorem r_aof{l:List zab}{id:Int}(h:okAs l):acct_Of l id=some (l.filter (isM id)):=by
 show zra stdW l id=_
 unfold zra
 have hl:=h.2
 rw[zaa (r_copiedA h),zaa (r_delM (by omega))]
theorem zqf{a:zab}(h:a.2.2.2.1.length≤1000):zin a=some (unitsA a):=by
 show zcg stdW a=_
 unfold zcg unitsA
 by_cases hk:a.2.2.1=1
 ·rw[cnd_y (by simpa using hk),if_pos hk,room_w (by simp) (by simp)]
 ·rw[cnd_n (by simpa using hk),if_neg hk]
  refine zsa (N:=a.2.2.2.1.length) (by omega) (fun i=>((i:Int),((a.2.2.2.1.take i).map (fun c=>((a.1,(c,())):AUnit')),()))) _ rfl ?_ ?_
  ·intro again
   show stdW.cnd (decide ((a.2.2.2.1.length:Int)<(a.2.2.2.1.length:Int))) _ (some _)=_
   rw[zaj,List.take_length]
  ·intro i hi again ha
   show stdW.cnd (decide ((i:Int)<(a.2.2.2.1.length:Int))) (stdW.idx a.2.2.2.1 (i:Int) fun x3=>stdW.room (((a.2.2.2.1.take i).map (fun c=>((a.1,(c,())):AUnit'))).length+1) 16 (again (IntKind.i64.wrap ((i:Int)+1),((a.2.2.2.1.take i).map (fun c=>((a.1,(c,())):AUnit'))++[((a.1,(x3,())):AUnit')],())))) _=_
   have:((a.2.2.2.1.take i).map (fun c=>((a.1,(c,())):AUnit'))).length≤1000:=by rw[List.length_map,List.length_take]; omega
   rw[cnd_lt hi,idx_w hi,room_w (by omega) (by omega),i64_s i (by omega)]
   rw[List.take_succ_eq_append_getElem hi,List.map_append]at ha
   exact ha
end Go.Proofs.YtllkmncnmlmefaaGreat
namespace Go.Proofs.YtllkmncnmlmefaaGreat
open Go Go.Vc Go.RowKit
set_option synthInstance.maxSize 100000
set_option synthInstance.maxHeartbeats 0
set_option maxHeartbeats 1000000
def stepR(st:PHD)(a:ActF):PHD:=if st.2.2.2=0 then if (a st.1 st.2.1).2.2.2=0 then ((a st.1 st.2.1).1,(a st.1 st.2.1).2.1,st.2.2.1++(a st.1 st.2.1).2.2.1,0) else (st.1,st.2.1,st.2.2.1,(a st.1 st.2.1).2.2.2) else st
def runR(l:List ActF)(st:PHD):PHD:=l.foldl stepR st
theorem yio:∀(l:List ActF) {st:PHD},st.2.2.2≠0→runR l st=st
 |[],_,_=>rfl
 |a::l,st,h=>by
  have e:stepR st a=st:=by unfold stepR; rw[if_neg h]
  show runR l (stepR st a)=st
  rw[e]; exact yio l h
theorem runR_A:∀(l:List ActF) (p:List AFlow') (h:List AHold') (d:List zbf),
  (runR l (p,h,d,0)).2.2.2=(runA l p h d).2.2.2∧((runA l p h d).2.2.2=0→runR l (p,h,d,0)=runA l p h d)∧((runA l p h d).2.2.2≠0→runA l p h d=([],[],[],(runA l p h d).2.2.2))
 |[],p,h,d=>⟨rfl,fun _=>rfl,fun h0=>absurd rfl h0⟩
 |a::l,p,h,d=>by
  rw[runA]
  by_cases he:(a p h).2.2.2=0
  ·have e:stepR (p,h,d,0) a=((a p h).1,(a p h).2.1,d++(a p h).2.2.1,0):=by unfold stepR; rw[if_pos rfl,if_pos he]
   rw[if_pos he,runR,List.foldl_cons,e]
   exact runR_A l _ _ _
  ·have e:stepR (p,h,d,0) a=(p,h,d,(a p h).2.2.2):=by unfold stepR; rw[if_pos rfl,if_neg he]
   rw[if_neg he,runR,List.foldl_cons,e]
   have:=yio l (st:=(p,h,d,(a p h).2.2.2)) he
   rw[runR]at this
   rw[this]
   exact⟨rfl,fun h0=>absurd h0 he,fun _=>rfl⟩
theorem zeo(l1 l2:List ActF)(st:PHD):runR (l1++l2) st=runR l2 (runR l1 st):=List.foldl_append
def StO(st:PHD)(n:Nat):Prop:=st.2.2.2=0→StR st.1 st.2.1 st.2.2.1 n
theorem zyx{a:ActF}{k:Nat}(hg:GoodA a k){st:PHD}{n:Nat}(h:StO st n)(hn:n+k≤10000):StO (stepR st a) (n+k):=by
 intro he
 unfold stepR at he ⊢
 by_cases h0:st.2.2.2=0
 ·rw[if_pos h0]at he ⊢
  by_cases h1:(a st.1 st.2.1).2.2.2=0
  ·rw[if_pos h1]
   exact hg st.1 st.2.1 st.2.2.1 n (h h0) hn h1
  ·rw[if_neg h1]at he; exact absurd he h1
 ·rw[if_neg h0]at he; exact absurd he h0
theorem StO.mono{st:PHD}{n m:Nat}(h:StO st n)(hm:n≤m):StO st m:=fun he=>by
 have S:=h he
 have a:=S.pl; have b:=S.hl; have c:=S.dl
 exact⟨S.f,by omega,S.hh,by omega,by omega⟩
theorem run_st{k:Nat}:∀(l:List ActF),(∀a∈l,GoodA a k)→∀{st:PHD} {n:Nat},StO st n→n+k*l.length≤10000→StO (runR l st) (n+k*l.length)
 |[],_,st,n,h,_=>h
 |a::l,hl,st,n,h,hn=>by
  rw[List.length_cons,Nat.mul_succ]at hn ⊢
  have:=run_st l (fun b hb=>hl b (List.mem_cons_of_mem _ hb)) (zyx (hl a List.mem_cons_self) h (by omega)) (by omega)
  rw[show n+(k*l.length+k)=n+k+k*l.length by omega]
  exact this
def outT(s:zad)(st:PHD):=stT s st.1 st.2.1 (st.2.2.1,(st.2.2.2,()))
def carT(s:zad)(st:PHD):=stT s st.1 st.2.1 (st.2.2.2,(st.2.2.1,()))
theorem r_step{s:zad}{st r:PHD}(hd:r.2.2.2=0→st.2.2.1.length+r.2.2.1.length≤1000000):
  zhm s.1 s.2.1 s.2.2.1 s.2.2.2.1 s.2.2.2.2.1 s.2.2.2.2.2.1 s.2.2.2.2.2.2.1 s.2.2.2.2.2.2.2.1 s.2.2.2.2.2.2.2.2.1 s.2.2.2.2.2.2.2.2.2.1 st.1 st.2.1 st.2.2.1 st.2.2.2 (resD s r).1 (resD s r).2.1 (resD s r).2.2.1=
   some ((),outT s (if r.2.2.2=0 then (r.1,r.2.1,st.2.2.1++r.2.2.1,0) else (st.1,st.2.1,st.2.2.1,r.2.2.2))):=by
 show zde stdW s.1 s.2.1 s.2.2.1 s.2.2.2.1 s.2.2.2.2.1 s.2.2.2.2.2.1 s.2.2.2.2.2.2.1 s.2.2.2.2.2.2.2.1 s.2.2.2.2.2.2.2.2.1 s.2.2.2.2.2.2.2.2.2.1 st.1 st.2.1 st.2.2.1 st.2.2.2 (resD s r).1 (resD s r).2.1 (resD s r).2.2.1=_
 unfold zde
 by_cases he:r.2.2.2=0
 ·have h:=hd he
  have e:resD s r=(updS s r.1 r.2.1,(r.2.2.1,(0,()))):=by unfold resD; rw[if_pos he]
  rw[e,if_pos he]
  show stdW.cnd ((0:Int)==0) (stdW.room (st.2.2.1.length+r.2.2.1.length) 40 (some ((),outT s (r.1,r.2.1,st.2.2.1++r.2.2.1,0)))) _=_
  rw[cnd_y (by rfl),room_w (by omega) (by omega)]
 ·have e:resD s r=(zS,([],(r.2.2.2,()))):=by unfold resD; rw[if_neg he]
  rw[e,if_neg he]
  show stdW.cnd (r.2.2.2==0) _ (some ((),outT s (st.1,st.2.1,st.2.2.1,r.2.2.2)))=_
  rw[cnd_n (by simpa using he)]
theorem zyz{st:PHD}(a:ActF)(h:st.2.2.2=0):stepR st a=(if (a st.1 st.2.1).2.2.2=0 then ((a st.1 st.2.1).1,(a st.1 st.2.1).2.1,st.2.2.1++(a st.1 st.2.1).2.2.1,0) else (st.1,st.2.1,st.2.2.1,(a st.1 st.2.1).2.2.2)):=by
 unfold stepR; rw[if_pos h]
theorem zyy{a:ActF}{k:Nat}(hg:GoodA a k){st:PHD}{n:Nat}(h:StO st n)(hn:n+k≤10000)(h0:st.2.2.2=0):(a st.1 st.2.1).2.2.2=0→st.2.2.1.length+(a st.1 st.2.1).2.2.1.length≤1000000:=fun h1=>by
 have:=(hg st.1 st.2.1 st.2.2.1 n (h h0) hn h1).dl
 rw[List.length_append]at this; omega
def zbu(as:List zaf)(us:List AUnit'):List ActF:=us.map fun u=>fun p h=>ownF as p h u
def zar(as:List zaf)(l:List zab):List ActF:=(l.filter fun a=>a.2.2.1==2).map fun a=>zcr as (unitsA a)
def zao(as:List zaf)(by':List AUnit')(us:List AUnit'):List ActF:=us.flatMap fun u=>by'.map fun b=>fun p h=>payF as p h b u
theorem r_run_own{s:zad}{st:PHD}{l:List AUnit'}{n:Nat}(ha:∀a∈asS s,okA1 a)(hl1:(asS s).length≤1000)(S:StO st n)(hn:n+l.length≤10000):
  zte s.1 s.2.1 s.2.2.1 s.2.2.2.1 s.2.2.2.2.1 s.2.2.2.2.2.1 s.2.2.2.2.2.2.1 s.2.2.2.2.2.2.2.1 s.2.2.2.2.2.2.2.2.1 s.2.2.2.2.2.2.2.2.2.1 st.1 st.2.1 st.2.2.1 st.2.2.2 l=some ((),outT s (runR (zbu (asS s) l) st)):=by
 show zfo stdW s.1 s.2.1 s.2.2.1 s.2.2.2.1 s.2.2.2.2.1 s.2.2.2.2.2.1 s.2.2.2.2.2.2.1 s.2.2.2.2.2.2.2.1 s.2.2.2.2.2.2.2.2.1 s.2.2.2.2.2.2.2.2.2.1 st.1 st.2.1 st.2.2.1 st.2.2.2 l=_
 unfold zfo
 refine zct (l:=l) (s0:=st) (by omega) (fun i (z:PHD)=>((i:Int),carT s z)) (fun i z=>StO z (n+i)) (fun l' z=>some ((),outT s (runR (zbu (asS s) l') z))) rfl S ?_ ?_
 ·intro z _ again
  show stdW.cnd (decide ((l.length:Int)<(l.length:Int))) _ (some ((),outT s z))=_
  rw[zaj]; rfl
 ·intro i hi z hz again hag
  show stdW.cnd (decide ((i:Int)<(l.length:Int))) _ _=some ((),outT s (runR (zbu (asS s) (l.drop (i+1))) (stepR z fun p h=>ownF (asS s) p h l[i])))
  rw[cnd_lt hi]
  have good:=ygb (asS s) l[i]
  have hz1:=zyx good hz (by omega)
  refine join_g fun k hk=>?_
  have K:∀z',z'=stepR z (fun p h=>ownF (asS s) p h l[i])→k (carT s z')=some ((),outT s (runR (zbu (asS s) (l.drop (i+1))) (stepR z fun p h=>ownF (asS s) p h l[i]))):=by
   rintro _ rfl
   subst hk
   show again (IntKind.i64.wrap ((i:Int)+1),carT s (stepR z fun p h=>ownF (asS s) p h l[i]))=_
   rw[i64_s i (by omega)]
   exact hag _ hz1
  clear hk hag
  show stdW.idx l (i:Int) _=_
  rw[idx_w hi]
  by_cases h0:z.2.2.2=0
  ·have S0:=hz h0
   have pl:=S0.pl; have hl:=S0.hl
   show stdW.cnd (z.2.2.2==0) (stdW.call (yko (updS s z.1 z.2.1) l[i]) _) _=_
   rw[cnd_y (by simp[h0]),zaa (r_fOwn ha hl1 S0.hh (by omega) S0.f (by omega))]
   show stdW.call (zhm s.1 s.2.1 s.2.2.1 s.2.2.2.1 s.2.2.2.2.1 s.2.2.2.2.2.1 s.2.2.2.2.2.2.1 s.2.2.2.2.2.2.2.1 s.2.2.2.2.2.2.2.2.1 s.2.2.2.2.2.2.2.2.2.1 z.1 z.2.1 z.2.2.1 z.2.2.2 (resD s (ownF (asS s) z.1 z.2.1 l[i])).1 (resD s (ownF (asS s) z.1 z.2.1 l[i])).2.1 (resD s (ownF (asS s) z.1 z.2.1 l[i])).2.2.1) _=_
   rw[zaa (r_step (zyy good hz (by omega) h0))]
   exact K _ (zyz (fun p h=>ownF (asS s) p h l[i]) h0).symm
  ·show stdW.cnd (z.2.2.2==0) _ (k (carT s z))=_
   rw[cnd_n (by simpa using h0)]
   exact K z (by unfold stepR; rw[if_neg h0])
theorem zum(as:List zaf)(a:zab)(l:List zab)(st:PHD):runR (zar as (a::l)) st=if a.2.2.1=2 then runR (zar as l) (stepR st (zcr as (unitsA a))) else runR (zar as l) st:=by
 unfold zar
 rw[List.filter_cons]
 by_cases h:a.2.2.1=2
 ·rw[if_pos (by simp[h]),if_pos h]; rfl
 ·rw[if_neg (by simp[h]),if_neg h]
theorem zgo{a:zab}(h:a.2.2.2.1.length≤20):(unitsA a).length≤20:=by
 unfold unitsA
 split
 ·simp
 ·rw[List.length_map]; exact h
theorem yda{s:zad}{st:PHD}{l:List zab}{n:Nat}(ha:∀a∈asS s,okA1 a)(hl1:(asS s).length≤1000)(hA:∀a∈l,a.2.2.2.1.length≤20)(S:StO st n)(hn:n+40*l.length≤10000):
  znf s.1 s.2.1 s.2.2.1 s.2.2.2.1 s.2.2.2.2.1 s.2.2.2.2.2.1 s.2.2.2.2.2.2.1 s.2.2.2.2.2.2.2.1 s.2.2.2.2.2.2.2.2.1 s.2.2.2.2.2.2.2.2.2.1 st.1 st.2.1 st.2.2.1 st.2.2.2 l=some ((),outT s (runR (zar (asS s) l) st)):=by
 show zdp stdW s.1 s.2.1 s.2.2.1 s.2.2.2.1 s.2.2.2.2.1 s.2.2.2.2.2.1 s.2.2.2.2.2.2.1 s.2.2.2.2.2.2.2.1 s.2.2.2.2.2.2.2.2.1 s.2.2.2.2.2.2.2.2.2.1 st.1 st.2.1 st.2.2.1 st.2.2.2 l=_
 unfold zdp
 refine zct (l:=l) (s0:=st) (by omega) (fun i (z:PHD)=>((i:Int),carT s z)) (fun i z=>StO z (n+40*i)) (fun l' z=>some ((),outT s (runR (zar (asS s) l') z))) rfl S ?_ ?_
 ·intro z _ again
  show stdW.cnd (decide ((l.length:Int)<(l.length:Int))) _ (some ((),outT s z))=_
  rw[zaj]; rfl
 ·intro i hi z hz again hag
  rw[zum]
  show stdW.cnd (decide ((i:Int)<(l.length:Int))) _ _=_
  rw[cnd_lt hi]
  have hu:=zgo (hA _ (List.getElem_mem hi))
  have good:=zuk (asS s) (unitsA l[i]) hu
  have good':GoodA (zcr (asS s) (unitsA l[i])) 40:=good
  have hz1:=zyx good' hz (by omega)
  refine join_g fun k hk=>?_
  have K:∀z',StO z' (n+40*i+40)→k (carT s z')=some ((),outT s (runR (zar (asS s) (l.drop (i+1))) z')):=by
   intro z' h'
   subst hk
   show again (IntKind.i64.wrap ((i:Int)+1),carT s z')=_
   rw[i64_s i (by omega)]
   exact hag _ h'
  clear hk hag
  show stdW.idx l (i:Int) _=_
  rw[idx_w hi]
  refine join_g fun k13 hk13=>?_
  have Kf:k13 (false,carT s z)=some ((),outT s (runR (zar (asS s) (l.drop (i+1))) z)):=by
   subst hk13
   show stdW.cnd false _ (k (carT s z))=_
   rw[cnd_n (by rfl)]; exact K z (hz.mono (by omega))
  have Kt:z.2.2.2=0→k13 (true,carT s z)=some ((),outT s (runR (zar (asS s) (l.drop (i+1))) (stepR z (zcr (asS s) (unitsA l[i]))))):=by
   intro h0
   have S0:=hz h0
   have pl:=S0.pl; have hl:=S0.hl
   subst hk13
   show stdW.cnd true _ _=_
   rw[cnd_y (by rfl),two_w]
   show stdW.call (zhy l[i]) _=_
   rw[zaa (show zhy l[i]=some (unitsA l[i]) from yjb (a:=l[i]) (by have:=hA _ (List.getElem_mem hi); omega))]
   have S1:StR z.1 z.2.1 [] (n+40*i):=⟨S0.f,S0.pl,S0.hh,S0.hl,Nat.zero_le _⟩
   show stdW.call (zwl (updS s z.1 z.2.1) (unitsA l[i])) _=_
   rw[zaa (r_shared ha hl1 hu S1 (by omega))]
   show stdW.call (zhm s.1 s.2.1 s.2.2.1 s.2.2.2.1 s.2.2.2.2.1 s.2.2.2.2.2.1 s.2.2.2.2.2.2.1 s.2.2.2.2.2.2.2.1 s.2.2.2.2.2.2.2.2.1 s.2.2.2.2.2.2.2.2.2.1 z.1 z.2.1 z.2.2.1 z.2.2.2 (resD s (zcr (asS s) (unitsA l[i]) z.1 z.2.1)).1 (resD s (zcr (asS s) (unitsA l[i]) z.1 z.2.1)).2.1 (resD s (zcr (asS s) (unitsA l[i]) z.1 z.2.1)).2.2.1) _=_
   rw[zaa (r_step (zyy good' hz (by omega) h0))]
   have:=K _ hz1
   rw[zyz (zcr (asS s) (unitsA l[i])) h0]at this ⊢
   exact this
  clear hk13
  show stdW.cnd (z.2.2.2==0) (k13 (l[i].2.2.1==2,carT s z)) (k13 (false,carT s z))=_
  by_cases h0:z.2.2.2=0
  ·rw[cnd_y (by simp[h0])]
   by_cases hk2:l[i].2.2.1=2
   ·rw[if_pos hk2,show (l[i].2.2.1==2)=true by simp[hk2]]; exact Kt h0
   ·rw[if_neg hk2,show (l[i].2.2.1==2)=false by simp[hk2]]; exact Kf
  ·rw[cnd_n (by simpa using h0),Kf]
   have e:stepR z (zcr (asS s) (unitsA l[i]))=z:=by unfold stepR; rw[if_neg h0]
   rw[e]; split<;>rfl
theorem ydi(as:List zaf)(by':List AUnit')(u:AUnit')(us:List AUnit')(st:PHD):runR (zao as by' (u::us)) st=runR (zao as by' us) (runR (by'.map fun b=>fun p h=>payF as p h b u) st):=by
 unfold zao
 rw[List.flatMap_cons,zeo]
theorem zsy{s:zad}{st:PHD}{l by':List AUnit'}{n:Nat}(ha:∀a∈asS s,okA1 a)(hl1:(asS s).length≤1000)(S:StO st n)(hn:n+by'.length*l.length≤10000)(hll:l.length≤10000)(hbl:by'.length≤10000):
  zix s.1 s.2.1 s.2.2.1 s.2.2.2.1 s.2.2.2.2.1 s.2.2.2.2.2.1 s.2.2.2.2.2.2.1 s.2.2.2.2.2.2.2.1 s.2.2.2.2.2.2.2.2.1 s.2.2.2.2.2.2.2.2.2.1 st.1 st.2.1 st.2.2.1 st.2.2.2 l by'=some ((),outT s (runR (zao (asS s) by' l) st)):=by
 show zcx stdW s.1 s.2.1 s.2.2.1 s.2.2.2.1 s.2.2.2.2.1 s.2.2.2.2.2.1 s.2.2.2.2.2.2.1 s.2.2.2.2.2.2.2.1 s.2.2.2.2.2.2.2.2.1 s.2.2.2.2.2.2.2.2.2.1 st.1 st.2.1 st.2.2.1 st.2.2.2 l by'=_
 unfold zcx
 refine zct (l:=l) (s0:=st) (by omega) (fun i (z:PHD)=>((i:Int),carT s z)) (fun i z=>StO z (n+by'.length*i)) (fun l' z=>some ((),outT s (runR (zao (asS s) by' l') z))) rfl S ?_ ?_
 ·intro z _ again
  show stdW.cnd (decide ((l.length:Int)<(l.length:Int))) _ (some ((),outT s z))=_
  rw[zaj]; rfl
 ·intro i hi z hz again hag
  rw[ydi]
  have hmul:by'.length*i+by'.length≤by'.length*l.length:=by
   have:=Nat.mul_le_mul_left by'.length (show i+1≤l.length from hi)
   rwa [Nat.mul_succ]at this
  have hmul2:by'.length*(i+1)=by'.length*i+by'.length:=Nat.mul_succ ..
  show stdW.cnd (decide ((i:Int)<(l.length:Int))) (stdW.idx l (i:Int) _) _=_
  rw[cnd_lt hi,idx_w hi]
  refine zct (l:=by') (s0:=z) (by omega) (fun k (w:PHD)=>((k:Int),carT s w)) (fun k w=>StO w (n+by'.length*i+k)) (fun l' w=>some ((),outT s (runR (zao (asS s) by' (l.drop (i+1))) (runR (l'.map fun b=>fun p h=>payF (asS s) p h b l[i]) w)))) rfl hz ?_ ?_
  ·intro w hw again2
   show stdW.cnd (decide ((by'.length:Int)<(by'.length:Int))) _ (again (IntKind.i64.wrap ((i:Int)+1),carT s w))=_
   rw[zaj,i64_s i (by omega)]
   exact hag _ (by rw[hmul2]; exact hw.mono (by omega))
  ·intro k hk w hw again2 hag2
   show stdW.cnd (decide ((k:Int)<(by'.length:Int))) _ _=some ((),outT s (runR (zao (asS s) by' (l.drop (i+1))) (runR ((by'.drop (k+1)).map fun b=>fun p h=>payF (asS s) p h b l[i]) (stepR w fun p h=>payF (asS s) p h by'[k] l[i]))))
   rw[cnd_lt hk]
   have good:=yga (asS s) by'[k] l[i]
   have hw1:=zyx good hw (by omega)
   refine join_g fun k7 hk7=>?_
   have K:∀w',w'=stepR w (fun p h=>payF (asS s) p h by'[k] l[i])→k7 (carT s w')=some ((),outT s (runR (zao (asS s) by' (l.drop (i+1))) (runR ((by'.drop (k+1)).map fun b=>fun p h=>payF (asS s) p h b l[i]) (stepR w fun p h=>payF (asS s) p h by'[k] l[i])))):=by
    rintro _ rfl
    subst hk7
    show again2 (IntKind.i64.wrap ((k:Int)+1),carT s (stepR w fun p h=>payF (asS s) p h by'[k] l[i]))=_
    rw[i64_s k (by omega)]
    exact hag2 _ hw1
   clear hk7 hag2 hag
   show stdW.idx by' (k:Int) _=_
   rw[idx_w hk]
   by_cases h0:w.2.2.2=0
   ·have S0:=hw h0
    have pl:=S0.pl; have hl:=S0.hl
    show stdW.cnd (w.2.2.2==0) (stdW.call (ykn (updS s w.1 w.2.1) by'[k] l[i]) _) _=_
    rw[cnd_y (by simp[h0]),zaa (r_fPay ha hl1 S0.hh (by omega) S0.f (by omega))]
    show stdW.call (zhm s.1 s.2.1 s.2.2.1 s.2.2.2.1 s.2.2.2.2.1 s.2.2.2.2.2.1 s.2.2.2.2.2.2.1 s.2.2.2.2.2.2.2.1 s.2.2.2.2.2.2.2.2.1 s.2.2.2.2.2.2.2.2.2.1 w.1 w.2.1 w.2.2.1 w.2.2.2 (resD s (payF (asS s) w.1 w.2.1 by'[k] l[i])).1 (resD s (payF (asS s) w.1 w.2.1 by'[k] l[i])).2.1 (resD s (payF (asS s) w.1 w.2.1 by'[k] l[i])).2.2.1) _=_
    rw[zaa (r_step (zyy good hw (by omega) h0))]
    exact K _ (zyz (fun p h=>payF (asS s) p h by'[k] l[i]) h0).symm
   ·show stdW.cnd (w.2.2.2==0) _ (k7 (carT s w))=_
    rw[cnd_n (by simpa using h0)]
    exact K w (by unfold stepR; rw[if_neg h0])
end Go.Proofs.YtllkmncnmlmefaaGreat

namespace Go.Proofs.YtllkmncnmlmefaaGreat
open Go Go.Vc Go.RowKit
set_option synthInstance.maxSize 100000
set_option synthInstance.maxHeartbeats 0
set_option maxHeartbeats 1000000
def allU(l:List zab):List AUnit':=l.flatMap unitsA
def houseU(l:List zab):List AUnit':=(l.filter fun a=>a.2.2.1==1).flatMap unitsA
def waterA(as:List zaf)(A:List zab)(us hs:List AUnit'):List ActF:=zbu as us++(zar as A++(zao as hs us++zao as [fU] us))
theorem yau{k:Nat}:∀{l:List zab},(∀a∈l,(unitsA a).length≤k)→(l.flatMap unitsA).length≤k*l.length
 |[],_=>by simp
 |a::l,h=>by
  have h1:=h a List.mem_cons_self
  have h2:=yau (l:=l) fun b hb=>h b (List.mem_cons_of_mem _ hb)
  rw[List.flatMap_cons,List.length_append,List.length_cons,Nat.mul_succ]
  omega
theorem ydt{a:zab}(h:a.2.2.1=1):(unitsA a).length=1:=by unfold unitsA; rw[if_pos h]; rfl
theorem house_len(l:List zab):(houseU l).length≤l.length:=by
 unfold houseU
 have h1:=yau (k:=1) (l:=l.filter fun a=>a.2.2.1==1) fun a ha=>by
  have:=(List.mem_filter.1 ha).2
  rw[ydt (by simpa using this)]; exact Nat.le_refl _
 have h2:=List.length_filter_le (fun a:zab=>a.2.2.1==1) l
 omega
theorem zvv(a:zab)(l:List zab):houseU (a::l)=if a.2.2.1=1 then unitsA a++houseU l else houseU l:=by
 unfold houseU
 rw[List.filter_cons]
 by_cases h:a.2.2.1=1
 ·rw[if_pos (by simp[h]),if_pos h,List.flatMap_cons]
 ·rw[if_neg (by simp[h]),if_neg h]
theorem r_fUnits{l:List zab}(hA:∀a∈l,a.2.2.2.1.length≤20)(hl:l.length≤1000):fall_units l=some (allU l,(houseU l,())):=by
 show ziv stdW l=_
 unfold ziv
 refine zct (l:=l) (s0:=(([]:List AUnit'),([]:List AUnit'))) (by omega) (fun i (z:List AUnit'×List AUnit')=>((i:Int),(z.1,(z.2,())))) (fun i z=>z.1.length≤20*i∧z.2.length≤20*i) (fun l' z=>some (z.1++allU l',(z.2++houseU l',()))) rfl ⟨by simp,by simp⟩ ?_ ?_
 ·rintro⟨a,b⟩ _ again
  show stdW.cnd (decide ((l.length:Int)<(l.length:Int))) _ (some (a,(b,())))=some (a++[],(b++[],()))
  rw[zaj,List.append_nil,List.append_nil]
 ·rintro i hi ⟨us,hs⟩ ⟨h1,h2⟩ again hag
  dsimp only at h1 h2
  have hu:=zgo (hA _ (List.getElem_mem hi))
  have ea:zhy l[i]=some (unitsA l[i]):=yjb (a:=l[i]) (by have:=hA _ (List.getElem_mem hi); omega)
  show stdW.cnd (decide ((i:Int)<(l.length:Int))) _ _=some (us++allU (l[i]::l.drop (i+1)),(hs++houseU (l[i]::l.drop (i+1)),()))
  have e1:us++allU (l[i]::l.drop (i+1))=us++unitsA l[i]++allU (l.drop (i+1)):=by
   unfold allU; rw[List.flatMap_cons,List.append_assoc]
  rw[cnd_lt hi,e1,zvv]
  refine join_g fun k hk=>?_
  have K:∀us' hs',us'.length≤20*(i+1)→hs'.length≤20*(i+1)→k (us',(hs',()))=some (us'++allU (l.drop (i+1)),(hs'++houseU (l.drop (i+1)),())):=by
   intro us' hs' g1 g2
   subst hk
   show again (IntKind.i64.wrap ((i:Int)+1),(us',(hs',())))=_
   rw[i64_s i (by omega)]
   exact hag (us',hs') ⟨g1,g2⟩
  clear hk hag
  show stdW.idx l (i:Int) _=_
  rw[idx_w hi]
  show stdW.call (zhy l[i]) (fun v6=>stdW.room (us.length+v6.length) 16 (stdW.cnd (l[i].2.2.1==1) (stdW.call (zhy l[i]) fun v7=>stdW.room (hs.length+v7.length) 16 (k (us++v6,(hs++v7,())))) (k (us++v6,(hs,())))))=_
  rw[zaa ea,room_w (by omega) (by omega)]
  by_cases hk1:l[i].2.2.1=1
  ·rw[cnd_y (by simp[hk1]),zaa ea,room_w (by omega) (by omega),if_pos hk1,K _ _ (by rw[List.length_append]; omega) (by rw[List.length_append]; omega),List.append_assoc hs]
  ·rw[cnd_n (by simp[hk1]),if_neg hk1,K _ _ (by rw[List.length_append]; omega) (by omega)]
theorem yjk(as:List zaf)(us:List AUnit'):∀a∈zbu as us,GoodA a 1:=fun a ha=>by
 obtain⟨u,_,rfl⟩:=List.mem_map.1 ha
 exact ygb as u
theorem zul{as:List zaf}{A:List zab}(hA:∀a∈A,a.2.2.2.1.length≤20):∀a∈zar as A,GoodA a 40:=fun a ha=>by
 obtain⟨x,hx,rfl⟩:=List.mem_map.1 ha
 exact zuk as (unitsA x) (zgo (hA x (List.mem_filter.1 hx).1))
theorem yaa(as:List zaf)(by' us:List AUnit'):∀a∈zao as by' us,GoodA a 1:=fun a ha=>by
 obtain⟨u,_,hu⟩:=List.mem_flatMap.1 ha
 obtain⟨b,_,rfl⟩:=List.mem_map.1 hu
 exact yga as b u
theorem zpf(as:List zaf)(by':List AUnit'):∀us,(zao as by' us).length=by'.length*us.length
 |[]=>by simp[zao]
 |u::us=>by
  have:=zpf as by' us
  unfold zao at this ⊢
  rw[List.flatMap_cons,List.length_append,List.length_map,this,List.length_cons,Nat.mul_succ]; omega
structure ybm(s:zad)(A:List zab):Prop where
 a:∀a∈asS s,okA1 a
 aL:(asS s).length≤1000
 c:∀a∈A,a.2.2.2.1.length≤20
 cL:A.length≤20
theorem ybm.lens{s:zad}{A:List zab}(O:ybm s A):(allU A).length≤400∧(houseU A).length≤20:=by
 have h1:=yau (k:=20) (l:=A) fun a ha=>zgo (O.c a ha)
 have h2:=house_len A
 have h3:=O.cL
 unfold allU
 omega
theorem r_All{s:zad}{p:List AFlow'}{h:List AHold'}{id:Int}(hAs:okAs s.2.2.2.2.1)(O:ybm s (s.2.2.2.2.1.filter (isM id)))(S:StR p h [] 0):
  ykp (updS s p h) id=some (resD s (runA (waterA (asS s) (s.2.2.2.2.1.filter (isM id)) (allU (s.2.2.2.2.1.filter (isM id))) (houseU (s.2.2.2.2.1.filter (isM id)))) p h [])):=by
 obtain⟨l1,l2⟩:=O.lens
 have cL:=O.cL
 show ziy stdW (updS s p h) id=_
 unfold ziy
 show stdW.call (acct_Of s.2.2.2.2.1 id) _=_
 rw[zaa (r_aof hAs)]
 generalize hA:s.2.2.2.2.1.filter (isM id)=A at*
 have hsl:(zar (asS s) A).length≤20:=by
  unfold zar; rw[List.length_map]; have:=List.length_filter_le (fun a:zab=>a.2.2.1==2) A; omega
 rw[zaa (r_fUnits O.c (by omega))]
 have S0:StO (p,h,[],0) 0:=fun _=>S
 have S1:=run_st (zbu (asS s) (allU A)) (yjk _ _) S0 (by unfold zbu; rw[List.length_map]; omega)
 have e1:(zbu (asS s) (allU A)).length=(allU A).length:=by unfold zbu; rw[List.length_map]
 rw[e1]at S1
 have c1:=r_run_own (st:=(p,h,[],0)) (l:=allU A) O.a O.aL S0 (by omega)
 generalize hst1:runR (zbu (asS s) (allU A)) (p,h,[],0)=st1 at*
 have S1':=S1.mono (m:=400) (by omega)
 have c2:=yda (st:=st1) (l:=A) O.a O.aL O.c S1' (by omega)
 have S2:=run_st (zar (asS s) A) (zul O.c) S1' (by omega)
 generalize hst2:runR (zar (asS s) A) st1=st2 at*
 have S2':=S2.mono (m:=1200) (by omega)
 have hm:(houseU A).length*(allU A).length≤20*400:=Nat.mul_le_mul l2 l1
 have c3:=zsy (st:=st2) (l:=allU A) (by':=houseU A) O.a O.aL S2' (by omega) (by omega) (by omega)
 have S3:=run_st (zao (asS s) (houseU A) (allU A)) (yaa _ _ _) S2' (by rw[zpf]; omega)
 rw[zpf]at S3
 generalize hst3:runR (zao (asS s) (houseU A) (allU A)) st2=st3 at*
 have S3':=S3.mono (m:=9200) (by omega)
 have c4:=zsy (st:=st3) (l:=allU A) (by':=[fU]) O.a O.aL S3' (by simp; omega) (by omega) (by simp)
 have tot:runR (waterA (asS s) A (allU A) (houseU A)) (p,h,[],0)=runR (zao (asS s) [fU] (allU A)) st3:=by
  unfold waterA
  rw[zeo,zeo,zeo,hst1,hst2,hst3]
 generalize hst4:runR (zao (asS s) [fU] (allU A)) st3=st4 at*
 obtain⟨r1,r2,r3⟩:=runR_A (waterA (asS s) A (allU A) (houseU A)) p h []
 rw[tot]at r1 r2
 show stdW.call (zte s.1 s.2.1 s.2.2.1 s.2.2.2.1 s.2.2.2.2.1 s.2.2.2.2.2.1 s.2.2.2.2.2.2.1 s.2.2.2.2.2.2.2.1 s.2.2.2.2.2.2.2.2.1 s.2.2.2.2.2.2.2.2.2.1 p h [] 0 (allU A)) _=_
 rw[zaa c1]
 show stdW.call (znf s.1 s.2.1 s.2.2.1 s.2.2.2.1 s.2.2.2.2.1 s.2.2.2.2.2.1 s.2.2.2.2.2.2.1 s.2.2.2.2.2.2.2.1 s.2.2.2.2.2.2.2.2.1 s.2.2.2.2.2.2.2.2.2.1 st1.1 st1.2.1 st1.2.2.1 st1.2.2.2 A) _=_
 rw[zaa c2]
 show stdW.call (zix s.1 s.2.1 s.2.2.1 s.2.2.2.1 s.2.2.2.2.1 s.2.2.2.2.2.1 s.2.2.2.2.2.2.1 s.2.2.2.2.2.2.2.1 s.2.2.2.2.2.2.2.2.1 s.2.2.2.2.2.2.2.2.2.1 st2.1 st2.2.1 st2.2.2.1 st2.2.2.2 (allU A) (houseU A)) _=_
 rw[zaa c3,zaa r_fund]
 show stdW.call (zix s.1 s.2.1 s.2.2.1 s.2.2.2.1 s.2.2.2.2.1 s.2.2.2.2.2.1 s.2.2.2.2.2.2.1 s.2.2.2.2.2.2.2.1 s.2.2.2.2.2.2.2.2.1 s.2.2.2.2.2.2.2.2.2.1 st3.1 st3.2.1 st3.2.2.1 st3.2.2.2 (allU A) [fU]) _=_
 rw[zaa c4]
 show stdW.cnd (st4.2.2.2 != 0) (some (zS,([],(st4.2.2.2,())))) (some (updS s st4.1 st4.2.1,(st4.2.2.1,(0,()))))=_
 unfold resD
 by_cases he:(runA (waterA (asS s) A (allU A) (houseU A)) p h []).2.2.2=0
 ·rw[if_pos he,←r2 he,cnd_n (by rw[r1,he]; rfl)]
 ·rw[if_neg he,cnd_y (by rw[r1]; simpa using he),r1]
end Go.Proofs.YtllkmncnmlmefaaGreat

namespace Go.Proofs.YtllkmncnmlmefaaGreat
open Go Go.Vc Go.RowKit
theorem yep{l:List Int}(h:∀x∈l,I64 x)(hl:l.length≤1000000)(i:Nat):sml (l.take i).sum:=by
 have:=sum128 (l:=l.take i) (fun x hx=>h x (List.mem_of_mem_take hx)) (by rw[List.length_take]; omega)
 unfold In128 at this; unfold sml; omega
theorem yic{l:List Int}{i:Nat}(h:i<l.length):(l.take i).sum+l[i]=(l.take (i+1)).sum:=by
 rw[List.take_succ_eq_append_getElem h,List.sum_append]; simp
theorem yfo{l:List Int}(h:∀x∈l,I64 x)(hl:l.length≤1000000):ref02_Sum l=some (big l.sum):=by
 show zgb stdW l=_
 unfold zgb
 refine zds (N:=l.length) (by omega) (fun i=>((i:Int),big (l.take i).sum)) _ (by rw[List.take_zero,List.sum_nil,big0]; rfl) ?_ ?_
 ·intro again
  show stdW.cnd (decide ((l.length:Int)<(l.length:Int))) _ (some (big (l.take l.length).sum))=_
  rw[zaj,List.take_length]
 ·intro i hi again ha
  show stdW.cnd (decide ((i:Int)<(l.length:Int))) _ _=_
  rw[cnd_lt hi]
  refine join_g fun k hk=>?_
  have kk:k (big (l.take (i+1)).sum)=some (big l.sum):=by
   subst hk
   show again (IntKind.i64.wrap ((i:Int)+1),big (l.take (i+1)).sum)=_
   rw[i64_s i (by omega)]; exact ha
  clear hk
  show stdW.idx l (i:Int) _=_
  rw[idx_w hi]
  have one:stdW.call (zjm l[i]) (fun v6=>stdW.call (zdi (big (l.take i).sum) v6) fun v7=>k v7)=some (big l.sum):=by
   have h64:=h _ (List.getElem_mem hi)
   rw[zaa (r_of h64),zaa (r_addB (yep h hl i) (zcp h64)),yic hi,kk]
  exact zbe one one
theorem r_sum31{l:List Int}(h:∀x∈l,I64 x)(hl:l.length≤1000000):ref31_sum l=some (fits64 l.sum):=by
 show zhn stdW l=_
 unfold zhn
 refine zds (N:=l.length) (by omega) (fun i=>((i:Int),big (l.take i).sum)) _ (by rw[List.take_zero,List.sum_nil,big0]; rfl) ?_ ?_
 ·intro again
  have hs:=yep h hl l.length
  show stdW.cnd (decide ((l.length:Int)<(l.length:Int))) _ (stdW.call (zny (big (l.take l.length).sum)) fun v10=>stdW.cnd (!v10) (some (0,(7,()))) (stdW.call (zdm (big (l.take l.length).sum)) fun v11=>some (v11,(0,()))))=_
  rw[zaj,zaa (r_fits hs),List.take_length]
  unfold fits64
  by_cases hI:I64 l.sum
  ·rw[decide_eq_true hI,cnd_n (by rfl),zaa (r_int hI),if_pos hI]
  ·rw[decide_eq_false hI,cnd_y (by rfl),if_neg hI]
 ·intro i hi again ha
  show stdW.cnd (decide ((i:Int)<(l.length:Int))) _ _=_
  rw[cnd_lt hi]
  refine join_g fun k hk=>?_
  have kk:k (big (l.take (i+1)).sum)=some (fits64 l.sum):=by
   subst hk
   show again (IntKind.i64.wrap ((i:Int)+1),big (l.take (i+1)).sum)=_
   rw[i64_s i (by omega)]; exact ha
  clear hk
  show stdW.idx l (i:Int) _=_
  rw[idx_w hi]
  have one:stdW.call (zjm l[i]) (fun v6=>stdW.call (zdi (big (l.take i).sum) v6) fun v7=>k v7)=some (fits64 l.sum):=by
   have h64:=h _ (List.getElem_mem hi)
   rw[zaa (r_of h64),zaa (r_addB (yep h hl i) (zcp h64)),yic hi,kk]
  exact zbe one one
theorem r_why{T:Int}{l:List Int}(h:OkW T l):ref03_why T l=some 0:=by
 have hl:=h.len
 have t0:=h.t0
 show zhr stdW T l=_
 unfold zhr
 rw[cnd_n (decide_eq_false (by omega))]
 refine loop_n (N:=l.length) (by omega) (fun _ _=>True) _ trivial ?_ ?_
 ·rintro _ again _
  rw[zaj,zaa (yfo h.w64 (by omega)),zaa (r_fits (zcp h.s64)),decide_eq_true h.s64,cnd_n (by rfl)]
 ·rintro i hi _ _ again ha
  have:=h.nn _ (List.getElem_mem hi)
  rw[cnd_lt hi,idx_w hi,cnd_n (decide_eq_false (by omega)),i64_s i (by omega)]
  exact ha _ trivial
theorem zer_len:∀(qs:List KQ3) (o:List Int),(zer qs o).length=o.length
 |[],_=>rfl
 |q::qs,o=>by rw[zer,zer_len qs]; simp
theorem yhr(q:KQ3):∀(qs:List KQ3) (o:List Int),zer (qs++[q]) o=(zer qs o).set q.1.toNat 0
 |[],o=>rfl
 |x::qs,o=>by rw[List.cons_append,zer,yhr q qs]; rfl
theorem zer_ne{j:Nat}:∀(qs:List KQ3) (o:List Int),(∀q∈qs,q.1.toNat≠j)→(zer qs o).getD j 0=o.getD j 0
 |[],_,_=>rfl
 |q::qs,o,h=>by
  rw[zer,zer_ne qs _ fun x hx=>h x (List.mem_cons_of_mem _ hx),ziu (h q List.mem_cons_self)]
theorem zer_eq{j:Nat}:∀(qs:List KQ3) (o:List Int) (q:KQ3),q∈qs→q.1.toNat=j→(zer qs o).getD j 0=0
 |[],_,_,h,_=>by cases h
 |x::qs,o,q,h,e=>by
  rw[zer]
  rcases Classical.em (∃q'∈qs,q'.1.toNat=j) with ⟨q',h1,h2⟩|hn
  ·exact zer_eq qs _ q' h1 h2
  ·have hq:q=x:=by
    rcases List.mem_cons.1 h with hh|hh
    ·exact hh
    ·exact(hn ⟨q,hh,e⟩).elim
   rw[zer_ne qs _ fun q' h1 h2=>hn ⟨q',h1,h2⟩,←hq,e,List.getD_eq_getElem?_getD,List.getElem?_set]
   simp only[if_true]
   split<;>rfl
theorem best_at{T S:Int}{l:List Int}{Q:List KQ3}{r:Nat}(K:OkQ T S l Q r)(hat:∀(k:Nat) (h:k<Q.length),(Q[k]).1=(k:Int))(hinc:Q.Pairwise fun a b=>a.1<b.1){j:Nat}(hj:j<r)(hjl:j<(srtQ Q).length):
  ((srtQ Q)[j]).1.toNat<l.length∧∀i,i<l.length→(i<((srtQ Q)[j]).1.toNat→(zer ((srtQ Q).take j) (leftOf Q)).getD i 0<(zer ((srtQ Q).take j) (leftOf Q)).getD ((srtQ Q)[j]).1.toNat 0)∧
   ((zer ((srtQ Q).take j) (leftOf Q)).getD i 0≤(zer ((srtQ Q).take j) (leftOf Q)).getD ((srtQ Q)[j]).1.toNat 0):=by
 have hperm:=zdt Q
 have hmem:∀q,q∈srtQ Q→q∈Q:=fun q hq=>hperm.mem_iff.1 hq
 have hown:=zui hinc
 have hq:=hmem _ (List.getElem_mem hjl)
 have kq:=K.q _ hq
 have hpos:=K.pos ((srtQ Q)[j]) (by
  have:((srtQ Q).take r)[j]'(by rw[List.length_take]; omega)=(srtQ Q)[j]:=List.getElem_take
  rw[←this]; exact List.getElem_mem _)
 have hne:∀q∈(srtQ Q).take j,q.1.toNat≠((srtQ Q)[j]).1.toNat:=fun q hq=>by
  have h1:=yfv hown hjl q hq
  have h2:=(K.q q (hmem q (List.mem_of_mem_take hq))).1
  omega
 have ev:(zer ((srtQ Q).take j) (leftOf Q)).getD ((srtQ Q)[j]).1.toNat 0=((srtQ Q)[j]).2.2.1:=by rw[zer_ne _ _ hne,(zod (n:=0) hat hq).2]
 refine⟨by omega,fun i hi=>?_⟩
 rw[ev]
 have hiQ:i<Q.length:=by rw[K.len]; exact hi
 have hqi:Q[i]∈Q:=List.getElem_mem hiQ
 have ei:(Q[i]).1.toNat=i:=by rw[hat i hiQ]; simp
 have li:=(zod (n:=0) hat hqi).2
 rw[ei]at li
 have hs:Q[i]∈srtQ Q:=hperm.mem_iff.2 hqi
 rcases Classical.em (∃q∈(srtQ Q).take j,q.1.toNat=i) with ⟨q,h1,h2⟩|hn
 ·rw[zer_eq _ _ q h1 h2]; omega
 ·rw[zer_ne _ _ fun q h1 h2=>hn ⟨q,h1,h2⟩,li]
  rw[←List.take_append_drop j (srtQ Q)]at hs
  rcases List.mem_append.1 hs with hs|hs
  ·exact(hn ⟨_,hs,ei⟩).elim
  ·rw[List.drop_eq_getElem_cons hjl]at hs
   rcases List.mem_cons.1 hs with hs|hs
   ·rw[←hs]; omega
   ·have hpd:((srtQ Q).drop j).Pairwise fun a b=>leQ a b=true:=(ztm Q).sublist (List.drop_sublist _ _)
    rw[List.drop_eq_getElem_cons hjl]at hpd
    have:=(List.pairwise_cons.1 hpd).1 _ hs
    rw[zpj]at this
    have hii:=hat i hiQ
    omega
theorem left_take{Q:List KQ3}{k:Nat}(h:k<Q.length):(leftOf (Q.take (k+1)))=leftOf (Q.take k)++[(Q[k]).2.2.1]:=by
 unfold leftOf
 rw[List.take_succ_eq_append_getElem h,List.map_append]; rfl
theorem zzr(S:Int):∀(l:List Int) (i:Int),zai (quoGo 0 S l i)=List.replicate l.length 0
 |[],_=>rfl
 |w::l,i=>by
  have:=zzr S l (i+1)
  unfold zai at this ⊢
  simp only[quoGo,List.map_cons,this,List.length_cons,List.replicate_succ,Int.zero_mul,Int.zero_ediv]
theorem r_best{β:Type}[EqB β]{l L o:List Int}{b:Nat}(hl:l.length≤1000000)(hL:L.length=l.length)(hb:b<l.length)(h:∀i,i<l.length→(i<b→L.getD i 0<L.getD b 0)∧L.getD i 0≤L.getD b 0)
  (fin:Int×Int×List Int×List Int×Unit→Option β):
  stdW.loop (fun (z31:Int×Int×List Int×List Int×Unit) again32=>stdW.cnd (decide (z31.2.1<(l.length:Int))) (stdW.join (fun (z33:Int×List Int×List Int×Unit)=>again32 (z33.1,(IntKind.i64.wrap (z31.2.1+1),z33.2))) fun k34=>
   stdW.join (fun (z35:Bool×List Int×List Int×Unit)=>stdW.cnd z35.1 (k34 (z31.2.1,z35.2)) (k34 (z31.1,z35.2))) fun k36=>stdW.idx z31.2.2.2.1 z31.2.1 fun _=>stdW.idx z31.2.2.2.1 z31.1 fun _=>
    stdW.both (stdW.nth z31.2.2.2.1 (Int.toNat z31.2.1) fun x39=>stdW.nth z31.2.2.2.1 (Int.toNat z31.1) fun x40=>k36 (decide (x40<x39),z31.2.2)) (stdW.nth z31.2.2.2.1 (Int.toNat z31.1) fun x41=>stdW.nth z31.2.2.2.1 (Int.toNat z31.2.1) fun x42=>k36 (decide (x41<x42),z31.2.2))) (fin z31)) (0,(0,(o,(L,()))))=fin ((b:Int),((l.length:Int),(o,(L,())))):=by
 refine zdb (fun z=>l.length+1 - z.2.1.toNat) (fun z=>∃i best:Nat,z=((best:Int),((i:Int),(o,(L,()))))∧i≤l.length∧((i≤b∧best≤b∧(best<i∨best=0))∨(b<i∧best=b))) (fun _=>fin ((b:Int),((l.length:Int),(o,(L,()))))) ⟨0,0,rfl,Nat.zero_le _,.inl ⟨Nat.zero_le _,Nat.zero_le _,.inr rfl⟩⟩ (by show _ - (0:Int).toNat<_; omega) ?_
 rintro _ ⟨i,best,rfl,hi,hR⟩ again ha
 show stdW.cnd (decide ((i:Int)<(l.length:Int))) _ (fin ((best:Int),((i:Int),(o,(L,())))))=_
 by_cases hh:i<l.length
 ·rw[cnd_lt hh]
  refine join_g fun k34 hk34=>?_
  have k4:∀best':Nat,((i+1≤b∧best'≤b∧(best'<i+1∨best'=0))∨(b<i+1∧best'=b))→k34 ((best':Int),(o,(L,())))=fin ((b:Int),((l.length:Int),(o,(L,())))):=by
   intro best' hR'
   subst hk34
   show again ((best':Int),(IntKind.i64.wrap ((i:Int)+1),(o,(L,()))))=_
   rw[i64_s i (by omega)]
   exact ha _ ⟨i+1,best',rfl,by omega,hR'⟩ (by show _ - ((i+1:Nat):Int).toNat<_ - ((i:Nat):Int).toNat; omega)
  clear hk34
  have hbl:best<L.length:=by omega
  have hil:i<L.length:=by omega
  refine join_g fun k36 hk36=>?_
  have k6:k36 (decide (L[best]<L[i]),(o,(L,())))=fin ((b:Int),((l.length:Int),(o,(L,())))):=by
   subst hk36
   show stdW.cnd (decide (L[best]<L[i])) (k34 ((i:Int),(o,(L,())))) (k34 ((best:Int),(o,(L,()))))=_
   have h1:=h i hh
   have h2:=h best (by omega)
   rw[zqq hil]at h1
   rw[zqq hbl]at h2
   have hbL:b<L.length:=by omega
   rw[zqq hbL]at h1 h2
   by_cases hc:L[best]<L[i]
   ·rw[cnd_y (decide_eq_true hc)]
    refine k4 i ?_
    rcases hR with ⟨r1,r2,r3⟩|⟨r1,rfl⟩
    ·omega
    ·have:=h1.2; omega
   ·rw[cnd_n (decide_eq_false hc)]
    refine k4 best ?_
    rcases hR with ⟨r1,r2,r3⟩|⟨r1,r2⟩
    ·rcases Nat.lt_or_ge i b with hib|hib
     ·omega
     ·have e:i=b:=by omega
      subst e
      rcases Nat.lt_or_ge best i with hbi|hbi
      ·have:=h2.1 hbi; omega
      ·omega
    ·omega
  clear hk36
  show stdW.idx L (i:Int) (fun _=>stdW.idx L (best:Int) fun _=>stdW.both (stdW.nth L (Int.toNat (i:Int)) fun x39=>stdW.nth L (Int.toNat (best:Int)) fun x40=>k36 (decide (x40<x39),(o,(L,())))) (stdW.nth L (Int.toNat (best:Int)) fun x41=>stdW.nth L (Int.toNat (i:Int)) fun x42=>k36 (decide (x41<x42),(o,(L,())))))=_
  rw[idx_w hil,idx_w hbl]
  exact zbe (by rw[nth_w hil,nth_w hbl,k6]) (by rw[nth_w hbl,nth_w hil,k6])
 ·have e:i=l.length:=by omega
  subst e
  rcases hR with ⟨r1,_⟩|⟨_,rfl⟩
  ·omega
  ·rw[zaj]
theorem r_split03{T:Int}{l:List Int}(h:OkW T l):zuy T l=some (splitP T l,(0,())):=by
 have hl:=h.len
 have h64:=h.s64
 have t0:=h.t0
 have ts:=h.ts
 have hS0:=(le_sum h.nn).1
 show zgx stdW T l=_
 unfold zgx
 rw[zaa (r_why h),cnd_n (by rfl),zaa (yfo h.w64 (by omega)),zaa (r_int h64)]
 refine join_g fun k49 hk49=>?_
 have main:k49 (false,())=some (splitP T l,(0,())):=by
  subst hk49
  show stdW.cnd false _ _=_
  rw[cnd_n (by rfl)]
  have hat:=quo_at T l.sum l
  have hinc:=zvc T l.sum l 0
  have hlen:=ziq T l.sum l 0
  have hm0:∀i,0≤(zai ((quoGo T l.sum l 0).take i)).sum∧(zai ((quoGo T l.sum l 0).take i)).sum≤T:=by
   by_cases hT:T=0
   ·intro i
    have e:(zai ((quoGo T l.sum l 0).take i)).sum=0:=by
     have e1:zai ((quoGo T l.sum l 0).take i)=(zai (quoGo T l.sum l 0)).take i:=by unfold zai; rw[List.map_take]
     rw[e1,hT,zzr,List.take_replicate,List.sum_replicate_int,Int.mul_zero]
    rw[e]; omega
   ·intro i
    have K:=h.quo hT
    have:=zoc (fun q hq=>(K.q q hq).2.2.1) i
    have:=K.re
    omega
  have hg:∀(i:Nat) (hi:i<l.length),∃hi':i<(quoGo T l.sum l 0).length,(quoGo T l.sum l 0)[i]=((i:Int),(T*l[i] / l.sum,(T*l[i] % l.sum,()))):=fun i hi=>
   ⟨by rw[ziq]; exact hi,by have:=zrs T l.sum l 0 i hi; rwa [Int.zero_add]at this⟩
  have hT64:I64 T:=by unfold I64 at h64 ⊢; omega
  refine zds (N:=l.length) (by omega) (fun i=>(T - (zai ((quoGo T l.sum l 0).take i)).sum,((i:Int),(zai ((quoGo T l.sum l 0).take i),(leftOf ((quoGo T l.sum l 0).take i),()))))) _ (by simp[zai,leftOf]) ?_ ?_
  ·intro again
   show stdW.cnd (decide ((l.length:Int)<(l.length:Int))) _ _=_
   rw[zaj]
   have eP:zai ((quoGo T l.sum l 0).take l.length)=zai (quoGo T l.sum l 0):=by rw[←hlen,List.take_length]
   have eL:leftOf ((quoGo T l.sum l 0).take l.length)=leftOf (quoGo T l.sum l 0):=by rw[←hlen,List.take_length]
   show stdW.loop _ (T - (zai ((quoGo T l.sum l 0).take l.length)).sum,(zai ((quoGo T l.sum l 0).take l.length),(leftOf ((quoGo T l.sum l 0).take l.length),())))=_
   rw[eP,eL]
   unfold splitP
   by_cases hT:T=0
   ·rw[if_pos hT]
    have e0:=zzr l.sum l 0
    rw[hT,e0,List.sum_replicate_int,Int.mul_zero]
    refine zds (N:=0) (by omega) (fun _=>((0:Int) - 0,(List.replicate l.length 0,(leftOf (quoGo 0 l.sum l 0),())))) _ rfl ?_ (fun i hi=>by omega)
    intro again
    show stdW.cnd (decide ((0:Int)<0 - 0)) _ (some (List.replicate l.length 0,(0,())))=_
    rw[cnd_n (by rfl)]
   ·rw[if_neg hT]
    have K:=h.quo hT
    have hown:=zui hinc
    have hperm:=zdt (quoGo T l.sum l 0)
    have hmem:∀q,q∈srtQ (quoGo T l.sum l 0)→q∈quoGo T l.sum l 0:=fun q hq=>hperm.mem_iff.1 hq
    have hsl:(srtQ (quoGo T l.sum l 0)).length=l.length:=by rw[hperm.length_eq,hlen]
    clear hg hm0 eP eL
    generalize quoGo T l.sum l 0=Q at*
    generalize restP T l=r at*
    have hre:=K.re
    have hrl:=K.rl
    rw[←hre]
    refine zds (N:=r) (by omega) (fun j=>(((r - j:Nat):Int),(bump ((srtQ Q).take j) (zai Q),(zer ((srtQ Q).take j) (leftOf Q),())))) _ (by simp[bump,zer]) ?_ ?_
    ·intro again
     show stdW.cnd (decide ((0:Int)<((r - r:Nat):Int))) _ (some (bump ((srtQ Q).take r) (zai Q),(0,())))=_
     rw[cnd_n (decide_eq_false (by omega))]
    ·intro j hj again ha
     have hjl:j<(srtQ Q).length:=by omega
     obtain⟨hb,hbest⟩:=best_at K hat hinc hj hjl
     have hqQ:=hmem _ (List.getElem_mem hjl)
     have kq:=K.q _ hqQ
     have hpos:=K.pos ((srtQ Q)[j]) (by
      have:((srtQ Q).take r)[j]'(by rw[List.length_take]; omega)=(srtQ Q)[j]:=List.getElem_take
      rw[←this]; exact List.getElem_mem _)
     have hpa:=zod (n:=0) hat hqQ
     have hne:∀q∈(srtQ Q).take j,q.1.toNat≠((srtQ Q)[j]).1.toNat:=fun q hq=>by
      have h1:=yfv hown hjl q hq
      have h2:=(K.q q (hmem q (List.mem_of_mem_take hq))).1
      omega
     have hgd:=zww ((srtQ Q).take j) (zai Q) hne
     have hsn:=zwv ((srtQ Q)[j]) ((srtQ Q).take j) (zai Q)
     have hzn:=yhr ((srtQ Q)[j]) ((srtQ Q).take j) (leftOf Q)
     rw[←List.take_succ_eq_append_getElem hjl]at hsn hzn
     rw[hgd,hpa.1]at hsn
     rw[hpa.1]at hgd
     have hbl:(bump ((srtQ Q).take j) (zai Q)).length=l.length:=by rw[zuc]; unfold zai; rw[List.length_map,hlen]
     have hzl:(zer ((srtQ Q).take j) (leftOf Q)).length=l.length:=by rw[zer_len]; unfold leftOf; rw[List.length_map,hlen]
     show stdW.cnd (decide ((0:Int)<((r - j:Nat):Int))) (stdW.loop _ (0,(0,(bump ((srtQ Q).take j) (zai Q),(zer ((srtQ Q).take j) (leftOf Q),()))))) _=_
     rw[cnd_y (decide_eq_true (by omega))]
     refine(r_best (by omega) hzl hb hbest _).trans ?_
     generalize (srtQ Q)[j]=q at*
     have hq2:q.1.toNat<(bump ((srtQ Q).take j) (zai Q)).length:=by omega
     have hq3:q.1.toNat<(zer ((srtQ Q).take j) (leftOf Q)).length:=by omega
     rw[zqq hq2]at hgd
     generalize bump ((srtQ Q).take j) (zai Q)=o at*
     generalize zer ((srtQ Q).take j) (leftOf Q)=L at*
     show stdW.idx o ((q.1.toNat:Nat):Int) (fun x43=>stdW.nth o (Int.toNat ((q.1.toNat:Nat):Int)) fun x44=>stdW.idx o ((q.1.toNat:Nat):Int) fun x45=>stdW.nth o (Int.toNat ((q.1.toNat:Nat):Int)) fun x46=>stdW.idx L ((q.1.toNat:Nat):Int) fun x47=>stdW.nth L (Int.toNat ((q.1.toNat:Nat):Int)) fun x48=>again (IntKind.i64.wrap (((r - j:Nat):Int) - 1),(List.set o (Int.toNat ((q.1.toNat:Nat):Int)) (IntKind.i64.wrap (x44+1)),(List.set L (Int.toNat ((q.1.toNat:Nat):Int)) 0,()))))=_
     unfold I64 at hT64
     have hp1:=kq.2.2.2.2.2.2 hpos
     rw[idx_w hq2,nth_w hq2,idx_w hq2,nth_w hq2,idx_w hq3,nth_w hq3,Int.toNat_natCast,hgd,IntWalk.i64_in (q.2.1+1) (by omega),IntWalk.i64_in _ (by omega),←hsn,←hzn,show ((r - j:Nat):Int) - 1=((r - (j+1):Nat):Int) by omega]
     exact ha
  ·intro i hi again ha
   obtain⟨hi',eg⟩:=hg i hi
   have w0:=h.nn _ (List.getElem_mem hi)
   have ws:=(le_sum h.nn).2 _ (List.getElem_mem hi)
   have hw64:=h.w64 _ (List.getElem_mem hi)
   have m0:=hm0 i
   have m1:=hm0 (i+1)
   have eP:=zru hi'
   have eL:=left_take hi'
   rw[eg]at eP eL
   generalize quoGo T l.sum l 0=Q at*
   show stdW.cnd (decide ((i:Int)<(l.length:Int))) _ _=_
   rw[cnd_lt hi]
   refine join_g fun k8 hk8=>?_
   have kk:k8 (T*l[i] / l.sum,(T*l[i] % l.sum,(zai (Q.take i),(leftOf (Q.take i),()))))=some (splitP T l,(0,())):=by
    subst hk8
    have lp:(zai (Q.take i)).length=i:=by unfold zai; rw[List.length_map,List.length_take]; omega
    have ll:(leftOf (Q.take i)).length=i:=by unfold leftOf; rw[List.length_map,List.length_take]; omega
    show stdW.room ((zai (Q.take i)).length+1) 8 (stdW.room ((leftOf (Q.take i)).length+1) 8 (again (IntKind.i64.wrap (T - (zai (Q.take i)).sum - T*l[i] / l.sum),(IntKind.i64.wrap ((i:Int)+1),(zai (Q.take i)++[T*l[i] / l.sum],(leftOf (Q.take i)++[T*l[i] % l.sum],()))))))=_
    have e3:T - (zai (Q.take i)).sum - T*l[i] / l.sum=T - (zai (Q.take (i+1))).sum:=by
     rw[eP,List.sum_append]; simp; omega
    unfold I64 at hT64
    rw[room_w (by omega) (by omega),room_w (by omega) (by omega),e3,i64_s i (by omega),IntWalk.i64_in _ (by omega),←eP,←eL]
    exact ha
   clear hk8
   by_cases hS:0<l.sum
   ·show stdW.cnd (decide (0<l.sum)) (stdW.idx l (i:Int) _) _=_
    rw[cnd_y (decide_eq_true hS),idx_w hi]
    unfold I64 at h64 hT64 hw64
    have a1:=Int.mul_nonneg t0 w0
    have a2:T*l[i]≤9223372036854775807*9223372036854775807:=Int.mul_le_mul (by omega) (by omega) w0 (by omega)
    have e1:zjm T=some (big T):=r_of (by unfold I64; omega)
    have e2:zjm l[i]=some (big l[i]):=r_of (by unfold I64; omega)
    have e3:zqd (big T) (big l[i])=some (big (T*l[i])):=r_mulB (by unfold sml; omega) (by unfold sml; omega)
    have eu:IntKind.u64.wrap l.sum=l.sum:=u64_in _ (by omega) (by omega)
    have e4:zqe (big (T*l[i])) (IntKind.u64.wrap l.sum)=some (big (T*l[i] / l.sum),(T*l[i] % l.sum,())):=by
     rw[eu]; exact r_divB a1 (by unfold sml; omega) hS (by omega)
    have hq:T*l[i] / l.sum≤T:=by
     have:=zoc (Q:=Q)
     have e5:(zai (Q.take (i+1))).sum=(zai (Q.take i)).sum+T*l[i] / l.sum:=by rw[eP,List.sum_append]; simp
     omega
    have hq0:=Int.ediv_nonneg a1 (Int.le_of_lt hS)
    have e5:zdm (big (T*l[i] / l.sum))=some (T*l[i] / l.sum):=r_int (by unfold I64; omega)
    have c4:∀v12,v12=big (T*l[i])→stdW.call (zqe v12 (IntKind.u64.wrap l.sum)) (fun v13=>stdW.call (zdm v13.1) fun v14=>k8 (v14,(v13.2.1,(zai (Q.take i),(leftOf (Q.take i),())))))=some (splitP T l,(0,())):=by
     rintro _ rfl
     rw[zaa e4,zaa e5,kk]
    have c3:stdW.call (zqd (big T) (big l[i])) (fun v12=>stdW.call (zqe v12 (IntKind.u64.wrap l.sum)) (fun v13=>stdW.call (zdm v13.1) fun v14=>k8 (v14,(v13.2.1,(zai (Q.take i),(leftOf (Q.take i),()))))))=some (splitP T l,(0,())):=by
     rw[zaa e3]; exact c4 _ rfl
    refine zbe ?_ ?_
    ·rw[zaa e1]
     refine zbe ?_ ?_
     ·rw[zaa e2]
      refine zbe ?_ c3
      rw[zaa e3]
      exact zbe (c4 _ rfl) (c4 _ rfl)
     ·rw[zaa e2]; exact c3
    ·rw[zaa e1,zaa e2]; exact c3
   ·have hs0:l.sum=0:=by omega
    show stdW.cnd (decide (0<l.sum)) _ (k8 (0,(0,(zai (Q.take i),(leftOf (Q.take i),())))))=_
    rw[cnd_n (decide_eq_false hS)]
    have hT0:T=0:=by omega
    rw[hT0,hs0,Int.zero_mul,Int.zero_ediv,Int.zero_emod]at kk
    rw[hT0]; exact kk
 clear hk49
 by_cases hs:l.sum=0
 ·rw[cnd_y (by simp[hs]),decide_eq_false (by omega)]; exact main
 ·rw[cnd_n (by simp[hs])]; exact main
theorem yja{T:Int}{l:List Int}(h:OkW T l):zro T l=some (splitP T l,(0,())):=by
 have hl:=h.len
 have ts:=h.ts
 have h64:=h.s64
 have t0:=h.t0
 have hT64:I64 T:=by unfold I64 at h64 ⊢; omega
 show zga stdW T l=_
 unfold zga
 rw[zaa (r_why h),cnd_n (by rfl),zaa (yfo h.w64 (by omega)),zaa (r_of hT64),zaa (r_cmpB (zcp h64) (zcp hT64)),cnd_n (decide_eq_false (by split; omega; split<;>omega))]
 show stdW.call (zuy T l) _=_
 rw[zaa (r_split03 h)]
end Go.Proofs.YtllkmncnmlmefaaGreat
namespace Go.Proofs.YtllkmncnmlmefaaGreat
open Go Go.Vc Go.RowKit
set_option synthInstance.maxSize 100000
set_option synthInstance.maxHeartbeats 0
set_option maxHeartbeats 1000000
def errE(f:AUnit'→NE):List AUnit'→Int
 |[]=>0
 |u::l=>if (f u).2.1=0 then errE f l else (f u).2.1
theorem yaz(f:AUnit'→NE):∀(l:List AUnit') (acc:List Int),eachP f l acc=if errE f l=0 then (acc++l.map (fun u=>(f u).1),fits64 (acc++l.map (fun u=>(f u).1)).sum) else ([],(0,(errE f l,())))
 |[],acc=>by simp[eachP,errE]
 |u::l,acc=>by
  rw[eachP,errE]
  by_cases he:(f u).2.1=0
  ·rw[if_pos he,if_pos he,yaz f l]; simp
  ·rw[if_neg he,if_neg he,if_neg he]
theorem errE_ok{f:AUnit'→NE}:∀{l:List AUnit'},errE f l=0→∀u∈l,(f u).2.1=0
 |[],_,_,h=>by cases h
 |v::l,h,u,hu=>by
  rw[errE]at h
  by_cases he:(f v).2.1=0
  ·rw[if_pos he]at h
   rcases List.mem_cons.1 hu with rfl|hu
   ·exact he
   ·exact errE_ok h u hu
  ·rw[if_neg he]at h; exact absurd h he
theorem each31{β:Type}{f:AUnit'→NE}{l:List AUnit'}(hl:l.length≤1000)(F:AUnit'→Option NE)(hF:∀u,F u=some (f u))(cont:Int×List Int×Unit→Option β)(err:Int×Unit→Option β):
  stdW.loop (fun (z1:Int×List Int×Unit) again2=>stdW.cnd (decide (z1.1<(l.length:Int))) (stdW.idx l z1.1 fun x3=>stdW.call (F x3) fun v4=>stdW.cnd (v4.2.1 != 0) (err v4.2) (stdW.room (z1.2.1.length+(v4.1::([]:List Int)).length) 8 (again2 (IntKind.i64.wrap (z1.1+1),(z1.2.1++(v4.1::[]),()))))) (cont z1)) (0,([],()))=
   if errE f l=0 then cont ((l.length:Int),(l.map fun u=>(f u).1,())) else err (errE f l,()):=by
 refine zbo (l:=l) (by omega) (s0:=(([]:List Int),())) (fun i z=>z.1.length=i) (fun l' z=>if errE f l'=0 then cont ((l.length:Int),(z.1++l'.map fun u=>(f u).1,())) else err (errE f l',())) rfl ?_ ?_
 ·rintro⟨acc,⟨⟩⟩ again h1
  show stdW.cnd (decide ((l.length:Int)<(l.length:Int))) _ (cont ((l.length:Int),(acc,())))=_
  rw[zaj]; simp[errE]
 ·rintro i hi ⟨acc,⟨⟩⟩ h1 again hag
  dsimp only at h1
  show stdW.cnd (decide ((i:Int)<(l.length:Int))) (stdW.idx l (i:Int) _) _=(if errE f (l[i]::l.drop (i+1))=0 then cont ((l.length:Int),(acc++(l[i]::l.drop (i+1)).map fun u=>(f u).1,())) else err (errE f (l[i]::l.drop (i+1)),()))
  rw[cnd_lt hi,idx_w hi,zaa (hF _),errE]
  show stdW.cnd ((f l[i]).2.1 != 0) (err (f l[i]).2) (stdW.room (acc.length+1) 8 (again (IntKind.i64.wrap ((i:Int)+1),(acc++[(f l[i]).1],()))))=_
  by_cases he:(f l[i]).2.1=0
  ·rw[cnd_n (by simp[he]),if_pos he,room_w (by omega) (by omega),i64_s i (by omega),hag (acc++[(f l[i]).1],()) (by simp[h1]),List.append_assoc]
   rfl
  ·rw[cnd_y (by simpa using he),if_neg he,if_neg he]
theorem each31b{β:Type}{f g:AUnit'→NE}{l:List AUnit'}{ow:List Int}(hl:l.length≤1000)(how:ow.length=l.length)(F:AUnit'→Option NE)(hF:∀u,F u=some (f u))(hg:∀(i:Nat) (hi:i<l.length),g l[i]=((if 0<ow[i]'(by omega) then 0 else (f l[i]).1),(f l[i]).2))(cont:Int×List Int×List Int×Unit→Option β)(err:Int×Unit→Option β):
  stdW.loop (fun (z6:Int×List Int×List Int×Unit) again7=>stdW.cnd (decide (z6.1<(l.length:Int))) (stdW.idx l z6.1 fun x8=>stdW.call (F x8) fun v9=>stdW.cnd (v9.2.1 != 0) (err v9.2) (
   stdW.join (fun (z10:Int×List Int×List Int×Unit)=>stdW.room (z10.2.2.1.length+(z10.1::([]:List Int)).length) 8 (again7 (IntKind.i64.wrap (z6.1+1),(z10.2.1,(z10.2.2.1++(z10.1::[]),()))))) fun k11=>stdW.idx z6.2.1 z6.1 fun _=>stdW.nth z6.2.1 (Int.toNat z6.1) fun x13=>stdW.cnd (decide (0<x13)) (k11 (0,z6.2)) (k11 (v9.1,z6.2)))) (cont z6)) (0,(ow,([],())))=
   if errE g l=0 then cont ((l.length:Int),(ow,(l.map fun u=>(g u).1,()))) else err (errE g l,()):=by
 refine zbo (l:=l) (by omega) (s0:=(ow,(([]:List Int),()))) (fun i z=>z.1=ow∧z.2.1.length=i) (fun l' z=>if errE g l'=0 then cont ((l.length:Int),(ow,(z.2.1++l'.map fun u=>(g u).1,()))) else err (errE g l',())) ⟨rfl,rfl⟩ ?_ ?_
 ·rintro⟨o,acc,⟨⟩⟩ again ⟨h0,h1⟩
  dsimp only at h0 h1
  subst h0
  show stdW.cnd (decide ((l.length:Int)<(l.length:Int))) _ (cont ((l.length:Int),(o,(acc,()))))=_
  rw[zaj]; simp[errE]
 ·rintro i hi ⟨o,acc,⟨⟩⟩ ⟨h0,h1⟩ again hag
  dsimp only at h0 h1
  subst h0
  have hio:i<o.length:=by omega
  show stdW.cnd (decide ((i:Int)<(l.length:Int))) (stdW.idx l (i:Int) _) _=(if errE g (l[i]::l.drop (i+1))=0 then cont ((l.length:Int),(o,(acc++(l[i]::l.drop (i+1)).map fun u=>(g u).1,()))) else err (errE g (l[i]::l.drop (i+1)),()))
  rw[cnd_lt hi,idx_w hi,zaa (hF _),errE]
  have e:=hg i hi
  have e2:(g l[i]).2=(f l[i]).2:=by rw[e]
  rw[e2]
  by_cases he:(f l[i]).2.1=0
  ·rw[cnd_n (by simp[he]),if_pos he]
   refine join_g fun k11 hk11=>?_
   have K:∀n,n=(g l[i]).1→k11 (n,(o,(acc,())))=(if errE g (l.drop (i+1))=0 then cont ((l.length:Int),(o,(acc++(l[i]::l.drop (i+1)).map fun u=>(g u).1,()))) else err (errE g (l.drop (i+1)),())):=by
    rintro _ rfl
    subst hk11
    show stdW.room (acc.length+1) 8 (again (IntKind.i64.wrap ((i:Int)+1),(o,(acc++[(g l[i]).1],()))))=_
    rw[room_w (by omega) (by omega),i64_s i (by omega),hag (o,(acc++[(g l[i]).1],())) ⟨rfl,by simp[h1]⟩,List.append_assoc]
    rfl
   clear hk11 hag
   show stdW.idx o (i:Int) (fun _=>stdW.nth o (Int.toNat (i:Int)) fun x13=>stdW.cnd (decide (0<x13)) (k11 (0,(o,(acc,())))) (k11 ((f l[i]).1,(o,(acc,())))))=_
   rw[idx_w hio,nth_w hio]
   by_cases hp:0<o[i]
   ·rw[cnd_y (decide_eq_true hp)]; exact K _ (by rw[e,if_pos hp])
   ·rw[cnd_n (decide_eq_false hp)]; exact K _ (by rw[e,if_neg hp])
  ·rw[cnd_y (by simpa using he),if_neg he,if_neg he]
theorem ybp{l:List AUnit'}{t:List Int}{k:Nat}(hk:k<l.length)(ht:t.length=l.length)(v:Int):(l.zip (t.set k v)).take (k+1)=(l.zip t).take k++[(l[k],v)]:=by
 have h1:k<(l.zip (t.set k v)).length:=by rw[List.length_zip,List.length_set]; omega
 have e:∀(l:List AUnit') (t:List Int) (k:Nat) (v:Int),(l.zip (t.set k v)).take k=(l.zip t).take k:=by
  intro l
  induction l with
  |nil=>intro t k v; simp
  |cons u l ih=>
   intro t k v
   cases t with
   |nil=>simp
   |cons x t=>
    cases k with
    |zero=>simp
    |succ k=>simp[ih]
 rw[List.take_succ_eq_append_getElem h1,e,List.getElem_zip]
 simp
theorem r_shared31{s:zad}{p:List AFlow'}{h:List AHold'}{l:List AUnit'}{m0:Nat}(ha:∀a∈asS s,okA1 a)(hl1:(asS s).length≤1000)(hn:l.length≤20)(S:StR p h [] m0)(hm0:m0+40≤10000):
  zsr (updS s p h) l=some (resD s (zcr (asS s) l p h)):=by
 have hpl:=S.pl
 have hhl:=S.hl
 have err:∀e:Int,e≠0→resD s ([],[],[],e)=(zS,([],(e,()))):=fun e he=>by unfold resD; rw[if_neg he]
 show zec stdW (updS s p h) l=_
 unfold zec
 refine(each31 (f:=owesP p) (l:=l) (by omega) (fun u=>zke (updS s p h) u) (fun u=>znz (s:=updS s p h) (u:=u) S.f (by show p.length≤_; omega)) _ (fun e=>some (zS,([],e)))).trans ?_
 have vE:=yaz (owesP p) l []
 have wE:=yaz (freeP (asS s) p h) l []
 rw[List.nil_append]at vE wE
 unfold zcr
 by_cases hE:errE (owesP p) l=0
 ·rw[if_pos hE]
  rw[if_pos hE]at vE
  have hv64:∀x∈l.map (fun u=>(owesP p u).1),I64 x:=fun x hx=>by
   obtain⟨u,_,rfl⟩:=List.mem_map.1 hx; exact(zhi S.f u).1
  have hw64:∀x∈l.map (fun u=>(freeP (asS s) p h u).1),I64 x:=fun x hx=>by
   obtain⟨u,_,rfl⟩:=List.mem_map.1 hx; exact(ygw _ _ _ u).1
  have hs:=r_sum31 hv64 (by rw[List.length_map]; omega)
  have hs2:=r_sum31 hw64 (by rw[List.length_map]; omega)
  rw[zaa hs]
  have v2:(eachP (owesP p) l []).2=fits64 (l.map fun u=>(owesP p u).1).sum:=by rw[vE]
  rw[←v2]
  by_cases e1:(eachP (owesP p) l []).2.2.1=0
  ·rw[cnd_n (by simp[e1]),if_pos e1]
   have hg:∀(i:Nat) (hi:i<l.length),freeP (asS s) p h l[i]=((if 0<(l.map fun u=>(owesP p u).1)[i]'(by rw[List.length_map]; exact hi) then 0 else (roomP (asS s) p h l[i]).1),(roomP (asS s) p h l[i]).2):=by
    intro i hi
    have hu:=errE_ok hE _ (List.getElem_mem hi)
    rw[List.getElem_map]
    unfold freeP
    unfold owesP at hu ⊢
    by_cases h1:getP p l[i] = -9223372036854775808
    ·rw[if_pos h1]at hu; simp at hu
    ·rw[if_neg h1]
     by_cases h2:getP p l[i]<0
     ·rw[if_pos h2,if_pos h2,if_pos (by show 0 < - getP p l[i]; omega)]
     ·rw[if_neg h2,if_neg h2,if_neg (by show ¬(0:Int)<0; omega)]
   refine(each31b (f:=roomP (asS s) p h) (g:=freeP (asS s) p h) (l:=l) (by omega) (by rw[List.length_map]) (fun u=>zrk (updS s p h) u) (fun u=>yiw (s:=updS s p h) (u:=u) ha hl1 S.hh S.f (by show p.length≤_; omega)) hg _ (fun e=>some (zS,([],e)))).trans ?_
   by_cases hW:errE (freeP (asS s) p h) l=0
   ·rw[if_pos hW]
    rw[if_pos hW]at wE
    rw[zaa hs2]
    have w2:(eachP (freeP (asS s) p h) l []).2=fits64 (l.map fun u=>(freeP (asS s) p h u).1).sum:=by rw[wE]
    have v1:(eachP (owesP p) l []).1=l.map fun u=>(owesP p u).1:=by rw[vE]
    have w1:(eachP (freeP (asS s) p h) l []).1=l.map fun u=>(freeP (asS s) p h u).1:=by rw[wE]
    rw[←w2]
    by_cases e2:(eachP (freeP (asS s) p h) l []).2.2.1=0
    ·rw[cnd_n (by simp[e2]),if_pos e2]
     obtain⟨o1,o2,c1,c2⟩:=zzb (as:=asS s) (h:=h) S.f (by omega) e1 e2
     have hT64:I64 (dueP (asS s) p h l):=by have:=o1.s64; have:=o1.t0; have:=o1.ts; unfold I64 at *; omega
     have f1:=yja o1
     have f2:=yja o2
     obtain⟨s1,s2⟩:=o1.split
     obtain⟨s3,s4⟩:=o2.split
     have g1:i64L (giveP (asS s) p h l):=fun x hx=>by have:=s2 x hx; unfold I64 at *; omega
     have g2:i64L (takeP (asS s) p h l):=fun x hx=>by have:=s4 x hx; unfold I64 at *; omega
     have g3:(giveP (asS s) p h l).length=l.length:=s1.trans c1
     have g4:(takeP (asS s) p h l).length=l.length:=s3.trans c2
     refine join_g fun k52 hk52=>?_
     have K52:∀T,T=dueP (asS s) p h l→k52 (T,(l.map (fun u=>(owesP p u).1),(l.map (fun u=>(freeP (asS s) p h u).1),())))=some (resD s (runA ((twoGo (l.zip (giveP (asS s) p h l)) (l.zip (takeP (asS s) p h l))).map (payAct (asS s))) p h [])):=by
      rintro _ rfl
      subst hk52
      show stdW.call (zro (dueP (asS s) p h l) (l.map (fun u=>(freeP (asS s) p h u).1))) (fun v16=>stdW.call (zro (dueP (asS s) p h l) (l.map (fun u=>(owesP p u).1))) fun v17=>stdW.loop _ ((0:Int),stT s p h (v16.1,(v17.1,(([]:List zbf),())))))=_
      rw[←v1,←w1,zaa f1,zaa f2]
      show stdW.loop _ ((0:Int),stT s p h (giveP (asS s) p h l,(takeP (asS s) p h l,(([]:List zbf),()))))=_
      generalize giveP (asS s) p h l=gv0 at*
      generalize takeP (asS s) p h l=tk0 at*
      have okz:∀t:List Int,i64L t→okU (l.zip t):=fun t ht a haz=>by
       have:a.2∈t:=(List.of_mem_zip (show (a.1,a.2)∈l.zip t from haz)).2
       exact(ht _ this).1
      have hft:=yat _ (l.zip gv0) (l.zip tk0) [] (Nat.le_refl _) (okz _ g1) (okz _ g2) (fun a ha=>by cases ha)
      rw[List.nil_append]at hft
      have hnl:(nzP (fullGo (l.zip gv0) (l.zip tk0))).length≤40:=by
       rw[hft]
       refine Nat.le_trans (List.length_filter_le _ _) (Nat.le_trans (zyt _ _ _ (Nat.le_refl _)) ?_)
       rw[List.length_zip,List.length_zip]; omega
      have hrun:runA ((twoGo (l.zip gv0) (l.zip tk0)).map (payAct (asS s))) p h []=runA ((fullGo (l.zip gv0) (l.zip tk0)).map (payAct (asS s))) p h []:=by
       rw[zzz,←hft,←zzz]
      rw[hrun]
      generalize hres:some (resD s (runA ((fullGo (l.zip gv0) (l.zip tk0)).map (payAct (asS s))) p h []))=res
      refine loop_P (fun o=>o=res) (fun z=>l.length+1 - z.1.toNat)
       (fun z=>∃(i:Nat) (p1:List AFlow') (h1:List AHold') (gv tk:List Int) (out:List zbf) (m:Nat),z=((i:Int),stT s p1 h1 (gv,(tk,(out,()))))∧i≤l.length∧gv.length=l.length∧tk.length=l.length∧i64L gv∧i64L tk∧StR p1 h1 out m∧m+(nzP (fullGo ((l.zip gv).drop i) (l.zip tk))).length≤10000∧
        some (resD s (runA ((fullGo ((l.zip gv).drop i) (l.zip tk)).map (payAct (asS s))) p1 h1 out))=res)
       ⟨0,p,h,gv0,tk0,[],m0,rfl,Nat.zero_le _,g3,g4,g1,g2,S,by rw[List.drop_zero]; omega,by rw[List.drop_zero]; exact hres⟩ (by show _ - (0:Int).toNat<_; omega) ?_
      clear hres hft hnl hrun f1 f2 s1 s2 s3 s4 g1 g2 g3 g4 o1 o2 c1 c2 hT64
      rintro _ ⟨i,p1,h1,gv,tk,out,m,rfl,hi,lg,lt,ng,nt,St,hm,hr⟩ again hag
      show stdW.cnd (decide ((i:Int)<(l.length:Int))) (stdW.loop _ ((0:Int),stT s p1 h1 (gv,(tk,(out,()))))) (some (updS s p1 h1,(out,(0,()))))=res
      by_cases hil:i<l.length
      ·rw[cnd_lt hil]
       have hig:i<gv.length:=by omega
       rw[zps hil lg,fullGo]at hr hm
       refine loop_P (fun o=>o=res) (fun z=>l.length+1 - z.1.toNat)
        (fun z=>∃(k:Nat) (p2:List AFlow') (h2:List AHold') (x:Int) (tk:List Int) (out:List zbf) (m:Nat),z=((k:Int),stT s p2 h2 (gv.set i x,(tk,(out,()))))∧k≤l.length∧(0≤x∧I64 x)∧tk.length=l.length∧i64L tk∧StR p2 h2 out m∧
         m+(nzP ((rowGo l[i] x ((l.zip tk).drop k)).1++fullGo ((l.zip gv).drop (i+1)) ((l.zip tk).take k++(rowGo l[i] x ((l.zip tk).drop k)).2))).length≤10000∧
         some (resD s (runA (((rowGo l[i] x ((l.zip tk).drop k)).1++fullGo ((l.zip gv).drop (i+1)) ((l.zip tk).take k++(rowGo l[i] x ((l.zip tk).drop k)).2)).map (payAct (asS s))) p2 h2 out))=res)
        ⟨0,p1,h1,gv[i],tk,out,m,by rw[List.set_getElem_self]; rfl,Nat.zero_le _,ng _ (List.getElem_mem hig),lt,nt,St,by rw[List.drop_zero,List.take_zero,List.nil_append]; exact hm,by rw[List.drop_zero,List.take_zero,List.nil_append]; exact hr⟩ (by show _ - (0:Int).toNat<_; omega) ?_
       clear hr hm St nt lt
       rintro _ ⟨k,p2,h2,x,tk,out,m,rfl,hk,nx,lt,nt,St,hm,hr⟩ again2 hag2
       have hp2:=St.pl
       have hh2:=St.hl
       have hd2:=St.dl
       show stdW.cnd (decide ((k:Int)<(l.length:Int))) _ (again (IntKind.i64.wrap ((i:Int)+1),stT s p2 h2 (gv.set i x,(tk,(out,())))))=res
       by_cases hkl:k<l.length
       ·rw[cnd_lt hkl]
        clear hag
        have hkt:k<tk.length:=by omega
        have hgx:i<(gv.set i x).length:=by rw[List.length_set]; exact hig
        have ex:(gv.set i x)[i]=x:=List.getElem_set_self _
        rw[zps hkl lt,rowGo]at hr hm
        have ny:=nt _ (List.getElem_mem hkt)
        have tks:=ybp (l:=l) hkl lt
        have tkd:=zop l tk k
        generalize hy:tk[k]=y at*
        refine join_g fun k23 hk23=>?_
        have K23:∀(p3:List AFlow') (h3:List AHold') (out3:List zbf) (m3:Nat),StR p3 h3 out3 m3→
          m3+(nzP ((rowGo l[i] (x - min x y) ((l.zip tk).drop (k+1))).1++fullGo ((l.zip gv).drop (i+1)) ((l.zip tk).take k++((l[k],y - min x y)::(rowGo l[i] (x - min x y) ((l.zip tk).drop (k+1))).2)))).length≤10000→
          some (resD s (runA (((rowGo l[i] (x - min x y) ((l.zip tk).drop (k+1))).1++fullGo ((l.zip gv).drop (i+1)) ((l.zip tk).take k++((l[k],y - min x y)::(rowGo l[i] (x - min x y) ((l.zip tk).drop (k+1))).2))).map (payAct (asS s))) p3 h3 out3))=res→
          k23 (stT s p3 h3 ((gv.set i x).set i (x - min x y),(tk.set k (y - min x y),(out3,()))))=res:=by
         intro p3 h3 out3 m3 S3 hm3 hr3
         subst hk23
         show again2 (IntKind.i64.wrap ((k:Int)+1),stT s p3 h3 ((gv.set i x).set i (x - min x y),(tk.set k (y - min x y),(out3,()))))=res
         rw[i64_s k (by omega),List.set_set]
         refine hag2 _ ⟨k+1,p3,h3,x - min x y,tk.set k (y - min x y),out3,m3,rfl,by omega,⟨by omega,by have:=nx.2; have:=ny.2; unfold I64 at *; omega⟩,by rw[List.length_set]; exact lt,zse nt (by omega) (by have:=nx.2; have:=ny.2; unfold I64 at *; omega),S3,?_,?_⟩ (by show _ - ((k+1:Nat):Int).toNat<_ - ((k:Nat):Int).toNat; omega)
         ·rw[tkd,tks,List.append_assoc]; exact hm3
         ·rw[tkd,tks,List.append_assoc]; exact hr3
        clear hk23 hag2
        show stdW.idx (gv.set i x) (i:Int) (fun _=>stdW.nth (gv.set i x) (Int.toNat (i:Int)) _)=res
        rw[idx_w hgx,nth_w hgx,ex]
        refine join_g fun k47 hk47=>?_
        have K47:∀n,n=min x y→k47 (n,(gv.set i x,(tk,(out,()))))=res:=by
         intro n hn'
         rw[←hn']at hr hm K23
         have nI:I64 n:=by have:=nx.2; have:=ny.2; unfold I64 at *; omega
         have n0:0≤n:=by omega
         have xn:I64 (x - n):=by have:=nx.2; unfold I64 at *; omega
         have yn:I64 (y - n):=by have:=ny.2; unfold I64 at *; omega
         subst hk47
         show stdW.idx l (i:Int) _=res
         rw[idx_w hil]
         show stdW.idx l (k:Int) _=res
         rw[idx_w hkl,two_w]
         show stdW.call (zrj (updS s p2 h2) l[i] l[k] n) _=res
         rw[zaa (yix ha hl1 St.hh (by omega) St.f (by omega) nI n0)]
         rw[List.cons_append,List.map_cons,runA]at hr
         have er:payAct (asS s) (l[i],l[k],n) p2 h2=paysP (asS s) p2 h2 l[i] l[k] n:=rfl
         rw[er]at hr
         have good:(paysP (asS s) p2 h2 l[i] l[k] n).2.2.2=0→∃m3,StR (paysP (asS s) p2 h2 l[i] l[k] n).1 (paysP (asS s) p2 h2 l[i] l[k] n).2.1 (out++(paysP (asS s) p2 h2 l[i] l[k] n).2.2.1) m3∧
           m3+(nzP ((rowGo l[i] (x - n) ((l.zip tk).drop (k+1))).1++fullGo ((l.zip gv).drop (i+1)) ((l.zip tk).take k++((l[k],y - n)::(rowGo l[i] (x - n) ((l.zip tk).drop (k+1))).2)))).length≤10000:=by
          intro he
          by_cases hz:n=0
          ·refine⟨m,?_,?_⟩
           ·have e0:paysP (asS s) p2 h2 l[i] l[k] n=(p2,h2,[],0):=by unfold paysP; rw[if_pos hz]
            rw[e0,List.append_nil]; exact St
           ·rw[List.cons_append,ztr hz]at hm; exact hm
          ·rw[List.cons_append]at hm
           have e1:nzP ((l[i],l[k],n)::((rowGo l[i] (x - n) ((l.zip tk).drop (k+1))).1++fullGo ((l.zip gv).drop (i+1)) ((l.zip tk).take k++((l[k],y - n)::(rowGo l[i] (x - n) ((l.zip tk).drop (k+1))).2))))=(l[i],l[k],n)::nzP ((rowGo l[i] (x - n) ((l.zip tk).drop (k+1))).1++fullGo ((l.zip gv).drop (i+1)) ((l.zip tk).take k++((l[k],y - n)::(rowGo l[i] (x - n) ((l.zip tk).drop (k+1))).2))):=by
            unfold nzP; rw[List.filter_cons,if_pos (by simpa using hz)]
           rw[e1,List.length_cons]at hm
           exact⟨m+1,zzy (asS s) l[i] l[k] n p2 h2 out m St (by omega) he,by omega⟩
         generalize paysP (asS s) p2 h2 l[i] l[k] n=r at*
         by_cases he:r.2.2.2=0
         ·rw[if_pos he]at hr
          obtain⟨m3,S3,hm3⟩:=good he
          have erd:resD s r=(updS s r.1 r.2.1,(r.2.2.1,(0,()))):=by unfold resD; rw[if_pos he]
          have hd3:=S3.dl
          rw[List.length_append]at hd3
          rw[erd]
          have w1:IntKind.i64.wrap (x - n)=x - n:=IntWalk.i64_in _ (by unfold I64 at xn; omega)
          have w2:IntKind.i64.wrap (y - n)=y - n:=IntWalk.i64_in _ (by unfold I64 at yn; omega)
          show stdW.cnd ((0:Int) != 0) _ (stdW.room (out.length+r.2.2.1.length) 40 (stdW.idx (gv.set i x) (i:Int) fun _=>stdW.nth (gv.set i x) (Int.toNat (i:Int)) fun x31=>stdW.idx (gv.set i x) (i:Int) fun _=>stdW.nth (gv.set i x) (Int.toNat (i:Int)) fun _=>stdW.idx tk (k:Int) fun _=>stdW.nth tk (Int.toNat (k:Int)) fun x35=>stdW.idx tk (k:Int) fun _=>stdW.nth tk (Int.toNat (k:Int)) fun _=>
           k23 (stT s r.1 r.2.1 ((gv.set i x).set (Int.toNat (i:Int)) (IntKind.i64.wrap (x31 - n)),(tk.set (Int.toNat (k:Int)) (IntKind.i64.wrap (x35 - n)),(out++r.2.2.1,()))))))=res
          have hlen3:out.length+r.2.2.1.length≤10000:=by
           have:=Nat.le_add_right m3 (nzP ((rowGo l[i] (x - n) ((l.zip tk).drop (k+1))).1++fullGo ((l.zip gv).drop (i+1)) ((l.zip tk).take k++((l[k],y - n)::(rowGo l[i] (x - n) ((l.zip tk).drop (k+1))).2)))).length
           omega
          rw[cnd_n (by rfl),room_w (by omega) (by omega),idx_w hgx,nth_w hgx,idx_w hgx,nth_w hgx,idx_w hkt,nth_w hkt,idx_w hkt,nth_w hkt,ex,hy,w1,w2,Int.toNat_natCast,Int.toNat_natCast]
          exact K23 _ _ _ m3 S3 hm3 hr
         ·rw[if_neg he]at hr
          have erd:resD s r=(zS,([],(r.2.2.2,()))):=by unfold resD; rw[if_neg he]
          rw[erd]
          show stdW.cnd (r.2.2.2 != 0) (some (zS,([],(r.2.2.2,())))) _=res
          rw[cnd_y (by simpa using he),←hr,err _ he]
        clear hk47
        show stdW.idx tk (k:Int) (fun _=>stdW.nth tk (Int.toNat (k:Int)) fun x49=>stdW.cnd (decide (x49<x)) (stdW.idx tk (k:Int) fun _=>stdW.nth tk (Int.toNat (k:Int)) fun x51=>k47 (x51,(gv.set i x,(tk,(out,()))))) (k47 (x,(gv.set i x,(tk,(out,()))))))=res
        rw[idx_w hkt,nth_w hkt,hy]
        by_cases hc:y<x
        ·rw[cnd_y (decide_eq_true hc),idx_w hkt,nth_w hkt,hy]; exact K47 _ (by omega)
        ·rw[cnd_n (decide_eq_false hc)]; exact K47 _ (by omega)
       ·have ek:k=l.length:=by omega
        subst ek
        rw[zaj]
        have lz:(l.zip tk).length=l.length:=by rw[List.length_zip]; omega
        have ed:(l.zip tk).drop l.length=[]:=List.drop_of_length_le (by omega)
        have et:(l.zip tk).take l.length=l.zip tk:=List.take_of_length_le (by omega)
        rw[ed,et]at hr hm
        have e0:rowGo l[i] x []=([],[]):=rfl
        rw[e0,List.nil_append,List.append_nil]at hr hm
        rw[i64_s i (by omega)]
        refine hag _ ⟨i+1,p2,h2,gv.set i x,tk,out,m,rfl,by omega,by rw[List.length_set]; exact lg,lt,zse ng nx.1 nx.2,nt,St,?_,?_⟩ (by show _ - ((i+1:Nat):Int).toNat<_ - ((i:Nat):Int).toNat; omega)
        ·rw[zop]; exact hm
        ·rw[zop]; exact hr
      ·have ei:i=l.length:=by omega
       subst ei
       rw[zaj,←hr]
       have ed:(l.zip gv).drop l.length=[]:=List.drop_of_length_le (by rw[List.length_zip]; omega)
       rw[ed,fullGo]; rfl
     clear hk52
     show stdW.cnd (decide ((eachP (freeP (asS s) p h) l []).2.1<(eachP (owesP p) l []).2.1)) (k52 ((eachP (freeP (asS s) p h) l []).2.1,(l.map (fun u=>(owesP p u).1),(l.map (fun u=>(freeP (asS s) p h u).1),())))) (k52 ((eachP (owesP p) l []).2.1,(l.map (fun u=>(owesP p u).1),(l.map (fun u=>(freeP (asS s) p h u).1),()))))=_
     by_cases hc:(eachP (freeP (asS s) p h) l []).2.1<(eachP (owesP p) l []).2.1
     ·rw[cnd_y (decide_eq_true hc)]; exact K52 _ (by unfold dueP; omega)
     ·rw[cnd_n (decide_eq_false hc)]; exact K52 _ (by unfold dueP; omega)
    ·rw[if_neg e2,err _ e2]
     show stdW.cnd ((eachP (freeP (asS s) p h) l []).2.2.1 != 0) _ _=_
     rw[cnd_y (by simpa using e2)]; rfl
   ·rw[if_neg hW]
    rw[if_neg hW]at wE
    have e2:(eachP (freeP (asS s) p h) l []).2.2.1=errE (freeP (asS s) p h) l:=by rw[wE]
    rw[e2,if_neg hW,err _ hW]
  ·rw[if_neg e1,err _ e1]
   show stdW.cnd ((eachP (owesP p) l []).2.2.1 != 0) _ _=_
   rw[cnd_y (by simpa using e1)]; rfl
 ·rw[if_neg hE]
  rw[if_neg hE]at vE
  have e1:(eachP (owesP p) l []).2.2.1=errE (owesP p) l:=by rw[vE]
  rw[e1,if_neg hE,err _ hE]
end Go.Proofs.YtllkmncnmlmefaaGreat
