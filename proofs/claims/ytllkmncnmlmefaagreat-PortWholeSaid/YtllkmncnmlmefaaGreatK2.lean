import Derived.Test.YtllkmncnmlmefaaGreatK1
import Derived.WalkKit
import Derived.ProofKit
import Derived.OpenShut
import Derived.ShutString
import Derived.ChangeOld
import Derived.Below
import Derived.Lib.SmallJoins
namespace Go.Vc
open Go Go.RowKit
theorem ygx:∀(cs:List Value) (off s:Nat) (pre old post:List Value),pre.length=off+s→old.length=cs.length→
  (cs.zipIdx s).foldl (fun (a:Array Value) (p:Value×Nat)=>a.setIfInBounds (off+p.2) p.1) (pre++old++post).toArray=(pre++cs++post).toArray
 |[],_,_,pre,old,post,_,ho=>by
  cases old with
  |nil=>rfl
  |cons _ _=>simp at ho
 |c::cs,off,s,pre,old,post,hp,ho=>by
  cases old with
  |nil=>simp at ho
  |cons o old=>
   simp only[List.zipIdx_cons,List.foldl_cons]
   have e:((pre++o::old++post).toArray.setIfInBounds (off+s) c)=(pre++[c]++old++post).toArray:=by
    rw[List.setIfInBounds_toArray]
    congr 1
    rw[←hp]
    simp
   rw[e,ygx cs off (s+1) (pre++[c]) old post (by simp; omega) (by simpa using ho)]
   simp
def enumP:Nat→List Value→List (Nat×Value)
 |_,[]=>[]
 |i,v::vs=>(i,v)::enumP (i+1) vs
theorem ydv(k:Nat):∀(vs:List Value) (i:Nat) (pre rest:List Value),pre.length=i*k→rest.length=vs.length*k→(∀v∈vs,v.cells.size=k)→
  Instr.fill (fun i=>some (i*k,k)) (pre++rest).toArray (enumP i vs)=some (pre++vs.flatMap (·.cells.toList)).toArray
 |[],_,pre,rest,_,hr,_=>by
  have:rest=[]:=by cases rest<;>simp_all
  subst this
  simp[enumP,Instr.fill]
 |v::vs,i,pre,rest,hp,hr,hk=>by
  have hv:=hk v (by simp)
  have hr':rest.length=k+vs.length*k:=by rw[hr,List.length_cons,Nat.succ_mul]; omega
  simp only[enumP,Instr.fill]
  rw[if_neg (by simp[hv,hp]; omega)]
  have hs:pre++rest=pre++rest.take k++rest.drop k:=by simp
  have hz:v.cells.zipIdx.foldl (fun (cs:Array Value) (p:Value×Nat)=>cs.setIfInBounds (i*k+p.2) p.1) (pre++rest).toArray=(pre++v.cells.toList++rest.drop k).toArray:=by
   rw[←Array.foldl_toList,Array.toList_zipIdx,hs]
   exact ygx v.cells.toList (i*k) 0 pre (rest.take k) (rest.drop k) (by simpa using hp) (by simp[hv]; omega)
  rw[hz,ydv k vs (i+1) (pre++v.cells.toList) (rest.drop k) (by simp[hp,hv,Nat.succ_mul]) (by simp; omega) (fun u hu=>hk u (by simp[hu]))]
  simp
def entC(G:List (Value×R))(cs:List R)(v:Value):Prop:=match v with
 | .agg vs=>entL G cs vs.toList∧vs.toList.all (·.oneCell')=true
 |v=>entL G cs [v]∧v.oneCell'=true
theorem entC_spec{U:Nat→Prop}{w:World}{G:List (Value×R)}{cs:List R}{v:Value}(hG:Holds U w G)(h:entC G cs v):listH U w cs v.cells.toList∧∀u∈v.cells.toList,u.oneCell'=true:=by
 unfold entC at h
 split at h
 ·exact⟨zhx hG cs h.1,fun u hu=>List.all_eq_true.1 h.2 u hu⟩
 ·rename_i hv
  have e:v.cells = #[v]:=by
   cases v with
   |agg vs=>exact(hv vs rfl).elim
   |tuple vs=>simp[Value.oneCell']at h
   |_=>rfl
  rw[e]
  exact⟨zhx hG cs h.1,by simpa using h.2⟩
def entE(G:List (Value×R))(k:Nat):List (List R)→List Value→Prop
 |[],[]=>True
 |cs::els,v::vs=>cs.length=k∧entC G cs v∧entE G k els vs
 |_,_=>False
theorem yhd{U:Nat→Prop}{w:World}{G:List (Value×R)}{k:Nat}(hG:Holds U w G):∀{els:List (List R)} {vs:List Value},entE G k els vs→els.length=vs.length∧(∀l∈els,l.length=k)∧(∀v∈vs,v.cells.size=k)∧listH U w els.flatten (vs.flatMap (·.cells.toList))∧∀u∈vs.flatMap (·.cells.toList),u.oneCell'=true
 |[],[],_=>⟨rfl,by simp,by simp,by simp[listH],by simp⟩
 |cs::els,v::vs,h=>by
  obtain⟨h0,h1,h2⟩:=h
  obtain⟨h3,h4⟩:=entC_spec hG h1
  obtain⟨g1,g2,g3,g4,g5⟩:=yhd hG h2
  have hl:=zbe h3
  refine⟨by simp[g1],by simpa using⟨h0,g2⟩,?_,?_,?_⟩
  ·intro u hu
   rcases List.mem_cons.1 hu with rfl|hu
   ·simpa[h0]using hl
   ·exact g3 u hu
  ·simpa using zcv h3 g4
  ·intro u hu
   simp only[List.flatMap_cons,List.mem_append]at hu
   exact hu.elim (h4 u) (g5 u)
 |[],_::_,h=>h.elim
 |_::_,[],h=>h.elim
theorem zch(w:World)(o:Obj)(b:Nat)(hb:b<w.heap.size):(w.alloc o).heap[b]?=w.heap[b]?:=heap_alloc_old w o hb
theorem Ctx.alloc{V W:World}{U0:Nat→Prop}{L bs:List Nat}{os:List Own}{G:List (Value×R)}(H:Ctx V U0 L bs os G W)(_:∀b∈bs,b<W.heap.size)(o:Obj):Ctx V U0 L bs os G (W.alloc o):=by
 have l:Later (Us U0 bs os) (Us U0 bs os) W (W.alloc o):=⟨fun b hb _=>zch W o b hb,by simp,fun _ _ h=>h⟩
 refine⟨H.os_,H.tape,H.output,Nat.le_trans H.size (by simp),fun b hb hL=>?_,H.low,H.lowo,H.u0,H.nd,fun o' ho=>?_,H.facts.mono l⟩
 ·rw[zch W o b (Nat.lt_of_lt_of_le hb H.size)]; exact H.same b hb hL
 ·exact o'.mono (H.own o' ho) l fun b hb=>zch W o b (o'.lt (H.own o' ho) b hb)
theorem zgd{bx:List Box}{W w:World}(hs:Sync bx W w):∀b∈blks bx,b<w.heap.size:=by
 intro b hb
 simp only[blks,List.mem_map]at hb
 obtain⟨x,hx,rfl⟩:=hb
 exact hs.blk_lt hx
theorem znl{bx:List Box}{W w:World}(hs:Sync bx W w)(o:Obj):Kept (blks bx) w (w.alloc o):=fun b hb=>zch w o b (zgd hs b hb)
theorem Ctx.made{V w:World}{U0:Nat→Prop}{L bs:List Nat}{os:List Own}{G:List (Value×R)}{k:Nat}{els:List (List R)}{us:List Value}{e:TypeId}(H:Ctx V U0 L bs os G w)(hlt:∀b∈bs,b<w.heap.size)(hk:∀l∈els,l.length=k)
  (hus:listH (Us U0 bs os) w els.flatten us) (h1:∀u∈us,u.oneCell'=true) (hsm:els.length≤maxLen):
  Ctx V U0 L bs os ((.slice (some ⟨w.heap.size,0,none⟩) els.length els.length,.sl k els)::G) (w.alloc (.cells us.toArray e)):=by
 have H':=H.alloc hlt (.cells us.toArray e)
 have l:Later (Us U0 bs os) (Us U0 bs os) w (w.alloc (.cells us.toArray e)):=⟨fun b hb _=>zch w _ b hb,by simp,fun _ _ h=>h⟩
 have hf:(R.sl k els).h (Us U0 bs os) (w.alloc (.cells us.toArray e)) (.slice (some ⟨w.heap.size,0,none⟩) els.length els.length):=by
  simp only[R.h]
  refine⟨_,_,rfl,Nat.le_refl _,hsm,zdv.2 fun i cs hi=>?_⟩
  have hcl:=hk cs (List.mem_of_getElem? hi)
  refine⟨hcl,zhz.2 fun j r hj=>?_⟩
  obtain⟨u,hu,hru⟩:=zxm hus _ _ (zga hk hi j r hj)
  refine⟨_,u,rfl,?_,by simp,?_,h1 u (List.mem_of_getElem? hu),R.mono l r hru⟩
  ·rintro(h|h|h)
   ·exact absurd (H.u0 _ h) (by have:=H.size; simp only; omega)
   ·exact absurd (hlt _ h) (by simp)
   ·exact absurd (H.ltOwn h) (by simp)
  ·have hadd:(⟨w.heap.size,0,none⟩:Addr).add (0+i*k+j)=⟨w.heap.size,i*k+j,none⟩:=by rw[Nat.zero_add]; unfold Addr.add; split<;>simp_all
   rw[hadd,cell_of_row (w.alloc (.cells us.toArray e)) w.heap.size _ us.toArray e (0,0) (heap_alloc_new w _)]
   simpa using hu
 have hf':Holds (Us U0 bs os) (w.alloc (.cells us.toArray e)) ((.slice (some ⟨w.heap.size,0,none⟩) els.length els.length,.sl k els)::G):=by
  intro p hp
  rcases List.mem_cons.1 hp with rfl|hp
  ·exact hf
  ·exact H'.facts p hp
 exact { H' with facts:=hf' }
theorem Ctx.lit{P:Program}{t e:TypeId}{k bytes:Nat}(he:ElemOk P t e k bytes){V W w:World}{U0:Nat→Prop}{L bs:List Nat}{os:List Own}{G:List (Value×R)}{bx:List Box}{els:List (List R)}{n:Nat}{ps:Array (Nat×Value)}{K:Value→World→Prop}
  (H:Ctx V U0 L bs os G W) (hs:Sync bx W w) (vs:List Value) (hps:ps=(enumP 0 vs).toArray) (h:entE G k els vs) (hn:n=els.length) (hn0:0<n) (hsm:n*k≤16777216)
  (g:∀b w2,Ctx V U0 L bs os ((.slice (some ⟨b,0,none⟩) n n,.sl k els)::G) w2→K (.slice (some ⟨b,0,none⟩) n n) w2) (hb:blks bx=bs:=by rfl):
  RunsX P (Instr.buildSlice t n ps) w fun v w'=>Kept (blks bx) w w'∧K v w':=by
 have H:=H.sync hs hb
 subst hb hn hps
 obtain⟨i,z,hi,hz,hs1,hby,hzs⟩:=he.info
 obtain⟨g1,g2,g3,g4,g5⟩:=yhd H.facts h
 have hlt:=zgd hs
 have hk0:=he.pos
 refine⟨⟨_,_,run_buildSlice w t e els.length _ (vs.flatMap (·.cells.toList)).toArray i z he.under hi hz (by rw[hs1]; simp; omega) (by rw[hs1]; have:=Nat.mul_pos hn0 hk0; omega) ?_,znl hs _,g _ _ (H.made hlt g2 g4 g5 ?_)⟩⟩
 ·rw[hs1]
  have hz0:((Array.range (els.length*k)).map (z.cells[· % z.cells.size]!))=([]++((List.range (els.length*k)).map (z.cells[· % z.cells.size]!))).toArray:=by
   apply Array.ext'; simp
  rw[hz0,ydv k vs 0 [] _ (by simp) (by simp[g1]) g3]
  simp
 ·simp only[maxLen]
  have h2:els.length*1≤els.length*k:=Nat.mul_le_mul_left _ hk0
  omega
theorem zsn{os os':List Own}(h:List.Perm os os'):List.Perm (ownBl os) (ownBl os'):=by
 induction h with
 |nil=>exact List.Perm.refl _
 |cons o _ ih=>exact List.Perm.append_left _ ih
 |swap a b l=>
  simp only[ownBl]
  rw[←List.append_assoc,←List.append_assoc]
  exact List.Perm.append_right _ List.perm_append_comm
 |trans _ _ h1 h2=>exact h1.trans h2
theorem Ctx.perm{V W:World}{U0:Nat→Prop}{L bs:List Nat}{os os':List Own}{G:List (Value×R)}(H:Ctx V U0 L bs os G W)(h:List.Perm os os'):Ctx V U0 L bs os' G W:=by
 have hp:=zsn h
 have l:Later (Us U0 bs os) (Us U0 bs os') W W:=⟨fun _ _ _=>rfl,Nat.le_refl _,fun _ _ hb=>hb.imp id fun hb=>hb.imp id fun hb=>hp.mem_iff.2 hb⟩
 exact⟨H.os_,H.tape,H.output,H.size,H.same,H.low,fun b hb=>H.lowo b (hp.mem_iff.2 hb),H.u0,(List.Perm.append_left bs hp).nodup_iff.1 H.nd,fun o ho=>o.mono (H.own o (h.mem_iff.2 ho)) l fun _ _=>rfl,H.facts.mono l⟩
theorem Ctx.swap{V W:World}{U0:Nat→Prop}{L bs:List Nat}{o o':Own}{os:List Own}{G:List (Value×R)}(H:Ctx V U0 L bs (o::o'::os) G W):Ctx V U0 L bs (o'::o::os) G W:=H.perm (List.Perm.swap _ _ _)
theorem zkv{P:Program}{t ty e:TypeId}{size bytes n c c2:Nat}{a a2:Option Addr}(he:ElemOk P t e size bytes)(hn:n≤c)(w:World):
  (Builtin.append_ #[t,t] ty #[.slice a n c,.slice a2 0 c2]).run P w=.ok (.slice a n c) w:=by
 obtain⟨i,z,hi,hz,hs,hb,hzs⟩:=he.info
 have hf:(Builtin.firstCells i.size 0 (.slice a2 0 c2)).run P w=.ok #[] w:=by
  cases a2<;>simp[Builtin.firstCells,loadCells,loadCellsFrom]
 cases a<;>simp[Builtin.append_,run_underlying he.under,sizeOf,typeInfo,hi,Builtin.lenOf,hn,hf,storeCells]
theorem yfd{U:Nat→Prop}{w:World}{k:Nat}{a:Option Addr}{els:List (List R)}(h:rowsH U w a k 0 els)(hk:0<k)(hn:0<els.length):
  ∃ad,a=some ad∧∃us,us.length=els.length*k∧listH U w els.flatten us∧(∀u∈us,u.oneCell'=true)∧∀j u,us[j]?=some u→w.cell? (ad.add j)=some u:=by
 have all:∀(els:List (List R)) (off:Nat) (ad:Addr),rowsH U w (some ad) k off els→∃us,us.length=els.length*k∧listH U w els.flatten us∧(∀u∈us,u.oneCell'=true)∧∀j u,us[j]?=some u→w.cell? (ad.add (off+j))=some u:=by
  intro els
  induction els with
  |nil=>intro off ad _; exact⟨[],by simp,by simp[listH],by simp,by simp⟩
  |cons cs els ih=>
   intro off ad h
   simp only[rowsH]at h
   obtain⟨us,h1,h2,h3,h4⟩:=zkm h.2.1
   obtain⟨vs,g1,g2,g3,g4⟩:=ih _ ad h.2.2
   refine⟨us++vs,by simp[h1,g1,h.1,Nat.succ_mul]; omega,by simpa using zcv h2 g2,?_,fun j u hj=>?_⟩
   ·intro u hu; exact(List.mem_append.1 hu).elim (h3 u) (g3 u)
   ·rcases Nat.lt_or_ge j us.length with hlt|hge
    ·rw[List.getElem?_append_left hlt]at hj; exact h4 j u hj
    ·rw[List.getElem?_append_right hge]at hj
     have:=g4 _ u hj
     rwa [show off+k+(j - us.length)=off+j by rw[h1,h.1]at *; omega]at this
 obtain⟨ad,rfl⟩:∃ad,a=some ad:=by
  cases els with
  |nil=>simp at hn
  |cons cs els=>
   simp only[rowsH]at h
   cases cs with
   |nil=>simp at h; omega
   |cons r rs=>have:=h.2.1; simp only[cellsH]at this; obtain⟨⟨x,_,rfl,_⟩,_⟩:=this; exact⟨x,rfl⟩
 obtain⟨us,h⟩:=all els 0 ad h
 exact⟨ad,rfl,us,by simpa using h⟩
theorem Ctx.grown{V w w':World}{U0:Nat→Prop}{L bs:List Nat}{A B:List Own}{G:List (Value×R)}{e:TypeId}{k:Nat}{a a':Option Addr}{c c':Nat}{els els':List (List R)}(H:Ctx V U0 L bs (A++Own.row e k a c els::B) G w)(hlt:∀b∈bs,b<w.heap.size)
  (hg:w.grownBy w' (Value.slice a els.length c).ownBlock) (hat:(Value.slice a' els'.length c').ownBlock=(Value.slice a els.length c).ownBlock∨(Value.slice a' els'.length c').ownBlock=some w.heap.size)
  (hr:∀U',Later (Us U0 bs (A++Own.row e k a c els::B)) U' w w'→(Own.row e k a' c' els').h U' w'):Ctx V U0 L bs (A++Own.row e k a' c' els'::B) G w':=by
 have ob:∀(a:Option Addr) (n c:Nat),(Value.slice a n c).ownBlock=(oblk a).head?:=by intro a n c; cases a<;>rfl
 rw[ob]at hg hat
 rw[ob]at hat
 have hold:∀b,b∈oblk a↔(oblk a).head?=some b:=by intro b; cases a<;>simp[oblk,eq_comm]
 have hnew:∀b,b∈oblk a'→b∈oblk a∨b=w.heap.size:=by
  intro b hb
  have hb':(oblk a').head?=some b:=by cases a'<;>simp_all [oblk]
  rw[hb']at hat
  rcases hat with h|h
  ·exact .inl ((hold b).2 h.symm)
  ·exact .inr (by simpa using h)
 have same:∀b,b<w.heap.size→b∉oblk a→w'.heap[b]?=w.heap[b]?:=fun b hb hn=>hg.block b hb fun h=>hn ((hold b).2 h.symm)
 have hm:∀b,b∈ownBl (A++Own.row e k a c els::B)↔b∈ownBl A∨b∈oblk a∨b∈ownBl B:=by intro b; rw[zac]; simp[ownBl,Own.row]
 have hm':∀b,b∈ownBl (A++Own.row e k a' c' els'::B)↔b∈ownBl A∨b∈oblk a'∨b∈ownBl B:=by intro b; rw[zac]; simp[ownBl,Own.row]
 have l:Later (Us U0 bs (A++Own.row e k a c els::B)) (Us U0 bs (A++Own.row e k a' c' els'::B)) w w':=by
  refine⟨fun b hb hn=>same b hb fun h=>hn (.inr (.inr ((hm b).2 (.inr (.inl h))))),hg.size,fun b hb hu=>?_⟩
  rcases hu with hu|hu|hu
  ·exact .inl hu
  ·exact .inr (.inl hu)
  ·refine .inr (.inr ((hm b).2 ?_))
   rcases (hm' b).1 hu with h|h|h
   ·exact .inl h
   ·rcases hnew b h with h|h
    ·exact .inr (.inl h)
    ·omega
   ·exact .inr (.inr h)
 have hnd:=List.nodup_append.1 H.nd
 rw[zac]at hnd
 have hnd2:=List.nodup_append.1 hnd.2.1
 have hnd3:(oblk a++ownBl B).Nodup:=hnd2.2.1
 have hnd4:=List.nodup_append.1 hnd3
 have ltA:∀b∈ownBl A,b<w.heap.size:=fun b hb=>H.ltOwn ((hm b).2 (.inl hb))
 have ltB:∀b∈ownBl B,b<w.heap.size:=fun b hb=>H.ltOwn ((hm b).2 (.inr (.inr hb)))
 have hA:∀b∈ownBl A,b∉oblk a:=fun b hb h=>hnd2.2.2 b hb b (by simp[ownBl,Own.row,h]) rfl
 have hB:∀b∈ownBl B,b∉oblk a:=fun b hb h=>hnd4.2.2 b h b hb rfl
 have hbs:∀b∈bs,b∉oblk a:=fun b hb h=>hnd.2.2 b hb b (by simp[ownBl,Own.row,h]) rfl
 refine⟨hg.os.trans H.os_,hg.tape.trans H.tape,hg.output.trans H.output,Nat.le_trans H.size hg.size,fun b hb hL=>?_,H.low,fun b hb=>?_,H.u0,?_,fun o ho=>?_,H.facts.mono l⟩
 ·rw[same b (Nat.lt_of_lt_of_le hb H.size) fun h=>?_,H.same b hb hL]
  rcases H.lowo b ((hm b).2 (.inr (.inl h))) with h'|h'
  ·omega
  ·exact hL h'
 ·rcases (hm' b).1 hb with h|h|h
  ·exact H.lowo b ((hm b).2 (.inl h))
  ·rcases hnew b h with h|h
   ·exact H.lowo b ((hm b).2 (.inr (.inl h)))
   ·exact .inl (by rw[h]; exact H.size)
  ·exact H.lowo b ((hm b).2 (.inr (.inr h)))
 ·rw[zac]
  have ha':(oblk a').Nodup:=by cases a'<;>simp[oblk]
  refine List.nodup_append.2 ⟨hnd.1,List.nodup_append.2 ⟨hnd2.1,List.nodup_append.2 ⟨ha',hnd4.2.1,?_⟩,?_⟩,?_⟩
  ·intro b hb d hd e; subst e
   rcases hnew b hb with h|h
   ·exact hB b hd h
   ·have:=ltB b hd; omega
  ·intro b hb d hd e; subst e
   rcases List.mem_append.1 hd with hd|hd
   ·rcases hnew b hd with h|h
    ·exact hA b hb h
    ·have:=ltA b hb; omega
   ·exact hnd2.2.2 b hb b (by simp[ownBl,hd]) rfl
  ·intro b hb d hd e; subst e
   rcases List.mem_append.1 hd with hd|hd
   ·exact hnd.2.2 b hb b (by simp[hd]) rfl
   ·rcases List.mem_append.1 hd with hd|hd
    ·rcases hnew b hd with h|h
     ·exact hbs b hb h
     ·have:=hlt b hb; omega
    ·exact hnd.2.2 b hb b (by simp[ownBl,hd]) rfl
 ·rcases List.mem_append.1 ho with ho|ho
  ·have hmo:o∈A++Own.row e k a c els::B:=List.mem_append.2 (.inl ho)
   exact o.mono (H.own o hmo) l fun b hb=>same b (o.lt (H.own o hmo) b hb) (hA b (zcp.2 ⟨o,ho,hb⟩))
  ·rcases List.mem_cons.1 ho with rfl|ho
   ·exact hr _ l
   ·have hmo:o∈A++Own.row e k a c els::B:=List.mem_append.2 (.inr (List.mem_cons.2 (.inr ho)))
    exact o.mono (H.own o hmo) l fun b hb=>same b (o.lt (H.own o hmo) b hb) (hB b (zcp.2 ⟨o,ho,hb⟩))
theorem Ctx.app2{P:Program}{t ty e:TypeId}{k bytes:Nat}(he:ElemOk P t e k bytes){V W w:World}{U0:Nat→Prop}{L bs:List Nat}{A B:List Own}{G:List (Value×R)}{bx:List Box}{a a2:Option Addr}{n c m c2:Nat}{els news:List (List R)}{K:Value→World→Prop}
  (H:Ctx V U0 L bs (A++Own.row e k a c els::B) G W) (hs:Sync bx W w) (hn:n=els.length) (hm:(Value.slice a2 m c2,R.sl k news)∈G) (h63:n+news.length≤maxLen) (hbytes:(n+news.length)*bytes≤140737488355328)
  (g:∀a' c' w2,Ctx V U0 L bs (A++Own.row e k a' c' (els++news)::B) G w2→n+m=(els++news).length→w.grownBy w2 (Value.slice a n c).ownBlock→K (.slice a' (n+m) c') w2) (hb:blks bx=bs:=by rfl):
  RunsX P (Builtin.append_ #[t,t] ty #[.slice a n c,.slice a2 m c2]) w fun v w'=>Kept (blks bx) w w'∧K v w':=by
 have H:=H.sync hs hb
 subst hb hn
 have hlt:=zgd hs
 have hsrc:=H.facts _ hm
 simp only[R.h]at hsrc
 obtain⟨a2',c2',e2,_,_,hsrc⟩:=hsrc
 simp only[Value.slice.injEq]at e2
 obtain⟨rfl,rfl,rfl⟩:=e2
 obtain⟨xs,ho,hx,h1,hkl⟩:=H.own (Own.row e k a c els) (by simp)
 have hkn:∀l∈news,l.length=k:=by
  intro l hl
  obtain⟨i,hi⟩:=List.mem_iff_getElem?.1 hl
  exact((zdv.1 hsrc) i l hi).1
 rcases Nat.eq_zero_or_pos news.length with h0|h0
 ·have hnil:news=[]:=by cases news<;>simp_all
  subst hnil
  refine⟨⟨_,_,zkv he (zuy ho).1 w,fun _ _=>rfl,?_⟩⟩
  have:=g a c w (by simpa using H) (by simp) ⟨rfl,rfl,rfl,Nat.le_refl _,fun _ _ _=>rfl⟩
  simpa using this
 ·obtain⟨ad,rfl,us,hul,hus,hu1,hcs⟩:=yfd hsrc he.pos h0
  refine(zwm he (base:=0) ho hul hcs hu1 h63 hbytes (Nat.zero_le _)).mono ?_
  rintro _ w2 ⟨a',c',rfl,ho2,hg,hat⟩
  have hlen:els.length+news.length=(els++news).length:=by simp
  refine⟨yaj hs hg fun q hq=>?_,g a' c' w2 (H.grown hlt hg (by simpa using hat) fun U' l=>?_) hlen hg⟩
  ·refine zdc.2 fun hb=>?_
   have hq':q∈oblk a:=by
    cases a with
    |none=>simp[Value.ownBlock]at hq
    |some x=>simp only[Value.ownBlock,Option.some.injEq]at hq; subst hq; simp[oblk]
   have hnd:=List.nodup_append.1 H.nd
   exact hnd.2.2 q hb q (by rw[zac]; simp[ownBl,Own.row,hq']) rfl
  ·refine⟨xs++us,by rw[←hlen]; exact ho2,?_,?_,?_⟩
   ·rw[List.flatten_append]; exact zcv (zbj l _ hx) (zbj l _ hus)
   ·intro u hu; exact(List.mem_append.1 hu).elim (h1 u) (hu1 u)
   ·intro l' hl; exact(List.mem_append.1 hl).elim (hkl l') (hkn l')
theorem Ctx.app{P:Program}{t ty e:TypeId}{k bytes:Nat}(he:ElemOk P t e k bytes){V W w:World}{U0:Nat→Prop}{L bs:List Nat}{A B:List Own}{G:List (Value×R)}{bx:List Box}{a a2:Option Addr}{n c m c2:Nat}{els news:List (List R)}{K:Value→World→Prop}
  (H:Ctx V U0 L bs (A++Own.row e k a c els::B) G W) (hs:Sync bx W w) (hn:n=els.length) (hm:(Value.slice a2 m c2,R.sl k news)∈G) (h63:n+news.length≤maxLen) (hbytes:(n+news.length)*bytes≤140737488355328)
  (g:∀a' c' w2,Ctx V U0 L bs (A++Own.row e k a' c' (els++news)::B) G w2→n+m=(els++news).length→K (.slice a' (n+m) c') w2) (hb:blks bx=bs:=by rfl):
  RunsX P (Builtin.append_ #[t,t] ty #[.slice a n c,.slice a2 m c2]) w fun v w'=>Kept (blks bx) w w'∧K v w':=Ctx.app2 he H hs hn hm h63 hbytes (fun a' c' w2 H hl _=>g a' c' w2 H hl) hb
end Go.Vc
namespace Go.Vc
open Go Go.RowKit Go.ChangeShapes Go.WideShapes
def noU:Nat→Prop:=fun _=>False
def Opn(P:Program)(t:TypeId)(α:Type)(cells:α→List R)(ok:α→Prop):Prop:=
 ∀(H:Type) (enc:TypeId×Value→H) (w:World) (base:Nat) (spare:Nat→Bool) (held:Bool) (fuel:Nat) (cs:List Value) (x:DataW H×List MemPlace),
  DataW.trod enc P w base spare held fuel t cs=some x→∃a,ok a∧listH noU w (cells a) cs∧∀u∈cs,u.oneCell'=true
theorem Opn.int{P:Program}{t:TypeId}{k:IntKind}(ht:P.underlying t=some (.int k)):Opn P t Int (fun n=>[.val (.int k n)]) (fun n=>(Lit.int k n).wf=true):=by
 intro H enc w base spare held fuel cs x h
 obtain⟨n,rfl,_,hw⟩:=DataW.trod_int ht h
 exact⟨n,hw,by simp[listH,R.h],by simp[Value.oneCell']⟩
theorem Opn.bool{P:Program}{t:TypeId}(ht:P.underlying t=some .bool):Opn P t Bool (fun b=>[.val (.bool b)]) (fun _=>True):=by
 intro H enc w base spare held fuel cs x h
 obtain⟨n,rfl,_⟩:=DataW.trod_bool ht h
 exact⟨n,trivial,by simp[listH,R.h],by simp[Value.oneCell']⟩
theorem zyl{α:Type}{Q:Nat→α→Prop}:∀(n:Nat),(∀i,i<n→∃a,Q i a)→∃l:List α,l.length=n∧∀i a,l[i]?=some a→Q i a
 |0,_=>⟨[],rfl,by simp⟩
 |n+1,h=>by
  obtain⟨l,hl,hq⟩:=zyl n fun i hi=>h i (by omega)
  obtain⟨a,ha⟩:=h n (by omega)
  refine⟨l++[a],by simp[hl],fun i b hb=>?_⟩
  rcases Nat.lt_or_ge i n with hi|hi
  ·rw[List.getElem?_append_left (by omega)]at hb; exact hq i b hb
  ·rw[List.getElem?_append_right (by omega),hl]at hb
   rcases Nat.eq_or_lt_of_le hi with e|e
   ·subst e; simp at hb; subst hb; exact ha
   ·rw[List.getElem?_eq_none (by simp; omega)]at hb; cases hb
theorem cells_get{w:World}{base:Nat}{a:Addr}{n:Nat}{cs:List Value}(h:w.cells? base a n=some cs):cs.length=n∧∀j u,cs[j]?=some u→w.cell? (a.add j)=some u:=by
 unfold World.cells? at h
 split at h
 ·have hl:=mapM_some_length h
  refine⟨by simpa using hl,fun j u hj=>?_⟩
  have hlt:j<n:=by have:=(List.getElem?_eq_some_iff.1 hj).1; simp at hl; omega
  have:=mapM_some_get h j j (by simp[hlt])
  rw[this,hj]
 ·cases h
theorem yhj{U:Nat→Prop}{w:World}{ad:Addr}:∀{rs:List R} {us:List Value} {off:Nat},listH U w rs us→(∀u∈us,u.oneCell'=true)→(∀j u,us[j]?=some u→w.cell? (ad.add (off+j))=some u)→(rs≠[]→¬U ad.block∧ad.block<w.heap.size)→cellsH U w (some ad) off rs
 |[],us,off,_,_,_,_=>by simp only[cellsH]
 |r::rs,us,off,h,h1,hc,hb=>by
  simp only[listH]at h
  obtain⟨u,us,rfl,hu,h⟩:=h
  simp only[cellsH]
  refine⟨⟨ad,u,rfl,(hb (by simp)).1,(hb (by simp)).2,by simpa using hc 0 u rfl,h1 u (by simp),hu⟩,yhj h (fun v hv=>h1 v (by simp[hv])) (fun j v hj=>?_) (fun _=>hb (by simp))⟩
  have:=hc (j+1) v (by simpa using hj)
  rwa [show off+1+j=off+(j+1) by omega]
theorem Opn.slice{P:Program}{t e:TypeId}{α:Type}{cells:α→List R}{ok:α→Prop}{k:Nat}(ht:P.underlying t=some (.slice e))(hk:P.cellsOf e=k)(he:Opn P e α cells ok):
  Opn P t (List α) (fun l=>[.sl k (l.map cells)]) (fun l=>(∀a∈l,ok a)∧l.length≤maxLen):=by
 subst hk
 intro H enc w base spare held fuel cs x h
 rcases DataW.trod_slice ht h with ⟨rfl,_⟩|⟨a,len,cap,elems,rest,n,_,rfl,_,hb,hl,hm,hlen,hel,_,_⟩
 ·exact⟨[],⟨by simp,Nat.zero_le _⟩,by simp[listH,R.h,rowsH]; exact⟨none,0,⟨rfl,rfl⟩,Nat.zero_le _⟩,by simp[Value.oneCell']⟩
 ·have hq:∀i,i<len→∃b:α,ok b∧∃us,us.length=P.cellsOf e∧listH noU w (cells b) us∧(∀u∈us,u.oneCell'=true)∧∀j u,us[j]?=some u→w.cell? (a.add (i*P.cellsOf e+j))=some u:=by
   intro i hi
   have h1:=hel i hi
   have h2:elems[i]?=some elems[i]:=List.getElem?_eq_getElem (by omega)
   rw[h2,Option.bind_eq_some_iff]at h1
   obtain⟨us,h3,h4⟩:=h1
   obtain⟨b,hb1,hb2,hb3⟩:=he H enc w base spare held n us _ h4
   obtain⟨g1,g2⟩:=cells_get h3
   refine⟨b,hb1,us,g1,hb2,hb3,fun j u hj=>?_⟩
   have:=g2 j u hj
   rwa [Addr.add_add]at this
  obtain⟨l,hll,hl2⟩:=zyl len hq
  refine⟨l,⟨fun b hb=>?_,by omega⟩,?_,by simp[Value.oneCell']⟩
  ·obtain⟨i,hi⟩:=List.mem_iff_getElem?.1 hb
   exact(hl2 i b hi).1
  ·simp only[listH]
   refine⟨_,[],rfl,?_,rfl⟩
   simp only[R.h]
   refine⟨some a,cap,by simp[hll],by simp[hll,hl],hm,zdv.2 fun i cs hi=>?_⟩
   simp only[List.getElem?_map,Option.map_eq_some_iff]at hi
   obtain⟨b,hb1,rfl⟩:=hi
   obtain⟨_,us,g1,g2,g3,g4⟩:=hl2 i b hb1
   refine⟨by rw[←g1]; exact(zbe g2).symm,yhj g2 g3 (fun j u hj=>by simpa using g4 j u hj) fun hne=>⟨fun h=>h,?_⟩⟩
   have hul:=zbe g2
   cases us with
   |nil=>exact absurd (by simpa using hul.symm) hne
   |cons u us=>
    have:=World.block_lt_of_cell? w _ (g4 0 u rfl)
    rwa [zbq]at this
def OpnF(P:Program)(fl:List Field)(off:Nat)(α:Type)(cells:α→List R)(ok:α→Prop):Prop:=
 ∀(H:Type) (enc:TypeId×Value→H) (w:World) (base:Nat) (spare:Nat→Bool) (held:Bool) (fuel:Nat) (cs:List Value) (n:Nat),cs.length=n→fl.foldl (fun s f=>s+P.cellsOf f.type) off=n→
  (∀f∈fl,∃x,DataW.trod enc P w base spare held fuel f.type ((cs.drop f.offset).take (P.cellsOf f.type))=some x)→∃a,ok a∧listH noU w (cells a) (cs.drop off)∧∀u∈cs.drop off,u.oneCell'=true
theorem OpnF.nil{P:Program}{off:Nat}:OpnF P [] off Unit (fun _=>[]) (fun _=>True):=by
 intro H enc w base spare held fuel cs n hl hn _
 simp at hn
 have:cs.drop off=[]:=by simp; omega
 rw[this]
 exact⟨(),trivial,by simp[listH],by simp⟩
theorem OpnF.cons{P:Program}{f:Field}{fl:List Field}{off:Nat}{α β:Type}{c1:α→List R}{o1:α→Prop}{c2:β→List R}{o2:β→Prop}{k:Nat}(ho:f.offset=off)(hk:P.cellsOf f.type=k)(h1:Opn P f.type α c1 o1)(h2:OpnF P fl (off+k) β c2 o2):
  OpnF P (f::fl) off (α×β) (fun p=>c1 p.1++c2 p.2) (fun p=>o1 p.1∧o2 p.2):=by
 intro H enc w base spare held fuel cs n hl hn hf
 subst ho hk
 obtain⟨x,hx⟩:=hf f (by simp)
 obtain⟨a,a1,a2,a3⟩:=h1 H enc w base spare held fuel _ x hx
 obtain⟨b,b1,b2,b3⟩:=h2 H enc w base spare held fuel cs n hl (by simpa using hn) fun g hg=>hf g (by simp[hg])
 have e:cs.drop f.offset=(cs.drop f.offset).take (P.cellsOf f.type)++cs.drop (f.offset+P.cellsOf f.type):=by
  rw[←List.drop_drop,List.take_append_drop]
 refine⟨(a,b),⟨a1,b1⟩,?_,?_⟩
 ·rw[e]; exact zcv a2 b2
 ·rw[e]; intro u hu; exact(List.mem_append.1 hu).elim (a3 u) (b3 u)
theorem Opn.struct{P:Program}{t:TypeId}{fs:Array Field}{α:Type}{cells:α→List R}{ok:α→Prop}(ht:P.underlying t=some (.struct fs))(hs:fs.toList.foldl (fun s f=>s+P.cellsOf f.type) 0=P.cellsOf t)(h:OpnF P fs.toList 0 α cells ok):Opn P t α cells ok:=by
 intro H enc w base spare held fuel cs x hx
 obtain⟨xs,n,_,_,hl,hxl,hf⟩:=DataW.trod_struct ht hx
 have:=h H enc w base spare held n cs _ hl hs fun f hf'=>by
  obtain⟨i,hi⟩:=List.mem_iff_getElem?.1 hf'
  have h1:=hf i f (by simpa using hi)
  have hlt:=(List.getElem?_eq_some_iff.1 hi).1
  rw[List.getElem?_eq_getElem (by rw[hxl]; simpa using hlt)]at h1
  exact⟨_,h1⟩
 simpa using this
theorem openS{P:Program}{t:TypeId}{fs:Array Field}{α:Type}{cells:α→List R}{ok:α→Prop}(ht:P.underlying t=some (.struct fs))(ho:Opn P t α cells ok){H:Type}{enc:TypeId×Value→H}{w:World}{r:Reach}{b0 base:Nat}{spare:Nat→Bool}{held:Bool}{v:Value}{d:DataW H}{p:List MemPlace}
  (hv:Value.okWide P w r b0 t v) (h:DataW.Trod enc P w base spare held t v d p):∃a,ok a∧(R.agg (cells a)).h noU w v:=by
 obtain⟨cs,rfl,_⟩:=okWide_struct ht hv
 obtain⟨fuel,h⟩:=h
 obtain⟨a,h1,h2,_⟩:=ho H enc w base spare held fuel _ _ h
 exact⟨a,h1,by simp only[R.h]; exact⟨cs,rfl,by simpa[Value.cells]using h2⟩⟩
theorem holds_list{w:World}:∀{ars:List R} {vs:List Value},listH noU w ars vs→listH (Us noU [] []) w ars vs:=fun h=>zbj ⟨fun _ _ _=>rfl,Nat.le_refl _,fun _ _ h=>by rcases h with h|h|h<;>simp_all [noU,ownBl]⟩ _ h
theorem Ct.says{P:Program}{f:FuncId}{ars:List R}{vs:List Value}{w:World}(h:Ct P f ars (.val (.bool true)))(hv:listH noU w ars vs)(hb:zku P f):Calls P f vs.toArray w fun e w'=>e=.returned (.bool true)∧Below w.heap.size w w':=by
 obtain⟨G,hc,hG⟩:=zfk ars (holds_list hv) h
 have H:Ctx w noU [] [] [] G w:=⟨rfl,rfl,rfl,Nat.le_refl _,fun _ _ _=>rfl,by simp,by simp[ownBl],fun _ h=>h.elim,by simp[ownBl],by simp,hG⟩
 refine((hc noU w H).calls hb).mono ?_
 rintro e w' ⟨v,rfl,os',G',⟨rfl,hq⟩,h⟩
 simp only[ent]at hq
 subst hq
 exact⟨rfl,h.os_,h.tape,h.output,h.size,fun b hb=>h.same b hb (by simp[ownBl])⟩
end Go.Vc
namespace Go.Vc
open Go Go.RowKit
theorem getElem?_take_drop{α:Type}(l:List α)(lo hi i:Nat)(x:α)(h:((l.take hi).drop lo)[i]?=some x):l[lo+i]?=some x:=by
 rw[List.getElem?_drop,List.getElem?_take]at h
 split at h
 ·exact h
 ·cases h
theorem yhy{U:Nat→Prop}{w:World}{k:Nat}{els:List (List R)}{a:Option Addr}{n c:Nat}(h:(R.sl k els).h U w (.slice a n c))(lo hi:Nat)(h1:lo≤hi)(h2:hi≤n):
  (R.sl k ((els.take hi).drop lo)).h U w (.slice (if c=lo then a else a.map (·.add (lo*k))) (hi - lo) (c - lo)):=by
 simp only[R.h]at h
 obtain⟨a',c',e,hcap,hm,h⟩:=h
 simp only[Value.slice.injEq]at e
 obtain⟨rfl,rfl,rfl⟩:=e
 have hlen:((els.take hi).drop lo).length=hi - lo:=by rw[List.length_drop,List.length_take]; omega
 simp only[R.h]
 refine⟨_,_,by rw[hlen],by rw[hlen]; omega,by omega,zdv.2 fun i cs hi'=>?_⟩
 have hlt:i<hi - lo:=by rw[←hlen]; exact(List.getElem?_eq_some_iff.1 hi').1
 obtain⟨g1,g2⟩:=zdv.1 h (lo+i) cs (getElem?_take_drop _ _ _ _ _ hi')
 refine⟨g1,zhz.2 fun j r hj=>?_⟩
 obtain⟨x,u,rfl,hu,hl,hc,rest⟩:=zhz.1 g2 j r hj
 rw[if_neg (by omega)]
 refine⟨x.add (lo*k),u,rfl,by rwa [zbq],by rwa [zbq],?_,rest⟩
 rw[Addr.add_add]
 have e:lo*k+(0+i*k+j)=0+(lo+i)*k+j:=by simp only[Nat.add_mul]; omega
 rw[e]; exact hc
theorem sl_prefix{U:Nat→Prop}{w:World}{k:Nat}{els:List (List R)}{a:Option Addr}{n c:Nat}(h:(R.sl k els).h U w (.slice a n c))(hi:Nat)(h2:hi≤n):(R.sl k (els.take hi)).h U w (.slice a hi c):=by
 have hc:n≤c:=by
  simp only[R.h]at h
  obtain⟨a',c',e,hcap,_⟩:=h
  simp only[Value.slice.injEq]at e
  omega
 have:=yhy h 0 hi (Nat.zero_le _) h2
 simp only[List.drop_zero,Nat.sub_zero,Nat.zero_mul]at this
 have e:(if c=0 then a else a.map (·.add 0))=a:=by
  split
  ·rfl
  ·cases a with
   |none=>rfl
   |some x=>simp only[Option.map_some]; congr 1
 rwa [e]at this
theorem Ctx.part{V W:World}{U0:Nat→Prop}{L bs:List Nat}{os:List Own}{G:List (Value×R)}{a:Option Addr}{n c k:Nat}{els:List (List R)}(H:Ctx V U0 L bs os G W)(hm:(Value.slice a n c,R.sl k els)∈G)(lo hi:Nat)(h1:lo≤hi)(h2:hi≤n):
  Ctx V U0 L bs os ((.slice (if c=lo then a else a.map (·.add (lo*k))) (hi - lo) (c - lo),.sl k ((els.take hi).drop lo))::G) W:=by
 have hf:Holds (Us U0 bs os) W ((.slice (if c=lo then a else a.map (·.add (lo*k))) (hi - lo) (c - lo),.sl k ((els.take hi).drop lo))::G):=by
  intro p hp
  rcases List.mem_cons.1 hp with rfl|hp
  ·exact yhy (H.facts _ hm) lo hi h1 h2
  ·exact H.facts p hp
 exact { H with facts:=hf }
def subG(G:List (Value×R)):List (Value×R)→Prop
 |[]=>True
 |p::ps=>p∈G∧subG G ps
theorem zpn{G:List (Value×R)}:∀{G':List (Value×R)},subG G G'→∀p∈G',p∈G
 |[],_,p,hp=>by cases hp
 |q::G',h,p,hp=>by
  rcases List.mem_cons.1 hp with rfl|hp
  ·exact h.1
  ·exact zpn h.2 p hp
theorem Ctx.cg{P:Program}{f:FuncId}{vs:List Value}{V W w:World}{U0:Nat→Prop}{L bs:List Nat}{os1 os2:List Own}{G Gc:List (Value×R)}{bx:List Box}{ids:List Nat}{Q:Value→List Own→List (Value×R)→Prop}{K:Value→World→Prop}
  (H:Ctx V U0 L bs (os1++os2) G W) (hs:Sync bx W w) (hc:CtG P f vs os1 Gc Q)
  (k:∀v os' G' w2,Q v os' G'→Ctx V U0 L bs (os'++os2) (appG G' G) w2→K v w2)
  (hG:subG G Gc:=by repeat (first|exact trivial|exact List.Mem.head _|apply List.Mem.tail|refine⟨?_,?_⟩)) (hb:blks bx=bs:=by rfl):
  CallsX P f vs.toArray w fun u w'=>Kept (keptB ids 0 bx) w w'∧K u w':=by
 have h2:∀p∈Gc,ent G p.2 p.1∨True:=fun _ _=>.inr trivial
 have H:=H.sync hs hb
 subst hb
 refine(hc _ w (H.lend (zgd hs) fun p hp=>H.facts p (zpn hG p hp))).mono ?_
 rintro v w2 ⟨os',G',hq,h⟩
 exact⟨H.leaves ids hs h,k v os' G' w2 hq (H.called h)⟩
theorem Ctx.at{V W:World}{U0:Nat→Prop}{L bs:List Nat}{os:List Own}{G:List (Value×R)}{a:Option Addr}{n c k i:Nat}{els:List (List R)}{cs:List R}{Goal:Prop}(H:Ctx V U0 L bs os G W)
  (hi:els[i]?=some cs) (hk:0<cs.length)
  (g:∀ad,a=some ad→(¬Us U0 bs os ad.block)→getL cs fun us G'=>Ctx V U0 L bs os (appG G' G) W→us.length=k→zez W (ad.add (i*k)) 0 us→Goal)
  (hm:(Value.slice a n c,R.sl k els)∈G:=by repeat (first|exact List.Mem.head _|apply List.Mem.tail)):Goal:=H.elem hm hi hk g
theorem Us.box{U0:Nat→Prop}{bx:List Box}{bs:List Nat}{os:List Own}{b:Nat}(h:¬Us U0 bs os b)(hb:blks bx=bs:=by rfl):notBox bx b:=zdc.2 fun hm=>h (.inr (.inl (hb▸hm)))
theorem Us.ad{U0:Nat→Prop}{bs:List Nat}{os:List Own}{a:Addr}{j:Nat}(h:¬Us U0 bs os a.block):¬Us U0 bs os (a.add j).block:=by rw[zbq]; exact h
theorem zlx{W:World}{a:Addr}{us:List Value}(h:zez W a 0 us)(off m:Nat):zez W (a.add off) 0 ((us.drop off).take m):=by
 refine zia _ 0 fun j u hj=>?_
 rw[Addr.add_add,Nat.zero_add]
 rw[List.getElem?_take]at hj
 split at hj
 ·rw[List.getElem?_drop]at hj
  have:=zkn us 0 h (off+j) u hj
  simpa using this
 ·cases hj
theorem Ctx.ap{P:Program}{t ty e:TypeId}{k bytes:Nat}{V W w:World}{U0:Nat→Prop}{L bs:List Nat}{B:List Own}{G:List (Value×R)}{bx:List Box}{a a2:Option Addr}{n c m c2:Nat}{els news:List (List R)}{K:Value→World→Prop}
  (H:Ctx V U0 L bs (Own.row e k a c els::B) G W) (hs:Sync bx W w) (he:ElemOk P t e k bytes) (hn:n=els.length) (h63:n+news.length≤maxLen) (hbytes:(n+news.length)*bytes≤140737488355328)
  (g:∀a' c' w2,Ctx V U0 L bs (Own.row e k a' c' (els++news)::B) G w2→n+m=(els++news).length→K (.slice a' (n+m) c') w2)
  (hm:(Value.slice a2 m c2,R.sl k news)∈G:=by repeat (first|exact List.Mem.head _|apply List.Mem.tail)) (hb:blks bx=bs:=by rfl):
  RunsX P (Builtin.append_ #[t,t] ty #[.slice a n c,.slice a2 m c2]) w fun v w'=>Kept (blks bx) w w'∧K v w':=Ctx.app (A:=[]) he H hs hn hm h63 hbytes g hb
theorem Ctx.keep{V W:World}{U0:Nat→Prop}{L bs:List Nat}{os:List Own}{G:List (Value×R)}(H:Ctx V U0 L bs os G W)(G':List (Value×R))(h:subG G G':=by repeat (first|exact trivial|exact List.Mem.head _|apply List.Mem.tail|refine⟨?_,?_⟩)):Ctx V U0 L bs os G' W:=
 H.weak (List.Sublist.refl _) (List.Sublist.refl _) (zpn h)
theorem xInc{i:Nat}(h:i+1≤maxLen):XV.int .i64 (IntKind.i64.wrap ((i:Int)+1))=.int .i64 ((i+1:Nat):Int):=by
 have:IntKind.i64.wrap ((i:Int)+1)=(i:Int)+1:=IntWalk.i64_in _ (by simp only[maxLen]at h; omega)
 rw[this]; rfl
theorem zax:maxLen=9223372036854775807:=by simp[maxLen]
structure SyncS(S I:List Nat)(bx:List Box)(W w:World):Prop where
 os:w.os=W.os
 tape:w.tape=W.tape
 output:w.output=W.output
 size:W.heap.size≤w.heap.size
 same:∀b,b<W.heap.size→b∉blks bx→b∉S→w.heap[b]?=W.heap[b]?
 own:∀(i:Nat) x,bx[i]?=some x→i∉I→w.heap[x.blk]?=some (.cells (denL x.cells).toArray x.ty (0,0))
theorem Sync.S{bx:List Box}{W w:World}(h:Sync bx W w)(S I:List Nat):SyncS S I bx W w:=⟨h.os,h.tape,h.output,h.size,fun b h1 h2 _=>h.same b h1 h2,fun _ x hx _=>h.own x (List.mem_of_getElem? hx)⟩
structure ExtS(S I:List Nat)(bx0:List Box)(W0:World)(bx:List Box)(W:World):Prop where
 sync:∀w,SyncS S I bx W w→SyncS S I bx0 W0 w
 pre:∃l,blks bx=blks bx0++l
def awayK(S I:List Nat):XV→Prop
 | .ptr ad=>ad.block∉S
 | .own i _ _=>memN i I=false
 |_=>True
theorem ydh{i:Nat}{I:List Nat}:memN i I=false↔i∉I:=by
 induction I with
 |nil=>simp[memN]
 |cons j I ih=>
  simp only[memN]
  split
  ·rename_i h; have:=Nat.eq_of_beq_eq_true h; simp[this]
  ·rename_i h; have:=Nat.ne_of_beq_eq_false h; simp[ih,this]
def rdOpS(S I:List Nat)(T:List TI)(o:Oper)(ts:List XV)(bx:List Box)(W:World)(ret:Ret):Prop:=
 match o.op with
 | .load t a=>opK ts a fun A=>awayK S I A∧loadX T t A bx W ret
 |op=>pureK T op ts ret
theorem loadX_anyS{P:Program}{T:List TI}{t:TypeId}{A:XV}{ret:XV→Prop}{ts:List XV}{bx:List Box}{a:Act}{w W:World}{l S I:List Nat}(hT:zba P T)(haw:awayK S I A)(h:loadX T t A bx W ret)(inv:Inv ts bx a w W)(hA:A.wf (blks bx++l)):
  ∃r:XV,ret r∧r.wf (blks bx++l)∧∀w',SyncS S I bx W w'→(Instr.loadAt t A.den).run P w'=.ok r.den w':=by
 have hA:A.wf (blks bx):=by
  cases A with
  |own i b off=>
   unfold loadX at h
   obtain⟨ti,hf,h⟩:=zae hT h
   obtain⟨z,hz,h⟩:=zrl h
   simp only[XV.wf]at hA ⊢
   have hi:i<(blks bx).length:=by simpa[blks]using(List.getElem?_eq_some_iff.1 hz).1
   rwa [List.getElem?_append_left hi]at hA
  |ptr ad=>simp[XV.wf]
  |_=>unfold loadX at h; obtain⟨ti,hf,h⟩:=zae hT h; exact h.elim
 obtain⟨r,h1,h2,h3,h4⟩:=zss (P:=P) hT h inv hA
 refine⟨r,h1,wf_app h2 l,fun w' hs=>h4 w' ?_⟩
 rcases h3 with ⟨i,b,off,rfl⟩|⟨ad,rfl,hn,hlt⟩
 ·simp only[XV.wf]at hA
  simp only[blks,List.getElem?_map]at hA
  obtain⟨z,hz,hzb⟩:=Option.map_eq_some_iff.1 hA
  have hm:=List.mem_of_getElem? hz
  simp only[zlk]
  rw[←hzb,hs.own i z hz (ydh.1 haw),inv.sync.own z hm]
 ·simp only[zlk]
  rw[hs.same _ hlt hn haw,inv.sync.same _ hlt hn]
theorem rdOp_specS{P:Program}{T:List TI}{o:Oper}{ret:XV→Prop}{ts ts0:List XV}{bx0:List Box}{a a00:Act}{w0 W0:World}{l S I:List Nat}(hT:zba P T)(h:rdOpS S I T o ts bx0 W0 ret)(inv0:Inv ts0 bx0 a00 w0 W0)(hr:Rel (blks bx0++l) ts a.tmps.toList):
  ∃r:XV,ret r∧r.wf (blks bx0++l)∧∀w',SyncS S I bx0 W0 w'→(execOp a.eval o).run P w'=.ok (.value r.den) w':=by
 unfold rdOpS at h
 split at h
 ·rename_i t x ho
  obtain⟨A,⟨haw,h⟩,hw,hA⟩:=zap h hr
  obtain⟨r,h1,h2,h3⟩:=loadX_anyS (P:=P) hT haw h inv0 hw
  exact⟨r,h1,h2,fun w' hs=>by rw[ylg ho,hA,h3 w' hs]; rfl⟩
 ·obtain⟨r,h1,h2,h3⟩:=yfn (P:=P) hT h hr
  exact⟨r,h1,h2,fun w' _=>h3 w'⟩
def eqOff(I:List Nat):Nat→List Box→List Box→Prop
 |_,[],[]=>True
 |i,x::xs,y::ys=>(match memN i I with|true=>x.blk=y.blk|false=>x=y)∧eqOff I (i+1) xs ys
 |_,_,_=>False
theorem yat{I:List Nat}:∀{i:Nat} {xs ys:List Box},eqOff I i xs ys→blks xs=blks ys∧∀j x,xs[j]?=some x→i+j∉I→ys[j]?=some x
 |_,[],[],_=>⟨rfl,by simp⟩
 |i,x::xs,y::ys,h=>by
  obtain⟨h1,h2⟩:=h
  obtain⟨h3,h4⟩:=yat h2
  have hb:x.blk=y.blk:=by
   split at h1
   ·exact h1
   ·rw[h1]
  refine⟨by simp only[blks,List.map_cons]at *; rw[hb,h3],fun j z hz hn=>?_⟩
  cases j with
  |zero=>
   simp at hz; subst hz
   split at h1
   ·rename_i hm; exact absurd (ydh.2 hn) (by simpa using hm)
   ·simp[h1]
  |succ j=>simpa using h4 j z (by simpa using hz) (by rwa [show i+1+j=i+(j+1) by omega])
 |_,[],_::_,h=>h.elim
 |_,_::_,[],h=>h.elim
theorem ExtS.store{S I:List Nat}{bx0 bx bx':List Box}{W0 W:World}(e:ExtS S I bx0 W0 bx W)(h:eqOff I 0 bx bx'):ExtS S I bx0 W0 bx' W:=by
 obtain⟨h1,h2⟩:=yat h
 refine⟨fun w g=>e.sync w ⟨g.os,g.tape,g.output,g.size,fun b a1 a2 a3=>g.same b a1 (by rwa [←h1]) a3,fun i x hx hn=>?_⟩,by rw[←h1]; exact e.pre⟩
 have:=h2 i x hx (by simpa using hn)
 exact g.own i x this hn
end Go.Vc
namespace Go.Vc
open Go Go.RowKit
def Own.obj(b:Nat)(ty:TypeId)(us:List Value):Own where
 bl:=[b]
 h _ w:=w.heap[b]?=some (.cells us.toArray ty (0,0))
 mono:=by intro U U' w w' h l hk; exact(hk b (by simp)).trans h
 lt:=by intro U w h c hc; simp only[List.mem_singleton]at hc; subst hc; exact(Array.getElem?_eq_some_iff.1 h).1
theorem Ctx.reown{V W:World}{U0:Nat→Prop}{L bs bs':List Nat}{os os':List Own}{G:List (Value×R)}(H:Ctx V U0 L bs os G W)(hp:List.Perm (bs++ownBl os) (bs'++ownBl os'))(hlow:∀b∈bs',V.heap.size≤b∨b∈L)(hlowo:∀b∈ownBl os',V.heap.size≤b∨b∈L)
  (hown:∀U',Later (Us U0 bs os) U' W W→∀o∈os',o.h U' W):Ctx V U0 L bs' os' G W:=by
 have hm:∀b,Us U0 bs' os' b→Us U0 bs os b:=by
  rintro b (h|h)
  ·exact .inl h
  ·have:b∈bs'++ownBl os':=List.mem_append.2 h
   exact .inr (List.mem_append.1 (hp.mem_iff.2 this))
 have l:Later (Us U0 bs os) (Us U0 bs' os') W W:=⟨fun _ _ _=>rfl,Nat.le_refl _,fun b _ h=>hm b h⟩
 exact⟨H.os_,H.tape,H.output,H.size,H.same,hlow,hlowo,H.u0,hp.nodup_iff.1 H.nd,hown _ l,H.facts.mono l⟩
theorem perm_erase{α:Type}{l:List α}{i:Nat}{x:α}(h:l[i]?=some x):List.Perm l (x::l.eraseIdx i):=by
 induction l generalizing i with
 |nil=>simp at h
 |cons y l ih=>
  cases i with
  |zero=>simp at h; subst h; simp
  |succ i=>
   simp only[List.eraseIdx_cons_succ]
   exact((ih (by simpa using h)).cons y).trans (List.Perm.swap _ _ _)
end Go.Vc
namespace Go.Vc
open Go Go.RowKit
theorem zyi{P:Program}{t e:TypeId}{size bytes:Nat}(ht:P.underlying t=some (.slice e))(h:(P.info? e).map (fun i=>(i.zero.map (·.cells.size),i.size,i.bytes))=some (some size,size,bytes))(hp:0<size):ElemOk P t e size bytes:=by
 obtain⟨i,hi,h⟩:=Option.map_eq_some_iff.1 h
 simp only[Prod.mk.injEq]at h
 obtain⟨z,hz,hz2⟩:=Option.map_eq_some_iff.1 h.1
 exact⟨ht,⟨i,z,hi,hz,h.2.1,h.2.2,hz2⟩,hp⟩
end Go.Vc
namespace Go.Vc
open Go Go.RowKit
theorem Ctx.rowEq{V W:World}{U0:Nat→Prop}{L bs:List Nat}{B:List Own}{G:List (Value×R)}{e:TypeId}{k:Nat}{a:Option Addr}{c:Nat}{els:List (List R)}(H:Ctx V U0 L bs (Own.row e k a c els::B) G W)(els':List (List R))(h:els=els'):Ctx V U0 L bs (Own.row e k a c els'::B) G W:=h▸H
theorem Ctx.fin{V W w:World}{U0:Nat→Prop}{L bs:List Nat}{os:List Own}{G:List (Value×R)}{bx:List Box}(H:Ctx V U0 L bs os G W)(hs:Sync bx W w)(n:Nat)(G':List (Value×R))(h:subG G G':=by repeat (first|exact trivial|exact List.Mem.head _|apply List.Mem.tail|refine⟨?_,?_⟩))(hb:blks bx=bs:=by rfl):Ctx V U0 L (bs.take n) os G' w:=
 (H.sync hs hb).weak (List.take_sublist _ _) (List.Sublist.refl _) (zpn h)
end Go.Vc

namespace Go.Vc
open Go Go.RowKit
inductive OT where
 |nil
 |rd (i:Nat) (t:OT)
 |op (i:Nat) (t:OT)
 |two (i j:Nat) (ti tj:OT)
 |three (i j k:Nat) (ti tj tk:OT)
def ofL:List (Nat×Bool)→OT
 |[]=>.nil
 |(i,true)::l=>.rd i (ofL l)
 |(i,false)::l=>.op i (ofL l)
def stepT(P:Program)(T:List TI)(ops:List Oper)(S I:List Nat)(bx0:List Box)(W0:World)(o:Oper)(ts:List XV)(bx:List Box)(W:World)(k:KT):Prop:=
 match o.guard with
 |none=>vcOp P T o ts bx W fun ts bx W=>ExtS S I bx0 W0 bx W∧k ts bx W
 |some (j,want)=>guardK ops ts j want
  (fun ts=>vcOp P T o ts bx W fun ts bx W=>ExtS S I bx0 W0 bx W∧k ts bx W)
  (fun ts=>retX o.dst .und ts bx W k)
def vcT(S I:List Nat)(P:Program)(T:List TI)(ops:List Oper)(bx0:List Box)(W0:World):OT→List XV→List Box→World→KT→Prop
 | .nil,ts,bx,W,K=>K ts bx W
 | .rd i t,ts,bx,W,K=>nthOp ops i fun o=>match o.guard with
  |none=>rdOpS S I T o ts bx0 W0 fun x=>retX o.dst x ts bx W fun ts bx W=>vcT S I P T ops bx0 W0 t ts bx W K
  |some (j,want)=>guardK ops ts j want
   (fun ts=>rdOpS S I T o ts bx0 W0 fun x=>retX o.dst x ts bx W fun ts bx W=>vcT S I P T ops bx0 W0 t ts bx W K)
   (fun ts=>retX o.dst .und ts bx W fun ts bx W=>vcT S I P T ops bx0 W0 t ts bx W K)
 | .op i t,ts,bx,W,K=>nthOp ops i fun o=>stepT P T ops S I bx0 W0 o ts bx W fun ts bx W=>vcT S I P T ops bx0 W0 t ts bx W K
 | .two i j ti tj,ts,bx,W,K=>(nthOp ops i fun o=>stepT P T ops S I bx0 W0 o ts bx W fun ts bx W=>vcT S I P T ops bx0 W0 ti ts bx W K)∧
  (nthOp ops j fun o=>stepT P T ops S I bx0 W0 o ts bx W fun ts bx W=>vcT S I P T ops bx0 W0 tj ts bx W K)
 | .three i j k ti tj tk,ts,bx,W,K=>(nthOp ops i fun o=>stepT P T ops S I bx0 W0 o ts bx W fun ts bx W=>vcT S I P T ops bx0 W0 ti ts bx W K)∧
  (nthOp ops j fun o=>stepT P T ops S I bx0 W0 o ts bx W fun ts bx W=>vcT S I P T ops bx0 W0 tj ts bx W K)∧
  (nthOp ops k fun o=>stepT P T ops S I bx0 W0 o ts bx W fun ts bx W=>vcT S I P T ops bx0 W0 tk ts bx W K)
def okT(ops:Array Oper):Nat→OT→Array Bool→Bool
 |_,.nil,L=>(Region.ready .any ops L).isEmpty
 |n+1,.rd i t,L=>Region.free .any ops L i&&(Region.ready .any ops L).contains i&&okT ops n t (L.setIfInBounds i true)
 |n+1,.op i t,L=>(Region.ready .any ops L==[i])&&okT ops n t (L.setIfInBounds i true)
 |n+1,.two i j ti tj,L=>(Region.ready .any ops L==[i,j])&&okT ops n ti (L.setIfInBounds i true)&&okT ops n tj (L.setIfInBounds j true)
 |n+1,.three i j k ti tj tk,L=>(Region.ready .any ops L==[i,j,k])&&okT ops n ti (L.setIfInBounds i true)&&okT ops n tj (L.setIfInBounds j true)&&okT ops n tk (L.setIfInBounds k true)
 |0,_,_=>false
abbrev Trees:=List (Nat×OT)
def treeK:Trees→Nat→(OT→Prop)→Prop
 |[],_,_=>False
 |(k,o)::os,n,K=>match Nat.beq k n with|true=>K o|false=>treeK os n K
theorem treeK_spec{os:Trees}{n:Nat}{K:OT→Prop}(h:treeK os n K):∃o,K o:=by
 induction os with
 |nil=>exact h.elim
 |cons x os ih=>
  obtain⟨k,o⟩:=x
  simp only[treeK]at h
  split at h
  ·exact⟨o,h⟩
  ·exact ih h
def drawT(P:Program)(T:List TI)(O:Trees):DrawK:=fun id ops ts bx W K=>treeK O id fun t=>
 (Region.noSelect ops&&okT ops ops.size t (Array.replicate ops.size false))=true∧∃S I,vcT S I P T ops.toList bx W t ts bx W K
section
variable {P:Program} {T:List TI} {ops:Array Oper} {K:KT} {bx0:List Box} {W0 w0:World} {ts0:List XV} {S I:List Nat} {a00 a0:Act}
theorem zet(hT:zba P T){i:Nat}{n:Nat}{k:KT}{L:Array Bool}{ts:List XV}{bx:List Box}{a:Act}{w W:World}
  (h:nthOp ops.toList i fun o=>stepT P T ops.toList S I bx0 W0 o ts bx W k) (inv:Inv ts bx a w W) (ext:ExtS S I bx0 W0 bx W) (hso:zbd (dsts ops.toList) a0 a)
  (hk:∀ts bx a w W,k ts bx W→Inv ts bx a w W→ExtS S I bx0 W0 bx W→zbd (dsts ops.toList) a0 a→wpAnyH P .any ops (QD K ops a0) (SyncS S I bx0 W0) n (L.setIfInBounds i true) a w):
  wpOp P ops (QD K ops a0) i (fun a' w'=>SyncS S I bx0 W0 w'∧wpAnyH P .any ops (QD K ops a0) (SyncS S I bx0 W0) n (L.setIfInBounds i true) a' w') a w:=by
 obtain⟨o,hi,h⟩:=yad h
 have hi:ops[i]?=some o:=by simpa using hi
 have hmem:=zeq (ops:=ops.toList) (by simpa using hi)
 have go:∀ts,Rel (blks bx) ts a.tmps.toList→Region.wanted o (yielded ops a.tmps)=true→(vcOp P T o ts bx W fun ts bx W=>ExtS S I bx0 W0 bx W∧k ts bx W)→
   wpOp P ops (QD K ops a0) i (fun a' w'=>SyncS S I bx0 W0 w'∧wpAnyH P .any ops (QD K ops a0) (SyncS S I bx0 W0) n (L.setIfInBounds i true) a' w') a w:=by
  intro ts hr hwt h
  have inv':Inv ts bx a w W:=⟨inv.defers,hr,inv.wf,inv.nodup,inv.sync⟩
  unfold Go.wpOp
  simp only[hi,hwt,if_true]
  have h1:=wp_out (vc_rest (Q:=QD K ops a0) hT h inv')
  refine .inl (yjr h1 fun a' w' ⟨⟨ts',bx',W',inv'',hext,h2⟩,hso'⟩=>⟨hext.sync w' (inv''.sync.S S I),?_⟩)
  exact hk ts' bx' a' w' W' h2 inv'' hext (hso.trans (hso'.mono hmem))
 have skip:∀ts,Rel (blks bx) ts a.tmps.toList→Region.wanted o (yielded ops a.tmps)=false→(retX o.dst .und ts bx W k)→
   wpOp P ops (QD K ops a0) i (fun a' w'=>SyncS S I bx0 W0 w'∧wpAnyH P .any ops (QD K ops a0) (SyncS S I bx0 W0) n (L.setIfInBounds i true) a' w') a w:=by
  intro ts hr hwt h
  have inv':Inv ts bx a w W:=⟨inv.defers,hr,inv.wf,inv.nodup,inv.sync⟩
  obtain⟨ts',inv'',h4⟩:=zwr h inv' (by simp[XV.wf])
  have hu:XV.den .und=undef:=by simp[XV.den]
  rw[hu]at inv''
  unfold Go.wpOp
  simp only[hi,hwt,Bool.false_eq_true,if_false]
  exact⟨ext.sync w (inv.sync.S S I),hk ts' bx _ w W h4 inv'' ext (hso.trans ((zbd.put a o undef).mono hmem))⟩
 unfold stepT at h
 split at h
 ·rename_i hg
  exact go ts inv.frame (by simp[Region.wanted,hg]) h
 ·rename_i j want hg
  obtain⟨ts',hr,hc⟩:=zow h inv.frame
  have hw:Region.wanted o (yielded ops a.tmps)=(yielded ops a.tmps j==some want):=by simp[Region.wanted,hg]
  rcases hc with ⟨hy,hc⟩|⟨hy,hc⟩
  ·exact go ts' hr (by rw[hw,hy]; simp) hc
  ·exact skip ts' hr (by rw[hw]; simpa using hy) hc
theorem zej(hT:zba P T)(inv0:Inv ts0 bx0 a00 w0 W0)(hns:Region.noSelect ops=true):
  ∀(t:OT) (n:Nat) (L:Array Bool) (ts:List XV) (bx:List Box) (a:Act) (w W:World),okT ops n t L=true→vcT S I P T ops.toList bx0 W0 t ts bx W K→Inv ts bx a w W→ExtS S I bx0 W0 bx W→
   zbd (dsts ops.toList) a0 a→wpAnyH P .any ops (QD K ops a0) (SyncS S I bx0 W0) n L a w
 | .nil,n,L,ts,bx,a,w,W,hok,h,inv,ext,hso=>by
  have hok:(Region.ready .any ops L).isEmpty=true:=by cases n<;>simpa[okT]using hok
  simp only[List.isEmpty_iff]at hok
  exact wpAnyH_done hok ⟨⟨ts,bx,W,inv,h⟩,hso⟩ _
 | .rd i t,0,L,ts,bx,a,w,W,hok,h,inv,ext,hso=>by simp[okT]at hok
 | .op i t,0,L,ts,bx,a,w,W,hok,h,inv,ext,hso=>by simp[okT]at hok
 | .two i j ti tj,0,L,ts,bx,a,w,W,hok,h,inv,ext,hso=>by simp[okT]at hok
 | .three i j k ti tj tk,0,L,ts,bx,a,w,W,hok,h,inv,ext,hso=>by simp[okT]at hok
 | .rd i t,n+1,L,ts,bx,a,w,W,hok,h,inv,ext,hso=>by
  simp only[okT,Bool.and_eq_true]at hok
  unfold vcT at h
  obtain⟨o,hi,h⟩:=yad h
  have hi:ops[i]?=some o:=by simpa using hi
  have hmem:=zeq (ops:=ops.toList) (by simpa using hi)
  obtain⟨l,hl⟩:=ext.pre
  have go:∀ts,Rel (blks bx) ts a.tmps.toList→Region.wanted o (yielded ops a.tmps)=true→(rdOpS S I T o ts bx0 W0 fun x=>retX o.dst x ts bx W fun ts bx W=>vcT S I P T ops.toList bx0 W0 t ts bx W K)→wpAnyH P .any ops (QD K ops a0) (SyncS S I bx0 W0) (n+1) L a w:=by
   intro ts hr hwt h
   have inv':Inv ts bx a w W:=⟨inv.defers,hr,inv.wf,inv.nodup,inv.sync⟩
   obtain⟨r,h1,h2,h3⟩:=rdOp_specS (P:=P) hT h inv0 (l:=l) (by rw[←hl]; exact hr)
   obtain⟨ts',inv'',h4⟩:=zwr h1 inv' (by rw[hl]; exact h2)
   refine wpAnyH_take hi hns hok.1.1 hok.1.2 (fun c a w hq=>hq) (.inl ⟨hwt,fun w' hs=>h3 w' hs⟩) (ext.sync w (inv.sync.S S I)) ?_
   exact zej hT inv0 hns t n _ ts' bx _ w W hok.2 h4 inv'' ext (hso.trans ((zbd.put a o r.den).mono hmem))
  have skip:∀ts,Rel (blks bx) ts a.tmps.toList→Region.wanted o (yielded ops a.tmps)=false→(retX o.dst .und ts bx W fun ts bx W=>vcT S I P T ops.toList bx0 W0 t ts bx W K)→wpAnyH P .any ops (QD K ops a0) (SyncS S I bx0 W0) (n+1) L a w:=by
   intro ts hr hwt h
   have inv':Inv ts bx a w W:=⟨inv.defers,hr,inv.wf,inv.nodup,inv.sync⟩
   obtain⟨ts',inv'',h4⟩:=zwr h inv' (by simp[XV.wf])
   have hu:XV.den .und=undef:=by simp[XV.den]
   rw[hu]at inv''
   exact wpAnyH_take hi hns hok.1.1 hok.1.2 (fun c a w hq=>hq) (.inr ⟨hwt,rfl⟩) (ext.sync w (inv.sync.S S I)) (zej hT inv0 hns t n _ ts' bx _ w W hok.2 h4 inv'' ext (hso.trans ((zbd.put a o undef).mono hmem)))
  split at h
  ·rename_i hg
   exact go ts inv.frame (by simp[Region.wanted,hg]) h
  ·rename_i j want hg
   obtain⟨ts',hr,hc⟩:=zow h inv.frame
   have hw:Region.wanted o (yielded ops a.tmps)=(yielded ops a.tmps j==some want):=by simp[Region.wanted,hg]
   rcases hc with ⟨hy,hc⟩|⟨hy,hc⟩
   ·exact go ts' hr (by rw[hw,hy]; simp) hc
   ·exact skip ts' hr (by rw[hw]; simpa using hy) hc
 | .op i t,n+1,L,ts,bx,a,w,W,hok,h,inv,ext,hso=>by
  simp only[okT,Bool.and_eq_true,beq_iff_eq]at hok
  unfold vcT at h
  refine wpAnyH_all hok.1 (by simp) fun j hj=>?_
  rw[List.mem_singleton.1 hj]
  exact zet hT h inv ext hso fun ts bx a w W h inv ext hso=>zej hT inv0 hns t n _ ts bx a w W hok.2 h inv ext hso
 | .two i j ti tj,n+1,L,ts,bx,a,w,W,hok,h,inv,ext,hso=>by
  simp only[okT,Bool.and_eq_true,beq_iff_eq]at hok
  unfold vcT at h
  refine wpAnyH_all hok.1.1 (by simp) fun m hm=>?_
  simp only[List.mem_cons,List.not_mem_nil,or_false]at hm
  rcases hm with rfl|rfl
  ·exact zet hT h.1 inv ext hso fun ts bx a w W h inv ext hso=>zej hT inv0 hns ti n _ ts bx a w W hok.1.2 h inv ext hso
  ·exact zet hT h.2 inv ext hso fun ts bx a w W h inv ext hso=>zej hT inv0 hns tj n _ ts bx a w W hok.2 h inv ext hso
 | .three i j k ti tj tk,n+1,L,ts,bx,a,w,W,hok,h,inv,ext,hso=>by
  simp only[okT,Bool.and_eq_true,beq_iff_eq]at hok
  unfold vcT at h
  refine wpAnyH_all hok.1.1.1 (by simp) fun m hm=>?_
  simp only[List.mem_cons,List.not_mem_nil,or_false]at hm
  rcases hm with rfl|rfl|rfl
  ·exact zet hT h.1 inv ext hso fun ts bx a w W h inv ext hso=>zej hT inv0 hns ti n _ ts bx a w W hok.1.1.2 h inv ext hso
  ·exact zet hT h.2.1 inv ext hso fun ts bx a w W h inv ext hso=>zej hT inv0 hns tj n _ ts bx a w W hok.1.2 h inv ext hso
  ·exact zet hT h.2.2 inv ext hso fun ts bx a w W h inv ext hso=>zej hT inv0 hns tk n _ ts bx a w W hok.2 h inv ext hso
end
theorem yeb{P:Program}{T:List TI}(hT:zba P T)(hm:P.follows .mixedOrders=true)(O:Trees):DrawOk P (drawT P T O):=by
 intro id ops ts bx a w W K h inv
 obtain⟨t,hok,S,I,h⟩:=treeK_spec h
 simp only[Bool.and_eq_true]at hok
 have inv':Inv ts bx a { w with drawn:=w.drawn+1 } W:=⟨inv.defers,inv.frame,inv.wf,inv.nodup,⟨inv.sync.os,inv.sync.tape,inv.sync.output,inv.sync.size,inv.sync.same,inv.sync.own⟩⟩
 have:=zej hT inv' hok.1 t _ _ ts bx a _ W hok.2 h inv' ⟨fun _ hw=>hw,[],by simp⟩ (zbd.refl _ a)
 exact wp_mono (wp_region_held hm this) fun e a' w' hq=>by
  cases e<;>first|exact hq|exact hq.elim
theorem ctG_ext{P:Program}{f:FuncId}{vs:List Value}{G:List (Value×R)}{q:R}{v:Value}(h:∀w,(callFunc f vs.toArray).run P w=.ok (.value v) w)(hq:ent [] q v):CtG P f vs [] G (isR q):=fun U w H=>
 ⟨.inr ⟨v,w,h w,[],[],⟨rfl,hq⟩,H.weak (List.Sublist.refl _) (List.Sublist.refl _) (by intro p hp; cases hp)⟩⟩
end Go.Vc
namespace Go.Vc
open Go Go.RowKit
theorem Ctx.front{V W:World}{U0:Nat→Prop}{L bs:List Nat}{os:List Own}{G:List (Value×R)}(H:Ctx V U0 L bs os G W)(i:Nat){o:Own}(h:os[i]?=some o:=by rfl):Ctx V U0 L bs (o::os.eraseIdx i) G W:=H.perm (perm_erase h)
end Go.Vc
namespace Go.Vc
open Go Go.RowKit
end Go.Vc
namespace Go.Vc
end Go.Vc
namespace Go.Vc
open Go Go.RowKit
end Go.Vc
namespace Go.Vc
open Go Go.RowKit
end Go.Vc
namespace Go.Vc
open Go Go.RowKit
end Go.Vc
