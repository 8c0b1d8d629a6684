import Derived.Test.YtllkmncnmlmefaaGreatK2
import Derived.Maps.RangeRun
import Derived.MapKept
import Derived.Shelf.GgSortFunc.InsertionK
import Derived.Sort.OwnSorted
import Derived.WalkKit
import Derived.Test.YtllkmncnmlmefaaGreatProg
import Derived.Shelf.SlSortCmp.WholeK
import Derived.Laws.IdiomCopy
namespace Go.Vc
open Go Go.RowKit Go.ChangeMaps
structure KeyOk(P:Program)(kt:TypeId)(K:Value→Prop):Prop where
 check:∀(w:World) {v:Value},K v→(Instr.checkKey false 10000 kt v).run P w=.ok () w
 find:∀(w:World) {x:Value},K x→∀es:List MapEntry,(∀e∈es,K e.key)→
  ((Instr.findKey kt x es).run P w=.ok none w∧∀e∈es,e.key≠x)∨∃j e,(Instr.findKey kt x es).run P w=.ok (some (j,e.val)) w∧es[j]?=some e∧e.key=x
 stays:∀(w:World) {v:Value},K v→(Instr.keyThatStays v v).run P w=.ok v w
structure SetOk(K:Value→Prop)(es:Array MapEntry)(clock:Nat)(ks:List Value):Prop where
 keys:es.toList.map (·.key)=ks
 kok:∀k∈ks,K k
 nd:ks.Nodup
 val:∀e∈es.toList,e.val=.bool true
 bnd:(es.toList.map (·.born)).Nodup
 lt:∀e∈es.toList,e.born<clock
theorem set_store{P:Program}{t kt et:TypeId}{K:Value→Prop}(hk:KeyOk P kt K)(ht:P.underlying t=some (.map kt et)){w:World}{b:Nat}{es:Array MapEntry}{clock:Nat}{ks:List Value}
  (hb:w.heap[b]?=some (.map es clock)) (hs:SetOk K es clock ks) {k:Value} (hK:K k):
  ∃es' clock' ks',(Instr.mapUpdate t (.map (some b)) k (.bool true)).run P w=.ok () (setBlock w b (.map es' clock'))∧SetOk K es' clock' ks'∧((k∈ks∧ks'=ks)∨(k∉ks∧ks'=ks++[k])):=by
 have hmem:∀x,x∈ks↔∃e∈es.toList,e.key=x:=fun x=>by rw[←hs.keys,List.mem_map]
 rcases hk.find w hK es.toList (fun e he=>hs.kok _ ((hmem _).2 ⟨e,he,rfl⟩)) with ⟨hf,hn⟩|⟨j,e,hf,hj,he⟩
 ·refine⟨es.push ⟨k,.bool true,clock⟩,clock+1,ks++[k],?_,?_,.inr ⟨fun hm=>?_,rfl⟩⟩
  ·simp[Instr.mapUpdate,run_underlying ht,MapKept.run_getObj_map hb,hk.check w hK,hf,MapKept.run_setObj_map _ hb,Result.andThen,setBlock]
  ·have hkn:k∉ks:=fun hm=>by obtain⟨e,he,hek⟩:=(hmem _).1 hm; exact hn e he hek
   refine⟨by simp[hs.keys],?_,?_,?_,?_,?_⟩
   ·intro x hx
    rcases List.mem_append.1 hx with hx|hx
    ·exact hs.kok x hx
    ·simp at hx; exact hx▸hK
   ·exact List.nodup_append.2 ⟨hs.nd,by simp,fun a ha b hb=>by simp at hb; subst hb; rintro rfl; exact hkn ha⟩
   ·intro x hx
    simp only[Array.toList_push,List.mem_append,List.mem_singleton]at hx
    rcases hx with hx|rfl
    ·exact hs.val x hx
    ·rfl
   ·simp only[Array.toList_push,List.map_append,List.map_cons,List.map_nil]
    refine List.nodup_append.2 ⟨hs.bnd,by simp,fun a ha b hb=>?_⟩
    simp at hb; subst hb
    obtain⟨x,hx,rfl⟩:=List.mem_map.1 ha
    have:=hs.lt x hx; omega
   ·intro x hx
    simp only[Array.toList_push,List.mem_append,List.mem_singleton]at hx
    rcases hx with hx|rfl
    ·have:=hs.lt x hx; omega
    ·simp
  ·obtain⟨e,he,hek⟩:=(hmem _).1 hm; exact hn e he hek
 ·have hj':es[j]?=some e:=by rw[←Array.getElem?_toList]; exact hj
  have hem:e∈es.toList:=List.mem_of_getElem? hj
  refine⟨es.modify j fun x=>{ x with key:=k,val:=.bool true },clock,ks,?_,?_,.inl ⟨(hmem _).2 ⟨e,hem,he⟩,rfl⟩⟩
  ·simp[Instr.mapUpdate,run_underlying ht,MapKept.run_getObj_map hb,hk.check w hK,hf,hj',he,hk.stays w hK,MapKept.run_setObj_map _ hb,Result.andThen,setBlock]
  ·have hget:∀i,(es.modify j fun x=>{ x with key:=k,val:=.bool true })[i]?=es[i]?:=fun i=>by
    rw[Array.getElem?_modify]
    split
    ·rename_i hi; subst hi
     rw[hj']
     have:=hs.val e hem
     cases e; simp_all
    ·rfl
   have heq:(es.modify j fun x=>{ x with key:=k,val:=.bool true })=es:=by
    apply Array.ext_getElem?; exact hget
   rw[heq]; exact hs
theorem zxv{α β:Type}{f:α→β}:∀{l:List α},(l.map f).Nodup→∀{x y:α},x∈l→y∈l→f x=f y→x=y
 |[],_,_,_,hx,_,_=>by simp at hx
 |a::l,h,x,y,hx,hy,e=>by
  simp only[List.map_cons,List.nodup_cons]at h
  rcases List.mem_cons.1 hx with hx|hx
  ·rcases List.mem_cons.1 hy with hy|hy
   ·rw[hx,hy]
   ·exact absurd (List.mem_map.2 ⟨y,hy,by rw[←e,hx]⟩) h.1
  ·rcases List.mem_cons.1 hy with hy|hy
   ·exact absurd (List.mem_map.2 ⟨x,hx,by rw[e,hy]⟩) h.1
   ·exact zxv h.2 hx hy e
theorem zjn{α:Type}:∀{l m:List α},l.Nodup→(∀x∈l,x∈m)→l.length≤m.length
 |[],m,_,_=>by simp
 |a::l,m,h,hs=>by
  obtain⟨m1,m2,rfl⟩:=List.append_of_mem (hs a (by simp))
  have h2:=List.nodup_cons.1 h
  have:l.length≤(m1++m2).length:=zjn h2.2 fun x hx=>by
   have:=hs x (by simp[hx])
   simp only[List.mem_append,List.mem_cons]at this ⊢
   rcases this with h'|rfl|h'
   ·exact .inl h'
   ·exact absurd hx h2.1
   ·exact .inr h'
  simp at this ⊢; omega
def Own.set(K:Value→Prop)(b:Nat)(ks:List Value):Own where
 bl:=[b]
 h _ w:=∃(es:Array MapEntry) (clock:Nat),w.heap[b]?=some (.map es clock)∧SetOk K es clock ks
 mono:=by
  rintro U U' w w' ⟨es,clock,h,hs⟩ l hk
  exact⟨es,clock,(hk b (by simp)).trans h,hs⟩
 lt:=by
  rintro U w ⟨es,clock,h,hs⟩ c hc
  simp only[List.mem_singleton]at hc
  subst hc; exact(Array.getElem?_eq_some_iff.1 h).1
def Own.walk(K:Value→Prop)(b r:Nat)(ks dn:List Value):Own where
 bl:=[b,r]
 h _ w:=b≠r∧∃(es:Array MapEntry) (clock since:Nat) (seen:Array Nat) (ds:List MapEntry),w.heap[b]?=some (.map es clock)∧SetOk K es clock ks∧w.heap[r]?=some (.mapIter (some b) since seen clock)∧(∀e∈es.toList,e.born<since)∧since≤clock∧
  seen.toList=ds.map (·.born)∧ds.map (·.key)=dn∧(∀e∈ds,e∈es.toList)∧(ds.map (·.born)).Nodup
 mono:=by
  rintro U U' w w' ⟨hne,es,clock,since,seen,ds,h1,hs,h2,rest⟩ l hk
  exact⟨hne,es,clock,since,seen,ds,(hk b (by simp)).trans h1,hs,(hk r (by simp)).trans h2,rest⟩
 lt:=by
  rintro U w ⟨hne,es,clock,since,seen,ds,h1,hs,h2,rest⟩ c hc
  simp only[List.mem_cons,List.not_mem_nil,or_false]at hc
  rcases hc with rfl|rfl
  ·exact(Array.getElem?_eq_some_iff.1 h1).1
  ·exact(Array.getElem?_eq_some_iff.1 h2).1
theorem Ctx.turn{V w w':World}{U0:Nat→Prop}{L bs:List Nat}{o o':Own}{os:List Own}{G:List (Value×R)}(H:Ctx V U0 L bs (o::os) G w)(hb:∀b∈bs,b<w.heap.size)
  (h1:w'.os=w.os) (h2:w'.tape=w.tape) (h3:w'.output=w.output) (h4:w.heap.size≤w'.heap.size) (h5:∀b,b<w.heap.size→b∉o.bl→w'.heap[b]?=w.heap[b]?)
  (h6:∀b∈o'.bl,w.heap.size≤b∨b∈o.bl) (h7:o'.bl.Nodup) (h8:∀U,o'.h U w'):Ctx V U0 L bs (o'::os) G w'∧Kept bs w w':=by
 have e1:ownBl [o]=o.bl:=by simp[ownBl]
 have e2:ownBl [o']=o'.bl:=by simp[ownBl]
 have hC:Ctx w (Us U0 bs ([o]++os)) (ownBl [o]) [] [o'] [] w':=by
  rw[e1]
  refine⟨h1,h2,h3,h4,h5,by simp,by rw[e2]; exact h6,fun b hu=>?_,by rw[e2]; simpa using h7,fun x hx=>by simp at hx; subst hx; exact h8 _,by intro p hp; cases hp⟩
  rcases hu with hu|hu|hu
  ·exact Nat.lt_of_lt_of_le (H.u0 b hu) H.size
  ·exact hb b hu
  ·exact H.ltOwn hu
 refine⟨Ctx.called (os1:=[o]) (os2:=os) (os':=[o']) (G':=[]) H hC,fun b hm=>h5 b (hb b hm) fun hm'=>?_⟩
 exact(List.nodup_append.1 H.nd).2.2 b hm b (by rw[ownBl]; exact List.mem_append.2 (.inl hm')) rfl
theorem zta{w:World}{b c:Nat}{o:Obj}(h:c≠b):(setBlock w b o).heap[c]?=w.heap[c]?:=by
 unfold setBlock
 exact Array.getElem?_setIfInBounds_ne (fun e=>h e.symm)
theorem yak{w:World}{b:Nat}{o:Obj}(h:b<w.heap.size):(setBlock w b o).heap[b]?=some o:=by
 unfold setBlock
 simp[h]
theorem Sync.blt{bx:List Box}{W w:World}(hs:Sync bx W w){bs:List Nat}(hb:blks bx=bs):∀b∈bs,b<w.heap.size:=by
 subst hb
 intro b hb
 simp only[blks,List.mem_map]at hb
 obtain⟨x,hx,rfl⟩:=hb
 exact hs.blk_lt hx
theorem Ctx.setNew{P:Program}{t kt et:TypeId}{K:Value→Prop}(_:P.underlying t=some (.map kt et)){V W w:World}{U0:Nat→Prop}{L bs:List Nat}{os:List Own}{G:List (Value×R)}{bx:List Box}{Kn:Value→World→Prop}
  (H:Ctx V U0 L bs os G W) (hs:Sync bx W w) (k:∀b w',Ctx V U0 L bs (Own.set K b []::os) G w'→Kn (.map (some b)) w') (hb:blks bx=bs:=by rfl):
  RunsX P (Instr.makeMap t none) w fun v w'=>Kept (blks bx) w w'∧Kn v w':=by
 subst hb
 have H:=H.sync hs rfl
 refine⟨.map (some w.heap.size),w.alloc (.map #[] 0),?_,?_⟩
 ·simp[Instr.makeMap,Result.andThen]
 ·have hl:Later (Us U0 (blks bx) os) (Us U0 (blks bx) os) w (w.alloc (.map #[] 0)):=⟨fun b hb _=>Below.heap_alloc _ _ _ hb,by simp,fun _ _ h=>h⟩
  have hlt:=hs.blt rfl
  have hold:∀b,b<w.heap.size→(w.alloc (.map #[] 0)).heap[b]?=w.heap[b]?:=fun b hb=>Below.heap_alloc _ _ _ hb
  refine⟨fun b hb=>hold b (hlt b hb),k _ _ ?_⟩
  have hC:Ctx w (Us U0 (blks bx) ([]++os)) (ownBl []) [] [Own.set K w.heap.size []] [] (w.alloc (.map #[] 0)):=by
   refine⟨rfl,rfl,rfl,by simp,fun b hb _=>hold b hb,by simp,fun b hb=>.inl ?_,fun b hu=>?_,by simp[ownBl,Own.set],fun x hx=>?_,by intro p hp; cases hp⟩
   ·simp[ownBl,Own.set]at hb; omega
   ·rcases hu with hu|hu|hu
    ·exact Nat.lt_of_lt_of_le (H.u0 b hu) H.size
    ·exact hlt b hu
    ·exact H.ltOwn hu
   ·simp at hx; subst hx
    refine⟨#[],0,?_,rfl,by simp,by simp,by simp,by simp,by simp⟩
    show (w.heap.push _)[w.heap.size]?=_
    simp
  exact Ctx.called (os1:=[]) (os2:=os) (os':=[Own.set K w.heap.size []]) (G':=[]) H hC
theorem Ctx.setPut{P:Program}{t kt et:TypeId}{K:Value→Prop}(hk:KeyOk P kt K)(ht:P.underlying t=some (.map kt et)){V W w:World}{U0:Nat→Prop}{L bs:List Nat}{os:List Own}{G:List (Value×R)}{bx:List Box}{Kn:World→Prop}{b:Nat}{ks:List Value}{key:Value}
  (H:Ctx V U0 L bs (Own.set K b ks::os) G W) (hs:Sync bx W w) (hK:K key) (k:∀ks' w',(key∈ks∧ks'=ks)∨(key∉ks∧ks'=ks++[key])→Ctx V U0 L bs (Own.set K b ks'::os) G w'→Kn w') (hb:blks bx=bs:=by rfl):
  RunsU P (Instr.mapUpdate t (.map (some b)) key (.bool true)) w fun w'=>Kept (blks bx) w w'∧Kn w':=by
 subst hb
 have H:=H.sync hs rfl
 obtain⟨es,clock,hwb,hso⟩:=H.own (Own.set K b ks) (by simp)
 obtain⟨es',clock',ks',hrun,hso',hd⟩:=set_store hk ht hwb hso hK
 have hbl:b<w.heap.size:=(Array.getElem?_eq_some_iff.1 hwb).1
 have:=H.turn (o':=Own.set K b ks') (w':=setBlock w b (.map es' clock')) (hs.blt rfl) rfl rfl rfl (by simp[setBlock]) (fun c _ hc=>zta (by simpa[Own.set]using hc)) (fun c hc=>.inr hc) (by simp[Own.set]) (fun U=>⟨es',clock',yak hbl,hso'⟩)
 exact⟨_,hrun,this.2,k ks' _ hd this.1⟩
theorem Ctx.setRange{P:Program}{t kt et:TypeId}{K:Value→Prop}(ht:P.underlying t=some (.map kt et)){V W w:World}{U0:Nat→Prop}{L bs:List Nat}{os:List Own}{G:List (Value×R)}{bx:List Box}{Kn:Value→World→Prop}{b:Nat}{ks:List Value}
  (H:Ctx V U0 L bs (Own.set K b ks::os) G W) (hs:Sync bx W w) (k:∀r w',Ctx V U0 L bs (Own.walk K b r ks []::os) G w'→Kn (.pointer (some ⟨r,0,none⟩)) w') (hb:blks bx=bs:=by rfl):
  RunsX P (Instr.range t (.map (some b))) w fun v w'=>Kept (blks bx) w w'∧Kn v w':=by
 subst hb
 have H:=H.sync hs rfl
 obtain⟨es,clock,hwb,hso⟩:=H.own (Own.set K b ks) (by simp)
 have hbl:b<w.heap.size:=(Array.getElem?_eq_some_iff.1 hwb).1
 have hold:∀c,c<w.heap.size→(w.alloc (.mapIter (some b) clock #[] clock)).heap[c]?=w.heap[c]?:=fun c hc=>Below.heap_alloc _ _ _ hc
 have:=H.turn (o':=Own.walk K b w.heap.size ks []) (w':=w.alloc (.mapIter (some b) clock #[] clock)) (hs.blt rfl) rfl rfl rfl (by simp) (fun c hc _=>hold c hc)
  (fun c hc=>by simp[Own.walk]at hc; rcases hc with rfl|rfl; exact .inr (by simp[Own.set]); exact .inl (Nat.le_refl _)) (by simp[Own.walk]; omega)
  (fun U=>⟨by omega,es,clock,clock,#[],[],(hold b hbl).trans hwb,hso,heap_alloc_new w _,hso.lt,Nat.le_refl _,rfl,rfl,by simp,by simp⟩)
 exact⟨_,_,run_range_map w t kt et b es clock ht hwb,this.2,k _ _ this.1⟩
theorem Ctx.setNext{P:Program}{ty:TypeId}{K:Value→Prop}{V W w:World}{U0:Nat→Prop}{L bs:List Nat}{os:List Own}{G:List (Value×R)}{bx:List Box}{Kn:Value→World→Prop}{b r:Nat}{ks dn:List Value}
  (H:Ctx V U0 L bs (Own.walk K b r ks dn::os) G W) (hs:Sync bx W w)
  (k0:∀w',dn.Perm ks→Ctx V U0 L bs (Own.walk K b r ks dn::os) G w'→Kn (.tuple #[.bool false]) w')
  (k1:∀key w',key∈ks→key∉dn→dn.length<ks.length→K key→Ctx V U0 L bs (Own.walk K b r ks (dn++[key])::os) G w'→Kn (.tuple #[.bool true,key,.bool true]) w') (hb:blks bx=bs:=by rfl):
  RunsX P (Instr.next (.pointer (some ⟨r,0,none⟩)) false ty) w fun v w'=>Kept (blks bx) w w'∧Kn v w':=by
 subst hb
 have H:=H.sync hs rfl
 obtain⟨hne,es,clock,since,seen,ds,hwb,hso,hwr,hold,hsc,hseen,hdn,hsub,hnd⟩:=H.own (Own.walk K b r ks dn) (by simp)
 have inj:∀{x y:MapEntry},x∈es.toList→y∈es.toList→x.born=y.born→x=y:=fun hx hy e=>zxv hso.bnd hx hy e
 have kinj:∀{x y:MapEntry},x∈es.toList→y∈es.toList→x.key=y.key→x=y:=fun hx hy e=>zxv (by rw[hso.keys]; exact hso.nd) hx hy e
 have dnd:ds.Nodup:=List.Pairwise.of_map _ (fun a b h e=>h (by rw[e])) hnd
 have hkn:dn.Nodup:=by
  rw[←hdn]
  refine List.pairwise_map.2 (dnd.imp_of_mem fun {x y} hx hy hne' e=>hne' (kinj (hsub x hx) (hsub y hy) e))
 have hlen:dn.length≤ks.length:=by
  have:dn ⊆ ks:=fun x hx=>by
   rw[←hdn]at hx
   obtain⟨e,he,rfl⟩:=List.mem_map.1 hx
   rw[←hso.keys]; exact List.mem_map.2 ⟨e,hsub e he,rfl⟩
  exact zjn hkn fun x hx=>this hx
 rcases run_next_at (P:=P) w ty r b since clock seen es clock hwr hwb hold hsc with ⟨h0,hrun⟩|⟨e,he,w1,hal,hrun⟩
 ·refine⟨_,_,hrun,fun _ _=>rfl,k0 _ ?_ H⟩
  refine(List.perm_ext_iff_of_nodup hkn hso.nd).2 fun x=>⟨fun hx=>?_,fun hx=>?_⟩
  ·rw[←hdn]at hx
   obtain⟨e,he,rfl⟩:=List.mem_map.1 hx
   rw[←hso.keys]; exact List.mem_map.2 ⟨e,hsub e he,rfl⟩
  ·rw[←hso.keys]at hx
   obtain⟨e,he,rfl⟩:=List.mem_map.1 hx
   have hc:seen.contains e.born=true:=by
    have he0:leftOf es seen = #[]:=Array.eq_empty_of_size_eq_zero h0
    unfold leftOf at he0
    rw[Array.filter_eq_empty_iff]at he0
    have:=he0 e (Array.mem_toList_iff.1 he)
    simpa using this
   have hm:e.born∈seen.toList:=by rw[Array.mem_toList_iff]; exact Array.contains_iff_mem.1 hc
   rw[hseen]at hm
   obtain⟨d,hd,hdb⟩:=List.mem_map.1 hm
   rw[←inj (hsub d hd) he hdb,←hdn]
   exact List.mem_map.2 ⟨d,hd,rfl⟩
 ·obtain⟨hem,hes⟩:=mem_left he
  have hnk:e.key∉dn:=fun hx=>by
   rw[←hdn]at hx
   obtain⟨d,hd,hdk⟩:=List.mem_map.1 hx
   have:=kinj (hsub d hd) hem hdk
   subst this
   have hm:d.born∈seen.toList:=by rw[hseen]; exact List.mem_map.2 ⟨d,hd,rfl⟩
   rw[Array.mem_toList_iff]at hm
   rw[Array.contains_iff_mem.2 hm]at hes
   cases hes
  have hkm:e.key∈ks:=by rw[←hso.keys]; exact List.mem_map.2 ⟨e,hem,rfl⟩
  have hval:=hso.val e hem
  have hw1:w1.heap=w.heap∧w1.os=w.os∧w1.tape=w.tape∧w1.output=w.output:=by rcases hal with rfl|rfl<;>exact⟨rfl,rfl,rfl,rfl⟩
  have hrl:r<w1.heap.size:=by rw[hw1.1]; exact(Array.getElem?_eq_some_iff.1 hwr).1
  have:=H.turn (o':=Own.walk K b r ks (dn++[e.key])) (w':=setBlock w1 r (.mapIter (some b) since (seen.push e.born) clock)) (hs.blt rfl) hw1.2.1 hw1.2.2.1 hw1.2.2.2 (by simp[setBlock,hw1.1])
   (fun c _ hc=>by rw[zta (by simp[Own.walk]at hc; exact hc.2),hw1.1]) (fun c hc=>.inr hc) (by simp[Own.walk,hne])
   (fun U=>⟨hne,es,clock,since,seen.push e.born,ds++[e],by rw[zta hne,hw1.1]; exact hwb,hso,yak hrl,hold,hsc,by simp[hseen],by simp[hdn],fun x hx=>by
    rcases List.mem_append.1 hx with hx|hx
    ·exact hsub x hx
    ·simp at hx; exact hx▸hem,by
    simp only[List.map_append,List.map_cons,List.map_nil]
    refine List.nodup_append.2 ⟨hnd,by simp,fun a ha c hc=>?_⟩
    simp at hc; subst hc; rintro rfl
    have hm:e.born∈seen.toList:=by rw[hseen]; exact ha
    rw[Array.mem_toList_iff]at hm
    rw[Array.contains_iff_mem.2 hm]at hes
    cases hes⟩)
  refine⟨_,_,hrun,this.2,?_⟩
  rw[hval]
  have hlt:dn.length<ks.length:=by
   have:(dn++[e.key]).length≤ks.length:=by
    refine zjn (List.nodup_append.2 ⟨hkn,by simp,fun a ha c hc=>by simp at hc; subst hc; rintro rfl; exact hnk ha⟩) fun x hx=>?_
    rcases List.mem_append.1 hx with hx|hx
    ·rw[←hdn]at hx
     obtain⟨d,hd,rfl⟩:=List.mem_map.1 hx
     rw[←hso.keys]; exact List.mem_map.2 ⟨d,hsub d hd,rfl⟩
    ·simp at hx; exact hx▸hkm
   simp at this; omega
  exact k1 e.key _ hkm hnk hlt (hso.kok _ hkm) this.1
theorem Ctx.setEntry{P:Program}{K:Value→Prop}{V W w:World}{U0:Nat→Prop}{L bs:List Nat}{os:List Own}{G:List (Value×R)}{bx:List Box}{Kn:Value→World→Prop}{b r:Nat}{ks dn:List Value}{key:Value}
  (H:Ctx V U0 L bs (Own.walk K b r ks (dn++[key])::os) G W) (hs:Sync bx W w)
  (k:∀w',Ctx V U0 L bs (Own.walk K b r ks (dn++[key])::os) G w'→Kn (.tuple #[key,.bool true]) w') (hb:blks bx=bs:=by rfl):
  RunsX P (Instr.entry (.pointer (some ⟨r,0,none⟩))) w fun v w'=>Kept (blks bx) w w'∧Kn v w':=by
 subst hb
 have H:=H.sync hs rfl
 obtain⟨hne,es,clock,since,seen,ds,hwb,hso,hwr,hold,hsc,hseen,hdn,hsub,hnd⟩:=H.own (Own.walk K b r ks (dn++[key])) (by simp)
 obtain⟨d1,e,rfl⟩:∃d1 e,ds=d1++[e]:=by
  rcases List.eq_nil_or_concat ds with h|⟨d1,e,h⟩
  ·subst h; simp at hdn
  ·exact⟨d1,e,by simpa using h⟩
 simp only[List.map_append,List.map_cons,List.map_nil]at hdn hseen
 have hke:=(List.append_inj' hdn rfl).2
 simp only[List.cons.injEq,and_true]at hke
 have hsn:seen=(d1.map (·.born)).toArray.push e.born:=by
  apply Array.ext'; rw[hseen]; simp
 rw[hsn]at hwr
 have hem:=hsub e (by simp)
 have hrun:=run_entry_at (P:=P) w r b since _ es clock e hwr hwb hem hso.bnd
 rw[hso.val e hem,hke]at hrun
 exact⟨_,_,hrun,fun _ _=>rfl,k _ H⟩
end Go.Vc
namespace Go.Vc
open Go Go.RowKit Go.Sort Go.Proofs
theorem yiz {enc : Value → Value} {w : World} {g n : Nat} {os : Array Obj} {cur : Array Value} {e : TypeId} {fr : Nat × Nat} (F : Array Value) (hb : w.heap[g]? = some (.cells cur e fr)) :
    (grow (putRow id (Sort.ahead w n) g 0 F) os).heap[g]? = some (.cells (putCells id 0 F cur) e fr) := by
  have hg : g < w.heap.size := (Array.getElem?_eq_some_iff.1 hb).1
  rw [heap_grow_old _ _ (by simpa using hg)]
  simp [putRow, mapBlock, Sort.ahead, Array.getElem?_modify, hb, onCells]
theorem zzi {w : World} {g n : Nat} {os : Array Obj} (F : Array Value) {k : Nat} (hk : k < w.heap.size) (hne : k ≠ g) :
    (grow (putRow id (Sort.ahead w n) g 0 F) os).heap[k]? = w.heap[k]? := by
  rw [heap_grow_old _ _ (by simpa using hk)]
  have : g ≠ k := fun e => hne e.symm
  simp [putRow, mapBlock, Sort.ahead, Array.getElem?_modify, this]
theorem zyx (cur F : Array Value) (h : F.size ≤ cur.size) : (putCells id 0 F cur).toList.take F.size = F.toList := by
  apply List.ext_getElem?
  intro j
  by_cases hj : j < F.size
  · rw [List.getElem?_take_of_lt hj, Array.getElem?_toList]
    simp [putCells, hj, show j < cur.size by omega]
  · rw [List.getElem?_take_eq_none (by omega), List.getElem?_eq_none (by simp; omega)]
section
variable {α : Type} [Inhabited α]
def encs (enc : α → List Value) (l : List α) : List (List R) := l.map fun x => (enc x).map R.val
theorem yaf {U : Nat → Prop} {w : World} : ∀ {vs us : List Value}, listH U w (vs.map R.val) us → us = vs
  | [], us, h => by simpa [listH] using h
  | v :: vs, us, h => by
    simp only [List.map_cons, listH] at h
    obtain ⟨u, us, rfl, h1, h2⟩ := h
    simp only [R.h] at h1
    rw [h1, yaf h2]
theorem zzr {U : Nat → Prop} {w : World} : ∀ (vs : List Value), listH U w (vs.map R.val) vs
  | [] => by simp [listH]
  | v :: vs => by simp only [List.map_cons, listH]; exact ⟨v, vs, rfl, by simp [R.h], zzr vs⟩
omit [Inhabited α] in
theorem yhf (enc : α → List Value) (l : List α) : (encs enc l).flatten = (l.flatMap enc).map R.val := by
  induction l with
  | nil => rfl
  | cons x l ih => simp only [encs, List.map_cons, List.flatten_cons, List.flatMap_cons, List.map_append] at ih ⊢; rw [ih]
theorem ztc (enc : α → List Value) (k : Nat) (hk : ∀ x, (enc x).length = k) (l : List α) : (flatK enc k l.toArray).toList = l.flatMap enc := by
  have hl : (l.flatMap enc).length = l.length * k := by
    induction l with
    | nil => simp
    | cons x l ih => simp [hk, ih, Nat.succ_mul]; omega
  apply List.ext_getElem?
  intro t
  rw [Array.getElem?_toList]
  by_cases ht : t < l.length * k
  · have k0 : 0 < k := by rcases Nat.eq_zero_or_pos k with h | h; · subst h; simp at ht
                          · exact h
    have hq : t / k < l.length := (Nat.div_lt_iff_lt_mul k0).2 ht
    have h1 : (flatK enc k l.toArray)[t]? = some ((enc l.toArray[t / k]!)[t % k]!) := by
      have := get_flatK enc k l.toArray t (by simpa using ht)
      rw [← this]; simp [ht]
    rw [h1]
    have h2 := zga (k := k) (els := l.map enc) (i := t / k) (cs := enc l[t / k]) (by intro x hx; obtain ⟨y, _, rfl⟩ := List.mem_map.1 hx; exact hk y) (by simp [hq]) (t % k) ((enc l[t / k])[t % k]'(by rw [hk]; exact Nat.mod_lt _ k0)) (List.getElem?_eq_getElem _)
    rw [show t / k * k + t % k = t by rw [Nat.mul_comm]; exact Nat.div_add_mod t k] at h2
    rw [← List.flatMap_def] at h2
    rw [h2]
    have h3 : l.toArray[t / k]! = l[t / k] := by simp [hq]
    rw [h3]
    have h4 : t % k < (enc l[t / k]).length := by rw [hk]; exact Nat.mod_lt _ k0
    exact congrArg some (getElem!_pos (enc l[t / k]) (t % k) h4)
  · rw [List.getElem?_eq_none (by rw [hl]; omega)]
    simp; omega
theorem Ctx.sortRow {P : Program} {f : FuncId} {fv : Value} {enc : α → List Value} {k : Nat} (hk : ∀ x, (enc x).length = k) (h1 : ∀ x, ∀ v ∈ enc x, v.oneCell' = true) {srt : List α → List α} (hsl : ∀ l, (srt l).length = l.length) (hf : zku P f)
    (hnone : ∀ p cap w, Calls P f #[.slice p 0 cap, fv] w fun e w' => e = .returned (.tuple #[]) ∧ w' = w)
    (hcall : ∀ blk off cap (d : Array α) w, HoldsK enc k w blk off d → blk < w.heap.size → d.size < 4611686018427387904 → Calls P f #[.slice (some ⟨blk, off, none⟩) d.size cap, fv] w fun e w' => e = .returned (.tuple #[]) ∧ ∃ n os, w' = sortWorldK enc k w blk off n (srt d.toList).toArray os)
    {V W w : World} {U0 : Nat → Prop} {L bs : List Nat} {os : List Own} {G : List (Value × R)} {bx : List Box} {ids : List Nat} {Kn : Value → World → Prop} {e : TypeId} {a : Option Addr} {c : Nat} {l : List α}
    (H : Ctx V U0 L bs (Own.row e k a c (encs enc l) :: os) G W) (hs : Sync bx W w) (hl : l.length < 4611686018427387904)
    (kn : ∀ w', Ctx V U0 L bs (Own.row e k a c (encs enc (srt l)) :: os) G w' → Kn (.tuple #[]) w') (hb : blks bx = bs := by rfl) :
    CallsX P f #[.slice a l.length c, fv] w fun u w' => Kept (keptB ids 0 bx) w w' ∧ Kn u w' := by
  have hb0 := hb
  have H := H.sync hs hb
  obtain ⟨xs, ho, hx, ho1, hkl⟩ := H.own (Own.row e k a c (encs enc l)) (by simp)
  have hlen : (encs enc l).length = l.length := by simp [encs]
  rw [hlen] at ho
  rw [yhf] at hx
  obtain rfl := yaf hx
  rcases Nat.eq_zero_or_pos l.length with h0 | hp
  · have hl0 : l = [] := List.eq_nil_of_length_eq_zero h0
    have hs0 : srt l = l := by rw [hl0]; exact List.eq_nil_of_length_eq_zero (by rw [hsl]; rfl)
    refine ⟨.inl ⟨hf, ?_⟩⟩
    rw [h0]
    refine (hnone a c w).mono fun e' w' ⟨he, hw⟩ => ⟨_, he, ?_⟩
    subst hw
    exact ⟨fun _ _ => rfl, kn _ (by rw [hs0]; exact H)⟩
  · obtain ⟨hxl, ho⟩ := ho
    rcases ho with ⟨_, hn⟩ | ⟨g, cap, cur, heq, hbase, hg, hn1, hn2, hn3, hn4⟩
    · omega
    simp only [Value.slice.injEq] at heq
    obtain ⟨rfl, _, rfl⟩ := heq
    have hgl : g < w.heap.size := (Array.getElem?_eq_some_iff.1 hg).1
    have hfl := ztc enc k hk l
    have hfs : (flatK enc k l.toArray).size = l.length * k := by simp
    have hH : HoldsK enc k w g 0 l.toArray := by
      intro j hj
      rw [hfs] at hj
      refine ⟨?_, by simp [World.frozen?, hg]⟩
      have e1 : (cur.toList.take (l.length * k))[j]? = (l.flatMap enc)[j]? := by rw [hn4]
      rw [List.getElem?_take_of_lt hj, ← hfl, Array.getElem?_toList, Array.getElem?_toList] at e1
      simp only [World.cell?, hg, Nat.zero_add, Option.isSome_none, Bool.false_eq_true, if_false, e1]
      rw [getElem!_pos (flatK enc k l.toArray) j (by rw [hfs]; exact hj), Array.getElem?_eq_getElem (by rw [hfs]; exact hj)]
      rfl
    refine ⟨.inl ⟨hf, ?_⟩⟩
    have hc := hcall g 0 c l.toArray w hH hgl (by simpa using hl)
    rw [show l.toArray.size = l.length by simp] at hc
    refine hc.mono fun e' w' ⟨he, n, os', hw⟩ => ⟨_, he, ?_⟩
    subst hw
    have hgs : (flatK enc k (srt l).toArray).size = l.length * k := by simp [hsl]
    have := H.turn (o' := Own.row e k (some ⟨g, 0, none⟩) c (encs enc (srt l))) (w' := sortWorldK enc k w g 0 n (srt l).toArray os') (hs.blt hb0) rfl rfl rfl (by simp [sortWorldK, putRowK])
      (fun b hb hn => zzi _ hb (by simpa [Own.row, oblk] using hn)) (fun b hb => .inr hb) (by simp [Own.row, oblk])
      (fun U => by
        refine ⟨(srt l).flatMap enc, ?_, by rw [yhf]; exact zzr _, ?_, ?_⟩
        · have e2 : (encs enc (srt l)).length = l.length := by simp [encs, hsl]
          have e3 : ((srt l).flatMap enc).length = l.length * k := by rw [← ztc enc k hk, Array.length_toList, hgs]
          rw [e2]
          refine ⟨e3, .inr ⟨g, c, _, rfl, hbase, yiz (enc := id) _ hg, hn1, hn2, by simp [putCells, hn3], ?_⟩⟩
          rw [← ztc enc k hk, ← hgs]
          exact zyx cur _ (by rw [hgs, hn3]; exact Nat.mul_le_mul_right k hn1)
        · intro u hu
          obtain ⟨x, _, hx⟩ := List.mem_flatMap.1 hu
          exact h1 x u hx
        · intro x hx
          obtain ⟨y, _, rfl⟩ := List.mem_map.1 hx
          simp [hk])
    refine ⟨fun b hb => this.2 b ?_, kn _ this.1⟩
    have hkb : ∀ (bx : List Box) (i : Nat), ∀ b ∈ Go.Vc.keptB ids i bx, b ∈ blks bx := by
      intro bx
      induction bx with
      | nil => intro i b h; simp [Go.Vc.keptB] at h
      | cons x bx ih =>
        intro i b h
        unfold Go.Vc.keptB at h
        split at h
        · simp only [blks, List.map_cons, List.mem_cons]; exact .inr (ih _ b h)
        · simp only [List.mem_cons] at h
          simp only [blks, List.map_cons, List.mem_cons]
          exact h.imp id (ih _ b)
    rw [← hb0]; exact hkb bx 0 b hb
end
end Go.Vc

namespace Go.Proofs.YtllkmncnmlmefaaGreat
open Go Go.Vc Go.RowKit Go.Sort Go.Proofs
def lessU(x y:Int×Int):Bool:=if x.1=y.1 then decide (x.2<y.2) else decide (x.1<y.1)
set_option maxRecDepth 100000 in
theorem less_w(x y:Int×Int)(W:World):Calls Tryz.prog 304 #[.agg #[.int .i64 x.1,.int .i64 x.2],.agg #[.int .i64 y.1,.int .i64 y.2]] W fun e w'=>e=.returned (.bool (lessU x y))∧∃q os',w'=grow (W.drewN q) os':=by
 by_cases h:x.1=y.1
 ·have e:lessU x y=decide (x.2<y.2):=by simp[lessU,h]
  rw[e]
  clear e
  go_enter Tryz.func304,Tryz.ntmps304
  go_wp2
  go_ret
  exact⟨rfl,0,_,by rw[alloc_eq_grow,alloc_eq_grow,grow_grow]; rfl⟩
 ·have e:lessU x y=decide (x.1<y.1):=by simp[lessU,h]
  rw[e]
  clear e
  go_enter Tryz.func304,Tryz.ntmps304
  go_wp2
  go_ret
  exact⟨rfl,0,_,by rw[alloc_eq_grow,alloc_eq_grow,grow_grow]; rfl⟩
def cmpU(x y:Int×Int):Int:=if lessU x y=true then -1 else if lessU y x=true then 1 else 0
theorem zxy(W:World)(q1 q2:Nat)(o1 o2:Array Obj):grow ((grow (W.drewN q1) o1).drewN q2) o2=grow (W.drewN (q1+q2)) (o1++o2):=by
 simp[grow,World.drewN,Array.append_assoc,Nat.add_assoc]
theorem alloc_drew(W:World)(o:Obj):W.alloc o=grow (W.drewN 0) #[o]:=by rw[alloc_eq_grow]; rfl
theorem cell_two0(W:World)(a b:Array Value)(s t:TypeId)(q:Nat)(os:Array Obj)(j:Nat):(grow (((W.alloc (.cells a s)).alloc (.cells b t)).drewN q) os).cell? ⟨W.heap.size,j,none⟩=a[j]?:=by
 have h:(grow (((W.alloc (.cells a s)).alloc (.cells b t)).drewN q) os).heap[W.heap.size]?=some (.cells a s):=by
  rw[heap_grow_old _ _ (by simp[World.drewN]; try omega)]
  show ((W.heap.push _).push _)[W.heap.size]?=_
  simp[Array.getElem?_push]
 simp[World.cell?,h]
theorem cell_two1(W:World)(a b:Array Value)(s t:TypeId)(q:Nat)(os:Array Obj)(j:Nat):(grow (((W.alloc (.cells a s)).alloc (.cells b t)).drewN q) os).cell? ⟨W.heap.size+1,j,none⟩=b[j]?:=by
 have h:(grow (((W.alloc (.cells a s)).alloc (.cells b t)).drewN q) os).heap[W.heap.size+1]?=some (.cells b t):=by
  rw[heap_grow_old _ _ (by simp[World.drewN]; try omega)]
  show ((W.heap.push _).push _)[W.heap.size+1]?=_
  rw[Array.getElem?_push]; simp
 simp[World.cell?,h]
def G2(W w':World):Prop:=∃q os',w'=grow (W.drewN q) os'
theorem G2.c0{W w':World}{a b:Array Value}{s t:TypeId}(h:G2 ((W.alloc (.cells a s)).alloc (.cells b t)) w')(j:Nat):w'.cell? ⟨W.heap.size,j,none⟩=a[j]?:=by
 obtain⟨q,os,rfl⟩:=h; exact cell_two0 W a b s t q os j
theorem G2.c1{W w':World}{a b:Array Value}{s t:TypeId}(h:G2 ((W.alloc (.cells a s)).alloc (.cells b t)) w')(j:Nat):w'.cell? ⟨W.heap.size+1,j,none⟩=b[j]?:=by
 obtain⟨q,os,rfl⟩:=h; exact cell_two1 W a b s t q os j
theorem G2.trans{a b c:World}(h:G2 a b)(h':G2 b c):G2 a c:=by
 obtain⟨q,os,rfl⟩:=h; obtain⟨q',os',rfl⟩:=h'; exact⟨_,_,zxy _ _ _ _ _⟩
theorem G2.alloc(W:World)(o:Obj):G2 W (W.alloc o):=⟨0,_,alloc_drew W o⟩
set_option maxRecDepth 100000 in
theorem order_w(x y:Int×Int)(W:World):Calls Tryz.prog 403 #[.agg #[.int .i64 x.1,.int .i64 x.2],.agg #[.int .i64 y.1,.int .i64 y.2]] W fun e w'=>e=.returned (.int .i64 (cmpU x y))∧G2 W w':=by
 obtain⟨x1,x2⟩:=x
 obtain⟨y1,y2⟩:=y
 have h1:∀a b c d W,Calls Tryz.prog 304 #[.agg #[.int .i64 a,.int .i64 b],.agg #[.int .i64 c,.int .i64 d]] W fun e w'=>e=.returned (.bool (lessU (a,b) (c,d)))∧G2 W w':=fun a b c d W=>less_w (a,b) (c,d) W
 have hc:cmpU (x1,x2) (y1,y2)=if lessU (x1,x2) (y1,y2)=true then -1 else if lessU (y1,y2) (x1,x2)=true then 1 else 0:=rfl
 rw[hc]; clear hc
 generalize hf:lessU=f at h1
 clear hf
 cases hp:f (x1,x2) (y1,y2) with
 |false=>
  cases hq:f (y1,y2) (x1,x2) with
  |false=>
   go_enter Tryz.func403,Tryz.ntmps403
   go_wp2_with (go_at_call 304; refine(h1 _ _ _ _ _).mono ?_; rintro e w' ⟨rfl,hw⟩; first|(have k0:=hw.c0 0; have k1:=hw.c0 1; have k2:=hw.c1 0; have k3:=hw.c1 1; have hw1:=hw)|skip)
   go_ret
   exact⟨rfl,(((G2.alloc _ _).trans (G2.alloc _ _)).trans hw1).trans hw⟩
  |true=>
   go_enter Tryz.func403,Tryz.ntmps403
   go_wp2_with (go_at_call 304; refine(h1 _ _ _ _ _).mono ?_; rintro e w' ⟨rfl,hw⟩; first|(have k0:=hw.c0 0; have k1:=hw.c0 1; have k2:=hw.c1 0; have k3:=hw.c1 1; have hw1:=hw)|skip)
   go_ret
   exact⟨rfl,(((G2.alloc _ _).trans (G2.alloc _ _)).trans hw1).trans hw⟩
 |true=>
  go_enter Tryz.func403,Tryz.ntmps403
  go_wp2_with (go_at_call 304; (refine(h1 _ _ _ _ _).mono ?_; rintro e w' ⟨rfl,hw⟩))
  go_ret
  exact⟨rfl,((G2.alloc _ _).trans (G2.alloc _ _)).trans hw⟩
end Go.Proofs.YtllkmncnmlmefaaGreat
namespace Go.Proofs.YtllkmncnmlmefaaGreat
open Go Go.Vc Go.RowKit Go.Sort Go.Proofs Go.Shelf
def Tryz.sortU_ren:Go.Shelf.Ren:=⟨fun|6=>402|15=>424|14=>423|28=>443|29=>444|20=>435|21=>436|22=>437|23=>438|24=>439|25=>440|26=>441|27=>442|46=>451|47=>452|48=>453|49=>454|50=>455|57=>466|n=>n,fun|22=>108|24=>47|25=>428|3=>3|39=>403|0=>0|53=>469|55=>251|4=>4|46=>463|45=>462|50=>302|5=>5|9=>9|66=>478|70=>482|76=>489|77=>490|n=>n,fun n=>n⟩
theorem Tryz.sortU:SlLaysF0.n6 Tryz.prog Tryz.sortU_ren where
 mixed:=by kernel_rfl
 f6:=⟨Tryz.f402.name,by decide +kernel,Tryz.func402.trans (congrArg some (by kernel_rfl))⟩
 f14:=⟨Tryz.f423.name,by decide +kernel,Tryz.func423.trans (congrArg some (by kernel_rfl))⟩
 f15:=Tryz.func424.trans (congrArg some (by kernel_rfl))
 f20:=⟨Tryz.f435.name,by decide +kernel,Tryz.func435.trans (congrArg some (by kernel_rfl))⟩
 f21:=⟨Tryz.f436.name,by decide +kernel,Tryz.func436.trans (congrArg some (by kernel_rfl))⟩
 f22:=⟨Tryz.f437.name,by decide +kernel,Tryz.func437.trans (congrArg some (by kernel_rfl))⟩
 f23:=⟨Tryz.f438.name,by decide +kernel,Tryz.func438.trans (congrArg some (by kernel_rfl))⟩
 f24:=⟨Tryz.f439.name,by decide +kernel,Tryz.func439.trans (congrArg some (by kernel_rfl))⟩
 f25:=⟨Tryz.f440.name,by decide +kernel,Tryz.func440.trans (congrArg some (by kernel_rfl))⟩
 f26:=⟨Tryz.f441.name,by decide +kernel,Tryz.func441.trans (congrArg some (by kernel_rfl))⟩
 f27:=⟨Tryz.f442.name,by decide +kernel,Tryz.func442.trans (congrArg some (by kernel_rfl))⟩
 f28:=Tryz.func443.trans (congrArg some (by kernel_rfl))
 f29:=Tryz.func444.trans (congrArg some (by kernel_rfl))
 f46:=⟨Tryz.f451.name,by decide +kernel,Tryz.func451.trans (congrArg some (by kernel_rfl))⟩
 f47:=Tryz.func452.trans (congrArg some (by kernel_rfl))
 f48:=Tryz.func453.trans (congrArg some (by kernel_rfl))
 f49:=⟨Tryz.f454.name,by decide +kernel,Tryz.func454.trans (congrArg some (by kernel_rfl))⟩
 f50:=⟨Tryz.f455.name,by decide +kernel,Tryz.func455.trans (congrArg some (by kernel_rfl))⟩
 f57:=⟨Tryz.f466.name,by decide +kernel,Tryz.func466.trans (congrArg some (by kernel_rfl))⟩
 t0:=Tryz.underlying0
 a0:=Tryz.isAgg0
 z0:=Tryz.sizeOf0
 v0:=Tryz.zeroValue0
 t3:=Tryz.underlying3
 a3:=Tryz.isAgg3
 z3:=Tryz.sizeOf3
 v3:=Tryz.zeroValue3
 t4:=Tryz.underlying4
 a4:=Tryz.isAgg4
 z4:=Tryz.sizeOf4
 v4:=Tryz.zeroValue4
 t5:=Tryz.underlying5
 a5:=Tryz.isAgg5
 z5:=Tryz.sizeOf5
 v5:=Tryz.zeroValue5
 t9:=Tryz.underlying9
 a9:=Tryz.isAgg9
 z9:=Tryz.sizeOf9
 v9:=Tryz.zeroValue9
 t22:=Tryz.underlying108
 a22:=Tryz.isAgg108
 z22:=Tryz.sizeOf108
 v22:=Tryz.zeroValue108
 t25:=Tryz.underlying428
 a25:=Tryz.isAgg428
 z25:=Tryz.sizeOf428
 v25:=Tryz.zeroValue428
 t39:=Tryz.underlying403
 a39:=Tryz.isAgg403
 z39:=Tryz.sizeOf403
 v39:=Tryz.zeroValue403
 t45:=Tryz.underlying462
 a45:=Tryz.isAgg462
 z45:=Tryz.sizeOf462
 v45:=Tryz.zeroValue462
 t46:=Tryz.underlying463
 a46:=Tryz.isAgg463
 z46:=Tryz.sizeOf463
 v46:=Tryz.zeroValue463
 t50:=Tryz.underlying302
 a50:=Tryz.isAgg302
 z50:=Tryz.sizeOf302
 v50:=Tryz.zeroValue302
 t53:=Tryz.underlying469
 a53:=Tryz.isAgg469
 z53:=Tryz.sizeOf469
 v53:=Tryz.zeroValue469
 t55:=Tryz.underlying251
 a55:=Tryz.isAgg251
 z55:=Tryz.sizeOf251
 v55:=Tryz.zeroValue251
 t66:=Tryz.underlying478
 a66:=Tryz.isAgg478
 z66:=Tryz.sizeOf478
 v66:=Tryz.zeroValue478
 t70:=Tryz.underlying482
 a70:=Tryz.isAgg482
 z70:=Tryz.sizeOf482
 v70:=Tryz.zeroValue482
 t76:=Tryz.underlying489
 a76:=Tryz.isAgg489
 z76:=Tryz.sizeOf489
 v76:=Tryz.zeroValue489
 t77:=Tryz.underlying490
 a77:=Tryz.isAgg490
 z77:=Tryz.sizeOf490
 v77:=Tryz.zeroValue490
def encU(x:Int×Int):List Value:=[.int .i64 x.1,.int .i64 x.2]
def uV(x:Int×Int):Value:=.agg #[.int .i64 x.1,.int .i64 x.2]
def isU(v:Value):Prop:=∃x:Int×Int,v=uV x
theorem chkU(x:Int×Int)(w:World):(Instr.checkKey false 10000 47 (uV x)).run Tryz.prog w=.ok () w:=by kernel_rfl
theorem leaves85:zdz Tryz.prog 9 47=some [.int .i64,.int .i64]:=by kernel_rfl
set_option maxRecDepth 100000 in
theorem eqU(x y:Int×Int)(w:World):(Op.equal 47 (uV x) (uV y)).run Tryz.prog w=.ok (x.1==y.1&&(x.2==y.2&&true)) w:=by
 have h:=yhb 9 47 _ leaves85 Op.maxDepth (by decide) [.int .i64 x.1,.int .i64 x.2] [.int .i64 y.1,.int .i64 y.2] (x.1==y.1&&(x.2==y.2&&true)) rfl w
 have e1:∀z:Int×Int,wrapV Tryz.prog 47 [.int .i64 z.1,.int .i64 z.2]=uV z:=fun z=>by kernel_rfl
 rw[e1,e1]at h
 exact h
theorem uV_inj{x y:Int×Int}(h:uV x=uV y):x=y:=by
 simp only[uV,Value.agg.injEq,Array.mk.injEq,List.cons.injEq,Value.int.injEq,true_and,and_true]at h
 exact Prod.ext h.1 h.2
theorem eqU_t(x:Int×Int)(w:World):(Op.equal 47 (uV x) (uV x)).run Tryz.prog w=.ok true w:=by rw[eqU]; simp
theorem eqU_f{x y:Int×Int}(h:x≠y)(w:World):(Op.equal 47 (uV x) (uV y)).run Tryz.prog w=.ok false w:=by
 rw[eqU]
 have:(x.1==y.1&&(x.2==y.2&&true))=false:=by
  cases hh:(x.1==y.1&&(x.2==y.2&&true)) with
  |false=>rfl
  |true=>simp at hh; exact absurd (Prod.ext hh.1 hh.2) h
 rw[this]
theorem askU(x:Int×Int)(w:World):∀(es:List MapEntry),(∀e∈es,isU e.key)→∀i,
  ((Instr.findAsking 47 (uV x) es i).run Tryz.prog w=.ok none w∧∀e∈es,e.key≠uV x)∨∃j e,(Instr.findAsking 47 (uV x) es i).run Tryz.prog w=.ok (some (i+j,e.val)) w∧es[j]?=some e∧e.key=uV x
 |[],_,i=>.inl ⟨rfl,by simp⟩
 |e::es,h,i=>by
  obtain⟨y,hy⟩:=h e (by simp)
  by_cases hxy:x=y
  ·subst hxy
   refine .inr ⟨0,e,?_,rfl,hy⟩
   simp only[Instr.findAsking,Sem.run_bind,hy,eqU_t,Result.andThen_ok,if_true,Sem.run_pure,Nat.add_zero]
  ·have e1:(Instr.findAsking 47 (uV x) (e::es) i).run Tryz.prog w=(Instr.findAsking 47 (uV x) es (i+1)).run Tryz.prog w:=by
    simp only[Instr.findAsking,Sem.run_bind,hy,eqU_f hxy,Result.andThen_ok,Bool.false_eq_true,if_false]
   rcases askU x w es (fun e he=>h e (by simp[he])) (i+1) with ⟨h1,h2⟩|⟨j,e',h1,h2,h3⟩
   ·refine .inl ⟨e1.trans h1,fun e' he'=>?_⟩
    rcases List.mem_cons.1 he' with rfl|he'
    ·rw[hy]; exact fun hh=>hxy (uV_inj hh).symm
    ·exact h2 e' he'
   ·exact .inr ⟨j+1,e',by rw[e1,h1,show i+1+j=i+(j+1) by omega],by simpa using h2,h3⟩
theorem keyU:KeyOk Tryz.prog 47 isU where
 check:=by rintro w v ⟨x,rfl⟩; exact chkU x w
 find:=by
  rintro w v ⟨x,rfl⟩ es hes
  have e1:(Instr.findKey 47 (uV x) es).run Tryz.prog w=(Instr.findAsking 47 (uV x) es).run Tryz.prog w:=by
   cases es with
   |nil=>kernel_rfl
   |cons e es=>
    obtain⟨y,hy⟩:=hes e (by simp)
    obtain⟨k,v,b⟩:=e
    simp only at hy
    subst hy
    kernel_rfl
  rw[e1]
  rcases askU x w es hes 0 with h|⟨j,e,h1,h2,h3⟩
  ·exact .inl h
  ·exact .inr ⟨j,e,by rw[h1,Nat.zero_add],h2,h3⟩
 stays:=by
  rintro w v ⟨x,rfl⟩
  simp[Instr.keyThatStays,Instr.sameBits,uV]
theorem map243:Tryz.prog.underlying 284=some (.map 47 4):=by kernel_rfl
end Go.Proofs.YtllkmncnmlmefaaGreat
namespace Go.Vc
open Go Go.RowKit
inductive PV where
 |x (x:XV)
 |sl (k:Nat) (els:List (List R))
 |row (j:Nat)
 |el (cs:List R) (off:Nat)
 |re (j i off:Nat)
 |rt (j i:Nat)
 |ob (j:Nat)
 |own (i off:Nat)
 |fn (f:FuncId) (caps:List PV)
 |agg (xs:List PV)
 |tup (xs:List PV)
 |junk
inductive RS where
 |own (e k:Nat) (els:List (List R))
 |ob (o:Obj)
 |dead
structure PBox where
 ty:TypeId
 cells:List PV
abbrev Asg:=Nat→Option Addr×Nat
def Own.ob(a:Option Addr)(o:Obj):Own where
 bl:=oblk a
 h _ w:=∃b,a=some ⟨b,0,none⟩∧w.heap[b]?=some o
 mono:=by
  rintro U U' w w' ⟨b,rfl,h⟩ l hk
  exact⟨b,rfl,(hk b (by simp[oblk])).trans h⟩
 lt:=by
  rintro U w ⟨b,rfl,h⟩ c hc
  simp only[oblk,List.mem_singleton]at hc
  subst hc; exact(Array.getElem?_eq_some_iff.1 h).1
def ownsOf:List RS→Nat→Asg→List Own
 |[],_,_=>[]
 | .own e k els::rs,j,A=>Own.row e k (A j).1 (A j).2 els::ownsOf rs (j+1) A
 | .ob o::rs,j,A=>Own.ob (A j).1 o::ownsOf rs (j+1) A
 | .dead::rs,j,A=>ownsOf rs (j+1) A
def xrel(y z:XV):Prop:=z=y∨∃b,y=.bool b∧z=.lit b
theorem xrel.den{y z:XV}(h:xrel y z):z.den=y.den:=by
 rcases h with rfl|⟨b,rfl,rfl⟩<;>simp[XV.den]
theorem xrel.wf{y z:XV}{bs:List Nat}(h:xrel y z)(hy:y.wf bs):z.wf bs:=by
 rcases h with rfl|⟨b,rfl,rfl⟩
 ·exact hy
 ·simp[XV.wf]
theorem xrel.refl(y:XV):xrel y y:=.inl rfl
mutual
def PV.h(U:Nat→Prop)(W:World)(bs:List Nat)(π:Nat→Option Nat)(rw:List RS)(A:Asg):PV→XV→Prop
 | .x y,z=>xrel y z∧y.wf bs
 | .sl k els,z=>∃a c,z=.slc a els.length c∧(R.sl k els).h U W (.slice a els.length c)
 | .row j,z=>∃e k els,rw[j]?=some (.own e k els)∧z=.slc (A j).1 els.length (A j).2
 | .el cs off,z=>∃ad,z=.ptr (ad.add off)∧cellsH U W (some ad) 0 cs
 | .re j i off,z=>∃e k els ad,rw[j]?=some (.own e k els)∧i<els.length∧(A j).1=some ad∧z=.ptr (ad.add (i*k+off))
 | .rt j i,z=>∃e k els,rw[j]?=some (.own e k els)∧i≤els.length∧z=.slc (if (A j).2=i then (A j).1 else (A j).1.map (·.add (i*k))) (els.length - i) ((A j).2 - i)
 | .ob j,z=>∃o ad,rw[j]?=some (.ob o)∧(A j).1=some ad∧z=.ptr ad
 | .own i off,z=>∃q b,π i=some q∧bs[q]?=some b∧z=.own q b off
 | .fn f caps,z=>∃ys,z=.fn f ys∧PVsH U W bs π rw A caps ys
 | .agg xs,z=>∃ys,z=.agg ys∧PVsH U W bs π rw A xs ys
 | .tup xs,z=>∃ys,z=.tup ys∧PVsH U W bs π rw A xs ys
 | .junk,z=>z.wf bs
def PVsH(U:Nat→Prop)(W:World)(bs:List Nat)(π:Nat→Option Nat)(rw:List RS)(A:Asg):List PV→List XV→Prop
 |[],zs=>zs=[]
 |p::ps,zs=>∃z zs',zs=z::zs'∧PV.h U W bs π rw A p z∧PVsH U W bs π rw A ps zs'
end
section
variable {U U':Nat→Prop} {W W':World} {bs bs':List Nat} {π π':Nat→Option Nat} {rw rw':List RS} {A A':Asg}
mutual
theorem PV.h_wf:(p:PV)→{z:XV}→p.h U W bs π rw A z→z.wf bs
 | .x y,z,h=>by simp only[PV.h]at h; exact h.1.wf h.2
 | .sl k els,z,h=>by simp only[PV.h]at h; obtain⟨a,c,rfl,_⟩:=h; simp[XV.wf]
 | .row j,z,h=>by simp only[PV.h]at h; obtain⟨_,_,_,_,rfl⟩:=h; simp[XV.wf]
 | .el cs off,z,h=>by simp only[PV.h]at h; obtain⟨_,rfl,_⟩:=h; simp[XV.wf]
 | .re j i off,z,h=>by simp only[PV.h]at h; obtain⟨_,_,_,_,_,_,_,rfl⟩:=h; simp[XV.wf]
 | .rt j i,z,h=>by simp only[PV.h]at h; obtain⟨_,_,_,_,_,rfl⟩:=h; simp[XV.wf]
 | .ob j,z,h=>by simp only[PV.h]at h; obtain⟨_,_,_,_,rfl⟩:=h; simp[XV.wf]
 | .own i off,z,h=>by simp only[PV.h]at h; obtain⟨q,b,_,hb,rfl⟩:=h; simpa[XV.wf]using hb
 | .fn f caps,z,h=>by simp only[PV.h]at h; obtain⟨ys,rfl,h⟩:=h; simp only[XV.wf]; exact zpe caps h
 | .agg xs,z,h=>by simp only[PV.h]at h; obtain⟨ys,rfl,h⟩:=h; simp only[XV.wf]; exact zpe xs h
 | .tup xs,z,h=>by simp only[PV.h]at h; obtain⟨ys,rfl,h⟩:=h; simp only[XV.wf]; exact zpe xs h
 | .junk,z,h=>by simpa only[PV.h]using h
theorem zpe:(ps:List PV)→{zs:List XV}→PVsH U W bs π rw A ps zs→wfL bs zs
 |[],zs,h=>by simp only[PVsH]at h; subst h; simp[wfL]
 |p::ps,zs,h=>by
  simp only[PVsH]at h
  obtain⟨z,zs',rfl,h1,h2⟩:=h
  exact⟨PV.h_wf p h1,zpe ps h2⟩
end
theorem zcr:∀{ps:List PV} {zs:List XV},PVsH U W bs π rw A ps zs→zs.length=ps.length
 |[],zs,h=>by simp only[PVsH]at h; subst h; rfl
 |p::ps,zs,h=>by
  simp only[PVsH]at h
  obtain⟨z,zs',rfl,h1,h2⟩:=h
  simp[zcr h2]
theorem zwb:∀{ps qs:List PV} {zs ws:List XV},PVsH U W bs π rw A ps zs→PVsH U W bs π rw A qs ws→PVsH U W bs π rw A (ps++qs) (zs++ws)
 |[],_,zs,_,h,h'=>by simp only[PVsH]at h; subst h; simpa using h'
 |p::ps,_,zs,_,h,h'=>by
  simp only[PVsH]at h
  obtain⟨z,zs',rfl,h1,h2⟩:=h
  simp only[List.cons_append,PVsH]
  exact⟨z,_,rfl,h1,zwb h2 h'⟩
theorem zrr:∀{ps:List PV} {zs:List XV},PVsH U W bs π rw A ps zs→∀(i:Nat) {p:PV} {z:XV},p.h U W bs π rw A z→PVsH U W bs π rw A (ps.set i p) (zs.set i z)
 |[],zs,h,i,p,z,hp=>by simp only[PVsH]at h; subst h; simp[PVsH]
 |q::ps,zs,h,i,p,z,hp=>by
  simp only[PVsH]at h
  obtain⟨y,zs',rfl,h1,h2⟩:=h
  cases i with
  |zero=>simp only[List.set_cons_zero,PVsH]; exact⟨_,_,rfl,hp,h2⟩
  |succ i=>simp only[List.set_cons_succ,PVsH]; exact⟨_,_,rfl,h1,zrr h2 i hp⟩
mutual
def PV.sub(f:Nat→Option PV):PV→PV
 | .row i=>match f i with|some p=>p|none=>.row i
 | .re i a b=>match f i with|some _=>.junk|none=>.re i a b
 | .rt i a=>match f i with|some _=>.junk|none=>.rt i a
 | .ob i=>match f i with|some _=>.junk|none=>.ob i
 | .fn g cs=>.fn g (subL f cs)
 | .agg xs=>.agg (subL f xs)
 | .tup xs=>.tup (subL f xs)
 |p=>p
def subL(f:Nat→Option PV):List PV→List PV
 |[]=>[]
 |p::ps=>p.sub f::subL f ps
end
structure Sub(f:Nat→Option PV)(U U':Nat→Prop)(W W':World)(bs bs':List Nat)(π π':Nat→Option Nat)(rw rw':List RS)(A A':Asg):Prop where
 later:Later U U' W W'
 bs:∃l,bs'=bs++l
 pi:∀i q,π i=some q→π' i=some q
 keep:∀i e k els,f i=none→rw[i]?=some (.own e k els)→rw'[i]?=some (.own e k els)∧A' i=A i
 keepO:∀i o,f i=none→rw[i]?=some (.ob o)→(∃o',rw'[i]?=some (.ob o'))∧A' i=A i
 to:∀i p e k els,f i=some p→rw[i]?=some (.own e k els)→p.h U' W' bs' π' rw' A' (.slc (A i).1 els.length (A i).2)
theorem wf_more(bs l:List Nat):∀{z:XV},z.wf bs→z.wf (bs++l):=by
 induction l generalizing bs with
 |nil=>intro z h; simpa using h
 |cons b l ih=>intro z h; have:=ih (bs++[b]) (XV.wf_mono bs b z h); simpa using this
mutual
theorem PV.h_sub{f:Nat→Option PV}(s:Sub f U U' W W' bs bs' π π' rw rw' A A'):(p:PV)→{z:XV}→p.h U W bs π rw A z→(p.sub f).h U' W' bs' π' rw' A' z
 | .x y,z,h=>by
  obtain⟨l,hl⟩:=s.bs
  simp only[PV.sub,PV.h]at h ⊢
  exact⟨h.1,hl▸wf_more _ _ h.2⟩
 | .sl k els,z,h=>by
  simp only[PV.sub,PV.h]at h ⊢
  obtain⟨a,c,rfl,h⟩:=h
  exact⟨a,c,rfl,R.mono s.later _ h⟩
 | .row j,z,h=>by
  simp only[PV.h]at h
  obtain⟨e,k,els,hj,rfl⟩:=h
  unfold PV.sub
  cases hf:f j with
  |none=>obtain⟨h1,h2⟩:=s.keep j e k els hf hj; simp only[PV.h]; exact⟨e,k,els,h1,by rw[h2]⟩
  |some p=>exact s.to j p e k els hf hj
 | .el cs off,z,h=>by
  simp only[PV.sub,PV.h]at h ⊢
  obtain⟨ad,rfl,h⟩:=h
  exact⟨ad,rfl,zoz s.later _ h⟩
 | .re j i off,z,h=>by
  simp only[PV.h]at h
  obtain⟨e,k,els,ad,hj,hi,ha,rfl⟩:=h
  unfold PV.sub
  cases hf:f j with
  |none=>obtain⟨h1,h2⟩:=s.keep j e k els hf hj; simp only[PV.h]; exact⟨e,k,els,ad,h1,hi,by rw[h2]; exact ha,rfl⟩
  |some p=>simp[PV.h,XV.wf]
 | .rt j i,z,h=>by
  simp only[PV.h]at h
  obtain⟨e,k,els,hj,hi,rfl⟩:=h
  unfold PV.sub
  cases hf:f j with
  |none=>obtain⟨h1,h2⟩:=s.keep j e k els hf hj; simp only[PV.h]; exact⟨e,k,els,h1,hi,by rw[h2]⟩
  |some p=>simp[PV.h,XV.wf]
 | .ob j,z,h=>by
  simp only[PV.h]at h
  obtain⟨o,ad,hj,ha,rfl⟩:=h
  unfold PV.sub
  cases hf:f j with
  |none=>obtain⟨⟨o',h1⟩,h2⟩:=s.keepO j o hf hj; simp only[PV.h]; exact⟨o',ad,h1,by rw[h2]; exact ha,rfl⟩
  |some p=>simp[PV.h,XV.wf]
 | .own i off,z,h=>by
  obtain⟨l,hl⟩:=s.bs
  simp only[PV.sub,PV.h]at h ⊢
  obtain⟨q,b,hq,hb,rfl⟩:=h
  refine⟨q,b,s.pi i q hq,?_,rfl⟩
  rw[hl,List.getElem?_append_left (List.getElem?_eq_some_iff.1 hb).1]; exact hb
 | .fn g caps,z,h=>by
  simp only[PV.sub,PV.h]at h ⊢
  obtain⟨ys,rfl,h⟩:=h
  exact⟨ys,rfl,zer s _ h⟩
 | .agg xs,z,h=>by
  simp only[PV.sub,PV.h]at h ⊢
  obtain⟨ys,rfl,h⟩:=h
  exact⟨ys,rfl,zer s _ h⟩
 | .tup xs,z,h=>by
  simp only[PV.sub,PV.h]at h ⊢
  obtain⟨ys,rfl,h⟩:=h
  exact⟨ys,rfl,zer s _ h⟩
 | .junk,z,h=>by
  obtain⟨l,hl⟩:=s.bs
  simp only[PV.sub,PV.h]at h ⊢
  exact hl▸wf_more _ _ h
theorem zer{f:Nat→Option PV}(s:Sub f U U' W W' bs bs' π π' rw rw' A A'):(ps:List PV)→{zs:List XV}→PVsH U W bs π rw A ps zs→PVsH U' W' bs' π' rw' A' (subL f ps) zs
 |[],zs,h=>by simp only[PVsH,subL]at h ⊢; exact h
 |p::ps,zs,h=>by
  simp only[PVsH,subL]at h ⊢
  obtain⟨z,zs',rfl,h1,h2⟩:=h
  exact⟨z,zs',rfl,PV.h_sub s p h1,zer s ps h2⟩
end
def noF:Nat→Option PV:=fun _=>none
mutual
theorem PV.sub_no:(p:PV)→p.sub noF=p
 | .row i=>rfl
 | .re i a b=>rfl
 | .rt i a=>rfl
 | .ob i=>rfl
 | .fn g cs=>by simp only[PV.sub,zry]
 | .agg xs=>by simp only[PV.sub,zry]
 | .tup xs=>by simp only[PV.sub,zry]
 | .x _ | .sl _ _ | .el _ _ | .own _ _ | .junk=>rfl
theorem zry:(ps:List PV)→subL noF ps=ps
 |[]=>rfl
 |p::ps=>by simp only[subL,PV.sub_no p,zry ps]
end
theorem zbr(s:Sub noF U U' W W' bs bs' π π' rw rw' A A'){ps:List PV}{zs:List XV}(h:PVsH U W bs π rw A ps zs):PVsH U' W' bs' π' rw' A' ps zs:=by
 have:=zer s ps h; rwa [zry]at this
theorem PV.h_mono(s:Sub noF U U' W W' bs bs' π π' rw rw' A A'){p:PV}{z:XV}(h:p.h U W bs π rw A z):p.h U' W' bs' π' rw' A' z:=by
 have:=PV.h_sub s p h; rwa [PV.sub_no]at this
abbrev PBs:=List (Option PBox)
structure PBsH(U:Nat→Prop)(W:World)(bs:List Nat)(π:Nat→Option Nat)(rw:List RS)(A:Asg)(pb:PBs)(bx:List Box):Prop where
 at_:∀i p,pb[i]?=some (some p)→∃q x,π i=some q∧bx[q]?=some x∧x.ty=p.ty∧PVsH U W bs π rw A p.cells x.cells
 inj:∀i j q,π i=some q→π j=some q→i=j
 born:∀i q,π i=some q→∃p,pb[i]?=some (some p)
 cov:∀q x,bx[q]?=some x→∃i,π i=some q
def subB'(f:Nat→Option PV):PBs→PBs
 |[]=>[]
 |some ⟨t,cs⟩::ps=>some ⟨t,subL f cs⟩::subB' f ps
 |none::ps=>none::subB' f ps
theorem zlc{f:Nat→Option PV}:∀{ps:PBs} {i:Nat},(subB' f ps)[i]?=(ps[i]?).map fun o=>o.map fun p=>⟨p.ty,subL f p.cells⟩
 |[],i=>by simp[subB']
 |some ⟨t,cs⟩::ps,i=>by cases i<;>simp[subB',zlc]
 |none::ps,i=>by cases i<;>simp[subB',zlc]
theorem zrs{f:Nat→Option PV}(s:Sub f U U' W W' bs bs' π π' rw rw' A A'){ps:PBs}{bx:List Box}(hpi:∀i q,π' i=some q→π i=some q)(h:PBsH U W bs π rw A ps bx):PBsH U' W' bs' π' rw' A' (subB' f ps) bx:=by
 refine⟨fun i p hp=>?_,fun i j q hi hj=>h.inj i j q (hpi i q hi) (hpi j q hj),fun i q hi=>?_,fun q x hx=>let ⟨i,hi⟩:=h.cov q x hx; ⟨i,s.pi i q hi⟩⟩
 ·rw[zlc]at hp
  cases hq:ps[i]? with
  |none=>rw[hq]at hp; simp at hp
  |some o=>
   rw[hq]at hp
   cases o with
   |none=>simp at hp
   |some p0=>
    simp at hp; subst hp
    obtain⟨q,x,h1,h2,h3,h4⟩:=h.at_ i p0 hq
    exact⟨q,x,s.pi i q h1,h2,h3,zer s _ h4⟩
 ·obtain⟨p,hp⟩:=h.born i q (hpi i q hi)
  rw[zlc,hp]; simp
theorem ybt:(ps:PBs)→subB' noF ps=ps
 |[]=>rfl
 |some ⟨t,cs⟩::ps=>by simp only[subB',zry,ybt ps]
 |none::ps=>by simp only[subB',ybt ps]
theorem zdp(s:Sub noF U U' W W' bs bs' π π' rw rw' A A'){ps:PBs}{bx:List Box}(hpi:∀i q,π' i=some q→π i=some q)(h:PBsH U W bs π rw A ps bx):PBsH U' W' bs' π' rw' A' ps bx:=by
 have:=zrs s hpi h; rwa [ybt]at this
theorem ymd{ps:PBs}{bx:List Box}(h:PBsH U W bs π rw A ps bx){i q:Nat}{p:PBox}(hi:ps[i]?=some (some p))(hq:π i=some q){cs:List PV}{zs:List XV}(hc:PVsH U W bs π rw A cs zs):PBsH U W bs π rw A (ps.set i (some ⟨p.ty,cs⟩)) (setBox bx q zs):=by
 refine⟨fun j p' hp=>?_,h.inj,fun j q' hj=>?_,fun j x hx=>?_⟩
 ·rw[List.getElem?_set]at hp
  split at hp
  ·rename_i hij
   subst hij
   split at hp
   ·simp at hp; subst hp
    obtain⟨q1,x,h1,h2,h3,h4⟩:=h.at_ i p hi
    rw[hq]at h1; simp only[Option.some.injEq]at h1; subst h1
    exact⟨q,{ x with cells:=zs },hq,by rw[getElem?_setBox]; simp[h2],h3,hc⟩
   ·cases hp
  ·rename_i hij
   obtain⟨q1,x,h1,h2,h3,h4⟩:=h.at_ j p' hp
   refine⟨q1,x,h1,?_,h3,h4⟩
   rw[getElem?_setBox,if_neg]
   ·exact h2
   ·rintro rfl; exact hij (h.inj i j q1 hq h1)
 ·rw[List.getElem?_set]
  obtain⟨p',hp'⟩:=h.born j q' hj
  split
  ·rename_i hij; subst hij
   have:=(List.getElem?_eq_some_iff.1 hp').1
   simp[this]
  ·exact⟨p',hp'⟩
 ·rw[getElem?_setBox]at hx
  split at hx
  ·rename_i hjq; subst hjq; exact⟨i,hq⟩
  ·exact h.cov j x hx
end
structure Rep(V:World)(U0:Nat→Prop)(L:List Nat)(rw:List RS)(ts:List PV)(pb:PBs)(xs:List XV)(bx:List Box)(W:World)(π:Nat→Option Nat)(A:Asg):Prop where
 c:Ctx V U0 L (blks bx) (ownsOf rw 0 A) [] W
 ts:PVsH (Us U0 (blks bx) (ownsOf rw 0 A)) W (blks bx) π rw A ts xs
 pb:PBsH (Us U0 (blks bx) (ownsOf rw 0 A)) W (blks bx) π rw A pb bx
end Go.Vc

namespace Go.Vc
open Go Go.RowKit
abbrev KP:=List PV→PBs→List RS→Prop
abbrev RP:=PV→Prop
def getP:List PV→Nat→RP→Prop
 |[],_,K=>K (.x .und)
 |p::_,0,K=>match p with
  | .junk=>False
  | .x y=>match y with
   | .junk=>False
   |y=>K (.x y)
  |p=>K p
 |_::ps,n+1,K=>getP ps n K
def setP:List PV→Nat→PV→(List PV→Prop)→Prop
 |[],_,_,K=>K []
 |_::ps,0,y,K=>K (y::ps)
 |p::ps,n+1,y,K=>setP ps n y fun l=>K (p::l)
def opP(ts:List PV)(o:Operand)(K:RP):Prop:=
 match o with
 | .tmp t=>getP ts t K
 | .const c=>K (.x (zfo c))
 | .global g=>K (.x (.ptr ⟨g,0,none⟩))
 | .func f=>K (.fn f [])
def opsP(ts:List PV):List Operand→(List PV→Prop)→Prop
 |[],K=>K []
 |o::os,K=>opP ts o fun x=>opsP ts os fun xs=>K (x::xs)
def subP:List PV→Nat→Nat→(List PV→Prop)→Prop
 |_::xs,o+1,n,K=>subP xs o n K
 |_,0,0,K=>K []
 |x::xs,0,n+1,K=>subP xs 0 n fun l=>K (x::l)
 |[],_,_,_=>False
def subR:List R→Nat→Nat→(List R→Prop)→Prop
 |_::xs,o+1,n,K=>subR xs o n K
 |_,0,0,K=>K []
 |x::xs,0,n+1,K=>subR xs 0 n fun l=>K (x::l)
 |[],_,_,_=>False
def wrP:List PV→Nat→List PV→(List PV→Prop)→Prop
 |xs,_,[],K=>K xs
 |xs,off,v::vs,K=>setP xs off v fun l=>wrP l (off+1) vs K
def pbK:PBs→Nat→(PBox→Prop)→Prop
 |[],_,_=>False
 |o::_,0,K=>match o with|some x=>K x|none=>False
 |_::xs,n+1,K=>pbK xs n K
def setPBK:PBs→Nat→Option PBox→(PBs→Prop)→Prop
 |[],_,_,K=>K []
 |_::xs,0,y,K=>K (y::xs)
 |x::xs,n+1,y,K=>setPBK xs n y fun l=>K (x::l)
def zwh:PBs→Nat→Prop→Prop
 |[],_,_=>False
 |o::_,0,K=>match o with|some _=>False|none=>K
 |_::xs,n+1,K=>zwh xs n K
def rsK:List RS→Nat→(Nat→Nat→List (List R)→Prop)→Prop
 |[],_,_=>False
 |r::_,0,K=>match r with | .own e k els=>K e k els | .ob _=>False | .dead=>False
 |_::rs,n+1,K=>rsK rs n K
def rsD:List RS→Nat→(Nat→Nat→List (List R)→Prop)→Prop→Prop
 |[],_,_,N=>N
 |r::_,0,K,N=>match r with | .own e k els=>K e k els | .ob _=>N | .dead=>N
 |_::rs,n+1,K,N=>rsD rs n K N
def obK:List RS→Nat→(Obj→Prop)→Prop
 |[],_,_=>False
 |r::_,0,K=>match r with | .own _ _ _=>False | .ob o=>K o | .dead=>False
 |_::rs,n+1,K=>obK rs n K
def setRS:List RS→Nat→RS→(List RS→Prop)→Prop
 |[],_,_,K=>K []
 |_::rs,0,y,K=>K (y::rs)
 |r::rs,n+1,y,K=>setRS rs n y fun l=>K (r::l)
def litK(n:Nat)(K:Nat→Prop):Prop:=
 match n with
 |0=>K 0
 |1=>K 1
 |2=>K 2
 |3=>K 3
 |4=>K 4
 |5=>K 5
 |6=>K 6
 |7=>K 7
 |8=>K 8
 |9=>K 9
 |10=>K 10
 |11=>K 11
 |n=>K n
def pushK{α:Type}:List α→α→(List α→Prop)→Prop
 |[],y,K=>K [y]
 |x::xs,y,K=>pushK xs y fun l=>K (x::l)
mutual
def PV.subK(f:Nat→Option PV):PV→(PV→Prop)→Prop
 | .row i,K=>match f i with|some p=>K p|none=>K (.row i)
 | .re i a b,K=>match f i with|some _=>K .junk|none=>K (.re i a b)
 | .rt i a,K=>match f i with|some _=>K .junk|none=>K (.rt i a)
 | .ob i,K=>match f i with|some _=>K .junk|none=>K (.ob i)
 | .fn g cs,K=>subLK f cs fun cs=>K (.fn g cs)
 | .agg xs,K=>subLK f xs fun xs=>K (.agg xs)
 | .tup xs,K=>subLK f xs fun xs=>K (.tup xs)
 | .x y,K=>K (.x y)
 | .sl k els,K=>K (.sl k els)
 | .el cs o,K=>K (.el cs o)
 | .own i o,K=>K (.own i o)
 | .junk,K=>K .junk
def subLK(f:Nat→Option PV):List PV→(List PV→Prop)→Prop
 |[],K=>K []
 |p::ps,K=>p.subK f fun p=>subLK f ps fun ps=>K (p::ps)
end
def subBK(f:Nat→Option PV):PBs→(PBs→Prop)→Prop
 |[],K=>K []
 |some ⟨t,cs⟩::ps,K=>subLK f cs fun cs=>subBK f ps fun ps=>K (some ⟨t,cs⟩::ps)
 |none::ps,K=>subBK f ps fun ps=>K (none::ps)
def oneF(j:Nat)(p:PV):Nat→Option PV:=fun i=>match Nat.beq i j with|true=>some p|false=>none
def r2pK:R→RP→Prop
 | .val x,K=>K (.x (inj0 x))
 | .sl k els,K=>K (.sl k els)
 | .agg _,K=>K .junk
 | .tup _,K=>K .junk
 | .oth _ _,K=>K .junk
def r2pLK:List R→(List PV→Prop)→Prop
 |[],K=>K []
 |r::rs,K=>r2pK r fun p=>r2pLK rs fun l=>K (p::l)
def r1pK:R→RP→Prop
 | .val x,K=>K (.x (inj1 x))
 | .sl k els,K=>K (.sl k els)
 | .agg rs,K=>r2pLK rs fun l=>K (.agg l)
 | .tup _,K=>K .junk
 | .oth _ _,K=>K .junk
def r1pLK:List R→(List PV→Prop)→Prop
 |[],K=>K []
 |r::rs,K=>r1pK r fun p=>r1pLK rs fun l=>K (p::l)
def flatK:List PV→(List XV→Prop)→Prop
 |[],K=>K []
 | .x y::ps,K=>flatK ps fun l=>K (y::l)
 |_,_=>False
def partsP(ts:List PV):List (Nat×Operand)→(List (Nat×PV)→Prop)→Prop
 |[],K=>K []
 |(i,o)::ps,K=>opP ts o fun x=>partsP ts ps fun xs=>K ((i,x)::xs)
def cellsP(x:PV)(K:List PV→Prop):Prop:=
 match x with
 | .agg xs=>K xs
 | .x y=>match y with
  | .v y=>oneC y=true∧K [.x (.v y)]
  | .agg _=>False
  | .tup _=>False
  | .und=>False
  | .junk=>False
  |y=>K [.x y]
 | .tup _=>False
 | .junk=>False
 |x=>K [x]
def oneP:List PV→Prop→Prop
 |[],K=>K
 |p::ps,K=>match p with
  | .x y=>match y with
   | .v y=>oneC y=true∧oneP ps K
   | .agg _=>False
   | .tup _=>False
   | .und=>False
   | .junk=>False
   |_=>oneP ps K
  | .agg _=>False
  | .tup _=>False
  | .junk=>False
  |_=>oneP ps K
def lenP:List PV→Nat→Prop→Prop
 |[],0,K=>K
 |_::xs,n+1,K=>lenP xs n K
 |_,_,_=>False
def fillP(fs:List (Nat×Nat×Nat)):List PV→List (Nat×PV)→(List PV→Prop)→Prop
 |cells,[],K=>K cells
 |cells,(i,x)::ps,K=>fldK fs i fun off _ sz=>cellsP x fun cs=>lenP cs sz (subP cells off sz fun _=>wrP cells off cs fun cells=>fillP fs cells ps K)
def constP:List Value→List PV
 |[]=>[]
 |x::xs=>.x (zfo x)::constP xs
def bndP(o:Option PV)(dflt bound:Nat)(K:Nat→Prop):Prop:=
 match o with
 |none=>K dflt
 |some (.x (.int _ i))=>0≤i∧i≤bound∧K i.toNat
 |_=>False
def opOP(ts:List PV)(o:Option Operand)(K:Option PV→Prop):Prop:=
 match o with
 |none=>K none
 |some o=>opP ts o fun x=>K (some x)
def binP(T:List TI)(op:BinOp)(t:TypeId)(a b:PV)(ret:RP):Prop:=
 match a,b with
 | .x y,.x z=>binX T op t y z fun r=>ret (.x r)
 | .agg ps,.agg qs=>flatK ps fun ys=>flatK qs fun zs=>binX T op t (.agg ys) (.agg zs) fun r=>ret (.x r)
 | .own _ _,.x (.v (.pointer none))=>tiK T t fun ti=>match ti.td,op with
  | .ptr _,.eql=>ret (.x (.lit false))
  | .ptr _,.neq=>ret (.x (.lit true))
  |_,_=>False
 | .sl k els,.x (.slc none 0 0)=>tiK T t fun ti=>match ti.td,op with
  | .slice _,.eql=>0<k∧∀g:Bool,(g=true→els=[])→ret (.x (.bool g))
  | .slice _,.neq=>0<k∧∀g:Bool,(g=true→els=[])→ret (.x (.bool (!g)))
  |_,_=>False
 |_,_=>False
def zec(T:List TI)(b:Builtin)(ats:Array TypeId)(xs:List PV)(rw:List RS)(ret:RP):Prop:=
 match b,xs with
 | .len,[.sl _ els]=>argTy T ats fun ti=>match ti.td with | .slice _=>ret (.x (.int .i64 (els.length:Nat)))|_=>False
 | .len,[.row j]=>rsK rw j fun _ _ els=>argTy T ats fun ti=>match ti.td with | .slice _=>ret (.x (.int .i64 (els.length:Nat)))|_=>False
 | .len,[.x (.slc none 0 0)]=>argTy T ats fun ti=>match ti.td with | .slice _=>ret (.x (.int .i64 (0:Nat)))|_=>False
 | .len,[.x (.str s)]=>argTy T ats fun ti=>match ti.td with | .string=>ret (.x (.int .i64 s.size))|_=>False
 | .max,[.x (.int k x),.x (.int _ y)]=>ret (.x (.int k (if y>x then y else x)))
 | .min,[.x (.int k x),.x (.int _ y)]=>ret (.x (.int k (if y<x then y else x)))
 |_,_=>False
def purP(T:List TI)(op:Op)(ts:List PV)(rw:List RS)(ret:RP):Prop:=
 match op with
 | .move x=>opP ts x ret
 | .assign x=>opP ts x ret
 | .pick c a b=>opP ts c fun c=>match c with
  | .x (.lit true)=>opP ts a ret
  | .x (.lit false)=>opP ts b ret
  | .x (.bool g)=>opP ts a fun a=>opP ts b fun b=>match a,b with
   | .x a,.x b=>pickK g a b fun r=>ret (.x r)
   |_,_=>False
  |_=>False
 | .nilCheck x=>opP ts x fun p=>match p with
  | .own i o=>ret (.own i o)
  | .el cs o=>ret (.el cs o)
  | .re j i o=>ret (.re j i o)
  | .fn f cs=>ret (.fn f cs)
  |_=>False
 | .binOp op t x y _=>opP ts x fun a=>opP ts y fun b=>binP T op t a b ret
 | .unOp op _ x=>opP ts x fun a=>match op,a with
  | .not,.x (.bool b)=>ret (.x (.bool (!b)))
  | .not,.x (.lit b)=>ret (.x (.lit (!b)))
  | .neg,.x (.int k n)=>ret (.x (.int k (k.wrap (0 - n))))
  | .xor,.x (.int k n)=>ret (.x (.int k (bits .xor k (if k.signed then -1 else k.max) n)))
  |_,_=>False
 | .convert src dst x=>opP ts x fun a=>tiK T src fun _=>tiK T dst fun td=>match td.td,a with
  | .int k,.x (.int _ n)=>ret (.x (.int k (k.wrap n)))
  | .string,.x (.str s)=>ret (.x (.str s))
  |_,_=>False
 | .fieldAddr s x f=>opP ts x fun a=>tiK T s fun ti=>match ti.td with
  | .struct fs=>fldK fs f fun off _ _=>match a with
   | .own i o'=>ret (.own i (o'+off))
   | .el cs o'=>ret (.el cs (o'+off))
   | .re j i o'=>ret (.re j i (o'+off))
   |_=>False
  |_=>False
 | .field s x f=>opP ts x fun a=>tiK T s fun ti=>match ti.td,a with
  | .struct fs,.agg xs=>fldK fs f fun off ty sz=>tiK T ty fun tf=>match tf.agg with
   |true=>subP xs off sz fun l=>ret (.agg l)
   |false=>subP xs off 1 fun l=>match l with|[x]=>ret x|_=>False
  |_,_=>False
 | .indexAddr t x ix=>opP ts x fun a=>opP ts ix fun i=>tiK T t fun ti=>match ti.td,a,i with
  | .slice e,.sl (k+1) els,.x (.int _ i)=>tiK T e fun te=>Nat.beq te.size (k+1)=true∧0≤i∧i<(els.length:Nat)∧∃cs,els[i.toNat]?=some cs∧ret (.el cs 0)
  | .slice e,.row j,.x (.int _ i)=>tiK T e fun te=>rsK rw j fun _ k els=>Nat.beq te.size k=true∧0<k∧0≤i∧i<(els.length:Nat)∧ret (.re j i.toNat 0)
  |_,_,_=>False
 | .extract t i=>opP ts t fun a=>match a with
  | .tup xs=>subP xs i 1 fun l=>match l with|[x]=>ret x|_=>False
  |_=>False
 | .slice t x lo hi mx=>opP ts x fun a=>opOP ts lo fun lo=>opOP ts hi fun hi=>tiK T t fun ti=>match ti.td,a,mx with
  | .slice e,.sl k els,none=>tiK T e fun te=>Nat.beq te.size k=true∧match lo with
   |none=>bndP hi els.length els.length fun h=>ret (.sl k (els.take h))
   |some lo=>bndP hi els.length els.length fun h=>bndP (some lo) 0 h fun l=>ret (.sl k ((els.take h).drop l))
  | .string,.x (.str s),none=>bndP hi s.size s.size fun h=>bndP lo 0 h fun l=>ret (.x (.str (s.extract l h)))
  |_,_,_=>False
 | .build t parts=>partsP ts parts.toList fun ps=>tiK T t fun ti=>match ti.td,ti.zero with
  | .struct fs,z::zs=>posK fs (fillP fs (constP (z::zs)) ps fun cells=>ret (.agg cells))
  |_,_=>False
 | .makeFunc fn first caps=>match fn,first.toList with
  | .func f,[]=>opsP ts caps.toList fun cs=>ret (.fn f cs)
  |_,_=>False
 | .call c=>match c.callee with
  | .builtin b=>opsP ts c.args.toList fun xs=>zec T b c.argTypes xs rw ret
  |_=>False
 |_=>False
def loadP(T:List TI)(t:TypeId)(A:PV)(pb:PBs)(rw:List RS)(ret:RP):Prop:=
 tiK T t fun ti=>match A with
  | .own i off=>pbK pb i fun x=>match ti.agg with
   |true=>subP x.cells off ti.size fun l=>ret (.agg l)
   |false=>subP x.cells off 1 fun l=>match l with|[x]=>ret x|_=>False
  | .el cs off=>match ti.agg,ti.size with
   |true,n+1=>subR cs off (n+1) fun l=>r2pLK l fun l=>ret (.agg l)
   |false,_=>subR cs off 1 fun l=>match l with|[r]=>r2pK r ret|_=>False
   |_,_=>False
  | .re j i off=>rsK rw j fun _ _ els=>∃cs,els[i]?=some cs∧match ti.agg,ti.size with
   |true,n+1=>subR cs off (n+1) fun l=>r2pLK l fun l=>ret (.agg l)
   |false,_=>subR cs off 1 fun l=>match l with|[r]=>r2pK r ret|_=>False
   |_,_=>False
  |_=>False
def toRK:List Nat→List PV→(List R→Prop)→Prop
 |ks,p::ps,K=>match p with
  | .x (.slc none 0 0)=>toRK ks.tail ps fun l=>K (.sl ks.head! []::l)
  | .x y=>match y with
   | .int k n=>toRK ks.tail ps fun l=>K (.val (.int k n)::l)
   | .bool b=>toRK ks.tail ps fun l=>K (.val (.bool b)::l)
   | .lit b=>toRK ks.tail ps fun l=>K (.val (.bool b)::l)
   | .str s=>toRK ks.tail ps fun l=>K (.val (.string s)::l)
   |_=>False
  | .sl k els=>toRK ks.tail ps fun l=>K (.sl k els::l)
  |_=>False
 |_,[],K=>K []
def toEK(sz:Nat)(ks:List Nat):List (Nat×PV)→Nat→(List (List R)→Prop)→Prop
 |[],_,K=>K []
 |(i,p)::ps,n,K=>match Nat.beq i n with
  |true=>cellsP p fun cs=>lenP cs sz (toRK ks cs fun r=>toEK sz ks ps (n+1) fun l=>K (r::l))
  |false=>False
mutual
def PV.rows:PV→List Nat→List Nat
 | .row j,acc=>j::acc
 | .fn _ cs,acc=>rowsL cs acc
 | .agg cs,acc=>rowsL cs acc
 | .tup cs,acc=>rowsL cs acc
 |_,acc=>acc
def rowsL:List PV→List Nat→List Nat
 |[],acc=>acc
 |p::ps,acc=>p.rows (rowsL ps acc)
end
def frzK(nl:Nat):List Nat→List PV→PBs→List RS→List PV→(List PV→PBs→List RS→List PV→Prop)→Prop
 |[],ts,pb,rw,ps,K=>K ts pb rw ps
 |j::js,ts,pb,rw,ps,K=>rsD rw j
  (fun _ k els=>match Nat.ble nl j with
   |true=>subLK (oneF j (.sl k els)) ts fun ts=>subBK (oneF j (.sl k els)) pb fun pb=>subLK (oneF j (.sl k els)) ps fun ps=>setRS rw j .dead fun rw=>frzK nl js ts pb rw ps K
   |false=>False)
  (frzK nl js ts pb rw ps K)
def retP(dst:Option Tmp)(x:PV)(ts:List PV)(pb:PBs)(rw:List RS)(K:KP):Prop:=
 match dst with
 |none=>K ts pb rw
 |some d=>setP ts d x fun l=>K l pb rw
abbrev Spec:=Nat→List PV→PBs→List RS→(PV→PBs→List RS→Prop)→Prop
abbrev Specs:=List (Nat×Spec)
def specK:Specs→Nat→(Spec→Prop)→Prop
 |[],_,_=>False
 |(n,s)::ss,f,K=>match Nat.beq n f with|true=>K s|false=>specK ss f K
def takesN(g i:Nat):Nat:=1000000+g*16+i
def keyIn:Specs→Nat→Bool
 |[],_=>false
 |(m,_)::ss,n=>match Nat.beq n m with|true=>true|false=>keyIn ss n
def rowsA(C:Specs)(g:Nat):Nat→List PV→List Nat→List Nat
 |_,[],acc=>acc
 |i,p::ps,acc=>match keyIn C (takesN g i) with|true=>rowsA C g (i+1) ps acc|false=>p.rows (rowsA C g (i+1) ps acc)
def avK:List (Nat×Nat)→Nat→(Nat→Prop)→Prop→Prop
 |[],_,_,N=>N
 |(d,i)::l,n,K,N=>match Nat.beq d n with|true=>K i|false=>avK l n K N
def newPB(av:List (Nat×Nat))(dst:Option Tmp)(x:PBox)(ts:List PV)(pb:PBs)(rw:List RS)(K:KP):Prop:=
 match dst with
 |none=>False
 |some d=>avK av d
  (fun i=>zwh pb i (setPBK pb i (some x) fun pb'=>retP (some d) (.own i 0) ts pb' rw K))
  (pushK pb (some x) fun pb'=>litK pb.length fun n=>retP (some d) (.own n 0) ts pb' rw K)
def snds:List (Nat×PV)→List PV
 |[]=>[]
 |(_,p)::ps=>p::snds ps
def rezip:List (Nat×PV)→List PV→List (Nat×PV)
 |(i,_)::ps,q::qs=>(i,q)::rezip ps qs
 |_,_=>[]
def lkK:List (Nat×List Nat)→Nat→(List Nat→Prop)→Prop
 |[],_,K=>K []
 |(n,l)::ls,t,K=>match Nat.beq n t with|true=>K l|false=>lkK ls t K
def zaz:List PV→List PV
 |[]=>[]
 |p::ps=>match p with
  | .fn _ cs=>cs++zaz ps
  |p=>p::zaz ps
def ownsOk(al:Nat→Bool):List PV→Bool
 |[]=>true
 | .own i _::ps=>al i&&ownsOk al ps
 |_::ps=>ownsOk al ps
def zkp:PBs→Nat→List PV
 |[],_=>[]
 |o::_,0=>match o with|some b=>b.cells|none=>[]
 |_::pb,n+1=>zkp pb n
def lentR(pb:PBs):List PV→List Nat
 |[]=>[]
 | .own i _::ps=>rowsL (zkp pb i) (lentR pb ps)
 |p::ps=>p.rows (lentR pb ps)
def lentF(js:List Nat):Nat→Option PV:=fun j=>match memN j js with|true=>some .junk|false=>none
def strOf(ns:List Int):ByteArray:=ns.foldl (fun r n=>r.push (UInt8.ofNat n.toNat)) ByteArray.empty
def u8Els(ns:List Int):List (List R):=ns.map fun n=>[R.val (.int .u8 n)]
def bytesP(T:List TI)(src dst:TypeId)(x:Operand)(ts:List PV)(K:PV→Prop):Prop:=
 opP ts x fun a=>tiK T src fun ti=>tiK T dst fun td=>match ti.td,a with
  | .slice e,.sl k els=>tiK T e fun te=>te.td=.int .u8∧td.td=.string∧k=1∧∃ns,els=u8Els ns∧K (.x (.str (strOf ns)))
  |_,_=>False
def brwF(j:Nat)(k:Nat)(els:List (List R)):Nat→Option PV:=fun i=>match Nat.beq i j with|true=>some (.sl k els)|false=>some .junk
def deadR(rw:List RS):List RS:=rw.map fun _=>.dead
def zbo:List PV→List Nat
 |[]=>[]
 | .own i _::ps=>i::zbo ps
 |_::ps=>zbo ps
structure BRel(ids:List Nat)(pb pb' pb2:PBs):Prop where
 keep:∀i,i∉ids→pb2[i]?=pb[i]?∧((∃p,pb'[i]?=some (some p))→∃p,pb[i]?=some (some p))
 lent:∀i∈ids,pb2[i]?=pb'[i]?∧∀p,pb'[i]?=some (some p)→∀c∈p.cells,∃y,c=.x y
def borrow(s:Spec):Spec:=fun nl args pb rw K=>∃j e k els,rw[j]?=some (.own e k els)∧nl≤j∧
 s nl (subL (brwF j k els) args) (subB' (brwF j k els) pb) (deadR rw) fun r pb' rw'=>rw'=deadR rw∧(∃y,r=.x y)∧∃pb2,BRel (zbo (zaz (subL (brwF j k els) args))) pb pb' pb2∧K r pb2 rw
def pvOp(T:List TI)(LK:List (Nat×List Nat))(C:Specs)(nl:Nat)(al:Nat→Bool)(av:List (Nat×Nat))(o:Oper)(ts:List PV)(pb:PBs)(rw:List RS)(K:KP):Prop:=
 match o.op with
 | .alloc t=>tiK T t fun ti=>match ti.zero with
  |z::zs=>newPB av o.dst ⟨t,constP (z::zs)⟩ ts pb rw K
  |[]=>False
 | .box t x=>opP ts x fun a=>cellsP a fun cs=>newPB av o.dst ⟨t,cs⟩ ts pb rw K
 | .load t a=>opP ts a fun A=>loadP T t A pb rw fun x=>retP o.dst x ts pb rw K
 | .store t a x=>opP ts a fun a=>opP ts x fun x=>tiK T t fun ti=>cellsP x fun cs=>lenP cs ti.size (oneP cs (match a with
  | .own i off=>match al i with
   |true=>pbK pb i fun y=>subP y.cells off ti.size fun _=>wrP y.cells off cs fun cells=>setPBK pb i (some ⟨y.ty,cells⟩) fun pb'=>retP o.dst (.x .und) ts pb' rw K
   |false=>False
  | .re j i off=>frzK nl (rowsL cs []) ts pb rw (.re j i off::cs) fun ts pb rw ps=>match ps with
   | .re j i off::cs=>∃ks,toRK ks cs fun rs=>rsK rw j fun e k els=>∃cur,els[i]?=some cur∧Nat.ble (off+rs.length) k=true∧
     setRS rw j (.own e k (els.set i (cur.take off++rs++cur.drop (off+rs.length)))) fun rw=>retP o.dst (.x .und) ts pb rw K
   |_=>False
  |_=>False))
 | .call c=>match c.callee with
  | .value f=>opP ts f fun f=>opsP ts c.args.toList fun xs=>match f with
   | .fn g caps=>(frzK nl (rowsA C g 0 xs (rowsL caps [])) ts pb rw (xs++caps) fun ts pb rw xs=>ownsOk al (zaz xs)=true∧subLK (lentF (lentR pb (zaz xs))) ts fun ts=>specK C g fun s=>s nl xs pb rw fun r pb rw=>retP o.dst r ts pb rw K)∨
     (ownsOk al (zaz (xs++caps))=true∧specK C g fun s=>borrow s nl (xs++caps) pb rw fun r pb rw=>retP o.dst r ts pb rw K)
   |_=>False
  | .builtin b=>match b with
   | .append=>opsP ts c.args.toList fun xs=>match xs with
    |[a,b]=>frzK nl (b.rows []) ts pb rw [a,b] fun ts pb rw xs=>match xs,c.argTypes.toList with
     |[a,b],[t,t']=>tiK T t fun ti=>match ti.td with
      | .slice e=>tiK T e fun te=>Nat.beq t t'=true∧Nat.beq te.zero.length te.size=true∧(match b with
       | .sl k2 news=>(match a with
        | .row j=>rsK rw j fun e2 k els=>Nat.beq e e2=true∧Nat.beq k te.size=true∧Nat.beq k2 k=true∧els.length+news.length≤281474976710656∧(els.length+news.length)*te.bytes≤140737488355328∧0<k∧
         subLK (oneF j .junk) ts fun ts=>subBK (oneF j .junk) pb fun pb=>setRS rw j (.own e k (els++news)) fun rw=>retP o.dst (.row j) ts pb rw K
        | .x (.slc none 0 0)=>Nat.beq k2 te.size=true∧news.length≤281474976710656∧news.length*te.bytes≤140737488355328∧0<k2∧pushK rw (.own e k2 news) fun rw'=>litK rw.length fun n=>retP o.dst (.row n) ts pb rw' K
        |_=>False)
       |_=>False)
      |_=>False
     |_,_=>False
    |_=>False
   | .clear=>opsP ts c.args.toList fun xs=>match xs,c.argTypes.toList with
    |[.rt j i],[t]=>tiK T t fun ti=>match ti.td with
     | .slice e=>tiK T e fun te=>rsK rw j fun e2 k els=>Nat.beq e e2=true∧Nat.beq k te.size=true∧Nat.beq te.zero.length te.size=true∧Nat.ble 1 te.size=true∧i≤els.length∧∃ks,toRK ks (constP te.zero) fun zs=>setRS rw j (.own e2 k (els.take i++List.replicate (els.length - i) zs)) fun rw=>retP o.dst .junk ts pb rw K
     |_=>False
    |_,_=>False
   |b=>opsP ts c.args.toList fun xs=>zec T b c.argTypes xs rw fun x=>retP o.dst x ts pb rw K
  |_=>False
 | .buildSlice t len parts=>partsP ts parts.toList fun ps=>frzK nl (rowsL (snds ps) []) ts pb rw (snds ps) fun ts pb rw qs=>tiK T t fun ti=>match ti.td with
  | .slice e=>tiK T e fun te=>lkK LK e fun ks=>toEK te.size ks (rezip ps qs) 0 fun els=>Nat.beq len els.length=true∧Nat.ble 1 te.size=true∧len*te.size≤16777216∧Nat.beq te.zero.length te.size=true∧pushK rw (.own e te.size els) fun rw'=>litK rw.length fun n=>retP o.dst (.row n) ts pb rw' K
  |_=>False
 | .slice t x lo hi mx=>(opP ts x fun a=>frzK nl (a.rows []) ts pb rw [] fun ts pb rw _=>purP T (.slice t x lo hi mx) ts rw fun y=>retP o.dst y ts pb rw K)∨
   opP ts x fun a=>opOP ts lo fun l=>tiK T t fun ti=>match a,l,hi,mx,ti.td with
    | .row j,some (.x (.int _ i)),none,none,.slice e=>tiK T e fun te=>rsK rw j fun _ k els=>Nat.beq k te.size=true∧0≤i∧i.toNat≤els.length∧retP o.dst (.rt j i.toNat) ts pb rw K
    |_,_,_,_,_=>False
 | .makeSlice t l c=>opP ts l fun a=>opP ts c fun b=>tiK T t fun ti=>match ti.td,a,b with
  | .slice e,.x (.int _ l),.x (.int _ c)=>tiK T e fun te=>0≤l∧l≤c∧c.toNat≤281474976710656∧c.toNat*te.bytes≤140737488355328∧Nat.beq te.zero.length te.size=true∧Nat.ble 1 te.size=true∧∃ks,toRK ks (constP te.zero) fun zs=>pushK rw (.own e te.size (List.replicate l.toNat zs)) fun rw'=>litK rw.length fun n=>retP o.dst (.row n) ts pb rw' K
  |_,_,_=>False
 | .index t x ix=>opP ts x fun a=>opP ts ix fun i=>tiK T t fun ti=>match ti.td,a,i with
  | .string,.x (.str s),.x (.int _ i)=>0≤i∧∃b:UInt8,s[i.toNat]?=some b∧retP o.dst (.x (.int .u8 (b.toNat:Int))) ts pb rw K
  |_,_,_=>False
 | .range t x=>opP ts x fun a=>tiK T t fun ti=>match ti.td,a with
  | .string,.x (.str s)=>pushK rw (.ob (.stringIter s 0)) fun rw'=>litK rw.length fun n=>retP o.dst (.ob n) ts pb rw' K
  |_,_=>False
 | .next it b=>opP ts it fun a=>match a,b with
  | .ob j,true=>obK rw j fun ob=>match ob with
   | .stringIter s p=>(p<s.size→setRS rw j (.ob (.stringIter s (p+(Utf8.decode s p).2))) fun rw'=>retP o.dst (.tup [.x (.lit true),.x (.int .i64 (p:Nat)),.x (.int .i32 (Utf8.decode s p).1)]) ts pb rw' K)∧
    (¬p<s.size→retP o.dst (.tup [.x (.lit false)]) ts pb rw K)
   |_=>False
  |_,_=>False
 | .convert src dst x=>bytesP T src dst x ts (fun x=>retP o.dst x ts pb rw K)∨purP T (.convert src dst x) ts rw fun x=>retP o.dst x ts pb rw K
 |op=>purP T op ts rw fun x=>retP o.dst x ts pb rw K
end Go.Vc

namespace Go.Vc
open Go Go.RowKit
inductive All2{α β:Type}(r:α→β→Prop):List α→List β→Prop
 |nil:All2 r [] []
 |cons {a b xs ys}:r a b→All2 r xs ys→All2 r (a::xs) (b::ys)
section
variable {U:Nat→Prop} {W:World} {bs:List Nat} {π:Nat→Option Nat} {rw:List RS} {A:Asg}
theorem zyb{z:XV}{zs:List XV}{K:XV→Prop}(hz:z≠.junk)(h:K z):getK (z::zs) 0 K:=by
 cases z<;>first|exact h|exact absurd rfl hz
theorem PV.h_nj{p:PV}{z:XV}(h:p.h U W bs π rw A z)(h1:p≠.junk)(h2:p≠.x .junk):z≠.junk:=by
 cases p<;>simp only[PV.h]at h
 case x y=>
  rcases h.1 with rfl|⟨b,rfl,rfl⟩
  ·intro hz; subst hz; exact h2 rfl
  ·intro hz; cases hz
 case sl=>obtain⟨_,_,rfl,_⟩:=h; intro hz; cases hz
 case row=>obtain⟨_,_,_,_,rfl⟩:=h; intro hz; cases hz
 case el=>obtain⟨_,rfl,_⟩:=h; intro hz; cases hz
 case re=>obtain⟨_,_,_,_,_,_,_,rfl⟩:=h; intro hz; cases hz
 case rt=>obtain⟨_,_,_,_,_,rfl⟩:=h; intro hz; cases hz
 case own=>obtain⟨_,_,_,_,rfl⟩:=h; intro hz; cases hz
 case ob=>obtain⟨_,_,_,_,rfl⟩:=h; intro hz; cases hz
 case fn=>obtain⟨_,rfl,_⟩:=h; intro hz; cases hz
 case agg=>obtain⟨_,rfl,_⟩:=h; intro hz; cases hz
 case tup=>obtain⟨_,rfl,_⟩:=h; intro hz; cases hz
 case junk=>exact absurd rfl h1
theorem zya{p:PV}{ps:List PV}{K:RP}(h:getP (p::ps) 0 K):K p∧p≠.junk∧p≠.x .junk:=by
 cases p with
 |junk=>exact h.elim
 |x y=>cases y<;>first|exact h.elim|exact⟨h,by simp,by simp⟩
 |_=>exact⟨h,by simp,by simp⟩
theorem znp:∀{ps:List PV} {zs:List XV} {n:Nat} {K:RP},getP ps n K→PVsH U W bs π rw A ps zs→getK zs n fun z=>∃p,K p∧p.h U W bs π rw A z
 |[],zs,n,K,h,hr=>by simp only[PVsH]at hr; subst hr; exact⟨_,h,by simp[PV.h,xrel,XV.wf]⟩
 |p::ps,zs,n,K,h,hr=>by
  simp only[PVsH]at hr
  obtain⟨z,zs',rfl,h1,h2⟩:=hr
  cases n with
  |zero=>obtain⟨h3,h4,h5⟩:=zya h; exact zyb (PV.h_nj h1 h4 h5) ⟨p,h3,h1⟩
  |succ n=>exact znp (n:=n) h h2
theorem zqy{zs:List XV}{n:Nat}{K K':XV→Prop}(h:getK zs n K)(m:∀z,K z→K' z):getK zs n K':=by
 induction zs generalizing n with
 |nil=>exact m _ h
 |cons z zs ih=>
  cases n with
  |zero=>cases z<;>first|exact h.elim|exact m _ h
  |succ n=>exact ih (n:=n) h
theorem zql{zs:List XV}{o:Operand}{K K':XV→Prop}(h:opK zs o K)(m:∀z,K z→K' z):opK zs o K':=by
 cases o with
 |tmp t=>exact zqy (n:=t) h m
 |_=>exact m _ h
theorem PV.h_const(c:Value):PV.h U W bs π rw A (.x (zfo c)) (zfo c):=by simp only[PV.h]; exact⟨xrel.refl _,zrw _ _⟩
theorem opP_sound{ts:List PV}{xs:List XV}{o:Operand}{K:RP}(h:opP ts o K)(hr:PVsH U W bs π rw A ts xs):opK xs o fun z=>∃p,K p∧p.h U W bs π rw A z:=by
 cases o with
 |tmp t=>exact znp (n:=t) h hr
 |const c=>exact⟨_,h,PV.h_const c⟩
 |global g=>exact⟨_,h,by simp[PV.h,xrel,XV.wf]⟩
 |func f=>exact⟨_,h,by simp[PV.h,PVsH]⟩
theorem zas{ts:List PV}{xs:List XV}{o:Operand}{K:RP}{K':XV→Prop}(h:opP ts o K)(hr:PVsH U W bs π rw A ts xs)(m:∀p z,K p→p.h U W bs π rw A z→K' z):opK xs o K':=
 zql (opP_sound h hr) fun z ⟨p,h1,h2⟩=>m p z h1 h2
theorem zho{ts:List PV}{xs:List XV}:∀{os:List Operand} {K:List PV→Prop} {K':List XV→Prop},opsP ts os K→PVsH U W bs π rw A ts xs→(∀ps zs,K ps→PVsH U W bs π rw A ps zs→K' zs)→opsK xs os K'
 |[],K,K',h,hr,m=>m [] [] h (by simp[PVsH])
 |o::os,K,K',h,hr,m=>zas h hr fun p z h1 h2=>zho h1 hr fun ps zs h3 h4=>m (p::ps) (z::zs) h3 (by simp only[PVsH]; exact⟨z,zs,rfl,h2,h4⟩)
theorem zop{ts:List PV}{xs:List XV}:∀{os:List (Nat×Operand)} {K:List (Nat×PV)→Prop} {K':List (Nat×XV)→Prop},partsP ts os K→PVsH U W bs π rw A ts xs→
  (∀ps zs,K ps→ps.map (·.1)=zs.map (·.1)→PVsH U W bs π rw A (snds ps) (zs.map (·.2))→K' zs)→partsK xs os K'
 |[],K,K',h,hr,m=>m [] [] h rfl (by simp[PVsH,snds])
 |(i,o)::os,K,K',h,hr,m=>zas h hr fun p z h1 h2=>zop h1 hr fun ps zs h3 h4 h5=>m ((i,p)::ps) ((i,z)::zs) h3 (by simp[h4]) (by simp only[snds,List.map_cons,PVsH]; exact⟨z,_,rfl,h2,h5⟩)
theorem zdb(ps:List PV)(n:Nat)(y:PV)(K:List PV→Prop):setP ps n y K↔K (ps.set n y):=by
 induction ps generalizing n K with
 |nil=>simp[setP]
 |cons x xs ih=>cases n<;>simp[setP,ih]
theorem zek:∀{ps:List PV} {zs:List XV} {o n:Nat} {K:List PV→Prop} {K':List XV→Prop},subP ps o n K→PVsH U W bs π rw A ps zs→(∀l l',K l→PVsH U W bs π rw A l l'→K' l')→subK zs o n K'
 |[],zs,o,n,K,K',h,hr,m=>by
  cases o<;>cases n<;>simp only[subP]at h
  simp only[PVsH]at hr; subst hr
  exact m [] [] h (by simp[PVsH])
 |p::ps,zs,o,n,K,K',h,hr,m=>by
  simp only[PVsH]at hr
  obtain⟨z,zs',rfl,h1,h2⟩:=hr
  cases o with
  |succ o=>exact zek (o:=o) h h2 m
  |zero=>
   cases n with
   |zero=>exact m [] [] h (by simp[PVsH])
   |succ n=>exact zek (o:=0) (n:=n) h h2 fun l l' h3 h4=>m (p::l) (z::l') h3 (by simp only[PVsH]; exact⟨z,l',rfl,h1,h4⟩)
theorem ybd(ps:List PV)(off:Nat)(vs:List PV)(K:List PV→Prop):wrP ps off vs K↔K (wr ps off vs):=by
 induction vs generalizing ps off with
 |nil=>rfl
 |cons v vs ih=>simp[wrP,zdb,ih,wr]
theorem yjp:∀{vs:List PV} {ws:List XV} {ps:List PV} {zs:List XV} (off:Nat),PVsH U W bs π rw A ps zs→PVsH U W bs π rw A vs ws→PVsH U W bs π rw A (wr ps off vs) (wr zs off ws)
 |[],ws,ps,zs,off,h,h'=>by simp only[PVsH]at h'; subst h'; exact h
 |v::vs,ws,ps,zs,off,h,h'=>by
  simp only[PVsH]at h'
  obtain⟨z,zs',rfl,h1,h2⟩:=h'
  exact yjp (off+1) (zrr h off h1) h2
theorem zxp{xs:List PV}{n:Nat}{K:Prop}(h:lenP xs n K):xs.length=n∧K:=by
 induction xs generalizing n with
 |nil=>cases n<;>simp_all [lenP]
 |cons x xs ih=>cases n with
  |zero=>simp[lenP]at h
  |succ n=>have:=ih (n:=n) h; simp[this]
theorem lenK_of{xs:List XV}{n:Nat}{K:Prop}(h:xs.length=n)(k:K):lenK xs n K:=by
 induction xs generalizing n with
 |nil=>subst h; exact k
 |cons x xs ih=>subst h; exact ih rfl
theorem zkk{p:PV}{z:XV}{K:List PV→Prop}{K':List XV→Prop}(h:cellsP p K)(hr:p.h U W bs π rw A z)(m:∀l l',K l→PVsH U W bs π rw A l l'→K' l'):cellsK z K':=by
 have one:∀{q:PV} {y:XV},q.h U W bs π rw A y→PVsH U W bs π rw A [q] [y]:=fun h=>by simp only[PVsH]; exact⟨_,[],rfl,h,rfl⟩
 cases p with
 |x y=>
  have hr0:=hr
  simp only[PV.h]at hr
  obtain⟨hx,hw⟩:=hr
  cases y<;>simp only[cellsP]at h<;>first
   |exact h.elim
   |(rcases hx with rfl|⟨b,hb,rfl⟩
     ·first|exact m _ _ h (one hr0)|exact⟨h.1,m _ _ h.2 (one hr0)⟩
     ·first|exact m _ _ h (one hr0)|cases hb)
 |agg ps=>simp only[PV.h]at hr; obtain⟨ys,rfl,hr⟩:=hr; exact m _ _ h hr
 |tup=>exact h.elim
 |junk=>exact h.elim
 |sl=>have h0:=one hr; simp only[PV.h]at hr; obtain⟨_,_,rfl,_⟩:=hr; exact m _ _ h h0
 |row=>have h0:=one hr; simp only[PV.h]at hr; obtain⟨_,_,_,_,rfl⟩:=hr; exact m _ _ h h0
 |el=>have h0:=one hr; simp only[PV.h]at hr; obtain⟨_,rfl,_⟩:=hr; exact m _ _ h h0
 |re=>have h0:=one hr; simp only[PV.h]at hr; obtain⟨_,_,_,_,_,_,_,rfl⟩:=hr; exact m _ _ h h0
 |rt=>have h0:=one hr; simp only[PV.h]at hr; obtain⟨_,_,_,_,_,rfl⟩:=hr; exact m _ _ h h0
 |own=>have h0:=one hr; simp only[PV.h]at hr; obtain⟨_,_,_,_,rfl⟩:=hr; exact m _ _ h h0
 |ob=>have h0:=one hr; simp only[PV.h]at hr; obtain⟨_,_,_,_,rfl⟩:=hr; exact m _ _ h h0
 |fn=>have h0:=one hr; simp only[PV.h]at hr; obtain⟨_,rfl,_⟩:=hr; exact m _ _ h h0
theorem yft:∀{ps:List PV} {zs:List XV} {K K':Prop},oneP ps K→PVsH U W bs π rw A ps zs→(K→K')→oneK zs K'
 |[],zs,K,K',h,hr,m=>by simp only[PVsH]at hr; subst hr; exact m h
 |p::ps,zs,K,K',h,hr,m=>by
  simp only[PVsH]at hr
  obtain⟨z,zs',rfl,h1,h2⟩:=hr
  have ih:oneP ps K→oneK zs' K':=fun h=>yft h h2 m
  cases p with
  |x y=>
   simp only[PV.h]at h1
   obtain⟨hx,hw⟩:=h1
   cases y<;>simp only[oneP]at h<;>first
    |exact h.elim
    |(rcases hx with rfl|⟨b,hb,rfl⟩
      ·first|exact ih h|exact⟨h.1,ih h.2⟩
      ·first|(cases hb; exact ih h)|exact ih h|cases hb)
  |agg ps=>exact h.elim
  |tup=>exact h.elim
  |junk=>exact h.elim
  |sl=>simp only[PV.h]at h1; obtain⟨_,_,rfl,_⟩:=h1; exact ih h
  |row=>simp only[PV.h]at h1; obtain⟨_,_,_,_,rfl⟩:=h1; exact ih h
  |el=>simp only[PV.h]at h1; obtain⟨_,rfl,_⟩:=h1; exact ih h
  |re=>simp only[PV.h]at h1; obtain⟨_,_,_,_,_,_,_,rfl⟩:=h1; exact ih h
  |rt=>simp only[PV.h]at h1; obtain⟨_,_,_,_,_,rfl⟩:=h1; exact ih h
  |own=>simp only[PV.h]at h1; obtain⟨_,_,_,_,rfl⟩:=h1; exact ih h
  |ob=>simp only[PV.h]at h1; obtain⟨_,_,_,_,rfl⟩:=h1; exact ih h
  |fn=>simp only[PV.h]at h1; obtain⟨_,rfl,_⟩:=h1; exact ih h
theorem zvs(xs:List Value):PVsH U W bs π rw A (constP xs) (constL xs):=by
 induction xs with
 |nil=>simp[constP,constL,PVsH]
 |cons x xs ih=>simp only[constP,constL,PVsH]; exact⟨_,_,rfl,PV.h_const x,ih⟩
theorem ztb:∀{ps:List PV} {K:List XV→Prop} {zs:List XV},flatK ps K→PVsH U W bs π rw A ps zs→∃ys,K ys∧All2 xrel ys zs
 |[],K,zs,h,hr=>by simp only[PVsH]at hr; subst hr; exact⟨[],h,.nil⟩
 |p::ps,K,zs,h,hr=>by
  simp only[PVsH]at hr
  obtain⟨z,zs',rfl,h1,h2⟩:=hr
  cases p<;>simp only[flatK]at h
  obtain⟨ys,h3,h4⟩:=ztb h h2
  simp only[PV.h]at h1
  exact⟨_,h3,.cons h1.1 h4⟩
def okR(r:XV):Prop:=∀bs,r.wf bs
theorem yit{op:BinOp}{k:IntKind}{a b:Int}{ret ret':RT}(h:intBin op k a b ret)(m:∀r,ret r→okR r→ret' r):intBin op k a b ret':=by
 cases op<;>simp only[intBin]at *<;>first
  |exact h.elim
  |exact m _ h (fun _=>by simp[XV.wf])
  |exact⟨h.1,m _ h.2 (fun _=>by simp[XV.wf])⟩
theorem zqr{l:LK}{x y x' y':XV}{K:Bool→Prop}(h:leafK l x y K)(hx:xrel x x')(hy:xrel y y'):leafK l x' y' K:=by
 rcases hx with rfl|⟨b,rfl,rfl⟩<;>rcases hy with rfl|⟨c,rfl,rfl⟩
 ·exact h
 ·cases l<;>cases x'<;>first|exact h|exact h.elim
 ·cases l<;>cases y'<;>first|exact h|exact h.elim
 ·cases l<;>first|exact h|exact h.elim
theorem znc{l:LK}{x y:XV}{K K':Bool→Prop}(h:leafK l x y K)(m:∀b,K b→K' b):leafK l x y K':=by
 unfold leafK at*
 split at h
 ·split at h
  ·exact m _ h
  ·exact h.elim
 all_goals first|exact m _ h|exact h.elim
theorem yhi{ls:List LK}:∀{xs ys xs' ys':List XV} {K K':Bool→Prop},cmpXK ls xs ys K→All2 xrel xs xs'→All2 xrel ys ys'→(∀b,K b→K' b)→cmpXK ls xs' ys' K':=by
 induction ls with
 |nil=>intro xs ys xs' ys' K K' h; simp[cmpXK]at h
 |cons l ls ih=>
  intro xs ys xs' ys' K K' h hx hy m
  cases hx with
  |nil=>cases ls<;>simp[cmpXK]at h
  |cons hx0 hx1=>
   cases hy with
   |nil=>cases ls<;>simp[cmpXK]at h
   |cons hy0 hy1=>
    cases ls with
    |nil=>
     cases hx1 with
     |nil=>cases hy1 with
      |nil=>exact znc (zqr h hx0 hy0) m
      |cons _ _=>simp only[cmpXK]at h; first|exact h.elim|(exact znc (zqr h hx0 hy0) fun b hb=>by simp[cmpXK]at hb)
     |cons _ _=>cases hy1<;>(simp only[cmpXK]at h; first|exact h.elim|exact znc (zqr h hx0 hy0) fun b hb=>by simp[cmpXK]at hb)
    |cons l' ls=>
     simp only[cmpXK]at h ⊢
     exact znc (zqr h hx0 hy0) fun b hb=>ih hb hx1 hy1 fun c hc=>m _ hc
end
end Go.Vc

namespace Go.Vc
open Go Go.RowKit
theorem zbh{T:List TI}{t:Nat}{K K':TI→Prop}(h:tiK T t K)(m:∀ti,K ti→K' ti):tiK T t K':=by
 induction T generalizing t with
 |nil=>exact h.elim
 |cons x T ih=>
  cases t with
  |zero=>
   simp only[tiK]at*
   split at h
   ·exact m _ h
   ·exact h.elim
  |succ t=>exact ih (t:=t) h
theorem All2.refl{α:Type}{r:α→α→Prop}(h:∀a,r a a):∀l:List α,All2 r l l
 |[]=>.nil
 |_::l=>.cons (h _) (All2.refl h l)
theorem eqX_agg{T:List TI}{neg:Bool}{t:TypeId}{ys zs ys' zs':List XV}{ret ret':RT}(h:eqX T neg t (.agg ys) (.agg zs) ret)(hy:All2 xrel ys ys')(hz:All2 xrel zs zs')(m:∀r,ret r→okR r→ret' r):eqX T neg t (.agg ys') (.agg zs') ret':=by
 simp only[eqX]at*
 refine zbh h fun ti h=>?_
 split at h
 ·exact yhi h hy hz fun b hb=>m _ hb fun _=>by simp[XV.wf]
 ·exact h.elim
theorem eqX_mono{T:List TI}{neg:Bool}{t:TypeId}{a b:XV}{ret ret':RT}(h:eqX T neg t a b ret)(m:∀r,ret r→okR r→ret' r):eqX T neg t a b ret':=by
 have k:∀{K:Prop} {td:TD} {r:XV},(match td with | .bool=>ret r|_=>False)→okR r→(match td with | .bool=>ret' r|_=>False):=by
  intro K td r h hr; cases td<;>first|exact h.elim|exact m _ h hr
 unfold eqX at h ⊢
 split at h
 ·exact m _ h fun _=>by simp[XV.wf]
 ·refine zbh h fun ti h=>?_
  split at h
  ·exact yhi h (All2.refl xrel.refl _) (All2.refl xrel.refl _) fun b hb=>m _ hb fun _=>by simp[XV.wf]
  ·exact h.elim
 all_goals first
  |exact h.elim
  |(refine zbh h fun ti h=>?_
    split at h
    ·skip
     first
      |exact m _ h fun _=>by simp[XV.wf]
      |exact zbh h fun te ⟨h2,h3⟩=>⟨h2,m _ h3 fun _=>by simp[XV.wf]⟩
    ·exact h.elim)
theorem xrel.eq{y z:XV}(h:xrel y z)(hy:∀b,y≠.bool b):z=y:=by
 rcases h with rfl|⟨b,rfl,_⟩
 ·rfl
 ·exact absurd rfl (hy b)
theorem eqX_rel{T:List TI}{neg:Bool}{t:TypeId}{a b a' b':XV}{ret ret':RT}(h:eqX T neg t a b ret)(ha:xrel a a')(hb:xrel b b')(m:∀r,ret r→okR r→ret' r):eqX T neg t a' b' ret':=by
 have h:=eqX_mono h m
 rcases ha with rfl|⟨x,rfl,rfl⟩<;>rcases hb with rfl|⟨y,rfl,rfl⟩
 ·exact h
 ·cases a'<;>first|exact h.elim|exact h|(exfalso; revert h; unfold eqX; split<;>simp_all)
 ·cases b'<;>first|exact h.elim|exact h|(exfalso; revert h; unfold eqX; split<;>simp_all)
 ·exact h
theorem binX_rel{T:List TI}{op:BinOp}{t:TypeId}{a b a' b':XV}{ret ret':RT}(h:binX T op t a b ret)(ha:xrel a a')(hb:xrel b b')(m:∀r,ret r→okR r→ret' r):binX T op t a' b' ret':=by
 unfold binX at h
 split at h
 ·rw[ha.eq (by simp),hb.eq (by simp)]
  exact⟨h.1,m _ h.2 fun _=>by simp[XV.wf]⟩
 ·rw[ha.eq (by simp),hb.eq (by simp)]
  exact⟨h.1,m _ h.2 fun _=>by simp[XV.wf]⟩
 ·rename_i k x k' y h1 h2
  rw[ha.eq (by simp),hb.eq (by simp)]
  split at h
  ·rename_i he
   cases op<;>first|exact absurd rfl h1|exact absurd rfl h2|(simp only[binX,he]; exact yit h m)|exact(h1 rfl).elim|exact(h2 rfl).elim
  ·exact h.elim
 ·rw[ha.eq (by simp),hb.eq (by simp)]
  exact⟨h.1,m _ h.2 fun _=>by simp[XV.wf]⟩
 ·rename_i hn
  have:=eqX_rel h ha hb m
  unfold binX; split
  all_goals first|exact this|(rename_i hh; cases hh; done)|skip
  all_goals first
   |(exfalso; rcases ha with h1|⟨_,h1,h2⟩<;>rcases hb with h3|⟨_,h3,h4⟩<;>first|exact hn _ _ _ _ h1.symm h3.symm|simp_all)
   |simp_all
 ·rename_i hn
  have:=eqX_rel h ha hb m
  unfold binX; split
  all_goals first|exact this|(rename_i hh; cases hh; done)|skip
  all_goals first
   |(exfalso; rcases ha with h1|⟨_,h1,h2⟩<;>rcases hb with h3|⟨_,h3,h4⟩<;>first|exact hn _ _ _ _ h1.symm h3.symm|simp_all)
   |simp_all
 ·exact h.elim
end Go.Vc
namespace Go.Vc
open Go Go.RowKit
theorem binX_agg {T : List TI} {op : BinOp} {t : TypeId} {ys zs ys' zs' : List XV} {ret ret' : RT} (h : binX T op t (.agg ys) (.agg zs) ret) (hy : All2 xrel ys ys') (hz : All2 xrel zs zs') (m : ∀ r, ret r → okR r → ret' r) : binX T op t (.agg ys') (.agg zs') ret' := by
  cases op <;> simp only [binX] at h ⊢ <;> exact eqX_agg h hy hz m
theorem zeo {rw : List RS} {j : Nat} {K : Nat → Nat → List (List R) → Prop} (h : rsK rw j K) : ∃ e k els, rw[j]? = some (.own e k els) ∧ K e k els := by
  induction rw generalizing j with
  | nil => exact h.elim
  | cons r rw ih =>
    cases j with
    | zero => cases r with
      | own e k els => exact ⟨e, k, els, rfl, h⟩
      | ob o => exact h.elim
      | dead => exact h.elim
    | succ j => simpa using ih (j := j) h
theorem ydd {rw : List RS} {j : Nat} {K : Obj → Prop} (h : obK rw j K) : ∃ o, rw[j]? = some (.ob o) ∧ K o := by
  induction rw generalizing j with
  | nil => exact h.elim
  | cons r rw ih =>
    cases j with
    | zero => cases r with
      | own e k els => exact h.elim
      | ob o => exact ⟨o, rfl, h⟩
      | dead => exact h.elim
    | succ j => simpa using ih (j := j) h
theorem zye {fs : List (Nat × Nat × Nat)} {i : Nat} {K K' : Nat → Nat → Nat → Prop} (h : fldK fs i K) (m : ∀ a b c, K a b c → K' a b c) : fldK fs i K' := by
  induction fs generalizing i with
  | nil => exact h.elim
  | cons f fs ih =>
    cases i with
    | zero => obtain ⟨off, ty, sz⟩ := f; cases sz with
      | zero => exact h.elim
      | succ n => exact m _ _ _ h
    | succ i => exact ih (i := i) h
theorem znx {T : List TI} {ats : Array TypeId} {K K' : TI → Prop} (h : argTy T ats K) (m : ∀ ti, K ti → K' ti) : argTy T ats K' := by
  unfold argTy at *
  split at h
  · exact zbh h m
  · exact h.elim
section
variable {U : Nat → Prop} {W : World} {bs : List Nat} {π : Nat → Option Nat} {rw : List RS} {A : Asg}
theorem zxd {ts : List PV} {xs : List XV} {o : Option Operand} {K : Option PV → Prop} {K' : Option XV → Prop} (h : opOP ts o K) (hr : PVsH U W bs π rw A ts xs) (m : ∀ p z, K p → (p = none ∧ z = none ∨ ∃ p' z', p = some p' ∧ z = some z' ∧ p'.h U W bs π rw A z') → K' z) : opO xs o K' := by
  cases o with
  | none => exact m _ _ h (.inl ⟨rfl, rfl⟩)
  | some o => exact zas h hr fun p z h1 h2 => m _ _ h1 (.inr ⟨_, _, rfl, rfl, h2⟩)
theorem zlz {p : Option PV} {z : Option XV} {d b b' : Nat} {K : Nat → Prop} {K' : Nat → Prop} (h : bndP p d b K) (hb : b ≤ b') (hr : p = none ∧ z = none ∨ ∃ p' z', p = some p' ∧ z = some z' ∧ p'.h U W bs π rw A z') (m : ∀ n, (p = none ∧ n = d ∨ n ≤ b) → K n → K' n) : boundK z d b' K' := by
  rcases hr with ⟨rfl, rfl⟩ | ⟨p', z', rfl, rfl, hr⟩
  · exact m _ (.inl ⟨rfl, rfl⟩) h
  · unfold bndP at h
    split at h
    · rename_i h1; cases h1
    · rename_i k i h1
      simp only [Option.some.injEq] at h1
      subst h1
      simp only [PV.h] at hr
      have := hr.1.eq (by simp); subst this
      exact ⟨h.1, by have := h.2.1; omega, m _ (.inr (by have := h.2.1; have := h.1; omega)) h.2.2⟩
    · exact h.elim
theorem yap {fs : List (Nat × Nat × Nat)} : ∀ {ps : List (Nat × PV)} {zs : List (Nat × XV)} {cs : List PV} {xs : List XV} {K : List PV → Prop} {K' : List XV → Prop}, fillP fs cs ps K → ps.map (·.1) = zs.map (·.1) → PVsH U W bs π rw A (snds ps) (zs.map (·.2)) → PVsH U W bs π rw A cs xs →
    (∀ cs xs, K cs → PVsH U W bs π rw A cs xs → K' xs) → fillK fs xs zs K'
  | [], zs, cs, xs, K, K', h, he, hr, hc, m => by
    cases zs with
    | nil => exact m _ _ h hc
    | cons z zs => simp at he
  | (i, p) :: ps, zs, cs, xs, K, K', h, he, hr, hc, m => by
    cases zs with
    | nil => simp at he
    | cons z zs =>
      obtain ⟨j, z⟩ := z
      simp only [List.map_cons, List.cons.injEq] at he
      obtain ⟨rfl, he⟩ := he
      simp only [snds, List.map_cons, PVsH, List.cons.injEq] at hr
      obtain ⟨z1, zs1, ⟨rfl, rfl⟩, h1, h2⟩ := hr
      refine zye h fun off ty sz h => ?_
      refine zkk h h1 fun l l' h hl => ?_
      obtain ⟨h3, h⟩ := zxp h
      refine lenK_of (by rw [zcr hl]; exact h3) ?_
      refine zek h hc fun _ _ h _ => ?_
      rw [ybd] at h
      rw [ybe]
      exact yap h he h2 (yjp off hc hl) m
theorem pickK_of {g : Bool} {a b a' b' : XV} {ret : RT} (h : pickK g a b ret) (ha : xrel a a') (hb : xrel b b') : (pickK g a' b' fun r' => ∃ r, ret r ∧ r' = r) ∧ ∃ r, ret r ∧ (∀ bs, r.wf bs) ∧ (g = true → xrel r a') ∧ (g = false → xrel r b') := by
  unfold pickK at h
  split at h
  all_goals first
    | exact h.elim
    | (refine ⟨?_, ⟨_, h, fun _ => by simp [XV.wf], ?_, ?_⟩⟩
       · rcases ha with rfl | ⟨x, hx, rfl⟩ <;> rcases hb with rfl | ⟨y, hy, rfl⟩ <;> (try cases hx) <;> (try cases hy) <;> first
           | exact ⟨_, h, rfl⟩
           | (refine ⟨_, h, ?_⟩; cases g <;> simp; done)
           | (rename_i x1 y1 hh; cases g <;> cases x1 <;> cases y1 <;> first | exact absurd rfl hh | exact (hh rfl).elim | exact ⟨_, h, rfl⟩)
           | (cases g <;> rename_i b <;> cases b <;> exact ⟨_, h, rfl⟩)
           | (cases g <;> rename_i b c <;> cases b <;> cases c <;> exact ⟨_, h, rfl⟩)
           | skip
       · intro hg; subst hg
         rcases ha with rfl | ⟨x, hx, rfl⟩ <;> (try cases hx) <;> first | exact .inl rfl | exact .inr ⟨_, rfl, rfl⟩ | (simp [xrel]; done) | skip
       · intro hg; subst hg
         rcases hb with rfl | ⟨y, hy, rfl⟩ <;> (try cases hy) <;> first | exact .inl rfl | exact .inr ⟨_, rfl, rfl⟩ | (simp [xrel]; done) | skip)
theorem owns_at {e k : Nat} {a : Option Addr} {c : Nat} {els : List (List R)} (h : (Own.row e k a c els).h U W) (hk : 0 < k) {i : Nat} (hi : i < els.length) : ∃ g, a = some ⟨g, 0, none⟩ ∧ g < W.heap.size ∧ ∃ us, listH U W els.flatten us ∧ (∀ u ∈ us, u.oneCell' = true) ∧ (∀ l ∈ els, l.length = k) ∧ ∀ j u, us[j]? = some u → W.cell? ((⟨g, 0, none⟩ : Addr).add j) = some u := by
  obtain ⟨us, h1, h2, h3, h4⟩ := h
  have hne : us ≠ [] := by
    rintro rfl
    have := zbe h2
    simp only [List.length_nil, List.length_flatten] at this
    have hm : els[i] ∈ els := List.getElem_mem hi
    have h5 := h4 _ hm
    have : (els.map List.length).sum ≥ els[i].length := by
      have h6 : els[i].length ∈ els.map List.length := List.mem_map_of_mem hm
      have : ∀ (l : List Nat) x, x ∈ l → x ≤ l.sum := by
        intro l; induction l with
        | nil => intro x hx; cases hx
        | cons y l ih => intro x hx; rcases List.mem_cons.1 hx with rfl | hx
                         · simp
                         · have := ih x hx; simp; omega
      exact this _ _ h6
    omega
  obtain ⟨g, rfl, hg, hc⟩ := zzz h1 hne
  exact ⟨g, rfl, hg, us, h2, h3, h4, hc⟩
theorem zuc {ad : Addr} {n : Nat} : ∀ {cs : List R} {off : Nat}, cellsH U W (some ad) (n + off) cs → cellsH U W (some (ad.add n)) off cs
  | [], off, h => by simp [cellsH]
  | c :: cs, off, h => by
    simp only [cellsH] at h ⊢
    obtain ⟨⟨x, u, hx, h1, h2, h3, h4⟩, h5⟩ := h
    cases hx
    exact ⟨⟨_, u, rfl, by rwa [zbq], by rwa [zbq], by rw [Addr.add_add]; exact h3, h4⟩, zuc (by rwa [show n + (off + 1) = n + off + 1 by omega])⟩
theorem zlg {T : List TI} {op : Op} {ts : List PV} {xs : List XV} {ret : RP} {ret' : XV → Prop} (ho : ∀ j e k els, rw[j]? = some (.own e k els) → (Own.row e k (A j).1 (A j).2 els).h U W)
    (h : purP T op ts rw ret) (hr : PVsH U W bs π rw A ts xs) (m : ∀ p z, ret p → p.h U W bs π rw A z → ret' z) : pureK T op xs ret' := by
  have mx : ∀ y, ret (.x y) → okR y → ret' y := fun y hy hw => m _ _ hy (by simp only [PV.h]; exact ⟨xrel.refl _, hw _⟩)
  have ml : ∀ y z, ret (.x y) → y.wf bs → xrel y z → ret' z := fun y z hy hw hx => m _ _ hy (by simp only [PV.h]; exact ⟨hx, hw⟩)
  cases op <;> simp only [purP] at h <;> try exact h.elim
  case move x => exact zas h hr m
  case assign x => exact zas h hr m
  case pick c a b =>
    refine zas h hr fun p z h hp => ?_
    split at h
    · simp only [PV.h] at hp; have := hp.1.eq (by simp); subst this; exact zas h hr m
    · simp only [PV.h] at hp; have := hp.1.eq (by simp); subst this; exact zas h hr m
    · rename_i g
      simp only [PV.h] at hp
      have key : opK xs a fun a' => opK xs b fun b' => (pickK g a' b' ret') ∧ (g = true → ret' a') ∧ (g = false → ret' b') := by
        refine zas h hr fun pa za h hpa => zas h hr fun pb zb h hpb => ?_
        split at h
        · simp only [PV.h] at hpa hpb
          obtain ⟨h1, r, h2, h3, h4, h5⟩ := pickK_of h hpa.1 hpb.1
          refine ⟨?_, fun hg => ml _ _ h2 (h3 _) (h4 hg), fun hg => ml _ _ h2 (h3 _) (h5 hg)⟩
          have mono : ∀ {g a b} {ret ret' : RT}, pickK g a b ret → (∀ r, ret r → ret' r) → pickK g a b ret' := by
            intro g a b ret ret' h m; unfold pickK at *; split at h <;> first | exact h.elim | exact m _ h
          have okp : ∀ {g a b} {ret : RT}, pickK g a b ret → pickK g a b fun r => ret r ∧ okR r := by
            intro g a b ret h; unfold pickK at *; split at h <;> first | exact h.elim | exact ⟨h, fun _ => by simp [XV.wf]⟩
          exact mono (okp h1) fun r ⟨⟨r0, h6, h7⟩, h8⟩ => by subst h7; exact mx _ h6 h8
        · exact h.elim
      rcases hp.1 with rfl | ⟨g', hg, rfl⟩
      · exact zql key fun _ h => zql h fun _ h => h.1
      · injection hg with hg; subst hg
        have dig : ∀ (o : Operand) (K : XV → Prop), opK xs o K → ∃ z, K z := by
          intro o K h
          cases o with
          | tmp t =>
            have : ∀ (ys : List XV) (n : Nat) (K : XV → Prop), getK ys n K → ∃ z, K z := by
              intro ys; induction ys with
              | nil => intro n K h; exact ⟨_, h⟩
              | cons y ys ih => intro n K h; cases n with
                | zero => cases y <;> first | exact h.elim | exact ⟨_, h⟩
                | succ n => exact ih n K h
            exact this _ _ _ h
          | _ => exact ⟨_, h⟩
        cases g with
        | true => exact zql key fun a' h => let ⟨_, h⟩ := dig _ _ h; h.2.1 rfl
        | false => exact let ⟨_, h⟩ := dig _ _ key; zql h fun _ h => h.2.2 rfl
    · exact h.elim
  case nilCheck x =>
    refine zas h hr fun p z h hp => ?_
    split at h
    · have h0 := hp; simp only [PV.h] at hp; obtain ⟨_, _, _, _, rfl⟩ := hp; exact m _ _ h h0
    · have h0 := hp; simp only [PV.h] at hp; obtain ⟨_, rfl, _⟩ := hp; exact m _ _ h h0
    · have h0 := hp; simp only [PV.h] at hp; obtain ⟨_, _, _, _, _, _, _, rfl⟩ := hp; exact m _ _ h h0
    · have h0 := hp; simp only [PV.h] at hp; obtain ⟨_, rfl, _⟩ := hp; exact m _ _ h h0
    · exact h.elim
  case binOp op t x y _ =>
    refine zas h hr fun a za h ha => zas h hr fun b zb h hb => ?_
    unfold binP at h
    split at h
    · simp only [PV.h] at ha hb; exact binX_rel h ha.1 hb.1 mx
    · simp only [PV.h] at ha hb
      obtain ⟨_, rfl, ha⟩ := ha
      obtain ⟨_, rfl, hb⟩ := hb
      obtain ⟨ys, h, hy⟩ := ztb h ha
      obtain ⟨zs, h, hz⟩ := ztb h hb
      exact binX_agg h hy hz mx
    · simp only [PV.h] at ha hb
      obtain ⟨q, b, _, _, rfl⟩ := ha
      have := hb.1.eq (by simp); subst this
      have hn : ∀ neg off', (tiK T t fun ti => match ti.td with | .ptr _ => ret' (.lit neg) | _ => False) → eqX T neg t (.own q b off') (.v (.pointer none)) ret' := fun neg off' h => h
      have none_ : ∀ {K : TI → Prop}, tiK T t K → (∀ ti, ¬ K ti) → False := fun h k => let ⟨ti, _, _, h⟩ := zme h; k ti h
      cases op
      case eql => exact hn false 0 (zbh h fun ti h => by cases e : ti.td <;> rw [e] at h <;> first | exact h.elim | exact mx _ h (fun _ => by simp [XV.wf]))
      case neq => exact hn true 0 (zbh h fun ti h => by cases e : ti.td <;> rw [e] at h <;> first | exact h.elim | exact mx _ h (fun _ => by simp [XV.wf]))
      all_goals exact (none_ h fun ti h => by cases e : ti.td <;> rw [e] at h <;> exact h).elim
    · rename_i k els _
      simp only [PV.h] at ha hb
      obtain ⟨a, c, rfl, ha⟩ := ha
      have := hb.1.eq (by simp); subst this
      have hn : 0 < k → a.isNone = true → els = [] := by
        intro hk hnone
        simp only [R.h] at ha
        obtain ⟨a', c', he, _, _, hr⟩ := ha
        injection he with he1 he2 he3
        subst he1
        cases els with
        | nil => rfl
        | cons cs els =>
          simp only [rowsH] at hr
          cases cs with
          | nil => simp at hr; omega
          | cons r cs =>
            simp only [cellsH] at hr
            obtain ⟨_, ⟨⟨x, u, hx, _⟩, _⟩, _⟩ := hr
            subst hx; cases hnone
      have none_ : ∀ {K : TI → Prop}, tiK T t K → (∀ ti, ¬ K ti) → False := fun h k => let ⟨ti, _, _, h⟩ := zme h; k ti h
      have hn' : ∀ neg, (tiK T t fun ti => match ti.td with | .slice _ => ret' (.bool (notIf neg a.isNone)) | _ => False) → eqX T neg t (.slc a els.length c) (.slc none 0 0) ret' := fun neg h => h
      cases op
      case eql => exact hn' false (zbh h fun ti h => by cases e : ti.td <;> rw [e] at h <;> first | exact h.elim | exact mx _ (h.2 a.isNone (hn h.1)) (fun _ => by simp [XV.wf]))
      case neq => exact hn' true (zbh h fun ti h => by cases e : ti.td <;> rw [e] at h <;> first | exact h.elim | exact mx _ (h.2 a.isNone (hn h.1)) (fun _ => by simp [XV.wf]))
      all_goals exact (none_ h fun ti h => by cases e : ti.td <;> rw [e] at h <;> exact h).elim
    · exact h.elim
  case unOp op t x =>
    refine zas h hr fun a za h ha => ?_
    split at h
    · simp only [PV.h] at ha
      rcases ha.1 with rfl | ⟨b, hb, rfl⟩
      · exact mx _ h fun _ => by simp [XV.wf]
      · cases hb; exact ml _ _ h (by simp [XV.wf]) (.inr ⟨_, rfl, rfl⟩)
    · simp only [PV.h] at ha; have := ha.1.eq (by simp); subst this; exact mx _ h fun _ => by simp [XV.wf]
    · simp only [PV.h] at ha; have := ha.1.eq (by simp); subst this; exact mx _ h fun _ => by simp [XV.wf]
    · simp only [PV.h] at ha; have := ha.1.eq (by simp); subst this; exact mx _ h fun _ => by simp [XV.wf]
    · exact h.elim
  case convert src dst x =>
    refine zas h hr fun a za h ha => zbh h fun _ h => zbh h fun td h => ?_
    split at h
    · rw [(by assumption : td.td = TD.int _)]
      simp only [PV.h] at ha; have := ha.1.eq (by simp); subst this; exact mx _ h fun _ => by simp [XV.wf]
    · rw [(by assumption : td.td = TD.string)]
      simp only [PV.h] at ha; have := ha.1.eq (by simp); subst this; exact mx _ h fun _ => by simp [XV.wf]
    · exact h.elim
  case fieldAddr s x f =>
    refine zas h hr fun a za h ha => zbh h fun ti h => ?_
    split at h
    · rw [(by assumption : ti.td = TD.struct _)]
      refine zye h fun off _ _ h => ?_
      split at h
      · simp only [PV.h] at ha; obtain ⟨q, b, h1, h2, rfl⟩ := ha; exact m _ _ h (by simp only [PV.h]; exact ⟨q, b, h1, h2, rfl⟩)
      · simp only [PV.h] at ha; obtain ⟨ad, rfl, h1⟩ := ha; exact m _ _ h (by simp only [PV.h]; exact ⟨ad, by rw [Addr.add_add], h1⟩)
      · simp only [PV.h] at ha; obtain ⟨e, k, els, ad, h1, h2, h3, rfl⟩ := ha; exact m _ _ h (by simp only [PV.h]; exact ⟨e, k, els, ad, h1, h2, h3, by rw [Addr.add_add, Nat.add_assoc]⟩)
      · exact h.elim
    · exact h.elim
  case field s x f =>
    refine zas h hr fun a za h ha => zbh h fun ti h => ?_
    split at h
    · simp only [PV.h] at ha
      obtain ⟨ys, rfl, ha⟩ := ha
      rw [(by assumption : ti.td = TD.struct _)]
      refine zye h fun off _ _ h => zbh h fun tf h => ?_
      cases hg : tf.agg with
      | true => rw [hg] at h; exact zek h ha fun l l' h hl => m _ _ h (by simp only [PV.h]; exact ⟨_, rfl, hl⟩)
      | false =>
        rw [hg] at h
        refine zek h ha fun l l' h hl => ?_
        split at h
        · simp only [PVsH] at hl; obtain ⟨z, _, rfl, h2, rfl⟩ := hl; exact m _ _ h h2
        · exact h.elim
    · exact h.elim
  case indexAddr t x ix =>
    refine zas h hr fun a za h ha => zas h hr fun b zb h hb => zbh h fun ti h => ?_
    split at h
    · rename_i e k els kk i h1 _ _
      rw [h1]
      simp only [PV.h] at ha hb
      have := hb.1.eq (by simp); subst this
      obtain ⟨a, c, rfl, ha⟩ := ha
      refine zbh h fun te ⟨h2, h3, h4, cs, h5, h6⟩ => ?_
      have h2 := Nat.eq_of_beq_eq_true h2
      simp only [R.h] at ha
      obtain ⟨a', c', he, _, _, ha⟩ := ha
      simp only [Value.slice.injEq] at he
      obtain ⟨rfl, _, rfl⟩ := he
      obtain ⟨h7, h8⟩ := zdv.1 ha _ _ h5
      cases cs with
      | nil => simp at h7
      | cons c0 cs =>
        have h9 := h8
        simp only [cellsH] at h9
        obtain ⟨⟨ad, u, rfl, _⟩, _⟩ := h9
        refine ⟨ad, rfl, h3, h4, m _ _ h6 ?_⟩
        simp only [PV.h]
        refine ⟨ad.add (i.toNat * te.size), by rw [Addr.add_add]; rfl, zuc ?_⟩
        rw [h2]; simpa using h8
    · rename_i e j kk i h1 _ _
      rw [h1]
      simp only [PV.h] at ha hb
      have := hb.1.eq (by simp); subst this
      obtain ⟨e', k', els, h2, rfl⟩ := ha
      refine zbh h fun te h => ?_
      obtain ⟨e2, k2, els2, h3, h4, h5, h6, h7, h8⟩ := zeo h
      rw [h2] at h3
      simp only [Option.some.injEq, RS.own.injEq] at h3
      obtain ⟨rfl, rfl, rfl⟩ := h3
      obtain ⟨g, hg, _⟩ := owns_at (ho _ _ _ _ h2) h5 (i := i.toNat) (by omega)
      refine ⟨_, hg, h6, h7, m _ _ h8 ?_⟩
      simp only [PV.h]
      exact ⟨_, _, _, _, h2, by omega, hg, by rw [Nat.eq_of_beq_eq_true h4]; rfl⟩
    · exact h.elim
  case extract t i =>
    refine zas h hr fun a za h ha => ?_
    split at h
    · simp only [PV.h] at ha
      obtain ⟨ys, rfl, ha⟩ := ha
      refine zek h ha fun l l' h hl => ?_
      split at h
      · simp only [PVsH] at hl; obtain ⟨z, _, rfl, h2, rfl⟩ := hl; exact m _ _ h h2
      · exact h.elim
    · exact h.elim
  case slice t x lo hi mx' =>
    refine zas h hr fun a za h ha => zxd h hr fun lo' zlo h hlo => zxd h hr fun hi' zhi h hhi => ?_
    cases mx' with
    | some mm =>
      exfalso
      obtain ⟨ti, _, _, h⟩ := zme h
      split at h <;> simp_all
    | none =>
      show tiK T t _
      refine zbh h fun ti h => ?_
      split at h
      · rename_i e k els h1 _ _ _ _
        rw [h1]
        simp only [PV.h] at ha
        obtain ⟨a, c, rfl, ha⟩ := ha
        refine zbh h fun te ⟨hsz, h⟩ => ?_
        have hsz := Nat.eq_of_beq_eq_true hsz
        have hc : els.length ≤ c := by
          simp only [R.h] at ha; obtain ⟨_, _, he, hc, _⟩ := ha; simp only [Value.slice.injEq] at he; omega
        have hlen : (els.take els.length) = els := List.take_length
        rcases hlo with ⟨rfl, rfl⟩ | ⟨l, zl, rfl, rfl, hl⟩
        · simp only at h ⊢
          refine zlz h hc hhi fun n hn h => m _ _ h ?_
          have hn' : n ≤ els.length := by rcases hn with ⟨_, rfl⟩ | hn <;> omega
          simp only [PV.h]
          exact ⟨a, c, by rw [List.length_take, Nat.min_eq_left hn'], by rw [List.length_take, Nat.min_eq_left hn']; exact sl_prefix ha n hn'⟩
        · simp only at h ⊢
          refine zlz h hc hhi fun n hn h => zlz (p := some l) (z := some zl) h (Nat.le_refl _) (.inr ⟨l, zl, rfl, rfl, hl⟩) fun q hq h => m _ _ h ?_
          have hn' : n ≤ els.length := by rcases hn with ⟨_, rfl⟩ | hn <;> omega
          have hq' : q ≤ n := by rcases hq with ⟨hq, _⟩ | hq; cases hq; exact hq
          simp only [PV.h]
          refine ⟨(if c = q then a else a.map (·.add (q * te.size))), c - q, ?_, ?_⟩
          · rw [List.length_drop, List.length_take, Nat.min_eq_left hn']
          · rw [List.length_drop, List.length_take, Nat.min_eq_left hn', hsz]; exact yhy ha q n hq' hn'
      · rw [(by assumption : ti.td = TD.string)]
        simp only [PV.h] at ha
        have := ha.1.eq (by simp); subst this
        exact zlz h (Nat.le_refl _) hhi fun n hn h => zlz h (Nat.le_refl _) hlo fun q hq h => mx _ h fun _ => by simp [XV.wf]
      · exact h.elim
  case build t parts =>
    refine zop h hr fun ps zs h he hp => zbh h fun ti h => ?_
    split at h
    · rename_i fs z zz h1 h2
      simp only [h1, h2]
      have pm : ∀ {fs : List (Nat × Nat × Nat)} {K K' : Prop}, posK fs K → (K → K') → posK fs K' := by
        intro fs; induction fs with
        | nil => intro K K' h m; exact m h
        | cons f fs ih => intro K K' h m; obtain ⟨_, _, sz⟩ := f; cases sz with
          | zero => exact h.elim
          | succ n => exact ih h m
      exact pm h fun h => yap h he hp (zvs _) fun cs xs h hc => m _ _ h (by simp only [PV.h]; exact ⟨_, rfl, hc⟩)
    · exact h.elim
  case makeFunc fn first caps =>
    split at h
    · rename_i h1 h2
      simp only [pureK, h2]
      exact zho h hr fun ps zs h hp => m _ _ h (by simp only [PV.h]; exact ⟨_, rfl, hp⟩)
    · exact h.elim
  case call c =>
    split at h
    · rename_i b hb
      simp only [pureK, hb]
      refine zho h hr fun ps zs h hp => ?_
      unfold zec at h
      split at h
      · simp only [PVsH, PV.h] at hp
        obtain ⟨z, _, rfl, ⟨a, c, rfl, _⟩, rfl⟩ := hp
        exact znx h fun ti h => by cases e : ti.td <;> rw [e] at h <;> first | exact mx _ h (fun _ => by simp [XV.wf]) | exact h.elim
      · simp only [PVsH, PV.h] at hp
        obtain ⟨z, _, rfl, ⟨e, k, els, h2, rfl⟩, rfl⟩ := hp
        obtain ⟨e2, k2, els2, h3, h⟩ := zeo h
        rw [h2] at h3
        simp only [Option.some.injEq, RS.own.injEq] at h3
        obtain ⟨rfl, rfl, rfl⟩ := h3
        exact znx h fun ti h => by cases e : ti.td <;> rw [e] at h <;> first | exact mx _ h (fun _ => by simp [XV.wf]) | exact h.elim
      · simp only [PVsH, PV.h] at hp
        obtain ⟨z, _, rfl, h1, rfl⟩ := hp
        have := h1.1.eq (by simp); subst this
        exact znx h fun ti h => by cases e : ti.td <;> rw [e] at h <;> first | exact mx _ h (fun _ => by simp [XV.wf]) | exact h.elim
      · simp only [PVsH, PV.h] at hp
        obtain ⟨z, _, rfl, h1, rfl⟩ := hp
        have := h1.1.eq (by simp); subst this
        exact znx h fun ti h => by cases e : ti.td <;> rw [e] at h <;> first | exact mx _ h (fun _ => by simp [XV.wf]) | exact h.elim
      · simp only [PVsH, PV.h] at hp
        obtain ⟨z, _, rfl, h1, z2, _, rfl, h2, rfl⟩ := hp
        have := h1.1.eq (by simp); subst this
        have := h2.1.eq (by simp); subst this
        exact mx _ h fun _ => by simp [XV.wf]
      · simp only [PVsH, PV.h] at hp
        obtain ⟨z, _, rfl, h1, z2, _, rfl, h2, rfl⟩ := hp
        have := h1.1.eq (by simp); subst this
        have := h2.1.eq (by simp); subst this
        exact mx _ h fun _ => by simp [XV.wf]
      · exact h.elim
    · exact h.elim
end
end Go.Vc

namespace Go.Vc
open Go Go.RowKit
def Own.pv(bs:List Nat)(π:Nat→Option Nat)(rw:List RS)(A:Asg)(ts:List PV)(xs:List XV)(pb:PBs)(bx:List Box):Own where
 bl:=[]
 h U W:=PVsH U W bs π rw A ts xs∧PBsH U W bs π rw A pb bx
 mono:=by
  rintro U U' w w' ⟨h1,h2⟩ l _
  have s:Sub noF U U' w w' bs bs π π rw rw A A:=⟨l,⟨[],by simp⟩,fun _ _ h=>h,fun _ _ _ _ _ h=>⟨h,rfl⟩,fun _ _ _ h=>⟨⟨_,h⟩,rfl⟩,by intro i p e k els h; cases h⟩
  exact⟨zbr s h1,zdp s (fun _ _ h=>h) h2⟩
 lt:=by intro U w _ b hb; cases hb
theorem ztq{U0:Nat→Prop}{bs:List Nat}{os:List Own}{o:Own}(h:o.bl=[]):Us U0 bs (os++[o])=Us U0 bs os:=by
 funext b; simp[Us,zac,ownBl,h]
theorem yab{os:List Own}{o:Own}(h:o.bl=[]):ownBl (os++[o])=ownBl os:=by simp[zac,ownBl,h]
theorem Ctx.more{V W:World}{U0:Nat→Prop}{L bs:List Nat}{os:List Own}{G:List (Value×R)}{o:Own}(H:Ctx V U0 L bs os G W)(hb:o.bl=[])(h:o.h (Us U0 bs os) W):Ctx V U0 L bs (os++[o]) G W:=by
 refine⟨H.os_,H.tape,H.output,H.size,H.same,H.low,by rw[yab hb]; exact H.lowo,H.u0,by rw[yab hb]; exact H.nd,fun p hp=>?_,by rw[ztq hb]; exact H.facts⟩
 rw[ztq hb]
 rcases List.mem_append.1 hp with hp|hp
 ·exact H.own p hp
 ·rw[List.mem_singleton.1 hp]; exact h
theorem Ctx.less{V W:World}{U0:Nat→Prop}{L bs:List Nat}{os:List Own}{G:List (Value×R)}{o:Own}(H:Ctx V U0 L bs (os++[o]) G W)(hb:o.bl=[]):Ctx V U0 L bs os G W∧o.h (Us U0 bs os) W:=by
 have h:=H.own o (by simp)
 rw[ztq hb]at h
 exact⟨H.weak (List.Sublist.refl _) (List.sublist_append_left _ _) (fun _ h=>h),h⟩
section
variable {V W w:World} {U0:Nat→Prop} {L:List Nat} {rw:List RS} {ts:List PV} {pb:PBs} {xs:List XV} {bx:List Box} {π:Nat→Option Nat} {A:Asg}
theorem Rep.ctx(H:Rep V U0 L rw ts pb xs bx W π A):Ctx V U0 L (blks bx) (ownsOf rw 0 A++[Own.pv (blks bx) π rw A ts xs pb bx]) [] W:=H.c.more rfl ⟨H.ts,H.pb⟩
theorem Rep.of{bs:List Nat}{G:List (Value×R)}(H:Ctx V U0 L bs (ownsOf rw 0 A++[Own.pv bs π rw A ts xs pb bx]) G W)(hb:blks bx=bs):Rep V U0 L rw ts pb xs bx W π A:=by
 subst hb
 obtain⟨h1,h2,h3⟩:=H.less rfl
 exact⟨h1.weak (List.Sublist.refl _) (List.Sublist.refl _) (by intro p hp; cases hp),h2,h3⟩
theorem Rep.sync(H:Rep V U0 L rw ts pb xs bx W π A)(hs:Sync bx W w):Rep V U0 L rw ts pb xs bx w π A:=Rep.of (H.ctx.sync hs) rfl
end
def upd{α:Type}(A:Nat→α)(i:Nat)(v:α):Nat→α:=fun x=>if x=i then v else A x
theorem upd_eq{α:Type}(A:Nat→α)(i:Nat)(v:α):upd A i v i=v:=by simp[upd]
theorem upd_ne{α:Type}(A:Nat→α){i j:Nat}(v:α)(h:j≠i):upd A i v j=A j:=by simp[upd,h]
theorem zfj:∀{rw:List RS} {n:Nat} {A A':Asg},(∀i,n≤i→A i=A' i)→ownsOf rw n A=ownsOf rw n A'
 |[],_,_,_,_=>rfl
 | .own e k els::rs,n,A,A',h=>by simp only[ownsOf]; rw[h n (Nat.le_refl _),zfj (n:=n+1) fun i hi=>h i (by omega)]
 | .ob o::rs,n,A,A',h=>by simp only[ownsOf]; rw[h n (Nat.le_refl _),zfj (n:=n+1) fun i hi=>h i (by omega)]
 | .dead::rs,n,A,A',h=>by simp only[ownsOf]; rw[zfj (n:=n+1) fun i hi=>h i (by omega)]
theorem zdm:∀{rw:List RS} {j e k:Nat} {els:List (List R)} (n:Nat) (A:Asg),rw[j]?=some (.own e k els)→
  ∃P Q,ownsOf rw n A=P++Own.row e k (A (n+j)).1 (A (n+j)).2 els::Q∧ownsOf (rw.set j .dead) n A=P++Q∧
   ∀v e' k' els',ownsOf (rw.set j (.own e' k' els')) n (upd A (n+j) v)=P++Own.row e' k' v.1 v.2 els'::Q
 |[],j,e,k,els,n,A,h=>by simp at h
 |r::rs,0,e,k,els,n,A,h=>by
  simp at h; subst h
  refine⟨[],ownsOf rs (n+1) A,rfl,rfl,fun v e' k' els'=>?_⟩
  simp only[List.set_cons_zero,ownsOf,Nat.add_zero,upd_eq,List.nil_append]
  rw[zfj (n:=n+1) (A:=upd A n v) (A':=A) fun i hi=>upd_ne A v (by omega)]
 |r::rs,j+1,e,k,els,n,A,h=>by
  obtain⟨P,Q,h1,h2,h3⟩:=zdm (rw:=rs) (j:=j) (n+1) A (by simpa using h)
  have ej:n+1+j=n+(j+1):=by omega
  rw[ej]at h1 h3
  cases r with
  |own e0 k0 els0=>
   refine⟨Own.row e0 k0 (A n).1 (A n).2 els0::P,Q,by simp only[ownsOf,h1,List.cons_append],by simp only[List.set_cons_succ,ownsOf,h2,List.cons_append],fun v e' k' els'=>?_⟩
   simp only[List.set_cons_succ,ownsOf,h3,List.cons_append]
   rw[upd_ne A v (by omega:n≠n+(j+1))]
  |ob o=>
   refine⟨Own.ob (A n).1 o::P,Q,by simp only[ownsOf,h1,List.cons_append],by simp only[List.set_cons_succ,ownsOf,h2,List.cons_append],fun v e' k' els'=>?_⟩
   simp only[List.set_cons_succ,ownsOf,h3,List.cons_append]
   rw[upd_ne A v (by omega:n≠n+(j+1))]
  |dead=>exact⟨P,Q,by simp only[ownsOf,h1],by simp only[List.set_cons_succ,ownsOf,h2],fun v e' k' els'=>by simp only[List.set_cons_succ,ownsOf,h3]⟩
theorem zor:∀(rw:List RS) (n:Nat) (A:Asg) (v:Option Addr×Nat) (e k:Nat) (els:List (List R)),ownsOf (rw++[.own e k els]) n (upd A (n+rw.length) v)=ownsOf rw n A++[Own.row e k v.1 v.2 els]
 |[],n,A,v,e,k,els=>by simp[ownsOf,upd_eq]
 |r::rs,n,A,v,e,k,els=>by
  have:=zor rs (n+1) A v e k els
  rw[show n+1+rs.length=n+(r::rs).length by simp; omega]at this
  cases r with
  |own e0 k0 els0=>simp only[List.cons_append,ownsOf,this]; rw[upd_ne A v (by simp:n≠n+(RS.own e0 k0 els0::rs).length)]
  |ob o=>simp only[List.cons_append,ownsOf,this]; rw[upd_ne A v (by simp:n≠n+(RS.ob o::rs).length)]
  |dead=>simp only[List.cons_append,ownsOf,this]
theorem zjm:∀{rw:List RS} {j:Nat} {o:Obj} (n:Nat) (A:Asg),rw[j]?=some (.ob o)→
  ∃P Q,ownsOf rw n A=P++Own.ob (A (n+j)).1 o::Q∧∀o',ownsOf (rw.set j (.ob o')) n A=P++Own.ob (A (n+j)).1 o'::Q
 |[],j,o,n,A,h=>by simp at h
 |r::rs,0,o,n,A,h=>by
  simp at h; subst h
  exact⟨[],ownsOf rs (n+1) A,rfl,fun o'=>by simp only[List.set_cons_zero,ownsOf,Nat.add_zero,List.nil_append]⟩
 |r::rs,j+1,o,n,A,h=>by
  obtain⟨P,Q,h1,h3⟩:=zjm (rw:=rs) (j:=j) (n+1) A (by simpa using h)
  have ej:n+1+j=n+(j+1):=by omega
  rw[ej]at h1 h3
  cases r with
  |own e0 k0 els0=>exact⟨Own.row e0 k0 (A n).1 (A n).2 els0::P,Q,by simp only[ownsOf,h1,List.cons_append],fun o'=>by simp only[List.set_cons_succ,ownsOf,h3,List.cons_append]⟩
  |ob o0=>exact⟨Own.ob (A n).1 o0::P,Q,by simp only[ownsOf,h1,List.cons_append],fun o'=>by simp only[List.set_cons_succ,ownsOf,h3,List.cons_append]⟩
  |dead=>exact⟨P,Q,by simp only[ownsOf,h1],fun o'=>by simp only[List.set_cons_succ,ownsOf,h3]⟩
theorem ztv:∀(rw:List RS) (n:Nat) (A:Asg) (v:Option Addr×Nat) (o:Obj),ownsOf (rw++[.ob o]) n (upd A (n+rw.length) v)=ownsOf rw n A++[Own.ob v.1 o]
 |[],n,A,v,o=>by simp[ownsOf,upd_eq]
 |r::rs,n,A,v,o=>by
  have:=ztv rs (n+1) A v o
  rw[show n+1+rs.length=n+(r::rs).length by simp; omega]at this
  cases r with
  |own e0 k0 els0=>simp only[List.cons_append,ownsOf,this]; rw[upd_ne A v (by simp:n≠n+(RS.own e0 k0 els0::rs).length)]
  |ob o0=>simp only[List.cons_append,ownsOf,this]; rw[upd_ne A v (by simp:n≠n+(RS.ob o0::rs).length)]
  |dead=>simp only[List.cons_append,ownsOf,this]
theorem zmy:∀{rw:List RS} {j e k:Nat} {els:List (List R)} (n:Nat) (A:Asg),rw[j]?=some (.own e k els)→Own.row e k (A (n+j)).1 (A (n+j)).2 els∈ownsOf rw n A:=by
 intro rw j e k els n A h
 obtain⟨P,Q,h1,_⟩:=zdm n A h
 rw[h1]; simp
theorem Rep.row{V W:World}{U0:Nat→Prop}{L:List Nat}{rw:List RS}{ts:List PV}{pb:PBs}{xs:List XV}{bx:List Box}{π:Nat→Option Nat}{A:Asg}(H:Rep V U0 L rw ts pb xs bx W π A):∀j e k els,rw[j]?=some (.own e k els)→(Own.row e k (A j).1 (A j).2 els).h (Us U0 (blks bx) (ownsOf rw 0 A)) W:=by
 intro j e k els h
 have:=zmy 0 A h
 rw[Nat.zero_add]at this
 exact H.c.own _ this
structure St(nl:Nat)(al:Nat→Bool)(I:List Nat)(bx0:List Box)(p0:Nat→Option Nat)(V:World)(U0:Nat→Prop)(L:List Nat)(rw:List RS)(ts:List PV)(pb:PBs)(xs:List XV)(bx:List Box)(W:World)(π:Nat→Option Nat)(A:Asg):Prop where
 rep:Rep V U0 L rw ts pb xs bx W π A
 low:∀j e k els,nl≤j→rw[j]?=some (.own e k els)→∀b∈oblk (A j).1,¬U0 b
 kp:∀i x,bx0[i]?=some x→i∉I→bx[i]?=some x
 pre:∃l,blks bx=blks bx0++l∧∀b∈l,V.heap.size≤b∨b∈L
 hal:∀i q,al i=true→π i=some q→q∈I∨bx0.length≤q
 pl:∀i q,π i=some q→i<pb.length
 px:∀i q,p0 i=some q→π i=some q
 bt:∀(i:Nat) (x:Box),bx0[i]?=some x→∃y:Box,bx[i]?=some y∧y.blk=x.blk∧y.ty=x.ty
section
variable {nl:Nat} {al:Nat→Bool} {I:List Nat} {bx0:List Box} {p0:Nat→Option Nat} {V W w:World} {U0:Nat→Prop} {L:List Nat} {rw:List RS} {ts:List PV} {pb:PBs} {xs:List XV} {bx:List Box} {π:Nat→Option Nat} {A:Asg}
abbrev UU(U0:Nat→Prop)(bx:List Box)(rw:List RS)(A:Asg):=Us U0 (blks bx) (ownsOf rw 0 A)
theorem zbc{dst:Option Tmp}{p:PV}{z:XV}{K:KP}{K':KT}(m:∀ts pb rw xs bx W π A,K ts pb rw→St nl al I bx0 p0 V U0 L rw ts pb xs bx W π A→K' xs bx W)(H:St nl al I bx0 p0 V U0 L rw ts pb xs bx W π A)(h:retP dst p ts pb rw K)(hp:p.h (UU U0 bx rw A) W (blks bx) π rw A z):retX dst z xs bx W K':=by
 cases dst with
 |none=>exact m _ _ _ _ _ _ _ _ h H
 |some d=>
  simp only[retP,zdb]at h
  simp only[retX,zfb]
  exact m _ _ _ _ _ _ _ _ h ⟨⟨H.rep.c,zrr H.rep.ts d hp,H.rep.pb⟩,H.low,H.kp,H.pre,H.hal,H.pl,H.px,H.bt⟩
theorem zgn{pb:PBs}{i:Nat}{K:PBox→Prop}(h:pbK pb i K):∃p,pb[i]?=some (some p)∧K p:=by
 induction pb generalizing i with
 |nil=>exact h.elim
 |cons o pb ih=>
  cases i with
  |zero=>cases o with
   |none=>exact h.elim
   |some p=>exact⟨p,rfl,h⟩
  |succ i=>simpa using ih (i:=i) h
theorem yjl{bx:List Box}{i:Nat}{x:Box}{K:Box→Prop}(h:bx[i]?=some x)(k:K x):boxK bx i K:=by
 induction bx generalizing i with
 |nil=>simp at h
 |cons y bx ih=>
  cases i with
  |zero=>simp at h; subst h; exact k
  |succ i=>exact ih (i:=i) (by simpa using h)
theorem zdt:∀{xs:List R} {o n:Nat} {K:List R→Prop},subR xs o n K→K ((xs.drop o).take n)∧o+n≤xs.length
 |[],o,n,K,h=>by cases o<;>cases n<;>simp_all [subR]
 |x::xs,0,0,K,h=>by simpa[subR]using h
 |x::xs,0,n+1,K,h=>by
  have:=zdt (xs:=xs) (o:=0) (n:=n) h
  simpa using this
 |x::xs,o+1,n,K,h=>by
  have:=zdt (xs:=xs) (o:=o) h
  simp only[List.drop_succ_cons,List.length_cons]
  exact⟨this.1,by omega⟩
theorem inj0_h{U:Nat→Prop}{W:World}{bs:List Nat}{r:R}{u:Value}{K:RP}{K':XV→Prop}(h:r2pK r K)(hr:r.h U W u)(h1:u.oneCell'=true)(m:∀p,K p→p.h U W bs π rw A (inj0 u)→K' (inj0 u)):K' (inj0 u):=by
 cases r with
 |val x=>simp only[R.h]at hr; subst hr; exact m _ h (by simp only[PV.h]; exact⟨xrel.refl _,zkx _ _⟩)
 |sl k els=>
  have hr0:=hr
  simp only[R.h]at hr
  obtain⟨a,c,rfl,_⟩:=hr
  exact m _ h (by simp only[PV.h]; exact⟨a,c,rfl,hr0⟩)
 |agg rs=>exact m _ h (by simp only[PV.h]; exact zkx _ _)
 |tup rs=>exact m _ h (by simp only[PV.h]; exact zkx _ _)
 |oth _ _=>exact m _ h (by simp only[PV.h]; exact zkx _ _)
theorem injL_h{U:Nat→Prop}{W:World}{bs:List Nat}:∀{rs:List R} {us:List Value} {K:List PV→Prop} {K':List XV→Prop},r2pLK rs K→listH U W rs us→(∀u∈us,u.oneCell'=true)→(∀ps,K ps→PVsH U W bs π rw A ps (injL us)→K' (injL us))→K' (injL us)
 |[],us,K,K',h,hr,h1,m=>by simp only[listH]at hr; subst hr; exact m [] h (by simp[PVsH,injL])
 |r::rs,us,K,K',h,hr,h1,m=>by
  simp only[listH]at hr
  obtain⟨u,us',rfl,hu,hr⟩:=hr
  have:=inj0_h (π:=π) (rw:=rw) (A:=A) (bs:=bs) (K':=fun _=>K' (injL (u::us'))) h hu (h1 u (by simp)) fun p h hp=>
   injL_h (K':=fun _=>K' (injL (u::us'))) h hr (fun v hv=>h1 v (by simp[hv])) fun ps h hps=>m (p::ps) h (by simp only[PVsH,injL]; exact⟨_,_,rfl,hp,hps⟩)
  exact this
theorem zqo{U:Nat→Prop}{W:World}:∀{rs:List R} {us:List Value} (o n:Nat),listH U W rs us→listH U W ((rs.drop o).take n) ((us.drop o).take n):=by
 intro rs
 induction rs with
 |nil=>intro us o n h; simp only[listH]at h; subst h; simp[listH]
 |cons r rs ih=>
  intro us o n h
  have h0:=h
  simp only[listH]at h
  obtain⟨u,us',rfl,hu,h⟩:=h
  cases o with
  |succ o=>simpa using ih o n h
  |zero=>cases n with
   |zero=>simp[listH]
   |succ n=>simp only[List.drop_zero,List.take_succ_cons,listH]; exact⟨u,_,rfl,hu,by simpa using ih 0 n h⟩
theorem cellsH_sub{U:Nat→Prop}{W:World}{ad:Addr}{cs:List R}(h:cellsH U W (some ad) 0 cs)(o n:Nat)(hn:o+n≤cs.length)(h0:0<n):∃us,us.length=n∧listH U W ((cs.drop o).take n) us∧(∀u∈us,u.oneCell'=true)∧zez W (ad.add o) 0 us∧¬U ad.block:=by
 obtain⟨us,hl,hus,h1,hc⟩:=zkm h
 have hnu:¬U ad.block:=by
  cases cs with
  |nil=>simp at hn; omega
  |cons c cs=>simp only[cellsH]at h; obtain⟨⟨x,_,hx,hn,_⟩,_⟩:=h; cases hx; exact hn
 refine⟨(us.drop o).take n,by rw[List.length_take,List.length_drop]; omega,?_,fun u hu=>h1 u (List.mem_of_mem_drop (List.mem_of_mem_take hu)),zlx (zia us 0 fun j u hj=>by have:=hc j u hj; simpa using this) o n,hnu⟩
 exact zqo o n hus
end
end Go.Vc

namespace Go.Vc
open Go Go.RowKit
theorem zub{α:Type}{k:Nat}:∀{els:List (List α)} {i:Nat} {cs:List α},(∀l∈els,l.length=k)→els[i]?=some cs→(els.flatten.drop (i*k)).take k=cs
 |[],i,cs,_,h=>by simp at h
 |l::els,0,cs,hk,h=>by
  simp at h; subst h
  have:=hk l (by simp)
  simp[←this]
 |l::els,i+1,cs,hk,h=>by
  have h1:=hk l (by simp)
  have:=zub (els:=els) (i:=i) (fun l hl=>hk l (by simp[hl])) (by simpa using h)
  simp only[List.flatten_cons]
  rw[show (i+1)*k=l.length+i*k by rw[h1,Nat.succ_mul]; omega,List.drop_append,List.drop_eq_nil_of_le (by omega)]
  simpa using this
section
variable {nl:Nat} {al:Nat→Bool} {I:List Nat} {bx0:List Box} {p0:Nat→Option Nat} {V W w:World} {U0:Nat→Prop} {L:List Nat} {rw:List RS} {ts:List PV} {pb:PBs} {xs:List XV} {bx:List Box} {π:Nat→Option Nat} {A:Asg}
theorem Rep.elem(H:Rep V U0 L rw ts pb xs bx W π A){j e k i:Nat}{els:List (List R)}{cs:List R}(hj:rw[j]?=some (.own e k els))(hk:0<k)(hi:els[i]?=some cs):
  ∃g,(A j).1=some ⟨g,0,none⟩∧g∈ownBl (ownsOf rw 0 A)∧notBox bx g∧cs.length=k∧∃us,listH (UU U0 bx rw A) W cs us∧(∀u∈us,u.oneCell'=true)∧zez W ((⟨g,0,none⟩:Addr).add (i*k)) 0 us:=by
 have hlt:=(List.getElem?_eq_some_iff.1 hi).1
 obtain⟨g,hg,hgs,us,h1,h2,h3,h4⟩:=owns_at (H.row _ _ _ _ hj) hk hlt
 have hcl:=h3 cs (List.mem_of_getElem? hi)
 have hm:g∈ownBl (ownsOf rw 0 A):=by
  have:=zmy 0 A hj
  rw[Nat.zero_add]at this
  exact zcp.2 ⟨_,this,by simp[Own.row,oblk,hg]⟩
 refine⟨g,hg,hm,zdc.2 fun hb=>(List.nodup_append.1 H.c.nd).2.2 g hb g hm rfl,hcl,(us.drop (i*k)).take k,?_,fun u hu=>h2 u (List.mem_of_mem_drop (List.mem_of_mem_take hu)),?_⟩
 ·have:=zqo (i*k) k h1
  rwa [zub h3 hi]at this
 ·exact zlx (zia us 0 fun j u hj=>by have:=h4 j u hj; simpa using this) _ _
theorem zhr{T:List TI}{t:TypeId}{p:PV}{z:XV}{ret:RP}{ret':XV→Prop}(H:Rep V U0 L rw ts pb xs bx W π A)(h:loadP T t p pb rw ret)(hp:p.h (UU U0 bx rw A) W (blks bx) π rw A z)(m:∀p z,ret p→p.h (UU U0 bx rw A) W (blks bx) π rw A z→ret' z):loadX T t z bx W ret':=by
 unfold loadP at h
 have cells:∀{cs:List R} {off:Nat} {ad:Addr} {us:List Value} {ti:TI},listH (UU U0 bx rw A) W cs us→(∀u∈us,u.oneCell'=true)→zez W ad 0 us→notBox bx ad.block→
   (match ti.agg,ti.size with
   |true,n+1=>subR cs off (n+1) fun l=>r2pLK l fun l=>ret (.agg l)
   |false,_=>subR cs off 1 fun l=>match l with|[r]=>r2pK r ret|_=>False
   |_,_=>False)→
   (match ti.agg with
   |true=>∃cs:List Value,cs.length=ti.size∧cs≠[]∧zez W (ad.add off) 0 cs∧notBox bx (ad.add off).block∧ret' (.agg (injL cs))
   |false=>∃c:Value,W.cell? (ad.add off)=some c∧notBox bx (ad.add off).block∧ret' (inj0 c)):=by
  intro cs off ad us ti h1 h2 h3 h4 h
  have hul:=zbe h1
  split at h
  ·rename_i n ha hs
   rw[ha,hs]
   obtain⟨h,hle⟩:=zdt h
   refine⟨(us.drop off).take (n+1),by rw[List.length_take,List.length_drop]; omega,?_,zlx h3 off (n+1),by rw[zbq]; exact h4,?_⟩
   ·intro h0; have:=congrArg List.length h0; rw[List.length_take,List.length_drop]at this; simp at this; omega
   ·exact injL_h (K':=fun l=>ret' (.agg l)) h (zqo off (n+1) h1) (fun u hu=>h2 u (List.mem_of_mem_drop (List.mem_of_mem_take hu))) fun ps h hps=>m _ _ h (by simp only[PV.h]; exact⟨_,rfl,hps⟩)
  ·rename_i _ ha
   rw[ha]
   obtain⟨h,hle⟩:=zdt h
   have h5:=zqo off 1 h1
   obtain⟨u,hu⟩:∃u,us[off]?=some u:=⟨us[off]'(by omega),List.getElem?_eq_getElem _⟩
   have h6:(us.drop off).take 1=[u]:=by
    have:us.drop off=u::us.drop (off+1):=by
     rw[List.drop_eq_getElem_cons (by omega:off<us.length)]
     congr 1
     have:=List.getElem?_eq_getElem (l:=us) (i:=off) (by omega); rw[hu]at this; exact(Option.some.inj this).symm
    rw[this]; rfl
   rw[h6]at h5
   split at h
   ·rename_i r hr
    rw[hr]at h5
    simp only[listH]at h5
    obtain⟨u',us',he,hru,hus'⟩:=h5
    simp only[List.cons.injEq]at he
    obtain⟨rfl,_⟩:=he
    refine⟨u,by have:=zkn us 0 h3 off u hu; simpa using this,by rw[zbq]; exact h4,?_⟩
    exact inj0_h h hru (h2 u (List.mem_of_getElem? hu)) fun p h hp=>m _ _ h hp
   ·exact h.elim
  ·exact h.elim
 refine zbh h fun ti h=>?_
 split at h
 ·simp only[PV.h]at hp
  obtain⟨q,b,h1,h2,rfl⟩:=hp
  obtain⟨x,h3,h⟩:=zgn h
  obtain⟨q',y,h4,h5,_,h6⟩:=H.pb.at_ _ _ h3
  rw[h1]at h4; simp only[Option.some.injEq]at h4; subst h4
  refine yjl h5 ?_
  cases ha:ti.agg with
  |true=>rw[ha]at h; exact zek h h6 fun l l' h hl=>m _ _ h (by simp only[PV.h]; exact⟨_,rfl,hl⟩)
  |false=>
   rw[ha]at h
   refine zek h h6 fun l l' h hl=>?_
   split at h
   ·simp only[PVsH]at hl; obtain⟨z,_,rfl,h2,rfl⟩:=hl; exact m _ _ h h2
   ·exact h.elim
 ·rename_i cs off _
  simp only[PV.h]at hp
  obtain⟨ad,rfl,hc⟩:=hp
  cases cs with
  |nil=>
   exfalso
   split at h
   ·have:=(zdt h).2; simp at this
   ·have:=(zdt h).2; simp at this
   ·exact h
  |cons c cs=>
   obtain⟨us,h1,h2,h3,h4,h5⟩:=cellsH_sub hc 0 (cs.length+1) (by simp) (by omega)
   rw[show ((c::cs).drop 0).take (cs.length+1)=c::cs by simp]at h2
   have h4:zez W ad 0 us:=by
    have e:ad.add 0=ad:=by unfold Addr.add; split<;>simp_all
    rwa [e]at h4
   exact cells h2 h3 h4 (Us.box h5) h
 ·rename_i j i off _
  simp only[PV.h]at hp
  obtain⟨e,k,els,ad,h1,h2,h3,rfl⟩:=hp
  obtain⟨e',k',els',h4,cs,h5,h⟩:=zeo h
  rw[h1]at h4
  simp only[Option.some.injEq,RS.own.injEq]at h4
  obtain⟨rfl,rfl,rfl⟩:=h4
  rcases Nat.eq_zero_or_pos k with rfl|hk
  ·exfalso
   obtain⟨us,ho,hx,h6,hkl⟩:=H.row _ _ _ _ h1
   have:=hkl cs (List.mem_of_getElem? h5)
   split at h
   ·have:=(zdt h).2; omega
   ·have:=(zdt h).2; omega
   ·exact h
  ·obtain⟨g,hg,hm,hn,hcl,us,h6,h7,h8⟩:=H.elem h1 hk h5
   rw[h3]at hg; simp only[Option.some.injEq]at hg; subst hg
   have:=cells (off:=off) (ti:=ti) h6 h7 h8 (by rw[zbq]; exact hn) h
   rwa [Addr.add_add]at this
 ·exact h.elim
end
end Go.Vc

namespace Go.Vc
open Go Go.RowKit
theorem zre{P:Program}{t e:TypeId}{ti te:TI}(hf:TFacts P t ti)(htd:ti.td=.slice e)(he:TFacts P e te)(hz:Nat.beq te.zero.length te.size=true)(hp:0<te.size):ElemOk P t e te.size te.bytes:=by
 obtain⟨d,i,h1,h2,h3,h4,h5,h6,h7,h8⟩:=he.ex
 have hz:=Nat.eq_of_beq_eq_true hz
 rw[h7]at hz
 cases hzz:i.zero with
 |none=>rw[hzz]at hz; simp at hz; omega
 |some z=>exact⟨zii hf htd,⟨i,z,h2,hzz,h4.symm,h5.symm,by rw[hzz]at hz; simpa using hz⟩,hp⟩
theorem rsD_spec{rw:List RS}{j:Nat}{K:Nat→Nat→List (List R)→Prop}{N:Prop}(h:rsD rw j K N):(∃e k els,rw[j]?=some (.own e k els)∧K e k els)∨N:=by
 induction rw generalizing j with
 |nil=>exact .inr h
 |cons r rw ih=>
  cases j with
  |zero=>cases r with
   |own e k els=>exact .inl ⟨e,k,els,rfl,h⟩
   |ob o=>exact .inr h
   |dead=>exact .inr h
  |succ j=>simpa using ih (j:=j) h
mutual
theorem PV.subK_iff(f:Nat→Option PV):(p:PV)→(K:PV→Prop)→(p.subK f K↔K (p.sub f))
 | .row i,K=>by simp only[PV.subK,PV.sub]; cases f i<;>simp
 | .re i a b,K=>by simp only[PV.subK,PV.sub]; cases f i<;>simp
 | .rt i a,K=>by simp only[PV.subK,PV.sub]; cases f i<;>simp
 | .ob i,K=>by simp only[PV.subK,PV.sub]; cases f i<;>simp
 | .fn g cs,K=>by simp only[PV.subK,PV.sub,zcm f cs]
 | .agg xs,K=>by simp only[PV.subK,PV.sub,zcm f xs]
 | .tup xs,K=>by simp only[PV.subK,PV.sub,zcm f xs]
 | .x _,K | .sl _ _,K | .el _ _,K | .own _ _,K | .junk,K=>by simp only[PV.subK,PV.sub]
theorem zcm(f:Nat→Option PV):(ps:List PV)→(K:List PV→Prop)→(subLK f ps K↔K (subL f ps))
 |[],K=>by simp only[subLK,subL]
 |p::ps,K=>by simp only[subLK,subL,PV.subK_iff f p,zcm f ps]
end
theorem zdl(f:Nat→Option PV):(ps:PBs)→(K:PBs→Prop)→(subBK f ps K↔K (subB' f ps))
 |[],K=>by simp only[subBK,subB']
 |some ⟨t,cs⟩::ps,K=>by simp only[subBK,subB',zcm,zdl f ps]
 |none::ps,K=>by simp only[subBK,subB',zdl f ps]
theorem zbv(rw:List RS)(j:Nat)(r:RS)(K:List RS→Prop):setRS rw j r K↔K (rw.set j r):=by
 induction rw generalizing j K with
 |nil=>simp[setRS]
 |cons x xs ih=>cases j<;>simp[setRS,ih]
theorem zby(n:Nat)(K:Nat→Prop):litK n K↔K n:=by unfold litK; split<;>exact Iff.rfl
theorem zbn{α:Type}(xs:List α)(y:α)(K:List α→Prop):pushK xs y K↔K (xs++[y]):=by
 induction xs generalizing K with
 |nil=>simp[pushK]
 |cons x xs ih=>simp[pushK,ih]
theorem yfu{j i:Nat}{p q:PV}(h:oneF j p i=some q):i=j∧q=p:=by
 unfold oneF at h; split at h
 ·rename_i hb; exact⟨Nat.eq_of_beq_eq_true hb,(Option.some.inj h).symm⟩
 ·cases h
theorem zhq{j i:Nat}{p:PV}(h:oneF j p i=none):i≠j:=by
 unfold oneF at h; split at h
 ·cases h
 ·rename_i hb; exact Nat.ne_of_beq_eq_false hb
theorem Ctx.viewL{V W:World}{U0:Nat→Prop}{L bs:List Nat}{A B:List Own}{G:List (Value×R)}{e:TypeId}{k:Nat}{a:Option Addr}{c:Nat}{els:List (List R)}(H:Ctx V U0 L bs (A++Own.row e k a c els::B) G W)(hu0:∀b∈oblk a,¬U0 b):
  Ctx V U0 L bs (A++B) ((.slice a els.length c,.sl k els)::G) W:=by
 have hsub:List.Sublist (A++B) (A++Own.row e k a c els::B):=(List.append_sublist_append_left _).2 (List.sublist_cons_self _ _)
 have l:=Us.fewer (U0:=U0) (List.Sublist.refl bs) hsub W
 obtain⟨xs,ho,hx,h1,hkl⟩:=H.own (Own.row e k a c els) (by simp)
 have hnd:=List.nodup_append.1 H.nd
 rw[zac]at hnd
 have hnd2:=List.nodup_append.1 hnd.2.1
 have H':=H.weak (List.Sublist.refl _) hsub fun p hp=>hp
 have hf:(R.sl k els).h (Us U0 bs (A++B)) W (.slice a els.length c):=by
  simp only[R.h]
  refine⟨a,c,rfl,(zuy ho).1,(zuy ho).2,zdv.2 fun i cs hi=>?_⟩
  have hcl:=hkl cs (List.mem_of_getElem? hi)
  refine⟨hcl,zhz.2 fun j r hj=>?_⟩
  have hfl:=zga hkl hi j r hj
  obtain⟨u,hu,hru⟩:=zxm hx _ _ hfl
  obtain⟨g,rfl,hg,hc⟩:=zzz ho (by rintro rfl; simp at hu)
  refine⟨_,u,rfl,?_,hg,by simpa using hc _ u hu,h1 u (List.mem_of_getElem? hu),R.mono l r hru⟩
  rintro(h|h|h)
  ·exact hu0 g (by simp[oblk]) h
  ·exact hnd.2.2 _ h g (by simp[ownBl,Own.row,oblk]) rfl
  ·rw[zac]at h
   rcases List.mem_append.1 h with h|h
   ·exact hnd2.2.2 _ h g (by simp[ownBl,Own.row,oblk]) rfl
   ·have:=(List.nodup_append.1 hnd2.2.1).2.2 g (by simp[Own.row,oblk]) _ h
    exact this rfl
 have hf':Holds (Us U0 bs (A++B)) W ((.slice a els.length c,.sl k els)::G):=by
  intro p hp
  rcases List.mem_cons.1 hp with rfl|hp
  ·exact hf
  ·exact H'.facts p hp
 exact { H' with facts:=hf' }
theorem oblk_head{a a':Option Addr}{n:Nat}(h:(oblk a').head?=(oblk a).head?∨(oblk a').head?=some n):oblk a'=oblk a∨oblk a'=[n]:=by
 cases a'<;>cases a<;>simp[oblk]at h ⊢ <;> exact h
theorem Ctx.app3{P:Program}{t ty e:TypeId}{k bytes:Nat}(he:ElemOk P t e k bytes){V W w:World}{U0:Nat→Prop}{L bs:List Nat}{A B:List Own}{G:List (Value×R)}{bx:List Box}{a a2:Option Addr}{n c m c2:Nat}{els news:List (List R)}{K:Value→World→Prop}
  (H:Ctx V U0 L bs (A++Own.row e k a c els::B) G W) (hs:Sync bx W w) (hn:n=els.length) (hm:(Value.slice a2 m c2,R.sl k news)∈G) (h63:n+news.length≤maxLen) (hbytes:(n+news.length)*bytes≤140737488355328)
  (g:∀a' c' w2,Ctx V U0 L bs (A++Own.row e k a' c' (els++news)::B) G w2→n+m=(els++news).length→(oblk a'=oblk a∨oblk a'=[w.heap.size])→K (.slice a' (n+m) c') w2) (hb:blks bx=bs:=by rfl):
  RunsX P (Builtin.append_ #[t,t] ty #[.slice a n c,.slice a2 m c2]) w fun v w'=>Kept (blks bx) w w'∧K v w':=by
 have H:=H.sync hs hb
 subst hb hn
 have hlt:=zgd hs
 have hsrc:=H.facts _ hm
 simp only[R.h]at hsrc
 obtain⟨a2',c2',e2,_,_,hsrc⟩:=hsrc
 simp only[Value.slice.injEq]at e2
 obtain⟨rfl,rfl,rfl⟩:=e2
 obtain⟨xs,ho,hx,h1,hkl⟩:=H.own (Own.row e k a c els) (by simp)
 have hkn:∀l∈news,l.length=k:=by
  intro l hl
  obtain⟨i,hi⟩:=List.mem_iff_getElem?.1 hl
  exact((zdv.1 hsrc) i l hi).1
 rcases Nat.eq_zero_or_pos news.length with h0|h0
 ·have hnil:news=[]:=by cases news<;>simp_all
  subst hnil
  refine⟨⟨_,_,zkv he (zuy ho).1 w,fun _ _=>rfl,?_⟩⟩
  have:=g a c w (by simpa using H) (by simp) (.inl rfl)
  simpa using this
 ·obtain⟨ad,rfl,us,hul,hus,hu1,hcs⟩:=yfd hsrc he.pos h0
  refine(zwm he (base:=0) ho hul hcs hu1 h63 hbytes (Nat.zero_le _)).mono ?_
  rintro _ w2 ⟨a',c',rfl,ho2,hg,hat⟩
  have hlen:els.length+news.length=(els++news).length:=by simp
  have hob:∀(a:Option Addr) (n c:Nat),(Value.slice a n c).ownBlock=(oblk a).head?:=by intro a n c; cases a<;>rfl
  refine⟨yaj hs hg fun q hq=>?_,g a' c' w2 (H.grown hlt hg (by simpa using hat) fun U' l=>?_) hlen ?_⟩
  ·refine zdc.2 fun hb=>?_
   have hq':q∈oblk a:=by
    cases a with
    |none=>simp[Value.ownBlock]at hq
    |some x=>simp only[Value.ownBlock,Option.some.injEq]at hq; subst hq; simp[oblk]
   have hnd:=List.nodup_append.1 H.nd
   exact hnd.2.2 q hb q (by rw[zac]; simp[ownBl,Own.row,hq']) rfl
  ·refine⟨xs++us,by rw[←hlen]; exact ho2,?_,?_,?_⟩
   ·rw[List.flatten_append]; exact zcv (zbj l _ hx) (zbj l _ hus)
   ·intro u hu; exact(List.mem_append.1 hu).elim (h1 u) (hu1 u)
   ·intro l' hl; exact(List.mem_append.1 hl).elim (hkl l') (hkn l')
  ·rw[hob,hob]at hat
   exact oblk_head hat
theorem Ctx.newOwn{V w:World}{U0:Nat→Prop}{L bs:List Nat}{os:List Own}{G:List (Value×R)}{e k:Nat}{els:List (List R)}{us:List Value}(H:Ctx V U0 L bs os G w)(hlt:∀b∈bs,b<w.heap.size)(hk:∀l∈els,l.length=k)
  (hus:listH (Us U0 bs os) w els.flatten us) (h1:∀u∈us,u.oneCell'=true) (hsm:els.length≤maxLen):
  Ctx V U0 L bs (Own.row e k (some ⟨w.heap.size,0,none⟩) els.length els::os) G (w.alloc (.cells us.toArray e)):=by
 have H':=H.alloc hlt (.cells us.toArray e)
 have hown:∀b∈ownBl os,b<w.heap.size:=fun b hb=>H.ltOwn hb
 have l:Later (Us U0 bs os) (Us U0 bs (Own.row e k (some ⟨w.heap.size,0,none⟩) els.length els::os)) w (w.alloc (.cells us.toArray e)):=by
  refine⟨fun b hb _=>zch w _ b hb,by simp,fun b hb h=>?_⟩
  rcases h with h|h|h
  ·exact .inl h
  ·exact .inr (.inl h)
  ·simp only[ownBl,Own.row,oblk,List.cons_append,List.nil_append,List.mem_cons]at h
   rcases h with h|h
   ·omega
   ·exact .inr (.inr h)
 have l2:Later (Us U0 bs os) (Us U0 bs (Own.row e k (some ⟨w.heap.size,0,none⟩) els.length els::os)) w (w.alloc (.cells us.toArray e)):=l
 have hfl:els.flatten.length=els.length*k:=by
  clear hus hsm l l2 H' H hown
  induction els with
  |nil=>simp
  |cons x xs ih=>simp only[List.flatten_cons,List.length_append,List.length_cons]; rw[ih fun l hl=>hk l (by simp[hl]),hk x (by simp),Nat.succ_mul]; omega
 refine⟨H'.os_,H'.tape,H'.output,H'.size,H'.same,H'.low,fun b hb=>?_,H'.u0,?_,fun o ho=>?_,H.facts.mono l⟩
 ·simp only[ownBl,Own.row,oblk,List.cons_append,List.nil_append,List.mem_cons]at hb
  rcases hb with rfl|hb
  ·exact .inl H.size
  ·exact H.lowo b hb
 ·have hnd:=H.nd
  show (bs++(w.heap.size::ownBl os)).Nodup
  rw[List.perm_middle.nodup_iff]
  refine List.nodup_cons.2 ⟨fun hm=>?_,hnd⟩
  rcases List.mem_append.1 hm with hm|hm
  ·exact absurd (hlt _ hm) (by omega)
  ·exact absurd (hown _ hm) (by omega)
 ·rcases List.mem_cons.1 ho with rfl|ho
  ·refine⟨us,⟨by rw[zbe hus,hfl],.inr ⟨w.heap.size,els.length,us.toArray,rfl,Nat.zero_le _,heap_alloc_new w _,Nat.le_refl _,hsm,by simp[zbe hus,hfl],by simp[←hfl,←zbe hus]⟩⟩,zbj l _ hus,h1,hk⟩
  ·exact o.mono (H.own o ho) l fun b hb=>zch w _ b (o.lt (H.own o ho) b hb)
theorem Ctx.newRoom{V w:World}{U0:Nat→Prop}{L bs:List Nat}{os:List Own}{G:List (Value×R)}{e k c:Nat}{cur:Array Value}(H:Ctx V U0 L bs os G w)(hlt:∀b∈bs,b<w.heap.size)(hc:cur.size=c*k)(hsm:c≤maxLen):
  Ctx V U0 L bs (Own.row e k (some ⟨w.heap.size,0,none⟩) c []::os) G (w.alloc (.cells cur e)):=by
 have H':=H.alloc hlt (.cells cur e)
 have hown:∀b∈ownBl os,b<w.heap.size:=fun b hb=>H.ltOwn hb
 have l:Later (Us U0 bs os) (Us U0 bs (Own.row e k (some ⟨w.heap.size,0,none⟩) c []::os)) w (w.alloc (.cells cur e)):=by
  refine⟨fun b hb _=>zch w _ b hb,by simp,fun b hb h=>?_⟩
  rcases h with h|h|h
  ·exact .inl h
  ·exact .inr (.inl h)
  ·simp only[ownBl,Own.row,oblk,List.cons_append,List.nil_append,List.mem_cons]at h
   rcases h with h|h
   ·omega
   ·exact .inr (.inr h)
 refine⟨H'.os_,H'.tape,H'.output,H'.size,H'.same,H'.low,fun b hb=>?_,H'.u0,?_,fun o ho=>?_,H.facts.mono l⟩
 ·simp only[ownBl,Own.row,oblk,List.cons_append,List.nil_append,List.mem_cons]at hb
  rcases hb with rfl|hb
  ·exact .inl H.size
  ·exact H.lowo b hb
 ·have hnd:=H.nd
  show (bs++(w.heap.size::ownBl os)).Nodup
  rw[List.perm_middle.nodup_iff]
  refine List.nodup_cons.2 ⟨fun hm=>?_,hnd⟩
  rcases List.mem_append.1 hm with hm|hm
  ·exact absurd (hlt _ hm) (by omega)
  ·exact absurd (hown _ hm) (by omega)
 ·rcases List.mem_cons.1 ho with rfl|ho
  ·exact⟨[],⟨by simp,.inr ⟨w.heap.size,c,cur,rfl,Nat.zero_le _,heap_alloc_new w _,Nat.zero_le _,hsm,hc,by simp⟩⟩,by simp[listH],by simp,by simp⟩
  ·exact o.mono (H.own o ho) l fun b hb=>zch w _ b (o.lt (H.own o ho) b hb)
theorem Ctx.newOb{V w:World}{U0:Nat→Prop}{L bs:List Nat}{os:List Own}{G:List (Value×R)}(H:Ctx V U0 L bs os G w)(hlt:∀b∈bs,b<w.heap.size)(o:Obj):
  Ctx V U0 L bs (Own.ob (some ⟨w.heap.size,0,none⟩) o::os) G (w.alloc o):=by
 have H':=H.alloc hlt o
 have hown:∀b∈ownBl os,b<w.heap.size:=fun b hb=>H.ltOwn hb
 have l:Later (Us U0 bs os) (Us U0 bs (Own.ob (some ⟨w.heap.size,0,none⟩) o::os)) w (w.alloc o):=by
  refine⟨fun b hb _=>zch w _ b hb,by simp,fun b hb h=>?_⟩
  rcases h with h|h|h
  ·exact .inl h
  ·exact .inr (.inl h)
  ·simp only[ownBl,Own.ob,oblk,List.cons_append,List.nil_append,List.mem_cons]at h
   rcases h with h|h
   ·omega
   ·exact .inr (.inr h)
 refine⟨H'.os_,H'.tape,H'.output,H'.size,H'.same,H'.low,fun b hb=>?_,H'.u0,?_,fun x hx=>?_,H.facts.mono l⟩
 ·simp only[ownBl,Own.ob,oblk,List.cons_append,List.nil_append,List.mem_cons]at hb
  rcases hb with rfl|hb
  ·exact .inl H.size
  ·exact H.lowo b hb
 ·have hnd:=H.nd
  show (bs++(w.heap.size::ownBl os)).Nodup
  rw[List.perm_middle.nodup_iff]
  refine List.nodup_cons.2 ⟨fun hm=>?_,hnd⟩
  rcases List.mem_append.1 hm with hm|hm
  ·exact absurd (hlt _ hm) (by omega)
  ·exact absurd (hown _ hm) (by omega)
 ·rcases List.mem_cons.1 hx with rfl|hx
  ·exact⟨w.heap.size,rfl,heap_alloc_new w _⟩
  ·exact x.mono (H.own x hx) l fun b hb=>zch w _ b (x.lt (H.own x hx) b hb)
theorem Ctx.setOb{V W:World}{U0:Nat→Prop}{L bs:List Nat}{os:List Own}{G:List (Value×R)}{b:Nat}{o:Obj}(H:Ctx V U0 L bs (Own.ob (some ⟨b,0,none⟩) o::os) G W)(o':Obj):
  Ctx V U0 L bs (Own.ob (some ⟨b,0,none⟩) o'::os) G { W with heap:=W.heap.setIfInBounds b o' }:=by
 obtain⟨b',hb',hw⟩:=H.own (Own.ob (some ⟨b,0,none⟩) o) (List.Mem.head _)
 simp only[Option.some.injEq,Addr.mk.injEq,and_true]at hb'
 subst hb'
 have hlt:=(Array.getElem?_eq_some_iff.1 hw).1
 have hne:∀c,c≠b→({ W with heap:=W.heap.setIfInBounds b o' }:World).heap[c]?=W.heap[c]?:=fun c hc=>by
  show (W.heap.setIfInBounds b o')[c]?=_
  rw[Array.getElem?_setIfInBounds_ne (Ne.symm hc)]
 have hbl:b∈ownBl (Own.ob (some ⟨b,0,none⟩) o::os):=by simp[ownBl,Own.ob,oblk]
 have hsz:({ W with heap:=W.heap.setIfInBounds b o' }:World).heap.size=W.heap.size:=by show (W.heap.setIfInBounds b o').size=_; simp
 have l:Later (Us U0 bs (Own.ob (some ⟨b,0,none⟩) o::os)) (Us U0 bs (Own.ob (some ⟨b,0,none⟩) o'::os)) W { W with heap:=W.heap.setIfInBounds b o' }:=
  ⟨fun c _ hn=>hne c fun e=>hn (.inr (.inr (e▸hbl))),Nat.le_of_eq hsz.symm,fun _ _ h=>h⟩
 refine⟨H.os_,H.tape,H.output,Nat.le_trans H.size (Nat.le_of_eq hsz.symm),fun c hc hL=>?_,H.low,H.lowo,H.u0,H.nd,fun x hx=>?_,H.facts.mono l⟩
 ·rw[hne c fun e=>?_]
  ·exact H.same c hc hL
  ·subst e
   rcases H.lowo c hbl with h|h
   ·omega
   ·exact hL h
 ·rcases List.mem_cons.1 hx with rfl|hx
  ·exact⟨b,rfl,by show (W.heap.setIfInBounds b o')[b]?=_; simp[hlt]⟩
  ·refine x.mono (H.own x (List.mem_cons.2 (.inr hx))) l fun c hc=>hne c fun e=>?_
   have hnd:=(List.nodup_append.1 H.nd).2.1
   simp only[ownBl,Own.ob,oblk,List.cons_append,List.nil_append,List.nodup_cons]at hnd
   exact hnd.1 (zcp.2 ⟨x,hx,e▸hc⟩)
end Go.Vc

namespace Go.Vc
open Go Go.RowKit
section
variable {nl:Nat} {al:Nat→Bool} {I:List Nat} {bx0:List Box} {p0:Nat→Option Nat} {V W w:World} {U0:Nat→Prop} {L:List Nat} {rw:List RS} {ts:List PV} {pb:PBs} {xs:List XV} {bx:List Box} {π:Nat→Option Nat} {A:Asg}
theorem St.sync(H:St nl al I bx0 p0 V U0 L rw ts pb xs bx W π A)(hs:Sync bx W w):St nl al I bx0 p0 V U0 L rw ts pb xs bx w π A:=⟨H.rep.sync hs,H.low,H.kp,H.pre,H.hal,H.pl,H.px,H.bt⟩
theorem yif{bs:List Nat}{ts':List PV}{xs':List XV}{U:Nat→Prop}(h1:PVsH U W bs π rw A ts xs)(h2:PVsH U W bs π rw A ts' xs'):PVsH U W bs π rw A (ts++ts') (xs++xs'):=zwb h1 h2
theorem ybb{bs:List Nat}{U:Nat→Prop}:∀{ts ts':List PV} {zs:List XV},PVsH U W bs π rw A (ts++ts') zs→∃z1 z2,zs=z1++z2∧z1.length=ts.length∧PVsH U W bs π rw A ts z1∧PVsH U W bs π rw A ts' z2
 |[],ts',zs,h=>⟨[],zs,rfl,rfl,by simp[PVsH],h⟩
 |t::ts,ts',zs,h=>by
  simp only[List.cons_append,PVsH]at h
  obtain⟨z,zs',rfl,h1,h2⟩:=h
  obtain⟨z1,z2,rfl,h3,h4,h5⟩:=ybb h2
  exact⟨z::z1,z2,rfl,by simp[h3],by simp only[PVsH]; exact⟨z,z1,rfl,h1,h4⟩,h5⟩
theorem zmb{bs:List Nat}{U:Nat→Prop}{ts ts':List PV}{z1 z2:List XV}(h:PVsH U W bs π rw A (ts++ts') (z1++z2))(hl:z1.length=ts.length):PVsH U W bs π rw A ts z1∧PVsH U W bs π rw A ts' z2:=by
 obtain⟨y1,y2,he,h1,h2,h3⟩:=ybb h
 have:=List.append_inj he (by rw[h1,hl])
 obtain⟨rfl,rfl⟩:=this
 exact⟨h2,h3⟩
theorem subL_app(f:Nat→Option PV)(xs ys:List PV):subL f (xs++ys)=subL f xs++subL f ys:=by
 induction xs with
 |nil=>rfl
 |cons x xs ih=>simp[subL,ih]
theorem zhh(f:Nat→Option PV):∀pb:PBs,(subB' f pb).length=pb.length
 |[]=>rfl
 |some _::pb=>by simp[subB',zhh f pb]
 |none::pb=>by simp[subB',zhh f pb]
theorem St.frz1(H:St nl al I bx0 p0 V U0 L rw ts pb xs bx W π A){ps:List PV}{zs:List XV}(hp:PVsH (UU U0 bx rw A) W (blks bx) π rw A ps zs){j e k:Nat}{els:List (List R)}(hj:rw[j]?=some (.own e k els))(hn:nl≤j):
  St nl al I bx0 p0 V U0 L (rw.set j .dead) (subL (oneF j (.sl k els)) ts) (subB' (oneF j (.sl k els)) pb) xs bx W π A∧PVsH (UU U0 bx (rw.set j .dead) A) W (blks bx) π (rw.set j .dead) A (subL (oneF j (.sl k els)) ps) zs:=by
 obtain⟨P,Q,h1,h2,_⟩:=zdm 0 A hj
 rw[Nat.zero_add]at h1
 have HC:Ctx V U0 L (blks bx) (ownsOf rw 0 A++[Own.pv (blks bx) π rw A (ts++ps) (xs++zs) pb bx]) [] W:=H.rep.c.more rfl ⟨yif H.rep.ts hp,H.rep.pb⟩
 rw[h1,List.append_assoc,List.cons_append]at HC
 have HC:=HC.viewL (H.low j e k els hn hj)
 rw[←List.append_assoc,←h2]at HC
 obtain⟨HC,h3,h4⟩:=HC.less rfl
 have hf:=HC.facts _ (List.Mem.head _)
 have s:Sub (oneF j (.sl k els)) (UU U0 bx (rw.set j .dead) A) (UU U0 bx (rw.set j .dead) A) W W (blks bx) (blks bx) π π rw (rw.set j .dead) A A:=by
  refine⟨⟨fun _ _ _=>rfl,Nat.le_refl _,fun _ _ h=>h⟩,⟨[],by simp⟩,fun _ _ h=>h,fun i e' k' els' hi hr=>⟨?_,rfl⟩,fun i o hi hr=>⟨⟨o,by rw[List.getElem?_set_ne (zhq hi).symm]; exact hr⟩,rfl⟩,fun i p e' k' els' hi hr=>?_⟩
  ·rw[List.getElem?_set_ne (zhq hi).symm]; exact hr
  ·obtain⟨rfl,rfl⟩:=yfu hi
   rw[hj]at hr
   simp only[Option.some.injEq,RS.own.injEq]at hr
   obtain⟨rfl,rfl,rfl⟩:=hr
   simp only[PV.h]
   exact⟨_,_,rfl,hf⟩
 have h5:=zer s _ h3
 rw[subL_app]at h5
 have hl:xs.length=(subL (oneF j (.sl k els)) ts).length:=by
  have:∀(f:Nat→Option PV) (l:List PV),(subL f l).length=l.length:=by intro f l; induction l<;>simp_all [subL]
  rw[this]; exact zcr H.rep.ts
 obtain⟨h6,h7⟩:=zmb h5 hl
 refine⟨⟨⟨HC.weak (List.Sublist.refl _) (List.Sublist.refl _) (by intro p hp; cases hp),h6,zrs s (fun _ _ h=>h) h4⟩,fun i e' k' els' hi hr=>?_,H.kp,H.pre,H.hal,fun i q hq=>?_,H.px,H.bt⟩,h7⟩
 ·rw[List.getElem?_set]at hr
  split at hr
  ·split at hr<;>simp at hr
  ·exact H.low i e' k' els' hi hr
 ·have:=H.pl i q hq
  rw[zhh]; exact this
theorem zdw:∀{js:List Nat} {rw:List RS} {ts:List PV} {pb:PBs} {ps:List PV} {zs:List XV} {K:List PV→PBs→List RS→List PV→Prop} {goal:Prop},frzK nl js ts pb rw ps K→St nl al I bx0 p0 V U0 L rw ts pb xs bx W π A→PVsH (UU U0 bx rw A) W (blks bx) π rw A ps zs→
  (∀ts pb rw ps,K ts pb rw ps→St nl al I bx0 p0 V U0 L rw ts pb xs bx W π A→PVsH (UU U0 bx rw A) W (blks bx) π rw A ps zs→goal)→goal
 |[],rw,ts,pb,ps,zs,K,goal,h,H,hp,m=>m _ _ _ _ h H hp
 |j::js,rw,ts,pb,ps,zs,K,goal,h,H,hp,m=>by
  rcases rsD_spec h with ⟨e,k,els,hj,h⟩|h
  ·cases hb:Nat.ble nl j with
   |false=>rw[hb]at h; exact h.elim
   |true=>
    rw[hb]at h
    simp only[zcm,zdl,zbv]at h
    obtain⟨H',hp'⟩:=H.frz1 hp hj (Nat.le_of_ble_eq_true hb)
    exact zdw h H' hp' m
  ·exact zdw h H hp m
theorem avK_spec{av:List (Nat×Nat)}{n:Nat}{K:Nat→Prop}{N:Prop}(h:avK av n K N):(∃i,K i)∨N:=by
 induction av with
 |nil=>exact .inr h
 |cons p av ih=>
  obtain⟨d,i⟩:=p
  simp only[avK]at h
  split at h
  ·exact .inl ⟨i,h⟩
  ·exact ih h
theorem yex{pb:PBs}{i:Nat}{K:Prop}(h:zwh pb i K):pb[i]?=some none∧K:=by
 induction pb generalizing i with
 |nil=>exact h.elim
 |cons o pb ih=>
  cases i with
  |zero=>cases o with
   |none=>exact⟨rfl,h⟩
   |some p=>exact h.elim
  |succ i=>simpa using ih (i:=i) h
theorem zeg(pb:PBs)(i:Nat)(y:Option PBox)(K:PBs→Prop):setPBK pb i y K↔K (pb.set i y):=by
 induction pb generalizing i K with
 |nil=>simp[setPBK]
 |cons x xs ih=>cases i<;>simp[setPBK,ih]
theorem St.born(H:St nl al I bx0 p0 V U0 L rw ts pb xs bx W π A){i b:Nat}{x:PBox}{cs:List XV}(hc:PVsH (UU U0 bx rw A) W (blks bx) π rw A x.cells cs)(hi:π i=none){pb':PBs}(hpb:∀j,pb'[j]?=if j=i then some (some x) else pb[j]?)(hb:W.heap.size≤b∧notBox bx b):
  St nl al I bx0 p0 V U0 L rw ts pb' xs (bx++[⟨b,x.ty,cs⟩]) W (upd π i (some bx.length)) A∧PV.h (UU U0 (bx++[⟨b,x.ty,cs⟩]) rw A) W (blks (bx++[⟨b,x.ty,cs⟩])) (upd π i (some bx.length)) rw A (.own i 0) (.own bx.length b 0):=by
 have HC:Ctx V U0 L (blks bx) (ownsOf rw 0 A++[Own.pv (blks bx) π rw A (ts++x.cells) (xs++cs) pb bx]) [] W:=H.rep.c.more rfl ⟨yif H.rep.ts hc,H.rep.pb⟩
 have HC:=HC.box hb
 obtain⟨HC,h3,h4⟩:=HC.less rfl
 have hbs:blks (bx++[⟨b,x.ty,cs⟩])=blks bx++[b]:=by simp[blks]
 have s:Sub noF (Us U0 (blks bx++[b]) (ownsOf rw 0 A)) (Us U0 (blks bx++[b]) (ownsOf rw 0 A)) W W (blks bx) (blks bx++[b]) π (upd π i (some bx.length)) rw rw A A:=
  ⟨⟨fun _ _ _=>rfl,Nat.le_refl _,fun _ _ h=>h⟩,⟨[b],rfl⟩,fun j q hq=>(by rw[upd_ne]; exact hq; rintro rfl; rw[hi]at hq; cases hq),fun _ _ _ _ _ h=>⟨h,rfl⟩,fun _ _ _ h=>⟨⟨_,h⟩,rfl⟩,by intro i p e k els h; cases h⟩
 obtain⟨h5,h6⟩:=zmb (zbr s h3) (zcr H.rep.ts)
 have hpl:∀j q,π j=some q→j≠i:=by rintro j q hq rfl; rw[hi]at hq; cases hq
 have hqlt:∀j q,π j=some q→q<bx.length:=fun j q hq=>by
  obtain⟨p,hp⟩:=H.rep.pb.born j q hq
  obtain⟨q',y,h1,h2,_⟩:=H.rep.pb.at_ j p hp
  rw[hq]at h1; cases h1
  exact(List.getElem?_eq_some_iff.1 h2).1
 unfold UU
 rw[hbs]
 have hPB:PBsH (Us U0 (blks bx++[b]) (ownsOf rw 0 A)) W (blks bx++[b]) (upd π i (some bx.length)) rw A pb' (bx++[⟨b,x.ty,cs⟩]):=by
  refine⟨fun j p hp=>?_,fun j j' q hj hj'=>?_,fun j q hj=>?_,fun q y hy=>?_⟩
  ·rw[hpb]at hp
   split at hp
   ·rename_i hji; subst hji
    simp only[Option.some.injEq]at hp; subst hp
    exact⟨bx.length,⟨b,x.ty,cs⟩,upd_eq _ _ _,by simp,rfl,h6⟩
   ·rename_i hji
    obtain⟨q,y,h1,h2,h7,h8⟩:=h4.at_ j p hp
    refine⟨q,y,by rw[upd_ne _ _ hji]; exact h1,?_,h7,zbr s h8⟩
    rw[List.getElem?_append_left (List.getElem?_eq_some_iff.1 h2).1]; exact h2
  ·by_cases h1:j=i<;>by_cases h2:j'=i
   ·rw[h1,h2]
   ·subst h1; rw[upd_eq]at hj; rw[upd_ne _ _ h2]at hj'; cases hj; exact absurd (hqlt _ _ hj') (by omega)
   ·subst h2; rw[upd_eq]at hj'; rw[upd_ne _ _ h1]at hj; cases hj'; exact absurd (hqlt _ _ hj) (by omega)
   ·rw[upd_ne _ _ h1]at hj; rw[upd_ne _ _ h2]at hj'; exact h4.inj j j' q hj hj'
  ·by_cases h1:j=i
   ·subst h1; exact⟨x,by rw[hpb,if_pos rfl]⟩
   ·rw[upd_ne _ _ h1]at hj; obtain⟨p,hp⟩:=h4.born j q hj; exact⟨p,by rw[hpb,if_neg h1]; exact hp⟩
  ·rcases Nat.lt_or_ge q bx.length with h'|h'
   ·rw[List.getElem?_append_left h']at hy
    obtain⟨j,hj⟩:=h4.cov q y hy
    exact⟨j,by rw[upd_ne _ _ (hpl j q hj)]; exact hj⟩
   ·have:q=bx.length:=by have:=(List.getElem?_eq_some_iff.1 hy).1; simp at this; omega
    exact⟨i,by rw[upd_eq,this]⟩
 refine⟨⟨⟨by rw[hbs]; exact HC,by rw[hbs]; exact h5,by rw[hbs]; exact hPB⟩,H.low,fun n y hy hn=>?_,?_,fun j q hj hq=>?_,fun j q hq=>?_,fun j q hq=>?_,fun n y hy=>?_⟩,?_⟩
 ·rw[List.getElem?_append_left (List.getElem?_eq_some_iff.1 (H.kp n y hy hn)).1]; exact H.kp n y hy hn
 ·obtain⟨l,h1,h2⟩:=H.pre
  refine⟨l++[b],by rw[hbs,h1,List.append_assoc],fun c hc=>?_⟩
  rcases List.mem_append.1 hc with hc|hc
  ·exact h2 c hc
  ·simp at hc; subst hc; exact .inl (Nat.le_trans H.rep.c.size hb.1)
 ·by_cases h1:j=i
  ·subst h1; rw[upd_eq]at hq; cases hq
   obtain⟨l,h2,_⟩:=H.pre
   have:=congrArg List.length h2
   simp[blks]at this
   exact .inr (by omega)
  ·rw[upd_ne _ _ h1]at hq; exact H.hal j q hj hq
 ·by_cases h1:j=i
  ·subst h1
   have:=hpb j; rw[if_pos rfl]at this
   exact(List.getElem?_eq_some_iff.1 this).1
  ·rw[upd_ne _ _ h1]at hq
   obtain⟨p,hp⟩:=H.rep.pb.born j q hq
   have:=hpb j; rw[if_neg h1,hp]at this
   exact(List.getElem?_eq_some_iff.1 this).1
 ·rw[upd_ne]; exact H.px j q hq; rintro rfl; have:=H.px j q hq; rw[hi]at this; cases this
 ·obtain⟨y',h1,h2,h3⟩:=H.bt n y hy
  exact⟨y',by rw[List.getElem?_append_left (List.getElem?_eq_some_iff.1 h1).1]; exact h1,h2,h3⟩
 ·simp only[PV.h]
  refine⟨bx.length,b,upd_eq _ _ _,?_,rfl⟩
  rw[List.getElem?_append_right (by simp[blks])]; simp[blks]
theorem yae{av:List (Nat×Nat)}{o:Oper}{x:PBox}{cs:List XV}{K:KP}{K':KT}(m:∀ts pb rw xs bx W π A,K ts pb rw→St nl al I bx0 p0 V U0 L rw ts pb xs bx W π A→K' xs bx W)(H:St nl al I bx0 p0 V U0 L rw ts pb xs bx W π A)(hc:PVsH (UU U0 bx rw A) W (blks bx) π rw A x.cells cs)(h:newPB av o.dst x ts pb rw K):newBox o x.ty cs xs bx W K':=by
 intro b hb
 rw[yma]
 unfold newPB at h
 split at h
 ·exact h.elim
 ·rename_i d hd
  rw[hd]
  rcases avK_spec h with ⟨i,h⟩|h
  ·obtain⟨h1,h⟩:=yex h
   rw[zeg]at h
   have hi:π i=none:=by
    cases hp:π i with
    |none=>rfl
    |some q=>obtain⟨p,hp⟩:=H.rep.pb.born i q hp; rw[h1]at hp; cases hp
   obtain⟨H',hp⟩:=H.born hc hi (pb':=pb.set i (some x)) (fun j=>by
    rw[List.getElem?_set]
    by_cases hji:j=i
    ·subst hji; simp[(List.getElem?_eq_some_iff.1 h1).1]
    ·rw[if_neg (Ne.symm hji),if_neg hji]) hb
   exact zbc m H' h hp
  ·rw[zbn,zby]at h
   have hi:π pb.length=none:=by
    cases hp:π pb.length with
    |none=>rfl
    |some q=>exact absurd (H.pl _ q hp) (by omega)
   obtain⟨H',hp⟩:=H.born hc hi (pb':=pb++[some x]) (fun j=>by
    by_cases hji:j=pb.length
    ·subst hji; simp
    ·rw[if_neg hji]
     rcases Nat.lt_or_ge j pb.length with h'|h'
     ·rw[List.getElem?_append_left h']
     ·rw[List.getElem?_eq_none (by simp; omega),List.getElem?_eq_none h']) hb
   exact zbc m H' h hp
end
end Go.Vc

namespace Go.Vc
open Go Go.RowKit
theorem zwd(g o:Nat):∀(vs:List Value) (i:Nat) (w:World),w.setCells g (o+i) vs=setCells w ⟨g,o,none⟩ i vs
 |[],_,_=>rfl
 |v::vs,i,w=>by
  simp only[World.setCells,setCells,zma]
  rw[Nat.add_assoc,zwd g o vs (i+1)]
theorem zgz{g o b:Nat}{vs:List Value}{w:World}(h:b≠g):(w.setCells g o vs).heap[b]?=w.heap[b]?:=by
 have:=zwd g o vs 0 w
 rw[Nat.add_zero]at this
 rw[this]; exact zef _ _ h vs 0 w
theorem zif{g o:Nat}{vs:List Value}{w:World}{cur:Array Value}{e:TypeId}{fr:Nat×Nat}(h:w.heap[g]?=some (.cells cur e fr)):∃cur',(w.setCells g o vs).heap[g]?=some (.cells cur' e fr)∧cur'.size=cur.size:=by
 have:=zwd g o vs 0 w
 rw[Nat.add_zero]at this
 rw[this]
 have h2:=zom g o vs 0 w cur.toList (by simpa using h)
 exact⟨_,h2,by simp[wr_length]⟩
theorem zeh(g o:Nat)(vs:List Value)(w:World):(w.setCells g o vs).os=w.os∧(w.setCells g o vs).tape=w.tape∧(w.setCells g o vs).output=w.output∧(w.setCells g o vs).heap.size=w.heap.size:=by
 have:=zwd g o vs 0 w
 rw[Nat.add_zero]at this
 rw[this]
 obtain⟨h1,h2,h3,h4,_⟩:=zen ⟨g,o,none⟩ vs 0 w
 exact⟨h1,h2,h3,h4⟩
theorem rowH{e k g c:Nat}{els:List (List R)}{U:Nat→Prop}{w:World}{cur:Array Value}{xs:List Value}(hg:w.heap[g]?=some (.cells cur e (0,0)))(hs:cur.size=c*k)(hc:∀t u,xs[t]?=some u→w.cell? ⟨g,t,none⟩=some u)
  (hl:listH U w els.flatten xs) (h1:∀u∈xs,u.oneCell'=true) (hk:∀l∈els,l.length=k) (hxl:xs.length=els.length*k) (hn:els.length≤c) (hm:c≤maxLen):(Own.row e k (some ⟨g,0,none⟩) c els).h U w:=by
 refine⟨xs,⟨hxl,.inr ⟨g,c,cur,rfl,Nat.zero_le _,hg,hn,hm,hs,?_⟩⟩,hl,h1,hk⟩
 apply List.ext_getElem?
 intro t
 by_cases ht:t<els.length*k
 ·rw[List.getElem?_take_of_lt ht,Array.getElem?_toList]
  have h2:=hc t _ (List.getElem?_eq_getElem (by omega))
  simp only[World.cell?,hg,Option.isSome_none,Bool.false_eq_true,if_false]at h2
  rw[h2,List.getElem?_eq_getElem (by omega)]
 ·rw[List.getElem?_take_eq_none (by omega),List.getElem?_eq_none (by omega)]
theorem zhs{U:Nat→Prop}{w:World}:∀{rs:List R} {us:List Value} (m:Nat),listH U w rs us→listH U w (rs.take m) (us.take m)
 |rs,us,0,_=>by simp[listH]
 |[],us,m+1,h=>by simp only[listH]at h; subst h; simp[listH]
 |r::rs,us,m+1,h=>by
  simp only[listH]at h
  obtain⟨u,us,rfl,h1,h2⟩:=h
  simp only[List.take_succ_cons,listH]
  exact⟨u,_,rfl,h1,zhs m h2⟩
theorem znb{U:Nat→Prop}{w:World}:∀{rs:List R} {us:List Value} (m:Nat),listH U w rs us→listH U w (rs.drop m) (us.drop m)
 |rs,us,0,h=>by simpa using h
 |[],us,m+1,h=>by simp only[listH]at h; subst h; simp[listH]
 |r::rs,us,m+1,h=>by
  simp only[listH]at h
  obtain⟨u,us,rfl,h1,h2⟩:=h
  simp only[List.drop_succ_cons]
  exact znb m h2
theorem zfs{k:Nat}:∀{els:List (List R)},(∀l∈els,l.length=k)→els.flatten.length=els.length*k
 |[],_=>by simp
 |x::els,h=>by
  rw[List.flatten_cons,List.length_append,zfs fun l hl=>h l (by simp[hl]),h x (by simp),List.length_cons,Nat.succ_mul]; omega
theorem zyf{k:Nat}{els:List (List R)}(h:∀l∈els,l.length=k)(i:Nat)(hi:i≤els.length):(els.take i).flatten=els.flatten.take (i*k):=by
 have e:els.flatten=(els.take i).flatten++(els.drop i).flatten:=by rw[←List.flatten_append,List.take_append_drop]
 have hl:(els.take i).flatten.length=i*k:=by rw[zfs fun l hl=>h l (List.mem_of_mem_take hl),List.length_take,Nat.min_eq_left hi]
 rw[e,←hl,List.take_left]
theorem ygy{k:Nat}{els:List (List R)}(h:∀l∈els,l.length=k)(i:Nat)(hi:i≤els.length):(els.drop i).flatten=els.flatten.drop (i*k):=by
 have e:els.flatten=(els.take i).flatten++(els.drop i).flatten:=by rw[←List.flatten_append,List.take_append_drop]
 have hl:(els.take i).flatten.length=i*k:=by rw[zfs fun l hl=>h l (List.mem_of_mem_take hl),List.length_take,Nat.min_eq_left hi]
 rw[e,←hl,List.drop_left]
end Go.Vc
namespace Go.Vc
open Go Go.RowKit
section
variable {nl:Nat} {al:Nat→Bool} {I:List Nat} {bx0:List Box} {p0:Nat→Option Nat} {V W w:World} {U0:Nat→Prop} {L:List Nat} {rw:List RS} {ts:List PV} {pb:PBs} {xs:List XV} {bx:List Box} {π:Nat→Option Nat} {A:Asg}
theorem Rep.ctxG(H:Rep V U0 L rw ts pb xs bx W π A){G:List (Value×R)}(hG:Holds (UU U0 bx rw A) W G):Ctx V U0 L (blks bx) (ownsOf rw 0 A++[Own.pv (blks bx) π rw A ts xs pb bx]) G W:=by
 have HC:=H.ctx
 have e:Us U0 (blks bx) (ownsOf rw 0 A++[Own.pv (blks bx) π rw A ts xs pb bx])=UU U0 bx rw A:=ztq rfl
 exact { HC with facts:=by rw[e]; exact hG }
theorem St.push(H:St nl al I bx0 p0 V U0 L rw ts pb xs bx W π A){w2:World}{G:List (Value×R)}{e k c:Nat}{a:Option Addr}{els:List (List R)}(HC:Ctx V U0 L (blks bx) (Own.row e k a c els::(ownsOf rw 0 A++[Own.pv (blks bx) π rw A ts xs pb bx])) G w2)(hlow:∀b∈oblk a,¬U0 b):
  St nl al I bx0 p0 V U0 L (rw++[.own e k els]) ts pb xs bx w2 π (upd A rw.length (a,c))∧PV.h (UU U0 bx (rw++[.own e k els]) (upd A rw.length (a,c))) w2 (blks bx) π (rw++[.own e k els]) (upd A rw.length (a,c)) (.row rw.length) (.slc a els.length c):=by
 have hpush:=zor rw 0 A (a,c) e k els
 rw[Nat.zero_add]at hpush
 have HC:Ctx V U0 L (blks bx) (ownsOf (rw++[.own e k els]) 0 (upd A rw.length (a,c))++[Own.pv (blks bx) π rw A ts xs pb bx]) G w2:=by
  refine HC.perm ?_
  rw[hpush,List.append_assoc]
  exact List.perm_middle.symm
 obtain⟨HC,h3,h4⟩:=HC.less rfl
 have s:Sub noF (UU U0 bx (rw++[.own e k els]) (upd A rw.length (a,c))) (UU U0 bx (rw++[.own e k els]) (upd A rw.length (a,c))) w2 w2 (blks bx) (blks bx) π π rw (rw++[.own e k els]) A (upd A rw.length (a,c)):=by
  refine⟨⟨fun _ _ _=>rfl,Nat.le_refl _,fun _ _ h=>h⟩,⟨[],by simp⟩,fun _ _ h=>h,fun i e' k' els' _ hr=>⟨?_,?_⟩,fun i o _ hr=>⟨⟨o,by rw[List.getElem?_append_left (List.getElem?_eq_some_iff.1 hr).1]; exact hr⟩,upd_ne _ _ (by have:=(List.getElem?_eq_some_iff.1 hr).1; omega)⟩,by intro i p e k els h; cases h⟩
  ·rw[List.getElem?_append_left (List.getElem?_eq_some_iff.1 hr).1]; exact hr
  ·exact upd_ne _ _ (by have:=(List.getElem?_eq_some_iff.1 hr).1; omega)
 refine⟨⟨⟨HC.weak (List.Sublist.refl _) (List.Sublist.refl _) (by intro p hp; cases hp),zbr s h3,zdp s (fun _ _ h=>h) h4⟩,fun i e' k' els' hi hr=>?_,H.kp,H.pre,H.hal,H.pl,H.px,H.bt⟩,?_⟩
 ·rcases Nat.lt_or_ge i rw.length with h'|h'
  ·rw[List.getElem?_append_left h']at hr; rw[upd_ne _ _ (by omega)]; exact H.low i e' k' els' hi hr
  ·have:i=rw.length:=by
    have:=(List.getElem?_eq_some_iff.1 hr).1; simp at this; omega
   subst this; rw[upd_eq]; exact hlow
 ·simp only[PV.h]; exact⟨e,k,els,by simp,by rw[upd_eq]⟩
theorem St.setRow(H:St nl al I bx0 p0 V U0 L rw ts pb xs bx W π A){w2:World}{G:List (Value×R)}{j e k e' k' c:Nat}{a:Option Addr}{els els':List (List R)}{P Q:List Own}(hj:rw[j]?=some (.own e k els))(hPQ:∀v e' k' els',ownsOf (rw.set j (.own e' k' els')) 0 (upd A j v)=P++Own.row e' k' v.1 v.2 els'::Q)
  (HC:Ctx V U0 L (blks bx) (P++Own.row e' k' a c els'::(Q++[Own.pv (blks bx) π rw A ts xs pb bx])) G w2) (hlow:nl≤j→∀b∈oblk a,¬U0 b):
  St nl al I bx0 p0 V U0 L (rw.set j (.own e' k' els')) (subL (oneF j .junk) ts) (subB' (oneF j .junk) pb) xs bx w2 π (upd A j (a,c))∧PV.h (UU U0 bx (rw.set j (.own e' k' els')) (upd A j (a,c))) w2 (blks bx) π (rw.set j (.own e' k' els')) (upd A j (a,c)) (.row j) (.slc a els'.length c):=by
 have hjl:=(List.getElem?_eq_some_iff.1 hj).1
 have HC:Ctx V U0 L (blks bx) (ownsOf (rw.set j (.own e' k' els')) 0 (upd A j (a,c))++[Own.pv (blks bx) π rw A ts xs pb bx]) G w2:=by
  rw[hPQ,List.append_assoc,List.cons_append]; exact HC
 obtain⟨HC,h3,h4⟩:=HC.less rfl
 have s:Sub (oneF j .junk) (UU U0 bx (rw.set j (.own e' k' els')) (upd A j (a,c))) (UU U0 bx (rw.set j (.own e' k' els')) (upd A j (a,c))) w2 w2 (blks bx) (blks bx) π π rw (rw.set j (.own e' k' els')) A (upd A j (a,c)):=by
  refine⟨⟨fun _ _ _=>rfl,Nat.le_refl _,fun _ _ h=>h⟩,⟨[],by simp⟩,fun _ _ h=>h,fun i e' k' els' hi hr=>⟨?_,?_⟩,fun i o hi hr=>⟨⟨o,by rw[List.getElem?_set_ne (zhq hi).symm]; exact hr⟩,upd_ne _ _ (zhq hi)⟩,fun i p e' k' els' hi hr=>?_⟩
  ·rw[List.getElem?_set_ne (zhq hi).symm]; exact hr
  ·exact upd_ne _ _ (zhq hi)
  ·obtain⟨_,rfl⟩:=yfu hi; simp[PV.h,XV.wf]
 refine⟨⟨⟨HC.weak (List.Sublist.refl _) (List.Sublist.refl _) (by intro p hp; cases hp),zer s _ h3,zrs s (fun _ _ h=>h) h4⟩,fun i e' k' els' hi hr=>?_,H.kp,H.pre,H.hal,fun i q hq=>by rw[zhh]; exact H.pl i q hq,H.px,H.bt⟩,?_⟩
 ·by_cases hij:i=j
  ·subst hij; rw[upd_eq]; exact hlow hi
  ·rw[List.getElem?_set_ne (Ne.symm hij)]at hr; rw[upd_ne _ _ hij]; exact H.low i e' k' els' hi hr
 ·simp only[PV.h]; exact⟨e',k',els',by simp[hjl],by rw[upd_eq]⟩
theorem St.pushO(H:St nl al I bx0 p0 V U0 L rw ts pb xs bx W π A){w2:World}{G:List (Value×R)}{ad:Addr}{o:Obj}(HC:Ctx V U0 L (blks bx) (Own.ob (some ad) o::(ownsOf rw 0 A++[Own.pv (blks bx) π rw A ts xs pb bx])) G w2):
  St nl al I bx0 p0 V U0 L (rw++[.ob o]) ts pb xs bx w2 π (upd A rw.length (some ad,0))∧PV.h (UU U0 bx (rw++[.ob o]) (upd A rw.length (some ad,0))) w2 (blks bx) π (rw++[.ob o]) (upd A rw.length (some ad,0)) (.ob rw.length) (.ptr ad):=by
 have hpush:=ztv rw 0 A (some ad,0) o
 rw[Nat.zero_add]at hpush
 have HC:Ctx V U0 L (blks bx) (ownsOf (rw++[.ob o]) 0 (upd A rw.length (some ad,0))++[Own.pv (blks bx) π rw A ts xs pb bx]) G w2:=by
  refine HC.perm ?_
  rw[hpush,List.append_assoc]
  exact List.perm_middle.symm
 obtain⟨HC,h3,h4⟩:=HC.less rfl
 have s:Sub noF (UU U0 bx (rw++[.ob o]) (upd A rw.length (some ad,0))) (UU U0 bx (rw++[.ob o]) (upd A rw.length (some ad,0))) w2 w2 (blks bx) (blks bx) π π rw (rw++[.ob o]) A (upd A rw.length (some ad,0)):=by
  refine⟨⟨fun _ _ _=>rfl,Nat.le_refl _,fun _ _ h=>h⟩,⟨[],by simp⟩,fun _ _ h=>h,fun i e' k' els' _ hr=>⟨?_,?_⟩,fun i o _ hr=>⟨⟨o,by rw[List.getElem?_append_left (List.getElem?_eq_some_iff.1 hr).1]; exact hr⟩,upd_ne _ _ (by have:=(List.getElem?_eq_some_iff.1 hr).1; omega)⟩,by intro i p e k els h; cases h⟩
  ·rw[List.getElem?_append_left (List.getElem?_eq_some_iff.1 hr).1]; exact hr
  ·exact upd_ne _ _ (by have:=(List.getElem?_eq_some_iff.1 hr).1; omega)
 refine⟨⟨⟨HC.weak (List.Sublist.refl _) (List.Sublist.refl _) (by intro p hp; cases hp),zbr s h3,zdp s (fun _ _ h=>h) h4⟩,fun i e' k' els' hi hr=>?_,H.kp,H.pre,H.hal,H.pl,H.px,H.bt⟩,?_⟩
 ·rcases Nat.lt_or_ge i rw.length with h'|h'
  ·rw[List.getElem?_append_left h']at hr; rw[upd_ne _ _ (by omega)]; exact H.low i e' k' els' hi hr
  ·have:i=rw.length:=by
    have:=(List.getElem?_eq_some_iff.1 hr).1; simp at this; omega
   subst this; simp at hr
 ·simp only[PV.h]; exact⟨o,ad,by simp,by rw[upd_eq],rfl⟩
theorem St.setO(H:St nl al I bx0 p0 V U0 L rw ts pb xs bx W π A){w2:World}{G:List (Value×R)}{j:Nat}{o o':Obj}{P Q:List Own}(hj:rw[j]?=some (.ob o))(hPQ:ownsOf (rw.set j (.ob o')) 0 A=P++Own.ob (A j).1 o'::Q)
  (HC:Ctx V U0 L (blks bx) (P++Own.ob (A j).1 o'::(Q++[Own.pv (blks bx) π rw A ts xs pb bx])) G w2):
  St nl al I bx0 p0 V U0 L (rw.set j (.ob o')) ts pb xs bx w2 π A:=by
 have hjl:=(List.getElem?_eq_some_iff.1 hj).1
 have HC:Ctx V U0 L (blks bx) (ownsOf (rw.set j (.ob o')) 0 A++[Own.pv (blks bx) π rw A ts xs pb bx]) G w2:=by
  rw[hPQ,List.append_assoc,List.cons_append]; exact HC
 obtain⟨HC,h3,h4⟩:=HC.less rfl
 have hne:∀i e' k' els',rw[i]?=some (.own e' k' els')→i≠j:=by
  rintro i e' k' els' hr rfl; rw[hj]at hr; simp at hr
 have s:Sub noF (UU U0 bx (rw.set j (.ob o')) A) (UU U0 bx (rw.set j (.ob o')) A) w2 w2 (blks bx) (blks bx) π π rw (rw.set j (.ob o')) A A:=by
  refine⟨⟨fun _ _ _=>rfl,Nat.le_refl _,fun _ _ h=>h⟩,⟨[],by simp⟩,fun _ _ h=>h,fun i e' k' els' _ hr=>⟨?_,rfl⟩,fun i o2 _ hr=>⟨?_,rfl⟩,by intro i p e k els h; cases h⟩
  ·rw[List.getElem?_set_ne (hne i e' k' els' hr).symm]; exact hr
  ·by_cases hij:i=j
   ·subst hij; exact⟨o',by simp[hjl]⟩
   ·exact⟨o2,by rw[List.getElem?_set_ne (Ne.symm hij)]; exact hr⟩
 refine⟨⟨HC.weak (List.Sublist.refl _) (List.Sublist.refl _) (by intro p hp; cases hp),zbr s h3,zdp s (fun _ _ h=>h) h4⟩,fun i e' k' els' hi hr=>?_,H.kp,H.pre,H.hal,H.pl,H.px,H.bt⟩
 by_cases hij:i=j
 ·subst hij; rw[List.getElem?_set_self hjl]at hr; simp at hr
 ·rw[List.getElem?_set_ne (Ne.symm hij)]at hr; exact H.low i e' k' els' hi hr
theorem St.notU0(H:St nl al I bx0 p0 V U0 L rw ts pb xs bx W π A)(hs:Sync bx W w):¬U0 w.heap.size:=fun h=>by
 have:=H.rep.c.u0 _ h; have:=H.rep.c.size; have:=hs.size; omega
theorem zla{U:Nat→Prop}{bs:List Nat}:∀{ps:List PV} {ks:List Nat} {zs:List XV} {K:List R→Prop},toRK ks ps K→PVsH U W bs π rw A ps zs→∃rs,K rs∧rs.length=ps.length∧listH U W rs (denL zs)∧∀u∈denL zs,u.oneCell'=true
 |[],ks,zs,K,h,hr=>by
  simp only[PVsH]at hr; subst hr
  exact⟨[],by cases ks<;>exact h,rfl,by simp[listH,denL],by simp[denL]⟩
 |p::ps,ks,zs,K,h,hr=>by
  simp only[PVsH]at hr
  obtain⟨z,zs',rfl,h1,h2⟩:=hr
  have step:∀(r:R),(toRK ks.tail ps fun l=>K (r::l))→r.h U W z.den→z.den.oneCell'=true→∃rs,K rs∧rs.length=(p::ps).length∧listH U W rs (denL (z::zs'))∧∀u∈denL (z::zs'),u.oneCell'=true:=by
   intro r h hz ho
   obtain⟨rs,h3,h4,h5,h6⟩:=zla h h2
   refine⟨r::rs,h3,by simp[h4],by simp only[denL,listH]; exact⟨_,_,rfl,hz,h5⟩,fun u hu=>?_⟩
   simp only[denL,List.mem_cons]at hu
   rcases hu with rfl|hu
   ·exact ho
   ·exact h6 u hu
  cases p with
  |x y=>
   simp only[PV.h]at h1
   have hd:=h1.1.den
   have pick:∀{a b c},y=.slc a b c→(∃rs,K rs∧rs.length=(PV.x y::ps).length∧listH U W rs (denL (z::zs'))∧∀u∈denL (z::zs'),u.oneCell'=true):=by
    rintro a b c rfl
    cases a with
    |some a=>exact h.elim
    |none=>cases b with
     |succ b=>exact h.elim
     |zero=>cases c with
      |succ c=>exact h.elim
      |zero=>exact step (.sl ks.head! []) h (by rw[hd]; simp only[XV.den,R.h]; exact⟨none,0,rfl,Nat.zero_le _,Nat.zero_le _,by simp[rowsH]⟩) (by rw[hd]; simp[XV.den,Value.oneCell'])
   cases y with
   |slc a b c=>exact pick rfl
   |int k n=>exact step _ h (by rw[hd]; simp[XV.den,R.h]) (by rw[hd]; simp[XV.den,Value.oneCell'])
   |bool b=>exact step _ h (by rw[hd]; simp[XV.den,R.h]) (by rw[hd]; simp[XV.den,Value.oneCell'])
   |lit b=>exact step _ h (by rw[hd]; simp[XV.den,R.h]) (by rw[hd]; simp[XV.den,Value.oneCell'])
   |str s=>exact step _ h (by rw[hd]; simp[XV.den,R.h]) (by rw[hd]; simp[XV.den,Value.oneCell'])
   |_=>exact h.elim
  |sl k els=>
   simp only[PV.h]at h1
   obtain⟨a,c,rfl,h1⟩:=h1
   exact step _ h (by simpa only[XV.den]using h1) (by simp[XV.den,Value.oneCell'])
  |_=>exact h.elim
theorem yey{U:Nat→Prop}{bs:List Nat}{sz:Nat}{ks:List Nat}:∀{ps:List (Nat×PV)} {n:Nat} {zs:List XV} {K:List (List R)→Prop},toEK sz ks ps n K→PVsH U W bs π rw A (snds ps) zs→∃els,K els∧els.length=ps.length∧ps.map (·.1)=List.range' n ps.length∧
   listH U W els.flatten ((denL zs).flatMap (·.cells.toList))∧(∀u∈(denL zs).flatMap (·.cells.toList),u.oneCell'=true)∧els.map List.length=(denL zs).map (·.cells.size)∧∀l∈els,l.length=sz
 |[],n,zs,K,h,hr=>by
  simp only[PVsH,snds]at hr; subst hr
  exact⟨[],h,rfl,rfl,by simp[listH,denL],by simp[denL],by simp[denL],by simp⟩
 |(i,p)::ps,n,zs,K,h,hr=>by
  simp only[PVsH,snds]at hr
  obtain⟨z,zs',rfl,h1,h2⟩:=hr
  simp only[toEK]at h
  split at h
  ·rename_i hb
   have hb:=Nat.eq_of_beq_eq_true hb
   subst hb
   have h3:=zkk (K':=fun cs=>∃rs,(toEK sz ks ps (i+1) fun l=>K (rs::l))∧rs.length=sz∧rs.length=cs.length∧listH U W rs (denL cs)∧∀u∈denL cs,u.oneCell'=true) h h1 (fun l l' h hl=>by
    obtain⟨hsz,h⟩:=zxp h
    obtain⟨rs,h4,h5,h6,h7⟩:=zla h hl
    exact⟨rs,h4,by rw[h5,hsz],by rw[h5,zcr hl],h6,h7⟩)
   obtain⟨cs,⟨rs,h4,hsz,h5,h6,h7⟩,_,hcs⟩:=zkl h3 (PV.h_wf p h1)
   obtain⟨els,g1,g2,g3,g4,g5,g6,g7⟩:=yey h4 h2
   refine⟨rs::els,g1,by simp[g2],by simp[g3,List.range'_succ],?_,?_,?_,fun l hl=>(List.mem_cons.1 hl).elim (fun h=>by rw[h]; exact hsz) (g7 l)⟩
   ·simp only[List.flatten_cons,denL,List.flatMap_cons,hcs]
    exact zcv h6 g4
   ·intro u hu
    simp only[denL,List.flatMap_cons,hcs,List.mem_append]at hu
    exact hu.elim (h7 u) (g5 u)
   ·simp only[List.map_cons,denL,g6]
    congr 1
    rw[h5,←zcf,←hcs]; simp
  ·exact h.elim
end
end Go.Vc
