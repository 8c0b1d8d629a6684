import Derived.Test.YtllkmncnmlmefaaGreatB1
import Derived.Laws.MakeOwn
import Derived.Laws.BytesString
import Derived.Great.BuildSlice
import Derived.Lib.SliceRun
namespace Go.Vc
open Go Go.RowKit
section
variable {P:Program} {T:List TI} {E:Env} {ts:List DV} {a:Act} {β:Type} {q:β} {o:Oper} {ret:DV→Option β} {rw:List DR}
def RowsA(E:Env):Prop:=∀j e t l,E.rw[j]?=some (.own e t l)→(E.A j).1=none→l.length=0
def PureOk(P:Program)(E:Env)(a:Act)(o:Oper)(ret:DV→Option β)(q:β):Prop:=∃r v,ret r=some q∧r.h E v∧∀w,(execOp a.eval o).run P w=.ok (.value v) w
theorem pu_run{s:Sem Value}{r:DV}{v:Value}(he:∀w,(execOp a.eval o).run P w=(s.run P w).andThen fun v w'=>.ok (.value v) w')(hq:ret r=some q)(hr:r.h E v)(hs:∀w,s.run P w=.ok v w):PureOk P E a o ret q:=
 ⟨r,v,hq,hr,fun w=>by rw[he,hs]; rfl⟩
theorem pickV_h{g:Bool}{x y r:DV}(h:pickV g x y=some r){u v:Value}(hu:x.h E u)(hv:y.h E v):r.h E (if g then u else v):=by
 unfold pickV at h
 split at h<;>first
  |(cases h; done)
  |(simp only[Option.some.injEq]at h; subst h; simp only[DV.h]at hu hv ⊢; subst hu; subst hv; cases g<;>simp)
theorem pu_pick{c x y:Operand}(ho:o.op=.pick c x y)(hts:hL E ts a.tmps.toList)(h:purE stdW T o.op ts rw ret=some q):PureOk P E a o ret q:=by
 simp only[ho,purE]at h
 obtain⟨g,hg,h⟩:=o1_s h
 have hg:=opV_h hg hts
 have hr:∀w,(execOp a.eval o).run P w=((asBool (a.eval c)).run P w).andThen fun b w'=>.ok (.value (if b then a.eval x else a.eval y)) w':=by
  intro w; simp only[execOp,ho,Sem.run_bind,Sem.run_pure]
 split at h
 ·obtain⟨z,hz,h⟩:=o1_s h
  simp only[DV.h]at hg
  exact⟨z,_,h,opV_h hz hts,fun w=>by rw[hr,hg]; simp[asBool]⟩
 ·obtain⟨z,hz,h⟩:=o1_s h
  simp only[DV.h]at hg
  exact⟨z,_,h,opV_h hz hts,fun w=>by rw[hr,hg]; simp[asBool]⟩
 ·obtain⟨z,hz,h⟩:=o1_s h
  obtain⟨u,hu,h⟩:=o1_s h
  obtain⟨r,hpk,h⟩:=o1_s h
  simp only[DV.h]at hg
  exact⟨r,_,h,pickV_h hpk (opV_h hz hts) (opV_h hu hts),fun w=>by rw[hr,hg]; simp[asBool]⟩
 ·cases h
theorem yfy{x:Operand}(ho:o.op=.nilCheck x)(hts:hL E ts a.tmps.toList)(h:purE stdW T o.op ts rw ret=some q):PureOk P E a o ret q:=by
 simp only[ho,purE]at h
 obtain⟨g,hg,h⟩:=o1_s h
 have hg:=opV_h hg hts
 split at h
 ·refine⟨_,_,h,hg,fun w=>?_⟩; simp only[DV.h]at hg; obtain⟨_,hg⟩:=hg; simp only[execOp,ho,hg]; rfl
 ·refine⟨_,_,h,hg,fun w=>?_⟩; simp only[DV.h]at hg; obtain⟨_,_,hg,_⟩:=hg; simp only[execOp,ho,hg]; rfl
 ·refine⟨_,_,h,hg,fun w=>?_⟩; simp only[DV.h]at hg; obtain⟨_,_,_,_,_,_,_,hg⟩:=hg; simp only[execOp,ho,hg]; rfl
 ·rename_i f _ _
  refine⟨_,_,h,hg,fun w=>?_⟩; simp only[DV.h]at hg; obtain⟨_,hg,_⟩:=hg; simp only[execOp,ho,hg,fnV]; cases Nat.ble 1000000 f<;>rfl
 ·cases h
theorem pu_unOp{op:UnOp}{t:TypeId}{x:Operand}(ho:o.op=.unOp op t x)(hts:hL E ts a.tmps.toList)(h:purE stdW T o.op ts rw ret=some q):PureOk P E a o ret q:=by
 simp only[ho,purE]at h
 obtain⟨g,hg,h⟩:=o1_s h
 obtain⟨r,hr0,h⟩:=o1_s h
 have hg:=opV_h hg hts
 have hr:∀w,(execOp a.eval o).run P w=((Op.unary op (a.eval x)).run P w).andThen fun v w'=>.ok (.value v) w':=by
  intro w; simp only[execOp,ho,Sem.run_bind,Sem.run_pure]
 unfold unV at hr0
 split at hr0<;>first
  |(cases hr0; done)
  |(simp only[Option.some.injEq]at hr0; subst hr0; simp only[DV.h]at hg; rw[hg]at hr; exact pu_run hr h (by simp only[DV.h]; rfl) fun w=>by first|(simp[Op.unary]; done)|(simp[Op.unary,Op.intArith]; done)|(simp[Op.unary,intBits_xor]; done))
theorem pu_convert{s d:TypeId}{x:Operand}(hT:zas P T)(ho:o.op=.convert s d x)(hts:hL E ts a.tmps.toList)(h:purE stdW T (.convert s d x) ts rw ret=some q):PureOk P E a o ret q:=by
 simp only[purE]at h
 obtain⟨g,hg,h⟩:=o1_s h
 have hg:=opV_h hg hts
 have hr:∀w,(execOp a.eval o).run P w=((convert s d (a.eval x)).run P w).andThen fun v w'=>.ok (.value v) w':=by
  intro w; simp only[execOp,ho,Sem.run_bind,Sem.run_pure]
 split at h
 ·rename_i hs hd _
  obtain⟨ds,is,hds,_⟩:=(tiV_f hT hs).ex
  obtain⟨ti,hf,htd⟩:=tdV_f hT hd
  have hu:=td_int hf htd
  simp only[DV.h]at hg; rw[hg]at hr
  exact pu_run hr h (by simp only[DV.h]; rfl) fun w=>by simp[convert,Sem.run_bind,run_underlying hds,run_underlying hu,Conv.intToInt]
 ·rename_i hs hd _
  obtain⟨ds,is,hds,_⟩:=(tiV_f hT hs).ex
  obtain⟨ti,hf,htd⟩:=tdV_f hT hd
  have hu:=zkb hf htd
  simp only[DV.h]at hg; rw[hg]at hr
  exact pu_run hr h (by simp only[DV.h]; rfl) fun w=>by
   simp only[convert,Sem.run_bind,run_underlying hds,run_underlying hu,Result.andThen_ok]
   cases ds<;>simp
 ·cases h
theorem stepV_h{p r:DV}{off:Nat}(h:stepV p off=some r){v:Value}(hv:p.h E v):∃ad,v=.pointer (some ad)∧r.h E (.pointer (some (ad.add off))):=by
 unfold stepV at h
 split at h
 ·simp only[Option.some.injEq]at h; subst h
  simp only[DV.h]at hv ⊢
  obtain⟨h1,rfl⟩:=hv
  exact⟨_,rfl,h1,by rw[zja]⟩
 ·simp only[Option.some.injEq]at h; subst h
  simp only[DV.h]at hv ⊢
  obtain⟨ad,us,rfl,h1,h2⟩:=hv
  exact⟨_,rfl,ad,us,by rw[Addr.add_add],h1,h2⟩
 ·simp only[Option.some.injEq]at h; subst h
  simp only[DV.h]at hv ⊢
  obtain⟨e,t,l,ad,h1,h2,h3,rfl⟩:=hv
  exact⟨_,rfl,e,t,l,ad,h1,h2,h3,by rw[Addr.add_add,Nat.add_assoc]⟩
 ·cases h
theorem ydh{s:TypeId}{f:Nat}{x:Operand}(hT:zas P T)(ho:o.op=.fieldAddr s x f)(hts:hL E ts a.tmps.toList)(h:purE stdW T o.op ts rw ret=some q):PureOk P E a o ret q:=by
 simp only[ho,purE]at h
 obtain⟨g,hg,h⟩:=o1_s h
 have hg:=opV_h hg hts
 have hr:∀w,(execOp a.eval o).run P w=((Instr.fieldAt s (a.eval x) f).run P w).andThen fun v w'=>.ok (.value v) w':=by
  intro w; simp only[execOp,ho,Sem.run_bind,Sem.run_pure]
 split at h
 ·rename_i fs hs
  obtain⟨fq,hfq,h1⟩:=o1_s h
  obtain⟨r,hr0,h2⟩:=o1_s h1
  clear h h1
  obtain⟨ti,hf,htd⟩:=tdV_f hT hs
  obtain⟨fl,hu,rfl⟩:=zpy hf htd
  obtain⟨hfl,hsz⟩:=fldV_s hfq
  simp only[List.getElem?_map,Option.map_eq_some_iff]at hfl
  obtain⟨fd,hfd,rfl⟩:=hfl
  simp only at hsz hr0
  obtain⟨i,hi,hisz⟩:=zhl fd.type hsz
  have hfd':fl[f]?=some fd:=by simpa using hfd
  obtain⟨ad,hv,hrh⟩:=stepV_h hr0 hg
  rw[hv]at hr
  exact pu_run hr h2 hrh fun w=>by simp[Instr.fieldAt,Sem.run_bind,run_underlying hu,hfd',Instr.sureAddr,fieldPlace,zig hi,hisz,hsz]
 ·cases h
theorem part_any(hT:zas P T){ty:TypeId}{xs:List DV}{off:Nat}{r:DV}{i:TypeInfo}(h:partV T ty i.size xs off=some r)(hi:P.info? ty=some i){vs:Array Value}(hv:hL E xs vs.toList):
  ∃v,r.h E v∧∀w,(part ty vs off).run P w=.ok v w:=by
 unfold partV at h
 split at h
 ·rename_i tf htf
  have hff:=tiV_f hT htf
  split at h
  ·rename_i hag
   split at h
   ·rename_i l hl
    simp only[Option.some.injEq]at h; subst h
    obtain⟨rfl,hle⟩:=zie hl
    refine⟨.agg ((vs.toList.drop off).take i.size).toArray,by simp only[DV.h]; exact⟨_,rfl,hL_sub hv off i.size⟩,fun w=>?_⟩
    simp only[part,Sem.run_bind,td_agg hff,hag,Result.andThen_ok,if_true,zig hi,Sem.run_pure]
    congr 2
    apply Array.ext'
    simp[Array.toList_extract,List.extract_eq_take_drop]
   ·cases h
  ·rename_i hag
   split at h
   ·rename_i x hx
    simp only[Option.some.injEq]at h; subst h
    obtain⟨v,hv1,hv2⟩:=hL_get hv _ _ (zuh hx)
    refine⟨v,hv2,fun w=>?_⟩
    have:vs[off]?=some v:=by simpa using hv1
    simp[part,td_agg hff,hag,this]
   ·cases h
 ·cases h
theorem pu_field{s:TypeId}{f:Nat}{x:Operand}(hT:zas P T)(ho:o.op=.field s x f)(hts:hL E ts a.tmps.toList)(h:purE stdW T o.op ts rw ret=some q):PureOk P E a o ret q:=by
 simp only[ho,purE]at h
 obtain⟨g,hg,h⟩:=o1_s h
 have hg:=opV_h hg hts
 have hr:∀w,(execOp a.eval o).run P w=((Instr.field s (a.eval x) f).run P w).andThen fun v w'=>.ok (.value v) w':=by
  intro w; simp only[execOp,ho,Sem.run_bind,Sem.run_pure]
 split at h
 ·rename_i fs xs hs _
  obtain⟨fq,hfq,h1⟩:=o1_s h
  obtain⟨r,hr0,h2⟩:=o1_s h1
  clear h h1
  obtain⟨ti,hf,htd⟩:=tdV_f hT hs
  obtain⟨fl,hu,rfl⟩:=zpy hf htd
  obtain⟨hfl,hsz⟩:=fldV_s hfq
  simp only[List.getElem?_map,Option.map_eq_some_iff]at hfl
  obtain⟨fd,hfd,rfl⟩:=hfl
  simp only at hsz hr0
  obtain⟨i,hi,hisz⟩:=zhl fd.type hsz
  have hfd':fl[f]?=some fd:=by simpa using hfd
  simp only[DV.h]at hg
  obtain⟨vs,hv,hg⟩:=hg
  rw[hv]at hr
  rw[←hisz]at hr0
  obtain⟨v,hv1,hv2⟩:=part_any hT hr0 hi hg
  exact pu_run hr h2 hv1 fun w=>by simp[Instr.field,Sem.run_bind,run_underlying hu,hfd',asAgg,hv2]
 ·cases h
theorem ydg{t:TypeId}{x ix:Operand}(hT:zas P T)(ho:o.op=.indexAddr t x ix)(hts:hL E ts a.tmps.toList)(hrw:E.rw=rw)(hA:RowsA E)(h:purE stdW T o.op ts rw ret=some q):PureOk P E a o ret q:=by
 simp only[ho,purE]at h
 obtain⟨g,hg,h⟩:=o1_s h
 obtain⟨u,hu,h⟩:=o1_s h
 have hg:=opV_h hg hts
 have hu:=opV_h hu hts
 have hr:∀w,(execOp a.eval o).run P w=((Instr.indexAt t (a.eval x) (a.eval ix)).run P w).andThen fun v w'=>.ok (.value v) w':=by
  intro w; simp only[execOp,ho,Sem.run_bind,Sem.run_pure]
 split at h
 ·rename_i e t' l k i htd _ _ _
  obtain⟨ti,hf,htd⟩:=tdV_f hT htd
  have hun:=zhj hf htd
  split at h
  ·rename_i te hte
   have hfe:=tiV_f hT hte
   split at h
   ·rename_i hsz h0
    have hsz:=Nat.eq_of_beq_eq_true hsz
    obtain⟨hi0,y,hy,h⟩:=idx_s h
    simp only[DV.h]at hg hu
    obtain⟨aa,c,hv,hlc,hcm,hel⟩:=hg
    simp only[List.cons.injEq,and_true]at hv
    obtain⟨us,hus,hat⟩:=hel _ _ hy
    have hlt:=(List.getElem?_eq_some_iff.1 hy).1
    have hul:=t'.h_len hus
    obtain⟨ad,rfl⟩:∃ad,aa=some ad:=by
     have hp:0<us.length:=by rw[hul]; exact Nat.le_of_ble_eq_true h0
     obtain⟨x0,hx0,_⟩:=hat 0 _ (List.getElem?_eq_getElem hp)
     exact⟨x0,hx0⟩
    rw[hv,hu]at hr
    refine pu_run hr h (v:=.pointer (some (ad.add (i.toNat*te.size)))) ?_ fun w=>?_
    ·simp only[DV.h]
     refine⟨ad.add (i.toNat*te.size),us,by rw[Addr.add_add]; rfl,hus,fun j z hj=>?_⟩
     obtain⟨x0,hx0,h1,h2,h3⟩:=hat j z hj
     simp only[Option.some.injEq]at hx0; subst hx0
     exact⟨_,rfl,by rw[zbp]; exact h1,by rw[zbp]; exact h2,by rw[Addr.add_add,Nat.zero_add,hsz]; exact h3⟩
    ·have h1:i<(l.length:Int):=by omega
     simp[Instr.indexAt,Sem.run_bind,run_underlying hun,asIntOf,hi0,h1,zlj hfe]
   ·cases h
  ·cases h
 ·rename_i e j k i htd _ _ _
  obtain⟨ti,hf,htd⟩:=tdV_f hT htd
  have hun:=zhj hf htd
  split at h
  ·rename_i te e' t' l hte hrj
   have hfe:=tiV_f hT hte
   rw[zbm,←hrw]at hrj
   split at h
   ·rename_i hsz h0
    have hsz:=Nat.eq_of_beq_eq_true hsz
    obtain⟨hi0,y,hy,h⟩:=idx_s h
    simp only[DV.h]at hg hu
    obtain⟨e2,t2,l2,hj2,hv⟩:=hg
    rw[hrj]at hj2; simp only[Option.some.injEq,DR.own.injEq]at hj2
    obtain⟨rfl,rfl,hl2⟩:=hj2
    cases hl2
    have hlt:=(List.getElem?_eq_some_iff.1 hy).1
    cases ha:(E.A j).1 with
    |none=>have:=hA j e' t' l hrj ha; omega
    |some ad=>
     rw[hv,hu,ha]at hr
     refine pu_run hr h (v:=.pointer (some (ad.add (i.toNat*te.size)))) ?_ fun w=>?_
     ·simp only[DV.h]
      exact⟨e',t',l,ad,hrj,hlt,ha,by rw[hsz,Nat.add_zero]⟩
     ·have h1:i<(l.length:Int):=by omega
      simp[Instr.indexAt,Sem.run_bind,run_underlying hun,asIntOf,hi0,h1,zlj hfe]
   ·cases h
  ·cases h
 ·cases h
theorem pu_extract{t:Operand}{i:Nat}(ho:o.op=.extract t i)(hts:hL E ts a.tmps.toList)(h:purE stdW T o.op ts rw ret=some q):PureOk P E a o ret q:=by
 simp only[ho,purE]at h
 obtain⟨g,hg,h⟩:=o1_s h
 have hg:=opV_h hg hts
 have hr:∀w,(execOp a.eval o).run P w=((Instr.extract (a.eval t) i).run P w).andThen fun v w'=>.ok (.value v) w':=by
  intro w; simp only[execOp,ho,Sem.run_bind,Sem.run_pure]
 split at h
 ·split at h
  ·rename_i xs x hx
   simp only[DV.h]at hg
   obtain⟨vs,hv,hg⟩:=hg
   obtain⟨v,hv1,hv2⟩:=hL_get hg _ _ (zuh hx)
   rw[hv]at hr
   have:vs[i]?=some v:=by simpa using hv1
   exact pu_run hr h hv2 fun w=>by simp[Instr.extract,this]
  ·cases h
 ·cases h
theorem yfz{fn:Fn}{first caps:Array Operand}(ho:o.op=.makeFunc fn first caps)(hts:hL E ts a.tmps.toList)(h:purE stdW T o.op ts rw ret=some q):PureOk P E a o ret q:=by
 simp only[ho,purE]at h
 split at h
 ·rename_i f hfirst
  split at h
  ·rename_i cs hb hcs
   have hc:=opsV_h hcs hts
   have hfa:first = #[]:=by apply Array.ext'; simpa using hfirst
   refine⟨_,.func (.func f) #[] (caps.map a.eval),h,by simp only[DV.h]; exact⟨_,by unfold fnV; rw[hb]; rfl,by simpa using hc⟩,fun w=>?_⟩
   simp[execOp,ho,Instr.makeFunc,hfa]
  ·cases h
 ·rename_i f hcaps _
  split at h
  ·rename_i cs hcs
   have hc:=opsV_h hcs hts
   have hfa:caps = #[]:=by apply Array.ext'; simpa using hcaps
   have hb:Nat.ble 1000000 (f+1000000)=true:=Nat.ble_eq_true_of_le (by omega)
   refine⟨_,.func (.func f) (first.map a.eval) #[],h,by simp only[DV.h]; exact⟨first.map a.eval,by unfold fnV; rw[hb]; simp,by simpa using hc⟩,fun w=>?_⟩
   simp[execOp,ho,Instr.makeFunc,hfa]
  ·cases h
 ·cases h
theorem zmo{x:Option DV}{d bound n:Nat}{ol:Option Operand}(h0:(ol=none∧x=none)∨∃o' p,ol=some o'∧x=some p∧p.h E (a.eval o'))(hb:(x=none∧n=d)∨∃k i,x=some (.int k i)∧0≤i∧i≤(bound:Int)∧n=i.toNat):
  (ol=none∧n=d)∨∃o' k i,ol=some o'∧a.eval o'=.int k i∧0≤i∧i≤(bound:Int)∧n=i.toNat:=by
 rcases h0 with ⟨rfl,rfl⟩|⟨o',p,rfl,rfl,hp⟩
 ·rcases hb with ⟨_,rfl⟩|⟨k,i,h,_⟩
  ·exact .inl ⟨rfl,rfl⟩
  ·cases h
 ·rcases hb with ⟨h,_⟩|⟨k,i,h,h1,h2,h3⟩
  ·cases h
  ·simp only[Option.some.injEq]at h; subst h
   simp only[DV.h]at hp
   exact .inr ⟨o',k,i,rfl,hp,h1,h2,h3⟩
theorem pu_slice{t:TypeId}{x:Operand}{lo hi mx:Option Operand}(hT:zas P T)(ho:o.op=.slice t x lo hi mx)(hts:hL E ts a.tmps.toList)(h:purE stdW T (.slice t x lo hi mx) ts rw ret=some q):PureOk P E a o ret q:=by
 simp only[purE]at h
 obtain⟨g,hg,h⟩:=o1_s h
 have hg:=opV_h hg hts
 split at h
 ·rename_i plo phi hlo hhi
  have hlo:=opOV_h hlo hts
  have hhi:=opOV_h hhi hts
  have hr:∀w,(execOp a.eval o).run P w=((Instr.sliceAt t (a.eval x) (lo.map a.eval) (hi.map a.eval) (mx.map a.eval)).run P w).andThen fun v w'=>.ok (.value v) w':=by
   intro w; simp only[execOp,ho,Sem.run_bind,Sem.run_pure]
  split at h
  ·rename_i e t' l htd _ _
   obtain⟨ti,hf,htd⟩:=tdV_f hT htd
   have hun:=zhj hf htd
   split at h
   ·rename_i te hte
    have hfe:=tiV_f hT hte
    split at h
    ·rename_i hsz
     have hsz:=Nat.eq_of_beq_eq_true hsz
     simp only[DV.h]at hg
     obtain⟨aa,c,hv,hlc,hcm,hel⟩:=hg
     simp only[List.cons.injEq,and_true]at hv
     split at h
     ·obtain⟨n,h9,hb⟩:=bndD_s h
      clear h
      have hnl:n≤l.length:=by rcases hb with ⟨_,rfl⟩|⟨_,_,_,_,_,rfl⟩<;>omega
      rcases hlo with ⟨rfl,_⟩|⟨_,_,rfl,h',_⟩
      case inr=>cases h'
      rw[hv]at hr
      refine pu_run hr h9 (v:=.slice aa n c) ?_ fun w=>?_
      ·simp only[DV.h]
       exact⟨aa,c,by simp; omega,by simp; omega,hcm,fun i y hy=>hel i y (by
        rw[List.getElem?_take]at hy
        split at hy
        ·exact hy
        ·cases hy)⟩
      ·rcases zmo hhi hb with ⟨rfl,rfl⟩|⟨o',k,i,rfl,hev,h0,h1,rfl⟩
       ·simp only[Instr.sliceAt,Instr.slice,Sem.run_bind,run_underlying hun,Result.andThen_ok,Option.map_none,Instr.sliceBounds,Sem.run_pure,zlj hfe,Nat.zero_mul,Nat.sub_zero]
        congr 2
        cases aa<;>simp[Addr.add]
       ·have h1':i≤(c:Int):=by omega
        simp only[Instr.sliceAt,Instr.slice,Sem.run_bind,run_underlying hun,Result.andThen_ok,Option.map_none,Option.map_some,hev,Instr.sliceBounds,Sem.run_pure,if_true,run_sliceBound w k i c .sliceAcap h0 h1',zlj hfe,Nat.zero_mul,Nat.sub_zero]
        congr 2
        cases aa<;>simp[Addr.add]
     ·rename_i plo
      obtain⟨n,h8,hb⟩:=bndD_s h
      obtain⟨m,h9,hbl⟩:=bndD_s h8
      clear h h8
      have hnl:n≤l.length:=by rcases hb with ⟨_,rfl⟩|⟨_,_,_,_,_,rfl⟩<;>omega
      have hmn:m≤n:=by
       rcases hbl with ⟨h',_⟩|⟨_,_,_,_,_,rfl⟩
       ·cases h'
       ·omega
      rcases zmo hlo hbl with ⟨rfl,_⟩|⟨ol,kl,il,rfl,hevl,hl0,hl1,rfl⟩
      ·rcases hlo with ⟨_,h'⟩|⟨_,_,h',_⟩<;>cases h'
      ·rw[hv]at hr
       refine pu_run hr h9 (v:=.slice (if c=il.toNat then aa else aa.map (·.add (il.toNat*te.size))) (n - il.toNat) (c - il.toNat)) ?_ fun w=>?_
       ·simp only[DV.h]
        have hlen:((l.take n).drop il.toNat).length=n - il.toNat:=by rw[List.length_drop,List.length_take,Nat.min_eq_left hnl]
        refine⟨_,_,by rw[hlen],by rw[hlen]; omega,by omega,fun i y hy=>?_⟩
        rw[List.getElem?_drop,List.getElem?_take]at hy
        split at hy
        ·obtain⟨us,h1,h2⟩:=hel _ y hy
         refine⟨us,h1,fun j u hj=>?_⟩
         obtain⟨ad,rfl,g1,g2,g3⟩:=h2 j u hj
         rw[if_neg (by omega)]
         refine⟨_,rfl,by rw[zbp]; exact g1,by rw[zbp]; exact g2,?_⟩
         rw[Addr.add_add,hsz,←g3]; congr 2
         rw[Nat.add_mul]; omega
        ·cases hy
       ·rcases zmo hhi hb with ⟨rfl,rfl⟩|⟨o',k,i,rfl,hev,h0,h1,rfl⟩
        ·simp only[Instr.sliceAt,Instr.slice,Sem.run_bind,run_underlying hun,Result.andThen_ok,Option.map_none,Option.map_some,hevl,Instr.sliceBounds,Sem.run_pure,Option.isSome_none,Bool.false_eq_true,if_false,run_sliceBound w kl il _ .sliceB hl0 hl1,zlj hfe]
        ·have h1':i≤(c:Int):=by omega
         simp only[Instr.sliceAt,Instr.slice,Sem.run_bind,run_underlying hun,Result.andThen_ok,Option.map_none,Option.map_some,hevl,hev,Instr.sliceBounds,Sem.run_pure,Option.isSome_none,Bool.false_eq_true,if_false,if_true,run_sliceBound w k i c .sliceAcap h0 h1',run_sliceBound w kl il _ .sliceB hl0 hl1,zlj hfe]
    ·cases h
   ·cases h
  ·rename_i s htd _ _
   obtain⟨ti,hf,htd⟩:=tdV_f hT htd
   have hun:=zkb hf htd
   obtain⟨n,h8,hb⟩:=bndD_s h
   obtain⟨m,h9,hbl⟩:=bndD_s h8
   clear h h8
   simp only[DV.h]at hg
   rw[hg]at hr
   refine pu_run hr h9 (v:=.string (s.extract m n)) (by simp only[DV.h]) fun w=>?_
   rcases zmo hhi hb with ⟨rfl,rfl⟩|⟨o',k,i,rfl,hev,h0,h1,rfl⟩<;>rcases zmo hlo hbl with ⟨rfl,rfl⟩|⟨ol,k2,i2,rfl,hev2,h2,h3,rfl⟩
   ·simp[Instr.sliceAt,Instr.slice,Sem.run_bind,run_underlying hun,Instr.sliceBounds]
   ·simp[Instr.sliceAt,Instr.slice,Sem.run_bind,run_underlying hun,Instr.sliceBounds,hev2,run_sliceBound w k2 i2 _ .sliceB h2 h3]
   ·simp[Instr.sliceAt,Instr.slice,Sem.run_bind,run_underlying hun,Instr.sliceBounds,hev,run_sliceBound w k i _ .sliceAlen h0 h1]
   ·simp[Instr.sliceAt,Instr.slice,Sem.run_bind,run_underlying hun,Instr.sliceBounds,hev,hev2,run_sliceBound w k i _ .sliceAlen h0 h1,run_sliceBound w k2 i2 _ .sliceB h2 h3]
  ·cases h
 ·cases h
theorem zvm(w:World):∀(fl:List Field),(∀f∈fl,(sizeOf f.type).run P w=.ok (P.cellsOf f.type) w)→
  (fl.mapM (fun f=>do pure (f.offset,←sizeOf f.type):Field→Sem (Nat×Nat))).run P w=.ok (fl.map fun f=>(f.offset,P.cellsOf f.type)) w
 |[],_=>by simp
 |f::fl,h=>by
  have h0:=h f (by simp)
  have ih:=zvm w fl (fun g hg=>h g (by simp[hg]))
  simp only[List.mapM_cons,Sem.run_bind,h0,ih,Result.andThen_ok,Sem.run_pure,List.map_cons]
theorem fillE_s{fs:List (Nat×Nat×Nat)}:∀(ps:List (Nat×DV)) (ns:List (Nat×Value)) (cells:List DV) (cs:List Value) (K:List DV→Option β),fillE fs cells ps K=some q→hL E (ps.map (·.2)) (ns.map (·.2))→ps.map (·.1)=ns.map (·.1)→hL E cells cs→
  ∃r us,K r=some q∧hL E r us∧Instr.fill (fun i=>(fs.map fun f=>(f.1,f.2.2))[i]?) cs.toArray ns=some us.toArray
 |[],ns,cells,cs,K,h,hv,hn,hc=>by
  cases ns with
  |nil=>exact⟨cells,cs,h,hc,by simp[Instr.fill]⟩
  |cons n ns=>simp at hn
 |(i,x)::ps,ns,cells,cs,K,h,hv,hn,hc=>by
  cases ns with
  |nil=>simp at hn
  |cons n ns=>
   obtain⟨i',v⟩:=n
   simp only[List.map_cons,List.cons.injEq]at hn
   obtain⟨rfl,hn⟩:=hn
   simp only[List.map_cons,hL]at hv
   obtain⟨v',vs',e,hv1,hv2⟩:=hv
   simp only[List.cons.injEq]at e
   obtain⟨rfl,rfl⟩:=e
   simp only[fillE]at h
   split at h
   ·rename_i off ty sz hfl
    obtain⟨hfl,hsz⟩:=fldV_s hfl
    split at h
    ·rename_i ds hds
     have hd:=ybf hds hv1
     split at h
     ·rename_i hlen hsub
      have hlen:=Nat.eq_of_beq_eq_true hlen
      have hle:=(zie hsub).2
      rw[wrE_eq]at h
      obtain⟨r,us,h1,h2,h3⟩:=fillE_s ps ns _ _ K h hv2 hn (hL_wr off hc hd)
      refine⟨r,us,h1,h2,?_⟩
      have hs:v.cells.size=sz:=by rw[←Array.length_toList,hL_len hd,hlen]
      have hcl:=hL_len hc
      simp only[Instr.fill,List.getElem?_map,hfl,Option.map_some]
      have hgt:¬(off+sz>cs.length):=by omega
      simp only[hs,ne_eq,not_true_eq_false,decide_false,List.size_toArray,Bool.false_or,decide_eq_true_eq,hgt,if_false]
      rw[←h3]
      congr 1
      have:=foldl_wr v.cells.toList cs.toArray off 0
      rw[←Array.foldl_toList,Array.toList_zipIdx]
      rw[this]
      simp
     ·cases h
    ·cases h
   ·cases h
theorem pu_build{t:TypeId}{parts:Array (Nat×Operand)}(hT:zas P T)(ho:o.op=.build t parts)(hts:hL E ts a.tmps.toList)(h:purE stdW T o.op ts rw ret=some q):PureOk P E a o ret q:=by
 simp only[ho,purE]at h
 split at h
 ·rename_i ps hps
  obtain⟨hp1,hp2⟩:=yac hps hts
  have hr:∀w,(execOp a.eval o).run P w=((Instr.build t (parts.toList.map fun p=>(p.1,a.eval p.2)).toArray).run P w).andThen fun v w'=>.ok (.value v) w':=by
   intro w
   simp only[execOp,ho,Sem.run_bind,Sem.run_pure]
   congr 3
   apply Array.ext'
   simp
  split at h
  ·rename_i ti hti
   have hf:=tiV_f hT hti
   split at h
   ·rename_i fs z zs htd hz
    obtain⟨fl,hu,rfl⟩:=zpy hf htd
    split at h
    ·rename_i hpos
     have hpos:=posV_s hpos
     obtain⟨r,us,h,hru,hfill⟩:=fillE_s ps (parts.toList.map fun p=>(p.1,a.eval p.2)) _ _ _ h (by simpa[List.map_map,Function.comp_def]using hp1) (by simpa[List.map_map,Function.comp_def]using hp2) (zub (z::zs))
     obtain⟨i,hi,_,hzero⟩:=zyu hf
     rw[hz]at hzero
     obtain⟨zv,hzv,hzc⟩:∃zv,i.zero=some zv∧zv.cells.toList=z::zs:=by
      cases hiz:i.zero with
      |none=>rw[hiz]at hzero; cases hzero
      |some zv=>rw[hiz]at hzero; exact⟨zv,rfl,hzero.symm⟩
     refine pu_run hr h (v:=.agg us.toArray) (by simp only[DV.h]; exact⟨_,rfl,by simpa using hru⟩) fun w=>?_
     have hm:=zvm (P:=P) w fl.toList (fun f hf'=>by
      have:=hpos _ (List.mem_map.2 ⟨f,hf',rfl⟩)
      obtain⟨j,hj,hjs⟩:=zhl f.type this
      rw[zig hj,hjs])
     have hm':(fl.mapM (fun f=>do pure (f.offset,←sizeOf f.type):Field→Sem (Nat×Nat))).run P w=.ok (fl.toList.map fun f=>(f.offset,P.cellsOf f.type)).toArray w:=by
      rw[Array.mapM_eq_mapM_toList]
      simp only[Sem.run_map,hm,Result.andThen_ok]
     have hc:zv.cells=(z::zs).toArray:=by rw[←hzc]
     simp only[Instr.build,Sem.run_bind,zjs hi hzv,Result.andThen_ok,run_underlying hu,hm',hc]
     simp only[List.map_map]at hfill
     have e:(fun x:Nat=>((fl.toList.map fun f=>(f.offset,P.cellsOf f.type)).toArray)[x]?)=(fun i:Nat=>(fl.toList.map ((fun f=>(f.1,f.2.2)) ∘ fun f=>(f.offset,f.type,P.cellsOf f.type)))[i]?):=by
      funext i; simp; rfl
     rw[e,hfill]
     simp
    ·cases h
   ·cases h
  ·cases h
 ·cases h
theorem zye{c:Call}{b:Builtin}{xs:List DV}(hT:zas P T)(ho:o.op=.call c)(hcal:c.callee=.builtin b)(hrw:E.rw=rw)(hxs:hL E xs (c.args.toList.map a.eval))(h:zud T b c.argTypes xs rw ret=some q):PureOk P E a o ret q:=by
 have hr:∀w,(execOp a.eval o).run P w=(builtin b c.argTypes o.type (c.args.map fun | .const _=>true|_=>false) (c.args.toList.map a.eval).toArray).run P w:=by
  intro w
  have:c.args.map a.eval=(c.args.toList.map a.eval).toArray:=by apply Array.ext'; simp
  simp only[execOp,ho,resolve,hcal,Sem.run_bind,Sem.run_pure,Result.andThen_ok,invoke,this]
  rfl
 have one:∀{td:TD},argTyV T c.argTypes=some td→∃t ti,c.argTypes = #[t]∧TFacts P t ti∧ti.td=td:=by
  intro td h
  unfold argTyV at h
  split at h
  ·rename_i t hats
   obtain⟨ti,h1,h2⟩:=tdV_f hT h
   exact⟨t,ti,by apply Array.ext'; simpa using hats,h1,h2⟩
  ·cases h
 unfold zud at h
 split at h
 ·split at h
  ·rename_i e hat
   obtain⟨t,ti,hat,hf,htd⟩:=one hat
   have hun:=zhj hf htd
   split at h
   ·rename_i n hn
    have:∃aa cc,c.args.toList.map a.eval=[.slice aa n cc]:=by
     unfold lenV at hn
     split at hn
     ·simp only[Option.some.injEq]at hn; subst hn
      simp only[hL,DV.h]at hxs
      obtain⟨v,_,e1,⟨aa,cc,e2,_⟩,rfl⟩:=hxs
      simp only[List.cons.injEq,and_true]at e2; subst e2
      exact⟨aa,cc,e1⟩
     ·split at hn
      ·rename_i hrj
       simp only[Option.some.injEq]at hn; subst hn
       simp only[hL,DV.h]at hxs
       obtain⟨v,_,e1,⟨e',t',l',hj,rfl⟩,rfl⟩:=hxs
       rw[zbm,←hrw,hj]at hrj
       simp only[Option.some.injEq,DR.own.injEq]at hrj
       obtain⟨rfl,rfl,hl⟩:=hrj
       cases hl
       exact⟨_,_,e1⟩
      ·cases hn
     ·simp only[Option.some.injEq]at hn; subst hn
      simp only[hL,DV.h]at hxs
      obtain⟨v,_,e1,rfl,rfl⟩:=hxs
      exact⟨_,_,e1⟩
     ·cases hn
    obtain⟨aa,cc,e⟩:=this
    refine⟨_,.int .i64 n,h,by simp only[DV.h],fun w=>?_⟩
    rw[hr,e]
    simp[builtin,Builtin.len_,hat,run_underlying hun,goInt,Sem.run_bind]
   ·cases h
  ·rename_i hat
   obtain⟨t,ti,hat,hf,htd⟩:=one hat
   have hun:=zkb hf htd
   split at h
   ·simp only[hL,DV.h]at hxs
    obtain⟨v,_,e1,rfl,rfl⟩:=hxs
    refine⟨_,_,h,by simp only[DV.h]; rfl,fun w=>?_⟩
    rw[hr,e1]
    simp[builtin,Builtin.len_,hat,run_underlying hun,goInt,Sem.run_bind]
   ·cases h
  ·cases h
 ·split at h
  ·simp only[hL,DV.h]at hxs
   obtain⟨v,_,e1,rfl,u,_,rfl,rfl,rfl⟩:=hxs
   refine⟨_,_,h,by simp only[DV.h]; rfl,fun w=>?_⟩
   rw[hr,e1]
   simp only[builtin,Sem.run_bind,run_max_int2,Result.andThen_ok,Sem.run_pure]
  ·cases h
 ·split at h
  ·simp only[hL,DV.h]at hxs
   obtain⟨v,_,e1,rfl,u,_,rfl,rfl,rfl⟩:=hxs
   refine⟨_,_,h,by simp only[DV.h]; rfl,fun w=>?_⟩
   rw[hr,e1]
   simp only[builtin,Sem.run_bind,run_min_int2,Result.andThen_ok,Sem.run_pure]
  ·cases h
 ·cases h
theorem zzw(hT:zas P T){op:Op}(ho:o.op=op)(hts:hL E ts a.tmps.toList)(hrw:E.rw=rw)(hA:RowsA E)(h:purE stdW T op ts rw ret=some q):PureOk P E a o ret q:=by
 cases op with
 |move x=>
  obtain⟨p,hp,h⟩:=o1_s h
  exact⟨p,_,h,opV_h hp hts,fun w=>by simp[execOp,ho]⟩
 |assign x=>
  obtain⟨p,hp,h⟩:=o1_s h
  exact⟨p,_,h,opV_h hp hts,fun w=>by simp[execOp,ho]⟩
 |pick c x y=>exact pu_pick ho hts (by rw[ho]; exact h)
 |nilCheck x=>exact yfy ho hts (by rw[ho]; exact h)
 |binOp op t x y ty=>
  simp only[purE]at h
  obtain⟨g,hg,h⟩:=o1_s h
  obtain⟨u,hu,h⟩:=o1_s h
  obtain⟨r,z,h,hr,hrun⟩:=run_binE hT h (opV_h hg hts) (opV_h hu hts) x y
  refine⟨r,z,h,hr,fun w=>?_⟩
  have:=hrun w
  simp only[execOp,ho]
  rw[Sem.run_bind,this]; simp
 |unOp op t x=>exact pu_unOp ho hts (by rw[ho]; exact h)
 |convert s d x=>exact pu_convert hT ho hts h
 |fieldAddr s x f=>exact ydh hT ho hts (by rw[ho]; exact h)
 |field s x f=>exact pu_field hT ho hts (by rw[ho]; exact h)
 |indexAddr t x ix=>exact ydg hT ho hts hrw hA (by rw[ho]; exact h)
 |extract t i=>exact pu_extract ho hts (by rw[ho]; exact h)
 |slice t x lo hi mx=>exact pu_slice hT ho hts h
 |build t parts=>exact pu_build hT ho hts (by rw[ho]; exact h)
 |makeFunc fn first caps=>exact yfz ho hts (by rw[ho]; exact h)
 |call c=>
  simp only[purE]at h
  split at h
  ·rename_i b hb
   split at h
   ·rename_i xs hxs
    exact zye hT ho hb hrw (opsV_h hxs hts) h
   ·cases h
  ·cases h
 |_=>cases h
end
end Go.Vc

namespace Go.Vc
open Go Go.RowKit
theorem zno{P:Program}{o:Oper}{a:Act}{w:World}{N N':Act→World→Prop}{Q:Exit→Act→World→Prop}(h:o.wp P a w N Q)(k:∀a w,N a w→N' a w):o.wp P a w N' Q:=Oper.wp_mono k h
theorem zat{P:Program}{o:Oper}{a:Act}{w w':World}{v:Value}{N:Act→World→Prop}{Q:Exit→Act→World→Prop}
  (h:(execOp a.eval o).run P w=.ok (.value v) w') (hn:N (a.put o.dst v) w'):o.wp P a w N Q:=by
 simp only[Oper.wp,h,Oper.upon]; exact hn
theorem zrc{P:Program}{o:Oper}{a:Act}{w w':World}{N:Act→World→Prop}{Q:Exit→Act→World→Prop}
  (h:(execOp a.eval o).run P w=.ok .skip w') (hn:N (a.put o.dst undef) w'):o.wp P a w N Q:=by
 simp only[Oper.wp,h,Oper.upon]; exact hn
section
variable {P:Program} {T:List TI} {V:World} {U0 L:Nat→Prop} {al:Nat→Bool} {B:Nat→Nat} {A:Asg} {ts:List DV} {pb:DBs} {rw:List DR} {a:Act} {w:World} {β:Type} {q:β} {o:Oper} {K:DK β} {Q:Exit→Act→World→Prop}
def Nxt(V:World)(U0 L:Nat→Prop)(al:Nat→Bool)(B:Nat→Nat)(A:Asg)(pb:DBs)(rw:List DR)(w:World)(a:Act)(K:DK β)(q:β):Act→World→Prop:=fun a' w'=>
 ∃B' A' ts' pb' rw',Mem V U0 L B' A' pb' rw' w'∧hL (env U0 B' A' pb' rw' w') ts' a'.tmps.toList∧K ts' pb' rw'=some q∧a'.defers=a.defers∧Ext al B A pb rw w B' A' pb' rw' w'
theorem Ext.refl:Ext al B A pb rw w B A pb rw w:=⟨fun _ h=>⟨h,rfl⟩,fun _ _ _=>rfl,fun _ h=>.inl h,Nat.le_refl _⟩
theorem zuf{α:Type}(f:Nat→α)(n:Nat):upd f n (f n)=f:=by funext i; unfold upd; split<;>simp_all
theorem retE_s{E:Env}{dst:Option Tmp}{x:DV}{v:Value}(h:retE dst x ts pb rw K=some q)(hts:hL E ts a.tmps.toList)(hx:x.h E v):∃ts',K ts' pb rw=some q∧hL E ts' (a.put dst v).tmps.toList∧(a.put dst v).defers=a.defers:=by
 cases dst with
 |none=>exact⟨ts,h,hts,rfl⟩
 |some d=>
  simp only[retE,zdg]at h
  exact⟨_,h,by simpa[Act.put]using hL_set hts d hx,rfl⟩
theorem Nxt.ret{B':Nat→Nat}{A':Asg}{ts':List DV}{pb':DBs}{rw':List DR}{w':World}{x:DV}{v:Value}(h:retE o.dst x ts' pb' rw' K=some q)(m':Mem V U0 L B' A' pb' rw' w')(hts:hL (env U0 B' A' pb' rw' w') ts' a.tmps.toList)(hx:x.h (env U0 B' A' pb' rw' w') v)
  (e:Ext al B A pb rw w B' A' pb' rw' w'):Nxt V U0 L al B A pb rw w a K q (a.put o.dst v) w':=by
 obtain⟨ts2,h1,h2,h3⟩:=retE_s h hts hx
 exact⟨B',A',ts2,pb',rw',m',h2,h1,h3,e⟩
theorem Nxt.more{B1:Nat→Nat}{A1:Asg}{pb1:DBs}{rw1:List DR}{w1:World}{a1 a':Act}{w':World}(e:Ext al B A pb rw w B1 A1 pb1 rw1 w1)(hd:a1.defers=a.defers)(h:Nxt V U0 L al B1 A1 pb1 rw1 w1 a1 K q a' w'):Nxt V U0 L al B A pb rw w a K q a' w':=
 let ⟨B2,A2,ts2,pb2,rw2,m2,h2,h3,h4,e2⟩:=h
 ⟨B2,A2,ts2,pb2,rw2,m2,h2,h3,h4.trans hd,e.trans e2⟩
theorem noSub{E E':Env}(s:Sub noF E E'){ps:List DV}{vs:List Value}(h:hL E ps vs):hL E' ps vs:=by have:=zdr s ps h; rwa [zfi]at this
theorem noSub1{E E':Env}(s:Sub noF E E'){p:DV}{v:Value}(h:p.h E v):p.h E' v:=by have:=DV.h_sub s p h; rwa [DV.sub_no]at this
theorem Mem.rowsA(m:Mem V U0 L B A pb rw w):RowsA (env U0 B A pb rw w):=by
 intro j e t l hj ha
 obtain⟨xs,h,_⟩:=m.row j e t l hj
 have ha:(A j).1=none:=ha
 rcases h.2 with ⟨_,h1⟩|⟨g,cap,cur,heq,_⟩
 ·exact h1
 ·rw[ha]at heq; simp at heq
theorem yak{E:Env}{t:TypeId}{ti:TI}(hf:TFacts P t ti){cells:List DV}{off:Nat}{cs:List Value}{ad:Addr}{ret:DV→Option β}(h:loadC ti cells off ret=some q)(hc:hL E cells cs)(hw:∀j u,cs[j]?=some u→w.cell? (ad.add j)=some u):
  ∃r u,ret r=some q∧r.h E u∧(∀w':World,w'.heap[ad.block]?=w.heap[ad.block]?→(Instr.loadAt t (.pointer (some (ad.add off)))).run P w'=.ok u w')∧cs≠[]:=by
 have hw':∀w':World,w'.heap[ad.block]?=w.heap[ad.block]?→∀j u,cs[j]?=some u→w'.cell? (ad.add j)=some u:=fun w' hs j u hj=>by
  rw[←hw j u hj]; exact World.cell?_of_block (by rw[zbp]; exact hs)
 unfold loadC at h
 split at h
 ·rename_i n hg hsz
  split at h
  ·rename_i l hl
   obtain⟨rfl,hle⟩:=zie hl
   refine⟨_,.agg ((cs.drop off).take (n+1)).toArray,h,by simp only[DV.h]; exact⟨_,rfl,by simpa using hL_sub hc off (n+1)⟩,fun w' hs=>?_,by rintro rfl; have:=hL_len hc; simp at this; omega⟩
   have hlen:((cs.drop off).take (n+1)).length=n+1:=by have:=hL_len hc; simp; omega
   have:=run_loadCells_list (P:=P) w' (ad.add off) ((cs.drop off).take (n+1)) (fun j v hv=>by
    rw[Addr.add_add]
    exact hw' w' hs _ _ (zfp.1 hv).2)
   rw[hlen]at this
   simp[Instr.loadAt,Instr.sureAddr,loadVar,Sem.run_bind,td_agg hf,hg,zlj hf,hsz,this]
  ·cases h
 ·rename_i hg
  split at h
  ·rename_i x hx
   obtain⟨v,hv1,hv2⟩:=hL_get hc _ _ (zuh hx)
   refine⟨x,v,h,hv2,fun w' hs=>?_,by rintro rfl; simp at hv1⟩
   have:=hw' w' hs _ _ hv1
   simp[Instr.loadAt,Instr.sureAddr,loadVar,Sem.run_bind,td_agg hf,hg,run_load,this]
  ·cases h
 ·cases h
theorem zrv{e:TypeId}{k:Nat}{ad:Addr}{n c:Nat}{xs:List Value}(h:w.ownsRow 0 e k (.slice (some ad) n c) n xs):∃g cur,ad=⟨g,0,none⟩∧w.heap[g]?=some (.cells cur e (0,0))∧n≤c∧c≤maxLen∧cur.size=c*k∧cur.toList.take (n*k)=xs∧∀j u,xs[j]?=some u→w.cell? (ad.add j)=some u:=by
 rcases h.2 with ⟨h1,_⟩|⟨g,cap,cur,heq,hb,hg,h1,h2,h3,h4⟩
 ·simp at h1
 ·simp only[Value.slice.injEq,Option.some.injEq]at heq
  obtain⟨rfl,_,rfl⟩:=heq
  refine⟨g,cur,rfl,hg,h1,h2,h3,h4,fun j u hj=>?_⟩
  rw[←h4,List.getElem?_take]at hj
  split at hj
  ·rw[zja,Nat.zero_add,cell_of_row w g j cur e (0,0) hg]; simpa using hj
  ·cases hj
theorem yaj(hT:zas P T)(m:Mem V U0 L B A pb rw w){t:TypeId}{p:DV}{ret:DV→Option β}(h:loadE stdW T t p pb rw ret=some q){v:Value}(hp:p.h (env U0 B A pb rw w) v):
  ∃r u ad,v=.pointer (some ad)∧ret r=some q∧r.h (env U0 B A pb rw w) u∧(∀w',w'.heap[ad.block]?=w.heap[ad.block]?→(Instr.loadAt t v).run P w'=.ok u w')∧
   ((∃i off,p=.own i off∧blk B A pb rw false i ad.block)∨(∃t x off,p=.el t x off∧¬Us U0 B A pb rw ad.block∧ad.block<w.heap.size)∨∃j i off,p=.re j i off):=by
 unfold loadE at h
 split at h
 ·rename_i ti hti
  have hf:=tiV_f hT hti
  split at h
  ·rename_i i off
   simp only[DV.h]at hp
   obtain⟨hl,rfl⟩:=hp
   split at h
   ·rename_i b hb
    rw[zly]at hb
    obtain⟨cs,h1,h2,_⟩:=m.box i b hb
    obtain⟨r,u,g1,g2,g3,g4⟩:=yak (P:=P) (w:=w) (ad:=⟨B i,0,none⟩) hf h h2 (fun j u hj=>by rw[zja,Nat.zero_add,zma h1]; exact hj)
    rw[zja,Nat.zero_add]at g3
    exact⟨r,u,_,rfl,g1,g2,g3,.inl ⟨i,off,rfl,hl,rfl⟩⟩
   ·cases h
  ·rename_i t' x off
   simp only[DV.h]at hp
   obtain⟨ad,us,rfl,h1,h2⟩:=hp
   have hc:=t'.cells_h (E:=env U0 B A pb rw w) h1 (r:=[]) (us':=[]) (by simp[hL])
   rw[List.append_nil]at hc
   obtain⟨r,u,g1,g2,g3,g4⟩:=yak (P:=P) (w:=w) (ad:=ad) hf h hc (fun j u hj=>by
    obtain⟨x,hx,_,_,h3⟩:=h2 j u hj
    simp only[Option.some.injEq]at hx; subst hx
    rwa [Nat.zero_add]at h3)
   refine⟨r,u,_,rfl,g1,g2,fun w' hs=>g3 w' (by rwa [zbp]at hs),.inr (.inl ⟨t',x,off,rfl,?_⟩)⟩
   rw[zbp]
   cases us with
   |nil=>exact absurd rfl g4
   |cons u0 us=>obtain⟨x,hx,h3,h4,_⟩:=h2 0 u0 rfl; simp only[Option.some.injEq]at hx; subst hx; exact⟨h3,h4⟩
  ·rename_i j i off
   simp only[DV.h]at hp
   obtain⟨e,t1,l1,ad,hj,hi,ha,rfl⟩:=hp
   split at h
   ·rename_i e2 t' l hrj
    rw[zbm]at hrj
    have hj:rw[j]?=some (.own e t1 l1):=hj
    rw[hj]at hrj; simp only[Option.some.injEq,DR.own.injEq]at hrj
    obtain⟨rfl,rfl,hl⟩:=hrj
    cases hl
    obtain⟨y,hy,h⟩:=nth_s h
    obtain⟨xs,h1,h2⟩:=m.row j e t1 l1 hj
    have ha:(A j).1=some ad:=ha
    rw[ha]at h1
    obtain⟨g,cur,rfl,_,_,_,_,_,hcell⟩:=zrv h1
    have hc:=t1.cells_h (E:=env U0 B A pb rw w) (h2.2 i y hy) (r:=[]) (us':=[]) (by simp[hL])
    rw[List.append_nil]at hc
    obtain⟨r,u,g1,g2,g3,g4⟩:=yak (P:=P) (w:=w) (ad:=(⟨g,0,none⟩:Addr).add (i*t1.size)) hf h hc (fun k u hk=>by
     rw[Addr.add_add]; exact hcell _ _ (zfp.1 hk).2)
    rw[Addr.add_add]at g3
    exact⟨r,u,_,rfl,g1,g2,fun w' hs=>g3 w' (by rw[zbp]at hs ⊢; exact hs),.inr (.inr ⟨j,i,off,rfl⟩)⟩
   ·cases h
  ·cases h
 ·cases h
theorem zero_of{t:TypeId}{ti:TI}{z:Value}{zs:List Value}(hf:TFacts P t ti)(hz:ti.zero=z::zs):∃zv,∀w,(zeroValue t).run P w=.ok zv w∧zv.cells=(z::zs).toArray:=by
 obtain⟨i,hi,_,hzero⟩:=zyu hf
 rw[hz]at hzero
 cases hiz:i.zero with
 |none=>rw[hiz]at hzero; cases hzero
 |some zv=>
  rw[hiz]at hzero
  exact⟨zv,fun w=>⟨zjs hi hiz w,by apply Array.ext'; simpa using hzero.symm⟩⟩
theorem ybs:∀{pb:DBs} {i:Nat},zrg pb i=true→pb[i]?=some none
 |[],i,h=>by simp[zrg]at h
 |o::pb,0,h=>by
  simp only[zrg]at h
  split at h
  ·cases h
  ·rfl
 |o::pb,i+1,h=>by simp only[zrg]at h; simpa using ybs h
theorem yjn{av:List (Nat×Nat)}{ty:TypeId}{cells:List DV}{cs:List Value}(hrun:(execOp a.eval o).run P w=.ok (.value (.pointer (some ⟨w.heap.size,0,none⟩))) (w.alloc (.cells cs.toArray ty)))
  (h:newDB av o.dst ty cells ts pb rw K=some q) (m:Mem V U0 L B A pb rw w) (hts:hL (env U0 B A pb rw w) ts a.tmps.toList) (hc:hL (env U0 B A pb rw w) cells cs):o.wp P a w (Nxt V U0 L al B A pb rw w a K q) Q:=by
 unfold newDB at h
 have key:∀(i:Nat) (pb':DBs) (d:Tmp),pb'[i]?=some (some ⟨ty,cells,true⟩)→(∀j,j≠i→pb'[j]?=pb[j]?)→¬live pb i→o.dst=some d→retE (some d) (.own i 0) ts pb' rw K=some q→o.wp P a w (Nxt V U0 L al B A pb rw w a K q) Q:=by
  intro i pb' d h1 h2 h3 hd h4
  obtain⟨m',s,e⟩:=m.newBox (al:=al) h1 h2 h3 hc
  refine zat hrun (Nxt.ret (by rw[hd]; exact h4) m' (noSub s hts) ?_ e)
  simp only[DV.h]
  exact⟨⟨_,h1⟩,by show _=Value.pointer (some ⟨upd B i w.heap.size i,0,none⟩); rw[zeb]⟩
 split at h
 ·cases h
 ·rename_i d hd
  split at h
  ·rename_i i hi
   split at h
   ·rename_i hu
    have hu:=ybs hu
    rw[zdg]at h
    have hlt:=(List.getElem?_eq_some_iff.1 hu).1
    exact key i _ d (by rw[List.getElem?_set,if_pos rfl,if_pos hlt]) (fun j hj=>by rw[List.getElem?_set,if_neg (Ne.symm hj)]) (by rintro⟨b,hb⟩; rw[hu]at hb; cases hb) hd h
   ·cases h
  ·rw[zfl]at h
   rw[zju]at h
   exact key pb.length _ d (by simp) (fun j hj=>by
    rcases Nat.lt_or_ge j pb.length with h'|h'
    ·rw[List.getElem?_append_left h']
    ·rw[List.getElem?_eq_none (by simp; omega),List.getElem?_eq_none h']) (by rintro⟨b,hb⟩; rw[List.getElem?_eq_none (Nat.le_refl _)]at hb; cases hb) hd h
theorem op_alloc{t:TypeId}{C:ESs}{av:List (Nat×Nat)}(hT:zas P T)(ho:o.op=.alloc t)(h:evOp stdW T C al av o ts pb rw K=some q)(m:Mem V U0 L B A pb rw w)(hts:hL (env U0 B A pb rw w) ts a.tmps.toList):o.wp P a w (Nxt V U0 L al B A pb rw w a K q) Q:=by
 simp only[evOp,ho]at h
 split at h
 ·rename_i ti hti
  have hf:=tiV_f hT hti
  split at h
  ·rename_i z zs hz
   obtain⟨zv,hzv⟩:=zero_of hf hz
   refine yjn ?_ h m hts (zub _)
   simp only[execOp,ho,Sem.run_bind,Instr.alloc,(hzv w).1,Result.andThen_ok,newVar,newRow,run_newObj,Sem.run_pure,(hzv w).2]
   rfl
  ·cases h
 ·cases h
theorem op_box{t:TypeId}{x:Operand}{C:ESs}{av:List (Nat×Nat)}(ho:o.op=.box t x)(h:evOp stdW T C al av o ts pb rw K=some q)(m:Mem V U0 L B A pb rw w)(hts:hL (env U0 B A pb rw w) ts a.tmps.toList):o.wp P a w (Nxt V U0 L al B A pb rw w a K q) Q:=by
 simp only[evOp,ho]at h
 split at h
 ·rename_i p hp
  split at h
  ·rename_i cs hcs
   have hc:=ybf hcs (opV_h hp hts)
   refine yjn ?_ h m hts hc
   have:(a.eval x).cells=((a.eval x).cells.toList).toArray:=by simp
   simp only[execOp,ho,Sem.run_bind,Instr.box,newVar,newRow,run_newObj,Sem.run_pure,Result.andThen_ok]
   rfl
  ·cases h
 ·cases h
theorem op_load{t:TypeId}{x:Operand}{C:ESs}{av:List (Nat×Nat)}(hT:zas P T)(ho:o.op=.load t x)(h:evOp stdW T C al av o ts pb rw K=some q)(m:Mem V U0 L B A pb rw w)(hts:hL (env U0 B A pb rw w) ts a.tmps.toList):o.wp P a w (Nxt V U0 L al B A pb rw w a K q) Q:=by
 simp only[evOp,ho]at h
 split at h
 ·rename_i p hp
  obtain⟨r,u,ad,hv,h1,h2,h3,_⟩:=yaj hT m h (opV_h hp hts)
  exact zat (by rw[yju ho,h3 w rfl]; rfl) (Nxt.ret h1 m hts h2 Ext.refl)
 ·cases h
theorem frzE_s:∀(js:List Nat) {ts:List DV} {pb:DBs} {rw:List DR} {ps:List DV} {K:List DV→DBs→List DR→List DV→Option β} {vs us:List Value},frzE js ts pb rw ps K=some q→Mem V U0 L B A pb rw w→hL (env U0 B A pb rw w) ts vs→hL (env U0 B A pb rw w) ps us→
  ∃ts' pb' rw' ps',K ts' pb' rw' ps'=some q∧Mem V U0 L B A pb' rw' w∧hL (env U0 B A pb' rw' w) ts' vs∧hL (env U0 B A pb' rw' w) ps' us∧Ext al B A pb rw w B A pb' rw' w∧pb'.length=pb.length
 |[],ts,pb,rw,ps,K,vs,us,h,m,hts,hps=>⟨ts,pb,rw,ps,h,m,hts,hps,Ext.refl,rfl⟩
 |j::js,ts,pb,rw,ps,K,vs,us,h,m,hts,hps=>by
  simp only[frzE]at h
  split at h
  ·rename_i e t l hj
   rw[zbm]at hj
   simp only[zek,zjf,zdg]at h
   obtain⟨m',s,e1⟩:=m.freeze (al:=al) hj
   obtain⟨ts',pb',rw',ps',h1,m2,h2,h3,e2,h4⟩:=frzE_s js h m' (zdr s _ hts) (zdr s _ hps)
   exact⟨ts',pb',rw',ps',h1,m2,h2,h3,e1.trans e2,by rw[h4,zkc]⟩
  ·rename_i ks hj
   rw[zbm]at hj
   simp only[zek,zjf,zdg]at h
   obtain⟨m',s,e1⟩:=m.freezeSet (al:=al) hj
   obtain⟨ts',pb',rw',ps',h1,m2,h2,h3,e2,h4⟩:=frzE_s js h m' (zdr s _ hts) (zdr s _ hps)
   exact⟨ts',pb',rw',ps',h1,m2,h2,h3,e1.trans e2,by rw[h4,zkc]⟩
  ·exact frzE_s js h m hts hps
theorem zlk{b off:Nat}{xs cs:List Value}{ty:TypeId}(hb:w.heap[b]?=some (.cells xs.toArray ty (0,0)))(hone:∀v∈cs,oneC v=true)(hle:off+cs.length≤xs.length):
  (storeCells ⟨b,off,none⟩ cs 0).run P w=.ok () (setCells w ⟨b,off,none⟩ 0 cs)∧(setCells w ⟨b,off,none⟩ 0 cs).heap[b]?=some (.cells (wr xs off cs).toArray ty (0,0)):=by
 refine⟨zon (P:=P) ⟨b,off,none⟩ cs 0 w hone (fun j hj=>?_),by have:=zot b off cs 0 w _ hb; rwa [Nat.add_zero]at this⟩
 rw[Nat.zero_add,zja,zma hb,znd hb]
 have:off+j<xs.length:=by omega
 simp[this]
theorem yih{t:TypeId}{x y:Operand}{ti:TI}(hf:TFacts P t ti)(ho:o.op=.store t x y){b off:Nat}{xs cs:List Value}{ty:TypeId}(hx:a.eval x=.pointer (some ⟨b,off,none⟩))(hy:(a.eval y).cells.toList=cs)(hs:cs.length=ti.size)
  (hb:w.heap[b]?=some (.cells xs.toArray ty (0,0))) (hone:∀v∈cs,oneC v=true) (hle:off+cs.length≤xs.length):(execOp a.eval o).run P w=.ok .skip (setCells w ⟨b,off,none⟩ 0 cs):=by
 have hr:=store_run (P:=P) (w:=w) (a:=a) ho
 rw[hx]at hr
 have hsz:(a.eval y).cells.size=ti.size:=by rw[←Array.length_toList,hy,hs]
 rw[hr]
 simp only[Instr.storeAt,Instr.sureAddr,storeVar,Sem.run_bind,Sem.run_pure,Result.andThen_ok,zlj hf,hsz,ne_eq,not_true_eq_false,if_false,hy,(zlk (P:=P) hb hone hle).1]
theorem zjr(b off:Nat)(cs:List Value):(setCells w ⟨b,off,none⟩ 0 cs).os=w.os∧(setCells w ⟨b,off,none⟩ 0 cs).tape=w.tape∧(setCells w ⟨b,off,none⟩ 0 cs).output=w.output∧w.heap.size≤(setCells w ⟨b,off,none⟩ 0 cs).heap.size:=by
 have:=zll ⟨b,off,none⟩ cs 0 w
 exact⟨this.1,this.2.1,this.2.2.1,Nat.le_of_eq this.2.2.2.1.symm⟩
theorem op_store{t:TypeId}{x y:Operand}{C:ESs}{av:List (Nat×Nat)}(hT:zas P T)(ho:o.op=.store t x y)(h:evOp stdW T C al av o ts pb rw K=some q)(m:Mem V U0 L B A pb rw w)(hts:hL (env U0 B A pb rw w) ts a.tmps.toList):o.wp P a w (Nxt V U0 L al B A pb rw w a K q) Q:=by
 simp only[evOp,ho]at h
 split at h
 ·rename_i p v ti hp hv hti
  have hf:=tiV_f hT hti
  split at h
  ·rename_i cs hcs
   have hc:=ybf hcs (opV_h hv hts)
   have hpp:=opV_h hp hts
   generalize hcv:(a.eval y).cells.toList=cv at hc
   split at h
   ·rename_i i off hlen hone
    have hlen:=Nat.eq_of_beq_eq_true hlen
    split at h
    ·rename_i b hal hb
     rw[zly]at hb
     split at h
     ·rename_i l hsub
      have hle:=(zie hsub).2
      rw[wrE_eq,zdg]at h
      simp only[DV.h]at hpp
      obtain⟨_,hpp⟩:=hpp
      obtain⟨xs,h1,h2,_⟩:=m.box i b hb
      have hxl:=hL_len h2
      have hcl:=hL_len hc
      have hle':off+cv.length≤xs.length:=by omega
      have hone:=ygc hone hc
      obtain⟨m',s,e⟩:=m.setBox (al:=al) hal hb (hL_wr off h2 hc) (zjr (w:=w) (B i) off _) (fun b' _ hne=>zif _ _ hne _ _ _) (zlk (P:=P) h1 hone hle').2
      exact zrc (yih hf ho hpp hcv (by omega) h1 hone hle') (Nxt.ret h m' (noSub s hts) (by simp only[DV.h]) e)
     ·cases h
    ·cases h
   ·rename_i j0 i0 off0 hlen hone
    have hlen:=Nat.eq_of_beq_eq_true hlen
    obtain⟨ts1,pb1,rw1,ps,h,m1,hts1,hps,e1,_⟩:=frzE_s (al:=al) _ h m hts (ps:=.re j0 i0 off0::cs) (us:=a.eval x::cv) (by simp only[hL]; exact⟨_,_,rfl,hpp,hc⟩)
    split at h
    ·rename_i j i off cs'
     simp only[hL]at hps
     obtain⟨v1,vs1,e2,hp1,hc1⟩:=hps
     simp only[List.cons.injEq]at e2
     obtain⟨rfl,rfl⟩:=e2
     split at h
     ·rename_i e t' l hrj
      rw[zbm]at hrj
      split at h
      ·rename_i hle
       have hle:=Nat.le_of_ble_eq_true hle
       obtain⟨z,hz,h⟩:=nth_s h
       rw[wrE_eq]at h
       split at h
       ·rename_i y' hy'
        rw[zdg]at h
        simp only[DV.h]at hp1
        obtain⟨e3,t3,l3,ad,hj3,hi3,ha,hpv⟩:=hp1
        have hj3:rw1[j]?=some (.own e3 t3 l3):=hj3
        rw[hrj]at hj3; simp only[Option.some.injEq,DR.own.injEq]at hj3
        obtain⟨rfl,rfl,hl3⟩:=hj3
        cases hl3
        have ha:(A j).1=some ad:=ha
        obtain⟨xs,h1,h2⟩:=m1.row j e t' l hrj
        rw[ha]at h1
        obtain⟨g,cur,rfl,hg,hn,hcm,hcs',htk,hcell⟩:=zrv h1
        rw[zja,Nat.zero_add]at hpv
        have hcl:=hL_len hc1
        have hil:=zis (k:=t'.size) hi3
        have hxl:=h2.1
        have hcur:xs.length≤cur.size:=by rw[←htk,List.length_take]; simp only[Array.length_toList]; omega
        have hone':∀u∈cv,oneC u=true:=ygc hone hc
        have hle':(i*t'.size+off)+cv.length≤cur.toList.length:=by have h0:cur.toList.length=cur.size:=Array.length_toList; omega
        have hg':w.heap[g]?=some (.cells cur.toList.toArray e (0,0)):=by simpa using hg
        have hst:=zlk (P:=P) hg' hone' hle'
        have hyh:∃us,t'.h (Us U0 B A pb1 rw1) w y' us∧us=wr ((xs.drop (i*t'.size)).take t'.size) off cv:=by
         have hz':=t'.cells_h (E:=env U0 B A pb1 rw1 w) (h2.2 i z hz) (r:=[]) (us':=[]) (by simp[hL])
         rw[List.append_nil]at hz'
         obtain⟨us,us',e4,h3,h4⟩:=t'.of_h hy' (hL_wr off hz' hc1)
         simp only[hL]at h4; subst h4
         rw[List.append_nil]at e4
         exact⟨us,h3,e4.symm⟩
        obtain⟨us,hus,huse⟩:=hyh
        have hxs':(wr cur.toList (i*t'.size+off) cv).take (l.length*t'.size)=wr xs (i*t'.size) us:=by
         have hul:=t'.h_len hus
         apply List.ext_getElem?; intro k
         rw[wr_get _ _ _ _ (by omega),List.getElem?_take]
         by_cases hk:k<l.length*t'.size
         ·rw[if_pos hk,wr_get _ _ _ _ hle']
          by_cases hk1:i*t'.size≤k∧k<i*t'.size+us.length
          ·rw[if_pos hk1,huse,wr_get _ _ _ _ (by rw[List.length_take,List.length_drop]; omega)]
           by_cases hk2:off≤k - i*t'.size∧k - i*t'.size<off+cv.length
           ·rw[if_pos (by omega),if_pos hk2]; congr 1; omega
           ·rw[if_neg (by omega),if_neg hk2,List.getElem?_take,if_pos (by omega),List.getElem?_drop,←htk,List.getElem?_take,if_pos (by omega)]
            congr 1; omega
          ·rw[if_neg hk1,if_neg (by omega),←htk,List.getElem?_take,if_pos hk]
         ·rw[if_neg hk,if_neg (by omega),List.getElem?_eq_none (by omega)]
        have hlt:j<rw1.length:=(List.getElem?_eq_some_iff.1 hrj).1
        obtain⟨m2,s2,e2⟩:=m1.putRow (al:=al) (j:=j) (f:=noF) (rw':=rw1.set j (.own e t' (l.set i y'))) (e:=e) (t:=t') (l:=l.set i y') (a:=(A j).1) (c:=(A j).2) (w':=setCells w ⟨g,i*t'.size+off,none⟩ 0 cv)
         (by rw[List.getElem?_set,if_pos rfl,if_pos hlt]) (fun k hk=>by rw[List.getElem?_set,if_neg (Ne.symm hk)]) (fun _ _ h=>by cases h)
         (fun _ e4 t4 l4 h4=>by
          rw[hrj]at h4; simp only[Option.some.injEq,DR.own.injEq]at h4
          obtain⟨rfl,rfl,h4⟩:=h4
          cases h4
          exact⟨_,by rw[List.getElem?_set,if_pos rfl,if_pos hlt],by simp,rfl⟩)
         (fun _ d h4=>by rw[hrj]at h4; cases h4) (zjr _ _ _)
         (fun b hb hnb=>zif ⟨g,i*t'.size+off,none⟩ b (fun he=>hnb ⟨_,⟨g,0,none⟩,hrj,by simp,ha,he.symm⟩) _ _ _)
         (fun x hx=>.inl ⟨_,x,hrj,by simp,hx,rfl⟩)
         (fun U' lt=>by
          refine⟨wr xs (i*t'.size) us,⟨?_,?_⟩,?_⟩
          ·rw[zmg,hxl]; simp
          ·refine .inr ⟨g,(A j).2,(wr cur.toList (i*t'.size+off) cv).toArray,by rw[ha],Nat.zero_le _,hst.2,by simpa using hn,hcm,by rw[List.size_toArray,zmg,Array.length_toList,hcs'],by simpa using hxs'⟩
          ·exact DT.hs_set (DT.hs_mono lt h2) hi3 (t'.mono lt hus))
        rw[show upd A j ((A j).1,(A j).2)=A from zuf A j]at m2 s2 e2
        rw[ztk]at m2 s2 e2
        exact zrc (yih hf ho hpv hcv (by have:=hL_len hc; omega) hg' hone' hle') (Nxt.more e1 rfl (Nxt.ret h m2 (noSub s2 hts1) (by simp only[DV.h]) e2))
       ·cases h
      ·cases h
     ·cases h
    ·cases h
   ·cases h
  ·cases h
 ·cases h
end
end Go.Vc

namespace Go.Vc
open Go Go.RowKit
structure ElemOk (P : Program) (t e : TypeId) (size bytes : Nat) : Prop where
  under : P.underlying t = some (.slice e)
  info : ∃ i z, P.info? e = some i ∧ i.zero = some z ∧ i.size = size ∧ i.bytes = bytes ∧ z.cells.size = size
  pos : 0 < size
theorem zqt {P : Program} {t e : TypeId} {ti te : TI} (hf : TFacts P t ti) (htd : ti.td = .slice e) (he : TFacts P e te) (hz : Nat.beq te.zero.length te.size = true) (hp : 0 < te.size) : ElemOk P t e te.size te.bytes := by
  obtain ⟨d, i, h1, h2, h3, h4, h5, h6, h7, h8⟩ := he.ex
  have hz := Nat.eq_of_beq_eq_true hz
  rw [h7] at hz
  cases hzz : i.zero with
  | none => rw [hzz] at hz; simp at hz; omega
  | some z => exact ⟨zhj hf htd, ⟨i, z, h2, hzz, h4.symm, h5.symm, by rw [hzz] at hz; simpa using hz⟩, hp⟩
theorem ydx : ∀ (cs : List Value) (off s : Nat) (pre old post : List Value), pre.length = off + s → old.length = cs.length →
    (cs.zipIdx s).foldl (fun (a : Array Value) (p : Value × Nat) => a.setIfInBounds (off + p.2) p.1) (pre ++ old ++ post).toArray = (pre ++ cs ++ post).toArray
  | [], _, _, pre, old, post, _, ho => by
    cases old with
    | nil => rfl
    | cons _ _ => simp at ho
  | c :: cs, off, s, pre, old, post, hp, ho => by
    cases old with
    | nil => simp at ho
    | cons o old =>
      simp only [List.zipIdx_cons, List.foldl_cons]
      have e : ((pre ++ o :: old ++ post).toArray.setIfInBounds (off + s) c) = (pre ++ [c] ++ old ++ post).toArray := by
        rw [List.setIfInBounds_toArray]
        congr 1
        rw [← hp]
        simp
      rw [e, ydx cs off (s + 1) (pre ++ [c]) old post (by simp; omega) (by simpa using ho)]
      simp
def enumP : Nat → List Value → List (Nat × Value)
  | _, [] => []
  | i, v :: vs => (i, v) :: enumP (i + 1) vs
theorem ykm (k : Nat) : ∀ (vs : List Value) (i : Nat) (pre rest : List Value), pre.length = i * k → rest.length = vs.length * k → (∀ v ∈ vs, v.cells.size = k) →
    Instr.fill (fun i => some (i * k, k)) (pre ++ rest).toArray (enumP i vs) = some (pre ++ vs.flatMap (·.cells.toList)).toArray
  | [], _, pre, rest, _, hr, _ => by
    have : rest = [] := by cases rest <;> simp_all
    subst this
    simp [enumP, Instr.fill]
  | v :: vs, i, pre, rest, hp, hr, hk => by
    have hv := hk v (by simp)
    have hr' : rest.length = k + vs.length * k := by rw [hr, List.length_cons, Nat.succ_mul]; omega
    simp only [enumP, Instr.fill]
    rw [if_neg (by simp [hv, hp]; omega)]
    have hs : pre ++ rest = pre ++ rest.take k ++ rest.drop k := by simp
    have hz : v.cells.zipIdx.foldl (fun (cs : Array Value) (p : Value × Nat) => cs.setIfInBounds (i * k + p.2) p.1) (pre ++ rest).toArray = (pre ++ v.cells.toList ++ rest.drop k).toArray := by
      rw [← Array.foldl_toList, Array.toList_zipIdx, hs]
      exact ydx v.cells.toList (i * k) 0 pre (rest.take k) (rest.drop k) (by simpa using hp) (by simp [hv]; omega)
    rw [hz, ykm k vs (i + 1) (pre ++ v.cells.toList) (rest.drop k) (by simp [hp, hv, Nat.succ_mul]) (by simp; omega) (fun u hu => hk u (by simp [hu]))]
    simp
theorem zwe {α : Type} {k : Nat} : ∀ {els : List (List α)} {i : Nat} {cs : List α}, (∀ l ∈ els, l.length = k) → els[i]? = some cs → ∀ j r, cs[j]? = some r → els.flatten[i * k + j]? = some r
  | [], i, cs, _, h, _, _, _ => by simp at h
  | l :: els, i, cs, hk, h, j, r, hj => by
    have hl := hk l (by simp)
    have hj' := (List.getElem?_eq_some_iff.1 hj).1
    cases i with
    | zero =>
      simp at h; subst h
      simp only [List.flatten_cons, Nat.zero_mul, Nat.zero_add]
      rw [List.getElem?_append_left hj']; exact hj
    | succ i =>
      simp only [List.flatten_cons]
      rw [List.getElem?_append_right (by rw [hl, Nat.succ_mul]; omega), show (i + 1) * k + j - l.length = i * k + j by rw [hl, Nat.succ_mul]; omega]
      exact zwe (fun l hl => hk l (by simp [hl])) (by simpa using h) j r hj
theorem zto {α : Type} (zs : List α) : ∀ n, (List.replicate n zs).flatten.length = n * zs.length
  | 0 => by simp
  | n + 1 => by rw [List.replicate_succ, List.flatten_cons, List.length_append, zto zs n, Nat.succ_mul]; omega
theorem ydn {z : Array Value} {n c k : Nat} (hk : z.size = k) (hn : n ≤ c) : (madeCells z (c * k)).toList.take (n * k) = (List.replicate n z.toList).flatten := by
  have hnc : n * k ≤ c * k := Nat.mul_le_mul_right k hn
  apply List.ext_getElem?
  intro t
  by_cases ht : t < n * k
  · have hk0 : 0 < k := by rcases Nat.eq_zero_or_pos k with h | h; · subst h; simp at ht
                           · exact h
    have hfk : ∀ l ∈ List.replicate n z.toList, l.length = k := fun l hl => by rw [(List.mem_replicate.1 hl).2]; simpa using hk
    have hdiv : t / k < n := (Nat.div_lt_iff_lt_mul hk0).2 ht
    have hmod : t % k < k := Nat.mod_lt _ hk0
    have hfl := zwe (k := k) (els := List.replicate n z.toList) (i := t / k) (cs := z.toList) hfk (by rw [List.getElem?_replicate, if_pos hdiv]) (t % k) (z.toList[t % k]'(by simpa [hk] using hmod)) (List.getElem?_eq_getElem _)
    rw [Nat.div_add_mod' t k] at hfl
    rw [List.getElem?_take_of_lt ht, hfl, Array.getElem?_toList, madeCells, Array.getElem?_map, Array.getElem?_range, if_pos (by omega)]
    simp only [Option.map_some, hk]
    rw [getElem!_pos z (t % k) (by omega)]; rfl
  · rw [List.getElem?_take_eq_none (by omega), List.getElem?_eq_none (by rw [zto, Array.length_toList, hk]; omega)]
theorem zero_flat {z : Array Value} {n k : Nat} (hk : z.size = k) : (Builtin.zeroCells z n).toList = (List.replicate n z.toList).flatten := by
  have h := ydn (z := z) (n := n) (c := n) hk (Nat.le_refl _)
  have e : Builtin.zeroCells z n = madeCells z (n * k) := by rw [← hk]; rfl
  rw [e, ← h, List.take_of_length_le]
  simp [madeCells]
theorem zzf {P : Program} (w : World) (t e ty : TypeId) (z : Value) (ht : P.underlying t = some (.slice e)) (hv : ∀ w, (zeroValue e).run P w = .ok z w) (b o n c : Nat) (hn : 0 < n)
    (hc : ∀ j, j < (Builtin.zeroCells z.cells n).toList.length → (w.cell? ⟨b, o + j, none⟩).isSome = true) (hf : ∀ j, j < (Builtin.zeroCells z.cells n).toList.length → w.frozen? ⟨b, o + j, none⟩ = false) (h1 : ∀ v ∈ (Builtin.zeroCells z.cells n).toList, v.oneCell' = true) :
    (Builtin.clear_ #[t] ty #[.slice (some ⟨b, o, none⟩) n c]).run P w = .ok (.tuple #[]) (w.setCells b o (Builtin.zeroCells z.cells n).toList) := by
  have hst := run_storeCells_cells (P := P) b o (Builtin.zeroCells z.cells n).toList 0 w (by simpa using hc) (by simpa using hf) h1
  simp only [Nat.add_zero] at hst
  obtain ⟨m, rfl⟩ : ∃ m, n = m + 1 := ⟨n - 1, by omega⟩
  simp [Builtin.clear_, run_underlying ht, hv, hst]
theorem zxg {P : Program} (w : World) (t e ty : TypeId) (ht : P.underlying t = some (.slice e)) (a : Option Addr) (c : Nat) :
    (Builtin.clear_ #[t] ty #[.slice a 0 c]).run P w = .ok (.tuple #[]) w := by
  cases a <;> simp [Builtin.clear_, run_underlying ht]
theorem zme {P : Program} {t ty e : TypeId} {size bytes n c c2 : Nat} {a a2 : Option Addr} (he : ElemOk P t e size bytes) (hn : n ≤ c) (w : World) :
    (Builtin.append_ #[t, t] ty #[.slice a n c, .slice a2 0 c2]).run P w = .ok (.slice a n c) w := by
  obtain ⟨i, z, hi, hz, hs, hb, hzs⟩ := he.info
  have hf : (Builtin.firstCells i.size 0 (.slice a2 0 c2)).run P w = .ok #[] w := by
    cases a2 <;> simp [Builtin.firstCells, loadCells, loadCellsFrom]
  cases a <;> simp [Builtin.append_, run_underlying he.under, sizeOf, typeInfo, hi, Builtin.lenOf, hn, hf, storeCells]
theorem zbc : maxLen = 9223372036854775807 := by simp [maxLen]
theorem DT.hv_cells {U : Nat → Prop} {w : World} {t : DT} {x : t.den} {v : Value} (h : t.hv U w x v) (h0 : 0 < t.size) : t.h U w x v.cells.toList := by
  obtain ⟨us, h1, rfl⟩ := h
  cases ha : t.agg with
  | true => simpa [Value.cells] using h1
  | false =>
    have hl := t.h_len h1
    rw [DT.size1 t ha] at hl
    obtain ⟨u, rfl⟩ := List.length_eq_one_iff.1 hl
    have hp := t.h_one h1 u (by simp)
    have : u.cells = #[u] := by cases u <;> simp_all [plainC, Value.cells]
    simpa [this] using h1
section
variable {P : Program} {T : List TI} {V : World} {U0 L : Nat → Prop} {al : Nat → Bool} {B : Nat → Nat} {A : Asg} {ts : List DV} {pb : DBs} {rw : List DR} {a : Act} {w w' : World} {β : Type} {q : β} {o : Oper} {K : DK β} {Q : Exit → Act → World → Prop} {C : ESs} {av : List (Nat × Nat)}
theorem Mem.pushRow (m : Mem V U0 L B A pb rw w) {e : TypeId} {t : DT} {l : List t.den} {a : Option Addr} {c : Nat} {xs : List Value} (hr : w'.os = w.os ∧ w'.tape = w.tape ∧ w'.output = w.output ∧ w.heap.size ≤ w'.heap.size) (hk : ∀ b, b < w.heap.size → w'.heap[b]? = w.heap[b]?)
    (ha : ∀ x, a = some x → w.heap.size ≤ x.block ∧ x.block < w'.heap.size) (ho : w'.ownsRow 0 e t.size (.slice a l.length c) l.length xs) (hs : t.hs (Us U0 B A pb rw) w l xs) :
    Mem V U0 L B (upd A rw.length (a, c)) pb (rw ++ [.own e t l]) w' ∧ Sub noF (env U0 B A pb rw w) (env U0 B (upd A rw.length (a, c)) pb (rw ++ [.own e t l]) w') ∧ Ext al B A pb rw w B (upd A rw.length (a, c)) pb (rw ++ [.own e t l]) w' ∧
      (DV.row rw.length).h (env U0 B (upd A rw.length (a, c)) pb (rw ++ [.own e t l]) w') (.slice a l.length c) := by
  have hn : rw[rw.length]? = none := List.getElem?_eq_none (Nat.le_refl _)
  have hj : (rw ++ [DR.own e t l])[rw.length]? = some (.own e t l) := by simp
  have := m.putRow (al := al) (j := rw.length) (f := noF) (rw' := rw ++ [.own e t l]) (e := e) (t := t) (l := l) (a := a) (c := c) (w' := w') hj (fun i hi => by
      rcases Nat.lt_or_ge i rw.length with h | h
      · rw [List.getElem?_append_left h]
      · rw [List.getElem?_eq_none (by simp; omega), List.getElem?_eq_none h])
    (fun _ _ h => by cases h) (fun _ e t l h => by rw [hn] at h; cases h) (fun _ d h => by rw [hn] at h; cases h) hr (fun b hb _ => hk b hb) (fun x hx => .inr (ha x hx)) (fun U' lt => ⟨xs, ho, DT.hs_mono lt hs⟩)
  rw [ztk] at this
  refine ⟨this.1, this.2.1, this.2.2, ?_⟩
  simp only [DV.h]
  exact ⟨e, t, l, hj, by show _ = Value.slice (upd A rw.length (a, c) rw.length).1 _ (upd A rw.length (a, c) rw.length).2; rw [zeb]⟩
theorem zoe {e : TypeId} {t : DT} {l : List t.den} {a' : Option Addr} {c : Nat} {xs : List Value} (m : Mem V U0 L B A pb rw w) (hts : hL (env U0 B A pb rw w) ts a.tmps.toList) (hrun : (execOp a.eval o).run P w = .ok (.value (.slice a' l.length c)) w')
    (hr : w'.os = w.os ∧ w'.tape = w.tape ∧ w'.output = w.output ∧ w.heap.size ≤ w'.heap.size) (hk : ∀ b, b < w.heap.size → w'.heap[b]? = w.heap[b]?)
    (ha : ∀ x, a' = some x → w.heap.size ≤ x.block ∧ x.block < w'.heap.size) (ho : w'.ownsRow 0 e t.size (.slice a' l.length c) l.length xs) (hs : t.hs (Us U0 B A pb rw) w l xs)
    (h : (pushE rw (.own e t l) fun rw' => litE rw.length fun n => retE o.dst (.row n) ts pb rw' K) = some q) : o.wp P a w (Nxt V U0 L al B A pb rw w a K q) Q := by
  rw [zfl, zju] at h
  obtain ⟨m', s, e1, hrow⟩ := m.pushRow (al := al) hr hk ha ho hs
  exact zat hrun (Nxt.ret h m' (noSub s hts) hrow e1)
theorem hs_src {U : Nat → Prop} {t : DT} {l : List t.den} {aa : Option Addr} {c : Nat} (h : (DT.slc t).h U w l [.slice aa l.length c]) (h0 : 0 < t.size) (hl : 0 < l.length) :
    ∃ ad us, aa = some ad ∧ us.length = l.length * t.size ∧ t.hs U w l us ∧ ∀ j u, us[j]? = some u → w.cell? (ad.add j) = some u := by
  obtain ⟨a', c', e, _, _, hel⟩ := h
  simp only [List.cons.injEq, Value.slice.injEq, and_true] at e
  obtain ⟨rfl, _, rfl⟩ := e
  obtain ⟨ad, rfl⟩ : ∃ ad, aa = some ad := by
    obtain ⟨us, h1, h2⟩ := hel 0 _ (List.getElem?_eq_getElem hl)
    have := t.h_len h1
    obtain ⟨x, hx, _⟩ := h2 0 _ (List.getElem?_eq_getElem (by omega))
    exact ⟨x, hx⟩
  have all : ∀ (n : Nat), n ≤ l.length → ∃ us, us.length = n * t.size ∧ t.hs U w (l.take n) us ∧ ∀ j u, us[j]? = some u → w.cell? (ad.add j) = some u := by
    intro n
    induction n with
    | zero => intro _; exact ⟨[], by simp, by simpa using DT.hs_nil, by simp⟩
    | succ n ih =>
      intro hn
      obtain ⟨us, h1, h2, h3⟩ := ih (by omega)
      obtain ⟨vs, g1, g2⟩ := hel n _ (List.getElem?_eq_getElem (by omega))
      have gl := t.h_len g1
      refine ⟨us ++ vs, by simp [h1, gl, Nat.succ_mul], ?_, fun j u hj => ?_⟩
      · rw [List.take_add_one, List.getElem?_eq_getElem (by omega)]
        exact DT.hs_app h2 (DT.hs_one g1)
      · rcases Nat.lt_or_ge j us.length with hlt | hge
        · rw [List.getElem?_append_left hlt] at hj; exact h3 j u hj
        · rw [List.getElem?_append_right hge] at hj
          obtain ⟨x, hx, _, _, g3⟩ := g2 _ u hj
          simp only [Option.some.injEq] at hx; subst hx
          rwa [show n * t.size + (j - us.length) = j by omega] at g3
  obtain ⟨us, h1, h2, h3⟩ := all l.length (Nat.le_refl _)
  exact ⟨ad, us, rfl, h1, by simpa using h2, h3⟩
theorem zwc {row : Option Nat} (hg : w.grownBy w' row) : w'.os = w.os ∧ w'.tape = w.tape ∧ w'.output = w.output ∧ w.heap.size ≤ w'.heap.size := ⟨hg.os, hg.tape, hg.output, hg.size⟩
theorem zpq (ob : Obj) : (w.alloc ob).os = w.os ∧ (w.alloc ob).tape = w.tape ∧ (w.alloc ob).output = w.output ∧ w.heap.size ≤ (w.alloc ob).heap.size := ⟨rfl, rfl, rfl, by simp⟩
theorem bi_run {c : Call} {b : Builtin} (ho : o.op = .call c) (hcal : c.callee = .builtin b) : (execOp a.eval o).run P w = (builtin b c.argTypes o.type (c.args.map fun | .const _ => true | _ => false) (c.args.toList.map a.eval).toArray).run P w := by
  have : c.args.map a.eval = (c.args.toList.map a.eval).toArray := by apply Array.ext'; simp
  simp only [execOp, ho, resolve, hcal, Sem.run_bind, Sem.run_pure, Result.andThen_ok, invoke, this]
  rfl
theorem op_append {c : Call} {xs : List DV} (hT : zas P T) (ho : o.op = .call c) (hcal : c.callee = .builtin .append) (hxs : hL (env U0 B A pb rw w) xs (c.args.toList.map a.eval)) (h : evOp stdW T C al av o ts pb rw K = some q) (hops : opsV ts c.args.toList = some xs)
    (m : Mem V U0 L B A pb rw w) (hts : hL (env U0 B A pb rw w) ts a.tmps.toList) : o.wp P a w (Nxt V U0 L al B A pb rw w a K q) Q := by
  simp only [evOp, ho, hcal, hops] at h
  split at h
  · rename_i p1 p2
    obtain ⟨ts1, pb1, rw1, ps, h, m1, hts1, hps, e1, _⟩ := frzE_s (al := al) _ h m hts hxs
    split at h
    · rename_i p1 p2 t t' hat
      split at h
      · rename_i e htd
        obtain ⟨ti, hft, htd⟩ := tdV_f hT htd
        split at h
        · rename_i te hte
          have hfe := tiV_f hT hte
          split at h
          · rename_i t2 news htt hz
            have htt := Nat.eq_of_beq_eq_true htt
            subst htt
            have hats : c.argTypes = #[t, t] := Array.ext' (by simpa using hat)
            simp only [hL] at hps
            obtain ⟨v1, _, ea, hp1, v2, _, rfl, hp2, rfl⟩ := hps
            simp only [DV.h] at hp2
            obtain ⟨a2, c2, ev2, _⟩ := id hp2
            simp only [List.cons.injEq, and_true] at ev2
            subst ev2
            have hrun0 : (execOp a.eval o).run P w = ((Builtin.append_ #[t, t] o.type #[v1, .slice a2 news.length c2]).run P w).andThen fun v w' => .ok (.value v) w' := by
              rw [bi_run ho hcal, hats, ea]; simp only [builtin, Sem.run_bind, Sem.run_pure]
            split at h
            · rename_i j h0
              have h0 := Nat.le_of_ble_eq_true h0
              split at h
              · rename_i e2 t1 l hj
                rw [zbm] at hj
                split at h
                · rename_i hh hee hsz hsame
                  have hee := Nat.eq_of_beq_eq_true hee
                  have hsz := Nat.eq_of_beq_eq_true hsz
                  subst hee
                  subst hh
                  obtain ⟨r1, r2, h⟩ := room_s h
                  simp only [zek, zjf, zdg] at h
                  simp only [DV.h] at hp1
                  obtain ⟨e3, t3, l3, hj3, ev1⟩ := hp1
                  have hj3 : rw1[j]? = some (.own e3 t3 l3) := hj3
                  rw [hj] at hj3; simp only [Option.some.injEq, DR.own.injEq] at hj3
                  obtain ⟨rfl, rfl, hl3⟩ := hj3
                  cases hl3
                  subst ev1
                  simp only [env] at hrun0
                  obtain ⟨xs1, ho1, hs1⟩ := m1.row j e t2 l hj
                  have hek := zqt hft htd hfe hz (by omega)
                  have hjl := (List.getElem?_eq_some_iff.1 hj).1
                  have fin : ∀ (a' : Option Addr) (c' : Nat) (w2 : World) (xs2 : List Value), w.grownBy w2 (Value.slice (A j).1 l.length (A j).2).ownBlock → ((Value.slice a' (l.length + news.length) c').ownBlock = (Value.slice (A j).1 l.length (A j).2).ownBlock ∨ (Value.slice a' (l.length + news.length) c').ownBlock = some w.heap.size) →
                      w2.ownsRow 0 e t2.size (.slice a' (l.length + news.length) c') (l.length + news.length) xs2 → t2.hs (Us U0 B A pb1 rw1) w (l ++ news) xs2 →
                      Nxt V U0 L al B A pb rw w a K q (a.put o.dst (.slice a' (l.length + news.length) c')) w2 := by
                    intro a' c' w2 xs2 hg hat' how hsw
                    have hbl : ∀ b, (Value.slice (A j).1 l.length (A j).2).ownBlock = some b ↔ blk B A pb1 rw1 true j b := by
                      intro b
                      constructor
                      · intro hb
                        cases hA : (A j).1 with
                        | none => rw [hA] at hb; simp [Value.ownBlock] at hb
                        | some ad => rw [hA] at hb; simp only [Value.ownBlock, Option.some.injEq] at hb; exact ⟨_, ad, hj, by simp, hA, hb⟩
                      · rintro ⟨r, ad, _, _, hA, rfl⟩; rw [hA]; rfl
                    obtain ⟨m2, s2, e2⟩ := m1.putRow (al := al) (j := j) (f := oneD j .junk) (rw' := rw1.set j (.own e t2 (l ++ news))) (e := e) (t := t2) (l := l ++ news) (a := a') (c := c') (w' := w2)
                      (by rw [List.getElem?_set, if_pos rfl, if_pos hjl]) (fun k hk => by rw [List.getElem?_set, if_neg (Ne.symm hk)])
                      (fun i p hp => by
                        unfold oneD at hp
                        split at hp
                        · rename_i hb; simp only [Option.some.injEq] at hp; exact ⟨Nat.eq_of_beq_eq_true hb, hp.symm⟩
                        · cases hp)
                      (fun hn => by simp [oneD] at hn) (fun hn => by simp [oneD] at hn) (zwc hg) (fun b hb hnb => hg.block b hb fun h => hnb ((hbl b).1 h.symm))
                      (fun x hx => by
                        subst hx
                        rcases hat' with h' | h'
                        · exact .inl ((hbl _).1 h'.symm)
                        · simp only [Value.ownBlock, Option.some.injEq] at h'
                          have := (how.lt x.block rfl).2
                          exact .inr ⟨by omega, this⟩)
                      (fun U' lt => ⟨xs2, by rw [List.length_append]; exact how, DT.hs_mono lt hsw⟩)
                    refine Nxt.more e1 rfl (Nxt.ret h m2 (zdr s2 _ hts1) ?_ e2)
                    simp only [DV.h]
                    have hset : (rw1.set j (DR.own e t2 (l ++ news)))[j]? = some (.own e t2 (l ++ news)) := by rw [List.getElem?_set, if_pos rfl, if_pos hjl]
                    exact ⟨e, t2, l ++ news, hset, by show _ = Value.slice (upd A j (a', c') j).1 _ (upd A j (a', c') j).2; rw [zeb, List.length_append]⟩
                  rcases Nat.eq_zero_or_pos news.length with hn0 | hn0
                  · have hnil : news = [] := List.length_eq_zero_iff.1 hn0
                    have hrun := zme (P := P) (t := t) (ty := o.type) (n := l.length) (c := (A j).2) (c2 := c2) (a := (A j).1) (a2 := a2) hek (yjj ho1).1 w
                    refine zat (by rw [hrun0, hn0]; rw [hrun]; rfl) ?_
                    have := fin (A j).1 (A j).2 w xs1 ⟨rfl, rfl, rfl, Nat.le_refl _, fun _ _ _ => rfl⟩ (.inl (by rw [hn0]; rfl)) (by rw [hn0]; exact ho1) (by rw [hnil]; simpa using hs1)
                    rw [hn0] at this; exact this
                  · obtain ⟨ad, us, rfl, hul, hus, hcs⟩ := hs_src hp2 h0 hn0
                    obtain ⟨i, z, hi, hz', hzs1, hb, hzs⟩ := hek.info
                    obtain ⟨v', w2, hrun, ho2, hg, _, hat2⟩ := run_append_own_at (P := P) w 0 t o.type e i z te.size te.bytes hek.under hi hz' hzs1 hb hzs hek.pos (.slice (A j).1 l.length (A j).2) l.length xs1 (by rw [← hsz]; exact ho1) ad news.length c2 us (by rw [hul, hsz]) hcs
                      (fun u hu => (zhs (DT.hs_plain hus u hu)).2) (by rw [zbc]; omega) r2 (Nat.zero_le _)
                    obtain ⟨a', c', rfl⟩ : ∃ a' c', v' = .slice a' (l.length + news.length) c' := by
                      rcases ho2.2 with ⟨rfl, h'⟩ | ⟨g, cap, cur, rfl, _⟩
                      · exact ⟨none, 0, by rw [h']⟩
                      · exact ⟨_, _, rfl⟩
                    exact zat (by rw [hrun0, hrun]; rfl) (fin a' c' w2 _ hg hat2 (by rw [hsz]; exact ho2) (DT.hs_app hs1 hus))
                · cases h
              · cases h
            · rename_i h0
              have h0 := Nat.le_of_ble_eq_true h0
              split at h
              · rename_i hsz
                have hsz := Nat.eq_of_beq_eq_true hsz
                obtain ⟨r1, r2, h⟩ := room_s h
                simp only [DV.h] at hp1
                subst hp1
                have hek := zqt hft htd hfe hz (by omega)
                rcases Nat.eq_zero_or_pos news.length with hn0 | hn0
                · have hnil : news = [] := List.length_eq_zero_iff.1 hn0
                  have hrun := zme (P := P) (t := t) (ty := o.type) (n := 0) (c := 0) (c2 := c2) (a := none) (a2 := a2) hek (Nat.le_refl _) w
                  rw [hn0] at hrun0
                  rw [hrun] at hrun0
                  subst hnil
                  have := zoe (P := P) (Q := Q) (al := al) (e := e) (t := t2) (l := []) (a' := none) (c := 0) (xs := []) m1 hts1 (w' := w) hrun0 ⟨rfl, rfl, rfl, Nat.le_refl _⟩ (fun _ _ => rfl) (fun x hx => by cases hx) (World.ownsRow_nil w 0 e t2.size) DT.hs_nil h
                  exact zno this fun a' w' hn => Nxt.more e1 rfl hn
                · obtain ⟨ad, us, rfl, hul, hus, hcs⟩ := hs_src hp2 h0 hn0
                  obtain ⟨i, z, hi, hz', hzs1, hb, hzs⟩ := hek.info
                  obtain ⟨v', w2, hrun, ho2, hg, _, hat2⟩ := run_append_own_at (P := P) w 0 t o.type e i z te.size te.bytes hek.under hi hz' hzs1 hb hzs hek.pos (.slice none 0 0) 0 [] (World.ownsRow_nil w 0 e te.size) ad news.length c2 us (by rw [hul, hsz]) hcs
                    (fun u hu => (zhs (DT.hs_plain hus u hu)).2) (by rw [zbc]; omega) (by rw [Nat.zero_add]; exact r2) (Nat.zero_le _)
                  obtain ⟨a', c', rfl⟩ : ∃ a' c', v' = .slice a' (0 + news.length) c' := by
                    rcases ho2.2 with ⟨rfl, h'⟩ | ⟨g, cap, cur, rfl, _⟩
                    · exact ⟨none, 0, by rw [h']⟩
                    · exact ⟨_, _, rfl⟩
                  rw [Nat.zero_add] at hrun ho2 hat2
                  rw [hrun] at hrun0
                  have := zoe (P := P) (Q := Q) (al := al) (e := e) (t := t2) (l := news) (a' := a') (c := c') (xs := us) m1 hts1 (w' := w2) hrun0 (zwc hg) (fun b hb => hg.block b hb (by simp [Value.ownBlock])) (fun x hx => by
                    subst hx
                    have := (ho2.lt x.block rfl).2
                    rcases hat2 with h' | h'
                    · simp [Value.ownBlock] at h'
                    · simp only [Value.ownBlock, Option.some.injEq] at h'; omega) (by rw [hsz]; simpa using ho2) hus h
                  exact zno this fun a' w' hn => Nxt.more e1 rfl hn
              · cases h
            · cases h
          · cases h
        · cases h
      · cases h
    · cases h
  · cases h
end
end Go.Vc

namespace Go.Vc
open Go Go.RowKit
theorem bndF_s{β:Type}{q:β}{i:Int}{n:Nat}{K:Nat→Option β}(h:bndF i n K=some q):0≤i∧i≤(n:Int)∧K i.toNat=some q:=bnd_s (by change bndF i n K=_; exact h)
theorem zso(g o:Nat):∀(vs:List Value) (i:Nat) (w:World),w.setCells g (o+i) vs=setCells w ⟨g,o,none⟩ i vs
 |[],_,_=>rfl
 |v::vs,i,w=>by simp only[World.setCells,setCells,zja]; rw[←zso g o vs (i+1),Nat.add_assoc]
theorem hv_of{U:Nat→Prop}{w:World}{t:DT}{zero:List Value}{z:t.den}(h:t.of (constV zero)=some (z,[])):t.h U w z zero:=by
 obtain⟨us,us',e,h1,h2⟩:=t.of_h (E:=⟨U,w,fun _=>0,fun _=>(none,0),[],[]⟩) h (zub zero)
 simp only[hL]at h2; subst h2
 rw[List.append_nil]at e; subst e
 exact h1
theorem ofVs_hs{E:Env}{t:DT}(h0:0<t.size):∀{ps:List (Nat×DV)} {n:Nat} {l:List t.den} {vs:List Value},ofVs t ps n=some l→hL E (ps.map (·.2)) vs→
  t.hs E.U E.w l (vs.flatMap (·.cells.toList))∧(∀v∈vs,v.cells.size=t.size)∧(List.zip (ps.map (·.1)) vs)=enumP n vs∧l.length=vs.length
 |[],n,l,vs,h,hv=>by simp[ofVs]at h; subst h; simp only[List.map_nil,hL]at hv; subst hv; exact⟨by simpa using DT.hs_nil,by simp,rfl,rfl⟩
 |(i,p)::ps,n,l,vs,h,hv=>by
  simp only[ofVs]at h
  split at h
  ·rename_i x hi hx
   have hi:=Nat.eq_of_beq_eq_true hi
   subst hi
   split at h
   ·rename_i l' hl'
    simp only[Option.some.injEq]at h; subst h
    simp only[List.map_cons,hL]at hv
    obtain⟨v,vs',rfl,h1,h2⟩:=hv
    obtain⟨g1,g2,g3,g4⟩:=ofVs_hs h0 hl' h2
    have hc:=DT.hv_cells (DT.ofV_h hx h1) h0
    refine⟨?_,?_,?_,by simp[g4]⟩
    ·simp only[List.flatMap_cons]; exact DT.hs_app (DT.hs_one hc) g1
    ·intro u hu
     rcases List.mem_cons.1 hu with rfl|hu
     ·have:=t.h_len hc; simpa using this
     ·exact g2 u hu
    ·simp only[List.map_cons,List.zip_cons_cons,enumP,g3]
   ·cases h
  ·cases h
theorem rezip_s:∀{ps:List (Nat×DV)} {qs:List DV},qs.length=ps.length→(rezipD ps qs).map (·.2)=qs∧(rezipD ps qs).map (·.1)=ps.map (·.1)
 |[],[],_=>⟨rfl,rfl⟩
 |[],_::_,h=>by simp at h
 |_::_,[],h=>by simp at h
 |(i,p)::ps,q::qs,h=>by
  obtain⟨h1,h2⟩:=rezip_s (ps:=ps) (qs:=qs) (by simpa using h)
  simp[rezipD,h1,h2]
theorem snds_s:∀(ps:List (Nat×DV)),sndsD ps=ps.map (·.2)
 |[]=>rfl
 |(_,p)::ps=>by simp[sndsD,snds_s ps]
section
variable {P:Program} {T:List TI} {V:World} {U0 L:Nat→Prop} {al:Nat→Bool} {B:Nat→Nat} {A:Asg} {ts:List DV} {pb:DBs} {rw:List DR} {a:Act} {w w':World} {β:Type} {q:β} {o:Oper} {K:DK β} {Q:Exit→Act→World→Prop} {C:ESs} {av:List (Nat×Nat)}
theorem zts{ts1:List DV}{pb1:DBs}{rw1:List DR}(h:PureOk P (env U0 B A pb1 rw1 w) a o (fun y=>retE o.dst y ts1 pb1 rw1 K) q)(m1:Mem V U0 L B A pb1 rw1 w)(hts:hL (env U0 B A pb1 rw1 w) ts1 a.tmps.toList)(e:Ext al B A pb rw w B A pb1 rw1 w):o.wp P a w (Nxt V U0 L al B A pb rw w a K q) Q:=by
 obtain⟨r,v,h1,h2,h3⟩:=h
 exact zat (h3 w) (Nxt.ret h1 m1 hts h2 e)
theorem op_slice{t:TypeId}{x:Operand}{lo hi mx:Option Operand}(hT:zas P T)(ho:o.op=.slice t x lo hi mx)(h:evOp stdW T C al av o ts pb rw K=some q)(m:Mem V U0 L B A pb rw w)(hts:hL (env U0 B A pb rw w) ts a.tmps.toList):o.wp P a w (Nxt V U0 L al B A pb rw w a K q) Q:=by
 simp only[evOp,ho]at h
 split at h
 ·obtain⟨ts1,pb1,rw1,ps,h,m1,hts1,_,e1,_⟩:=frzE_s (al:=al) _ h m hts (ps:=[]) (us:=[]) (by simp[hL])
  exact zts (zzw hT ho hts1 rfl m1.rowsA h) m1 hts1 e1
 ·cases h
theorem run_strOf{E:Env}{ns:List Int}{a:Option Addr}{c:Nat}(h:(DT.slc (.int .u8)).h E.U E.w ns [.slice a ns.length c])(w:World)(hw:w=E.w):(Conv.bytesToString (.slice a ns.length c)).run P w=.ok (.string (strOf ns)) w:=by
 subst hw
 rcases Nat.eq_zero_or_pos ns.length with h0|h0
 ·have:ns=[]:=List.length_eq_zero_iff.1 h0
  subst this
  obtain⟨a',c',e,_⟩:=h
  cases a with
  |none=>simp[Conv.bytesToString,Sem.run_pure,strOf]
  |some ad=>exact run_bytesToString E.w ad 0 c [] (by simpa using run_loadCells_list (P:=P) E.w ad [] (by simp))
 ·obtain⟨ad,us,rfl,hl,hs,hc⟩:=hs_src h (by decide) h0
  refine run_bytesToString E.w ad ns.length c ns ?_
  have:=run_loadCells_list (P:=P) E.w ad (ns.map (Value.int .u8)) (fun j v hv=>by
   rw[List.getElem?_map]at hv
   cases hn:ns[j]? with
   |none=>rw[hn]at hv; cases hv
   |some n=>
    rw[hn]at hv; simp only[Option.map_some,Option.some.injEq]at hv; subst hv
    have:=hs.2 j n hn
    have h1:(us.drop (j*1)).take 1=[.int .u8 n]:=this
    refine hc j _ ?_
    have h2:=congrArg (fun l:List Value=>l[0]?) h1
    simpa[List.getElem?_take,List.getElem?_drop]using h2)
  rwa [List.length_map]at this
theorem op_convert{s d:TypeId}{x:Operand}(hT:zas P T)(ho:o.op=.convert s d x)(h:evOp stdW T C al av o ts pb rw K=some q)(m:Mem V U0 L B A pb rw w)(hts:hL (env U0 B A pb rw w) ts a.tmps.toList):o.wp P a w (Nxt V U0 L al B A pb rw w a K q) Q:=by
 simp only[evOp,ho]at h
 split at h
 ·rename_i str hb
  simp only[bytesQ,ho]at hb
  split at hb
  ·rename_i l hx
   split at hb
   ·rename_i e hs hd
    split at hb
    ·rename_i he
     simp only[Option.some.injEq]at hb; subst hb
     have hp:=opV_h hx hts
     simp only[DV.h]at hp
     obtain⟨aa,c,ev,_⟩:=id hp
     simp only[List.cons.injEq,and_true]at ev
     rw[ev]at hp
     obtain⟨ti1,f1,d1⟩:=tdV_f hT hs
     obtain⟨ti2,f2,d2⟩:=tdV_f hT hd
     obtain⟨ti3,f3,d3⟩:=tdV_f hT he
     refine zat (v:=.string (strOf l)) ?_ (Nxt.ret h m hts (by simp only[DV.h]) Ext.refl)
     have hr:(execOp a.eval o).run P w=((convert s d (a.eval x)).run P w).andThen fun v w'=>.ok (.value v) w':=by
      simp only[execOp,ho,Sem.run_bind,Sem.run_pure]
     rw[hr,ev,run_convert_bytes_string w s d e aa l.length c (zhj f1 d1) (td_int f3 d3) (zkb f2 d2),run_strOf hp w rfl]
     rfl
    ·cases hb
   ·cases hb
  ·cases hb
 ·exact zts (zzw hT ho hts rfl m.rowsA h) m hts Ext.refl
theorem op_index{t:TypeId}{x ix:Operand}(hT:zas P T)(ho:o.op=.index t x ix)(h:evOp stdW T C al av o ts pb rw K=some q)(m:Mem V U0 L B A pb rw w)(hts:hL (env U0 B A pb rw w) ts a.tmps.toList):o.wp P a w (Nxt V U0 L al B A pb rw w a K q) Q:=by
 simp only[evOp,ho]at h
 split at h
 ·rename_i s k i hx hi ht
  have hp:=opV_h hx hts
  have hq:=opV_h hi hts
  simp only[DV.h]at hp hq
  obtain⟨ti,hf,htd⟩:=tdV_f hT ht
  change sidxF s i _=_ at h
  unfold sidxF at h
  rcases bif_s h with ⟨h0,h⟩|⟨_,h⟩
  ·have h0:0≤i:=by simpa using h0
   split at h
   ·rename_i b hb
    refine zat (v:=.int .u8 b.toNat) ?_ (Nxt.ret h m hts (by simp only[DV.h]) Ext.refl)
    have hr:(execOp a.eval o).run P w=((Instr.index t (a.eval x) (a.eval ix)).run P w).andThen fun v w'=>.ok (.value v) w':=by
     simp only[execOp,ho,Sem.run_bind,Sem.run_pure]
    rw[hr,hp,hq]
    simp[Instr.index,asIntOf,run_underlying (zkb hf htd),h0,hb]
   ·cases h
  ·cases h
 ·cases h
theorem yae{t:TypeId}{len:Nat}{parts:Array (Nat×Operand)}(hT:zas P T)(ho:o.op=.buildSlice t len parts)(h:evOp stdW T C al av o ts pb rw K=some q)(m:Mem V U0 L B A pb rw w)(hts:hL (env U0 B A pb rw w) ts a.tmps.toList):o.wp P a w (Nxt V U0 L al B A pb rw w a K q) Q:=by
 simp only[evOp,ho]at h
 split at h
 ·rename_i ps hps
  obtain⟨hp1,hp2⟩:=yac hps hts
  rw[snds_s]at h
  obtain⟨ts1,pb1,rw1,qs,h,m1,hts1,hqs,e1,_⟩:=frzE_s (al:=al) _ h m hts hp1
  split at h
  ·rename_i e htd
   obtain⟨ti,hft,htd⟩:=tdV_f hT htd
   split at h
   ·rename_i te te' hte _
    have hfe:=tiV_f hT hte
    split at h
    ·rename_i l hl
     split at h
     ·rename_i hsz hlen h1 hbd hz
      have hsz:=Nat.eq_of_beq_eq_true hsz
      have hlen:=Nat.eq_of_beq_eq_true hlen
      have h1:=Nat.le_of_ble_eq_true h1
      have hbd:=Nat.le_of_ble_eq_true hbd
      have hek:=zqt hft htd hfe hz h1
      obtain⟨i,z,hi,hzz,hs1,hby,hzs⟩:=hek.info
      generalize hvs:parts.toList.map (fun p=>a.eval p.2)=vs at hqs
      have hql:qs.length=ps.length:=by
       have g1:=hL_len hqs; have g2:=hL_len hp1
       rw[hvs]at g2; simp only[List.length_map]at g2; omega
      obtain⟨r1,r2⟩:=rezip_s hql
      obtain⟨g1,g2,g3,g4⟩:=ofVs_hs (E:=env U0 B A pb1 rw1 w) (by omega) hl (by rw[r1]; exact hqs)
      rw[r2,hp2]at g3
      have hps':parts.toList.map (fun p=>(p.1,a.eval p.2))=enumP 0 vs:=by
       rw[←g3,←hvs]
       clear hps hp1 hp2 g3 hvs
       induction parts.toList with
       |nil=>rfl
       |cons p l ih=>simp[ih]
      have hr:(execOp a.eval o).run P w=((Instr.buildSlice t len (enumP 0 vs).toArray).run P w).andThen fun v w'=>.ok (.value v) w':=by
       simp only[execOp,ho,Sem.run_bind,Sem.run_pure]
       congr 3
       rw[←hps']
       apply Array.ext'
       simp
      have hvl:vs.length=len:=by omega
      have hrun:(Instr.buildSlice t len (enumP 0 vs).toArray).run P w=.ok (.slice (some ⟨w.heap.size,0,none⟩) len len) (w.alloc (.cells (vs.flatMap (·.cells.toList)).toArray e)):=by
       rcases Nat.eq_zero_or_pos len with h0|k2
       ·have hz0:vs=[]:=List.length_eq_zero_iff.1 (by omega)
        subst hz0
        rw[h0]
        simp[Instr.buildSlice,run_underlying hek.under,sizeOf,typeInfo,hi,newRow,Instr.fill,enumP]
        have e0:∀f:Nat→Value,Array.map f (Array.range 0) = #[]:=fun f=>Array.ext' (by simp)
        rw[e0]
       ·refine run_buildSlice w t e len _ (vs.flatMap (·.cells.toList)).toArray i z hek.under hi hzz (by rw[hs1]; simp; omega) (by rw[hs1]; have:=Nat.mul_pos k2 h1; omega) ?_
        rw[hs1]
        have hz0:((Array.range (len*te.size)).map (z.cells[· % z.cells.size]!))=([]++((List.range (len*te.size)).map (z.cells[· % z.cells.size]!))).toArray:=by
         apply Array.ext'; simp
        rw[hz0,ykm te.size _ 0 [] _ (by simp) (by simp[hvl]) (fun v hv=>by rw[g2 v hv,hsz])]
        simp
      have g1:te'.hs (Us U0 B A pb1 rw1) w l (vs.flatMap fun v=>v.cells.toList):=g1
      have hxl:(vs.flatMap (·.cells.toList)).length=len*te.size:=by have:=g1.1; rw[hsz]at this; rw[this]; congr 1; omega
      rw[hrun]at hr
      have hm:len≤maxLen:=by
       have:len*1≤len*te.size:=Nat.mul_le_mul_left _ h1
       rw[zbc]; omega
      rw[hlen]at hr hm hxl
      have:=zoe (P:=P) (Q:=Q) (al:=al) (e:=e) (t:=te') (l:=l) (a':=some ⟨w.heap.size,0,none⟩) (c:=l.length) (xs:=vs.flatMap (·.cells.toList)) m1 hts1 (w':=w.alloc (.cells (vs.flatMap (·.cells.toList)).toArray e)) hr (zpq _) (fun b hb=>heap_alloc_old w _ hb)
       (fun x hx=>by simp only[Option.some.injEq]at hx; subst hx; simp)
       ⟨g1.1,.inr ⟨w.heap.size,l.length,_,rfl,Nat.zero_le _,heap_alloc_new w _,Nat.le_refl _,hm,by rw[hsz]; simpa using hxl,by rw[hsz]; exact List.take_of_length_le (by simpa using Nat.le_of_eq hxl)⟩⟩ g1 h
      exact zno this fun a' w' hn=>Nxt.more e1 rfl hn
     ·cases h
    ·cases h
   ·cases h
  ·cases h
 ·cases h
theorem ydl{t:TypeId}{ol oc:Operand}(hT:zas P T)(ho:o.op=.makeSlice t ol oc)(h:evOp stdW T C al av o ts pb rw K=some q)(m:Mem V U0 L B A pb rw w)(hts:hL (env U0 B A pb rw w) ts a.tmps.toList):o.wp P a w (Nxt V U0 L al B A pb rw w a K q) Q:=by
 simp only[evOp,ho]at h
 split at h
 ·rename_i k1 n k2 c e hl hc htd
  have hl:=opV_h hl hts
  have hc:=opV_h hc hts
  simp only[DV.h]at hl hc
  obtain⟨ti,hft,htd⟩:=tdV_f hT htd
  split at h
  ·rename_i te te' hte _
   have hfe:=tiV_f hT hte
   split at h
   ·rename_i z hsz h1 hz hof
    have hsz:=Nat.eq_of_beq_eq_true hsz
    have h1:=Nat.le_of_ble_eq_true h1
    have hek:=zqt hft htd hfe hz h1
    obtain⟨i,zv,hi,hzz,hs1,hby,hzs⟩:=hek.info
    have hzero:te.zero=zv.cells.toList:=by
     obtain⟨d,i',g1,g2,g3,g4,g5,g6,g7,g8⟩:=hfe.ex
     rw[hi]at g2; obtain rfl:=Option.some.inj g2
     rw[g7,hzz]
    have key:∀(n':Nat),0≤c→(n:Int)=n'→(n':Int)≤c→c.toNat≤281474976710656→c.toNat*te.bytes≤140737488355328→
      (pushE rw (.own e te' (List.replicate n' z)) fun rw'=>litE rw.length fun n=>retE o.dst (.row n) ts pb rw' K)=some q→o.wp P a w (Nxt V U0 L al B A pb rw w a K q) Q:=by
     intro n' h0 hn hnc hm1 hm2 h
     have hm:c.toNat≤maxLen:=by rw[zbc]; omega
     have hb1:(i.bytes:Int)*c≤281474976710656:=by
      rw[hby]
      have e1:((te.bytes:Int))*c=((c.toNat*te.bytes:Nat):Int):=by rw[Int.natCast_mul,Int.toNat_of_nonneg (by omega),Int.mul_comm]
      rw[e1]; omega
     have hrun:=run_make (P:=P) w t e i zv hek.under hi hzz k1 k2 n c (by omega) (by omega) hb1 (by rw[zbc]at hm; omega)
     have hr:(execOp a.eval o).run P w=((Instr.makeSlice t (a.eval ol) (a.eval oc)).run P w).andThen fun v w'=>.ok (.value v) w':=by
      simp only[execOp,ho,Sem.run_bind,Sem.run_pure]
     rw[hl,hc,hrun,hs1]at hr
     have hn':n.toNat=n':=by omega
     rw[hn']at hr
     have hrl:(List.replicate n' z).length=n':=List.length_replicate
     have hzh:te'.h (Us U0 B A pb rw) w z zv.cells.toList:=by rw[←hzero]; exact hv_of hof
     refine zoe (P:=P) (Q:=Q) (al:=al) (e:=e) (t:=te') (l:=List.replicate n' z) (a':=some ⟨w.heap.size,0,none⟩) (c:=c.toNat) (xs:=(List.replicate n' zv.cells.toList).flatten) m hts (w':=w.alloc (.cells (madeCells zv.cells (c.toNat*te.size)) e)) (by rw[hrl]; exact hr) (zpq _) (fun b hb=>heap_alloc_old w _ hb)
      (fun x hx=>by simp only[Option.some.injEq]at hx; subst hx; simp) ?_ (DT.hs_repl hzh n') h
     rw[hrl]
     refine⟨by rw[zto,Array.length_toList,hzs,hsz],.inr ⟨w.heap.size,c.toNat,_,rfl,Nat.zero_le _,heap_alloc_new w _,by omega,hm,by rw[size_madeCells,hsz],?_⟩⟩
     rw[hsz]
     exact ydn hzs (by omega)
    split at h
    ·split at h
     ·obtain⟨h0,h⟩:=nn_s h
      obtain⟨r1,r2,h⟩:=room_s h
      exact key 0 h0 rfl h0 r1 r2 h
     ·cases h
    ·obtain⟨h0,h⟩:=nn_s h
     obtain⟨r1,r2,h⟩:=room_s h
     obtain⟨b1,b2,h⟩:=bndF_s h
     exact key n.toNat h0 (by omega) (by omega) r1 r2 h
   ·cases h
  ·cases h
 ·cases h
theorem op_clear{c:Call}{xs:List DV}(hT:zas P T)(ho:o.op=.call c)(hcal:c.callee=.builtin .clear)(hxs:hL (env U0 B A pb rw w) xs (c.args.toList.map a.eval))(h:evOp stdW T C al av o ts pb rw K=some q)(hops:opsV ts c.args.toList=some xs)
  (m:Mem V U0 L B A pb rw w) (hts:hL (env U0 B A pb rw w) ts a.tmps.toList):o.wp P a w (Nxt V U0 L al B A pb rw w a K q) Q:=by
 simp only[evOp,ho,hcal,hops]at h
 split at h
 ·rename_i j i t hat
  split at h
  ·rename_i e htd
   obtain⟨ti,hft,htd⟩:=tdV_f hT htd
   split at h
   ·rename_i te e2 t' l hte hj
    have hfe:=tiV_f hT hte
    rw[zbm]at hj
    split at h
    ·rename_i z hee hsz hz h1 hof
     have hee:=Nat.eq_of_beq_eq_true hee
     subst hee
     have hsz:=Nat.eq_of_beq_eq_true hsz
     have h1:=Nat.le_of_ble_eq_true h1
     have hek:=zqt hft htd hfe hz h1
     obtain⟨i',zv,hi2,hzz,hs1,hby,hzs⟩:=hek.info
     have hzero:te.zero=zv.cells.toList:=by
      obtain⟨d,i',g1,g2,g3,g4,g5,g6,g7,g8⟩:=hfe.ex
      rw[hi2]at g2; obtain rfl:=Option.some.inj g2
      rw[g7,hzz]
     obtain⟨b1,b2,h⟩:=bndF_s h
     rw[zdg]at h
     have hin:(Int.ofNat i).toNat=i:=rfl
     rw[hin]at h
     have hil:i≤l.length:=by omega
     have hat2:c.argTypes = #[t]:=Array.ext' (by simpa using hat)
     simp only[hL,DV.h]at hxs
     obtain⟨v,_,ea,⟨e3,t3,l3,hj3,_,ev⟩,rfl⟩:=hxs
     have hj3:rw[j]?=some (.own e3 t3 l3):=hj3
     rw[hj]at hj3; simp only[Option.some.injEq,DR.own.injEq]at hj3
     obtain⟨rfl,rfl,hl3⟩:=hj3
     cases hl3
     have hr:(execOp a.eval o).run P w=((Builtin.clear_ #[t] o.type #[v]).run P w).andThen fun v w'=>.ok (.value v) w':=by
      rw[bi_run ho hcal,hat2,ea]; simp only[builtin,Sem.run_bind,Sem.run_pure]
     change v=Value.slice (if (A j).2=i then (A j).1 else (A j).1.map (·.add (i*t'.size))) (l.length - i) ((A j).2 - i) at ev
     subst ev
     obtain⟨xs1,ho1,hs1'⟩:=m.row j e t' l hj
     have hzh:t'.h (Us U0 B A pb rw) w z zv.cells.toList:=by rw[←hzero]; exact hv_of hof
     have hjl:=(List.getElem?_eq_some_iff.1 hj).1
     rcases Nat.lt_or_ge i l.length with hlt|hge
     ·cases hA:(A j).1 with
      |none=>
       rw[hA]at ho1
       rcases ho1.2 with ⟨_,h'⟩|⟨_,_,_,h',_⟩
       ·omega
       ·simp at h'
      |some ad=>
       rw[hA]at ho1
       obtain⟨g,cur,rfl,hg,hn,hcm,hcs,htk,hcell⟩:=zrv ho1
       rw[hA,if_neg (by omega)]at hr
       simp only[Option.map_some,zja,Nat.zero_add]at hr
       have hvl:(Builtin.zeroCells zv.cells (l.length - i)).toList=(List.replicate (l.length - i) zv.cells.toList).flatten:=zero_flat hzs
       have hfl:((List.replicate (l.length - i) zv.cells.toList).flatten).length=(l.length - i)*t'.size:=by rw[zto,show zv.cells.toList.length=t'.size from(Array.length_toList).trans (hzs.trans hsz.symm)]
       have hik:i*t'.size+(l.length - i)*t'.size=l.length*t'.size:=by rw[←Nat.add_mul]; congr 1; omega
       have hlc:l.length*t'.size≤(A j).2*t'.size:=Nat.mul_le_mul_right _ hn
       have h1c:∀v∈(List.replicate (l.length - i) zv.cells.toList).flatten,plainC v=true:=fun v hv=>by
        obtain⟨l',hl',hu⟩:=List.mem_flatten.1 hv
        rw[(List.mem_replicate.1 hl').2]at hu
        exact t'.h_one hzh v hu
       have hg':w.heap[g]?=some (.cells cur.toList.toArray e (0,0)):=by simpa using hg
       have hcl:cur.toList.length=cur.size:=Array.length_toList
       have hrun:=zzf (P:=P) w t e o.type zv hek.under (zjs hi2 hzz) g (i*te.size) (l.length - i) ((A j).2 - i) (by omega) (fun k hk=>by
         rw[hvl,hfl]at hk
         rw[zma hg',←hsz,List.getElem?_eq_getElem (by omega)]
         rfl) (fun k _=>znd hg' _) (fun v hv=>by rw[hvl]at hv; exact(zhs (h1c v hv)).2)
       rw[hsz,hrun,hvl,←hsz]at hr
       generalize hzs':(List.replicate (l.length - i) zv.cells.toList).flatten=zz at*
       have hst:=zlk (P:=P) hg' (cs:=zz) (off:=i*t'.size) (fun v hv=>(zhs (h1c v hv)).1) (by omega)
       have hw:w.setCells g (i*t'.size) zz=setCells w ⟨g,i*t'.size,none⟩ 0 zz:=by
        have:=zso g (i*t'.size) zz 0 w
        rwa [Nat.add_zero]at this
       rw[hw]at hr
       obtain⟨m2,s2,e2⟩:=m.putRow (al:=al) (j:=j) (f:=noF) (rw':=rw.set j (.own e t' (l.take i++List.replicate (l.length - i) z))) (e:=e) (t:=t') (l:=l.take i++List.replicate (l.length - i) z) (a:=(A j).1) (c:=(A j).2) (w':=setCells w ⟨g,i*t'.size,none⟩ 0 zz)
        (by rw[List.getElem?_set,if_pos rfl,if_pos hjl]) (fun k hk=>by rw[List.getElem?_set,if_neg (Ne.symm hk)]) (fun _ _ h=>by cases h)
        (fun _ e4 t4 l4 h4=>by
         rw[hj]at h4; simp only[Option.some.injEq,DR.own.injEq]at h4
         obtain⟨rfl,rfl,h4⟩:=h4
         cases h4
         exact⟨_,by rw[List.getElem?_set,if_pos rfl,if_pos hjl],by simp; omega,rfl⟩)
        (fun _ d h4=>by rw[hj]at h4; cases h4) (zjr _ _ _)
        (fun b hb hnb=>zif ⟨g,i*t'.size,none⟩ b (fun he=>hnb ⟨_,⟨g,0,none⟩,hj,by simp,hA,he.symm⟩) _ _ _)
        (fun x hx=>.inl ⟨_,x,hj,by simp,hx,rfl⟩)
        (fun U' lt=>by
         have hlen:(l.take i++List.replicate (l.length - i) z).length=l.length:=by simp; omega
         have hxl:=hs1'.1
         refine⟨xs1.take (i*t'.size)++zz,⟨?_,?_⟩,?_⟩
         ·rw[hlen]; simp; omega
         ·refine .inr ⟨g,(A j).2,(wr cur.toList (i*t'.size) zz).toArray,by rw[hA],Nat.zero_le _,hst.2,by rw[hlen]; exact hn,hcm,by rw[List.size_toArray,zmg,hcl,hcs],?_⟩
          rw[hlen,←htk]
          apply List.ext_getElem?; intro k
          rw[List.getElem?_take]
          by_cases hk:k<l.length*t'.size
          ·rw[if_pos hk,List.toList_toArray,wr_get _ _ _ _ (by omega)]
           by_cases hk2:i*t'.size≤k
           ·rw[if_pos (by omega),List.getElem?_append_right (by simp; omega)]
            congr 1; simp; omega
           ·rw[if_neg (by omega),List.getElem?_append_left (by simp; omega),List.getElem?_take,if_pos (by omega),List.getElem?_take,if_pos (by omega)]
          ·rw[if_neg hk,List.getElem?_eq_none (by simp; omega)]
         ·refine DT.hs_app (DT.hs_take (DT.hs_mono lt hs1') hil) ?_
          have:=DT.hs_repl (t'.mono lt hzh) (l.length - i)
          rwa [hzs']at this)
       rw[show upd A j ((A j).1,(A j).2)=A from zuf A j]at m2 s2 e2
       rw[ztk]at m2 s2 e2
       exact zat hr (Nxt.ret h m2 (noSub s2 hts) (by simp only[DV.h]) e2)
     ·have hie:i=l.length:=by omega
      have hl0:l.length - i=0:=by omega
      have e0:l.take i++List.replicate (l.length - i) z=l:=by rw[hl0,hie,List.take_length]; simp
      have e1:rw.set j (.own e t' l)=rw:=by
       apply List.ext_getElem?
       intro k
       rw[List.getElem?_set]
       split
       ·rename_i hk; subst hk; first|exact hj.symm|rw[if_pos hjl,hj]
       ·rfl
      rw[e0,e1]at h
      rw[hl0,zxg w t e o.type hek.under]at hr
      exact zat hr (Nxt.ret h m hts (by simp only[DV.h]) Ext.refl)
    ·cases h
   ·cases h
  ·cases h
 ·cases h
end
end Go.Vc

namespace Go.Vc
open Go Go.RowKit Go.ChangeMaps
section
variable {P:Program} {T:List TI} {V:World} {U0 L:Nat→Prop} {al:Nat→Bool} {B:Nat→Nat} {A:Asg} {ts:List DV} {pb:DBs} {rw:List DR} {a:Act} {w w':World} {β:Type} {q:β} {o:Oper} {K:DK β} {Q:Exit→Act→World→Prop} {C:ESs} {av:List (Nat×Nat)}
theorem Mem.putObj(m:Mem V U0 L B A pb rw w){j:Nat}{rw':List DR}{d:OD}{ob:Obj}{b:Nat}(hj:rw'[j]?=some (.obj d))(hi:∀i,i≠j→rw'[i]?=rw[i]?)
  (hold:((rw[j]?=none)∧w.heap.size≤b∧b<w'.heap.size)∨∃d0,rw[j]?=some (.obj d0)∧d.isM=d0.isM∧(A j).1=some ⟨b,0,none⟩∧b<w'.heap.size)
  (hr:w'.os=w.os∧w'.tape=w.tape∧w'.output=w.output∧w.heap.size≤w'.heap.size) (hk:∀c,c<w.heap.size→c≠b→w'.heap[c]?=w.heap[c]?) (hw:w'.heap[b]?=some ob)
  (hd:∀U',Later (Us U0 B A pb rw) U' w w'→d.h U' w' ob):
  Mem V U0 L B (upd A j (some ⟨b,0,none⟩,(A j).2)) pb rw' w'∧Sub noF (env U0 B A pb rw w) (env U0 B (upd A j (some ⟨b,0,none⟩,(A j).2)) pb rw' w')∧Ext al B A pb rw w B (upd A j (some ⟨b,0,none⟩,(A j).2)) pb rw' w':=by
 have hb:∀k i c,blk B (upd A j (some ⟨b,0,none⟩,(A j).2)) pb rw' k i c→(¬(k=true∧i=j)∧blk B A pb rw k i c)∨(k=true∧i=j∧c=b):=by
  intro k i c h
  cases k with
  |false=>exact .inl ⟨by simp,h⟩
  |true=>
   obtain⟨r,ad,h1,h2,h3,h4⟩:=h
   by_cases hij:i=j
   ·subst hij; rw[zeb]at h3; simp only[Option.some.injEq]at h3; subst h3; exact .inr ⟨rfl,rfl,h4.symm⟩
   ·rw[upd_ne _ _ hij]at h3; rw[hi i hij]at h1; exact .inl ⟨by simp[hij],r,ad,h1,h2,h3,h4⟩
 have hown:∀k i,blk B A pb rw k i b→k=true∧i=j:=by
  intro k i h
  rcases hold with ⟨_,h1,_⟩|⟨d0,h1,_,h2,_⟩
  ·have:=(m.low k i b h).1; omega
  ·exact m.inj _ _ _ _ _ h ⟨_,_,h1,by simp,h2,rfl⟩
 have hl:∀k i c,blk B A pb rw k i c→¬(k=true∧i=j)→w'.heap[c]?=w.heap[c]?:=fun k i c h hne=>hk c (m.low k i c h).1 (by rintro rfl; exact hne (hown k i h))
 refine m.step noF hr (fun c hc hn=>hk c hc ?_) (fun k i c h=>?_) (fun k i k' i' c h h'=>?_) (fun i h=>⟨h,rfl⟩) (fun i e t l _ h=>?_) (fun i d1 _ h=>?_) (fun _ i q e t l h=>by cases h) (fun _ i q d ad h=>by cases h)
  (fun s i b' h=>.inl ⟨b',h,rfl,by rw[zfi],id,hl false i _ ⟨⟨_,h⟩,rfl⟩ (by simp)⟩) (fun _ i e t l h=>?_) fun lt i d1 h=>?_
 ·rintro rfl
  rcases hold with ⟨_,h1,_⟩|⟨d0,h1,_,h2,_⟩
  ·omega
  ·exact hn (.inr ⟨j,_,_,h1,by simp,h2,rfl⟩)
 ·rcases hb k i c h with ⟨_,h⟩|⟨rfl,rfl,rfl⟩
  ·exact .inl h
  ·rcases hold with ⟨_,h1,h2⟩|⟨d0,h1,_,h2,_⟩
   ·exact .inr ⟨h1,h2⟩
   ·exact .inl ⟨_,_,h1,by simp,h2,rfl⟩
 ·rcases hb k i c h with ⟨hn,g⟩|⟨rfl,rfl,rfl⟩
  ·rcases hb k' i' c h' with ⟨_,g'⟩|⟨rfl,rfl,rfl⟩
   ·exact m.inj _ _ _ _ _ g g'
   ·exact absurd (hown k i g) hn
  ·rcases hb k' i' _ h' with ⟨hn,g⟩|⟨rfl,rfl,_⟩
   ·exact absurd (hown k' i' g) hn
   ·exact⟨rfl,rfl⟩
 ·have hij:i≠j:=by
   rintro rfl
   rcases hold with ⟨h1,_⟩|⟨d0,h1,_⟩
   ·rw[h1]at h; cases h
   ·rw[h1]at h; cases h
  exact⟨l,by show rw'[i]?=_; rw[hi i hij]; exact h,rfl,upd_ne _ _ hij⟩
 ·by_cases hij:i=j
  ·subst hij
   rcases hold with ⟨h1,_⟩|⟨d0,h1,hm,h2,_⟩
   ·rw[h1]at h; cases h
   ·rw[h1]at h; simp only[Option.some.injEq,DR.obj.injEq]at h; subst h
    refine⟨⟨_,hj,hm⟩,?_⟩
    show upd A i _ i=A i
    rw[zeb,←h2]
  ·exact⟨⟨d1,by show rw'[i]?=_; rw[hi i hij]; exact h,rfl⟩,upd_ne _ _ hij⟩
 ·have hij:i≠j:=by rintro rfl; rw[hj]at h; cases h
  rw[hi i hij]at h
  exact .inl ⟨h,upd_ne _ _ hij,fun ad had=>hl true i _ ⟨_,ad,h,by simp,had,rfl⟩ (by simp[hij])⟩
 ·by_cases hij:i=j
  ·subst hij
   rw[hj]at h; simp only[Option.some.injEq,DR.obj.injEq]at h
   subst h
   exact .inr ⟨b,ob,by rw[zeb],hw,hd _ lt⟩
  ·rw[hi i hij]at h
   exact .inl ⟨h,upd_ne _ _ hij,fun ad had=>hl true i _ ⟨_,ad,h,by simp,had,rfl⟩ (by simp[hij])⟩
theorem Mem.pushObj(m:Mem V U0 L B A pb rw w)(d:OD)(ob:Obj)(hd:∀U',Later (Us U0 B A pb rw) U' w (w.alloc ob)→d.h U' (w.alloc ob) ob):
  Mem V U0 L B (upd A rw.length (some ⟨w.heap.size,0,none⟩,(A rw.length).2)) pb (rw++[.obj d]) (w.alloc ob)∧Sub noF (env U0 B A pb rw w) (env U0 B (upd A rw.length (some ⟨w.heap.size,0,none⟩,(A rw.length).2)) pb (rw++[.obj d]) (w.alloc ob))∧
   Ext al B A pb rw w B (upd A rw.length (some ⟨w.heap.size,0,none⟩,(A rw.length).2)) pb (rw++[.obj d]) (w.alloc ob)∧
   (DV.ob rw.length).h (env U0 B (upd A rw.length (some ⟨w.heap.size,0,none⟩,(A rw.length).2)) pb (rw++[.obj d]) (w.alloc ob)) (d.at ⟨w.heap.size,0,none⟩):=by
 have hj:(rw++[DR.obj d])[rw.length]?=some (.obj d):=by simp
 obtain⟨m',s',e⟩:=m.putObj (al:=al) (j:=rw.length) (rw':=rw++[.obj d]) (d:=d) (ob:=ob) (b:=w.heap.size) (w':=w.alloc ob) hj (fun i hi=>by
    rcases Nat.lt_or_ge i rw.length with h|h
    ·rw[List.getElem?_append_left h]
    ·rw[List.getElem?_eq_none (by simp; omega),List.getElem?_eq_none h]) (.inl ⟨List.getElem?_eq_none (Nat.le_refl _),Nat.le_refl _,by simp⟩) (zpq _) (fun c hc _=>heap_alloc_old w _ hc) (heap_alloc_new w _) hd
 refine⟨m',s',e,?_⟩
 simp only[DV.h]
 exact⟨d,_,hj,by show (upd A rw.length _ rw.length).1=_; rw[zeb],rfl⟩
theorem Mem.turnObj(m:Mem V U0 L B A pb rw w){j b:Nat}{d0 d:OD}{ob:Obj}(hj:rw[j]?=some (.obj d0))(hm:d.isM=d0.isM)(hA:(A j).1=some ⟨b,0,none⟩)(hb:b<w.heap.size){w1:World}(hw1:w1.heap=w.heap∧w1.os=w.os∧w1.tape=w.tape∧w1.output=w.output)
  (hd:∀U',Later (Us U0 B A pb rw) U' w (setBlock w1 b ob)→d.h U' (setBlock w1 b ob) ob):
  Mem V U0 L B A pb (rw.set j (.obj d)) (setBlock w1 b ob)∧Sub noF (env U0 B A pb rw w) (env U0 B A pb (rw.set j (.obj d)) (setBlock w1 b ob))∧Ext al B A pb rw w B A pb (rw.set j (.obj d)) (setBlock w1 b ob):=by
 have hjl:=(List.getElem?_eq_some_iff.1 hj).1
 have hb1:b<w1.heap.size:=by rw[hw1.1]; exact hb
 obtain⟨m',s',e⟩:=m.putObj (al:=al) (j:=j) (rw':=rw.set j (.obj d)) (d:=d) (ob:=ob) (b:=b) (w':=setBlock w1 b ob) (by rw[List.getElem?_set,if_pos rfl,if_pos hjl]) (fun i hi=>by rw[List.getElem?_set,if_neg (Ne.symm hi)])
  (.inr ⟨d0,hj,hm,hA,by simpa[setBlock]using hb1⟩) ⟨hw1.2.1,hw1.2.2.1,hw1.2.2.2,by simp[setBlock,hw1.1]⟩ (fun c hc hne=>by rw[zyh hne,hw1.1]) (heapSet_eq hb1) hd
 have e0:upd A j (some (⟨b,0,none⟩:Addr),(A j).2)=A:=by rw[←hA]; exact zuf A j
 rw[e0]at m' s' e
 exact⟨m',s',e⟩
theorem Mem.killObj(m:Mem V U0 L B A pb rw w){j:Nat}{d:OD}(hj:rw[j]?=some (.obj d)):
  Mem V U0 L B A (subB' (oneD j .junk) pb) (rw.set j .dead) w∧Sub (oneD j .junk) (env U0 B A pb rw w) (env U0 B A (subB' (oneD j .junk) pb) (rw.set j .dead) w)∧Ext al B A pb rw w B A (subB' (oneD j .junk) pb) (rw.set j .dead) w∧
   ∀b,(A j).1=some ⟨b,0,none⟩→¬Us U0 B A (subB' (oneD j .junk) pb) (rw.set j .dead) b:=by
 have hne:∀i,i≠j→(rw.set j DR.dead)[i]?=rw[i]?:=fun i h=>by rw[List.getElem?_set,if_neg (Ne.symm h)]
 have hjj:(rw.set j DR.dead)[j]?=some .dead:=by rw[List.getElem?_set,if_pos rfl,if_pos (List.getElem?_eq_some_iff.1 hj).1]
 have hb:∀k i b,blk B A (subB' (oneD j .junk) pb) (rw.set j .dead) k i b→blk B A pb rw k i b∧¬(k=true∧i=j):=by
  intro k i b h
  cases k with
  |false=>exact⟨⟨zdq.1 h.1,h.2⟩,by simp⟩
  |true=>
   obtain⟨r,ad,h1,h2,h3,h4⟩:=h
   have hij:i≠j:=by rintro rfl; rw[hjj]at h1; simp at h1; exact h2 h1.symm
   rw[hne i hij]at h1
   exact⟨⟨r,ad,h1,h2,h3,h4⟩,by simp[hij]⟩
 have h1:∀i,oneD j .junk i=none→i≠j:=by
  rintro i h rfl; simp[oneD]at h
 have h2:∀i q,oneD j .junk i=some q→i=j∧q=.junk:=by
  intro i q h
  unfold oneD at h
  split at h
  ·rename_i hb; simp at h; exact⟨Nat.eq_of_beq_eq_true hb,h.symm⟩
  ·cases h
 obtain⟨m',s',e⟩:=m.step (al:=al) (oneD j .junk) (w':=w) (B':=B) (A':=A) (pb':=subB' (oneD j .junk) pb) (rw':=rw.set j .dead) ⟨rfl,rfl,rfl,Nat.le_refl _⟩ (fun _ _ _=>rfl) (fun k i b h=>.inl (hb k i b h).1) (fun k i k' i' b h h'=>m.inj _ _ _ _ _ (hb k i b h).1 (hb k' i' b h').1) (fun i h=>⟨zdq.2 h,rfl⟩)
  (fun i e' t' l' hf h=>⟨l',(hne i (h1 i hf)).trans h,rfl,rfl⟩) (fun i d hf h=>⟨⟨d,(hne i (h1 i hf)).trans h,rfl⟩,rfl⟩) (fun lt i q e' t' l' hf h=>by obtain⟨rfl,rfl⟩:=h2 i q hf; simp only[DV.h]) (fun _ i q d ad hf _ _=>by obtain⟨rfl,rfl⟩:=h2 i q hf; simp only[DV.h]) (fun s i b' h=>by
   obtain⟨b0,h0,rfl⟩:=zgp.1 h
   exact .inl ⟨b0,h0,rfl,rfl,id,rfl⟩) (fun _ i e' t' l' h=>by
   have hij:i≠j:=by rintro rfl; rw[hjj]at h; cases h
   exact .inl ⟨(hne i hij).symm.trans h,rfl,fun _ _=>rfl⟩) fun _ i d h=>by
   have hij:i≠j:=by rintro rfl; rw[hjj]at h; cases h
   exact .inl ⟨(hne i hij).symm.trans h,rfl,fun _ _=>rfl⟩
 refine⟨m',s',e,fun b hA hu=>?_⟩
 have hbj:blk B A pb rw true j b:=⟨_,_,hj,by simp,hA,rfl⟩
 rcases hu with hu|⟨k,i',hu⟩
 ·have:=m.u0 b hu
  rcases (m.low _ _ _ hbj).2 with h|h
  ·omega
  ·exact this.2 h
 ·obtain⟨g1,g2⟩:=hb k i' b hu
  exact g2 (m.inj _ _ _ _ _ g1 hbj)
theorem op_range{t:TypeId}{x:Operand}(hT:zas P T)(ho:o.op=.range t x)(h:evOp stdW T C al av o ts pb rw K=some q)(m:Mem V U0 L B A pb rw w)(hts:hL (env U0 B A pb rw w) ts a.tmps.toList):o.wp P a w (Nxt V U0 L al B A pb rw w a K q) Q:=by
 simp only[evOp,ho]at h
 split at h
 ·rename_i s hx ht
  have hp:=opV_h hx hts
  simp only[DV.h]at hp
  obtain⟨ti,hf,htd⟩:=tdV_f hT ht
  rw[zfl,zju]at h
  have hr:(execOp a.eval o).run P w=((Instr.range t (a.eval x)).run P w).andThen fun v w'=>.ok (.value v) w':=by
   simp only[execOp,ho,Sem.run_bind,Sem.run_pure]
  have hrun:(Instr.range t (.string s)).run P w=.ok (.pointer (some ⟨w.heap.size,0,none⟩)) (w.alloc (.stringIter s 0)):=by simp[Instr.range,run_underlying (zkb hf htd)]
  rw[hp,hrun]at hr
  obtain⟨m',s',e,hv⟩:=m.pushObj (al:=al) (.itr s 0) (.stringIter s 0) (fun _ _=>rfl)
  exact zat hr (Nxt.ret h m' (noSub s' hts) hv e)
 ·rename_i j k0 e0 hx ht
  split at h
  ·rename_i ks hj
   rw[zbm]at hj
   have hp:=opV_h hx hts
   simp only[DV.h]at hp
   obtain⟨d1,ad,hj1,hA,hv⟩:=hp
   have hA:(A j).1=some ad:=hA
   have hj1:rw[j]?=some (.obj d1):=hj1
   rw[hj]at hj1; simp only[Option.some.injEq,DR.obj.injEq]at hj1; subst hj1
   obtain⟨b,ob,hb,hwb,es,clock,rfl,hso⟩:=m.itr j _ hj
   rw[hA]at hb; simp only[Option.some.injEq]at hb; subst hb
   obtain⟨ti,hf,htd⟩:=tdV_f hT ht
   have hr:(execOp a.eval o).run P w=((Instr.range t (a.eval x)).run P w).andThen fun v w'=>.ok (.value v) w':=by
    simp only[execOp,ho,Sem.run_bind,Sem.run_pure]
   rw[hv,show (OD.set ks).at ⟨b,0,none⟩=.map (some b) from rfl,run_range_map w t _ _ b es clock (td_map hf htd) hwb]at hr
   rw[zek,zjf,zdg,zfl,zju]at h
   have hbl:=(Array.getElem?_eq_some_iff.1 hwb).1
   obtain⟨m1,s1,e1,hn⟩:=m.killObj (al:=al) hj
   have hn:=hn b hA
   obtain⟨m',s',e2,hv'⟩:=m1.pushObj (al:=al) (.walk ks []) (.mapIter (some b) clock #[] clock) (fun U' lt=>
    ⟨b,es,clock,clock,#[],[],rfl,fun hu=>hn (lt.sub _ hbl hu),Nat.lt_of_lt_of_le hbl lt.size,(heap_alloc_old w _ hbl).trans hwb,hso,hso.lt,Nat.le_refl _,rfl,rfl,by simp,by simp⟩)
   exact zat hr (Nxt.more e1 rfl (Nxt.ret h m' (noSub s' (zdr s1 _ hts)) hv' e2))
  ·cases h
 ·cases h
theorem op_next{x:Operand}{b0:Bool}(ho:o.op=.next x b0)(h:evOp stdW T C al av o ts pb rw K=some q)(m:Mem V U0 L B A pb rw w)(hts:hL (env U0 B A pb rw w) ts a.tmps.toList):o.wp P a w (Nxt V U0 L al B A pb rw w a K q) Q:=by
 simp only[evOp,ho]at h
 split at h
 ·rename_i j hx
  split at h
  ·rename_i s p hj
   rw[zbm]at hj
   have hp:=opV_h hx hts
   simp only[DV.h]at hp
   obtain⟨d1,ad,hj1,hA,hv⟩:=hp
   have hA:(A j).1=some ad:=hA
   have hj1:rw[j]?=some (.obj d1):=hj1
   rw[hj]at hj1; simp only[Option.some.injEq,DR.obj.injEq]at hj1; subst hj1
   obtain⟨b,ob,hb,hwb,rfl⟩:=m.itr j _ hj
   rw[hA]at hb; simp only[Option.some.injEq]at hb; subst hb
   replace hv:a.eval x=.pointer (some ⟨b,0,none⟩):=hv
   have hr:(execOp a.eval o).run P w=((Instr.next (a.eval x) true o.type).run P w).andThen fun v w'=>.ok (.value v) w':=by
    simp only[execOp,ho,Sem.run_bind,Sem.run_pure]
   rw[hv]at hr
   change nextF s p _ _=_ at h
   unfold nextF at h
   rcases bif_s h with ⟨hps,h⟩|⟨hps,h⟩
   ·have hps:p.toNat<s.size:=by simpa using hps
    dsimp only at h
    rw[zdg]at h
    have hbl:=(Array.getElem?_eq_some_iff.1 hwb).1
    have hjl:=(List.getElem?_eq_some_iff.1 hj).1
    have hrun:(Instr.next (.pointer (some ⟨b,0,none⟩)) true o.type).run P w=.ok (.tuple #[.bool true,goInt p.toNat,.int .i32 (Utf8.decode s p.toNat).1]) { w with heap:=w.heap.setIfInBounds b (.stringIter s (p.toNat+(Utf8.decode s p.toNat).2)) }:=by
     simp[Instr.next,getObj,setObj,Sem.run,hwb,hps]
    rw[hrun]at hr
    obtain⟨m',s',e⟩:=m.turnObj (al:=al) (d:=.itr s ((p.toNat+(Utf8.decode s p.toNat).2:Nat):Int)) (ob:=.stringIter s (p.toNat+(Utf8.decode s p.toNat).2)) hj rfl hA hbl (w1:=w) ⟨rfl,rfl,rfl,rfl⟩ (fun _ _=>by simp only[OD.h,Int.toNat_natCast])
    refine zat hr (Nxt.ret h m' (noSub s' hts) ?_ e)
    simp only[DV.h,hL]
    exact⟨_,rfl,_,_,rfl,rfl,_,_,rfl,rfl,_,_,rfl,rfl,rfl⟩
   ·have hps:¬p.toNat<s.size:=by simpa using hps
    have hrun:(Instr.next (.pointer (some ⟨b,0,none⟩)) true o.type).run P w=.ok (.tuple #[.bool false]) w:=by
     simp[Instr.next,getObj,Sem.run,hwb,hps]
    rw[hrun]at hr
    refine zat hr (Nxt.ret h m hts ?_ Ext.refl)
    simp only[DV.h,hL]
    exact⟨_,rfl,_,_,rfl,rfl,rfl⟩
  ·cases h
 ·cases h
theorem op_makeMap{t:TypeId}{r:Option Operand}(hT:zas P T)(ho:o.op=.makeMap t r)(h:evOp stdW T C al av o ts pb rw K=some q)(m:Mem V U0 L B A pb rw w)(hts:hL (env U0 B A pb rw w) ts a.tmps.toList):o.wp P a w (Nxt V U0 L al B A pb rw w a K q) Q:=by
 simp only[evOp,ho]at h
 split at h
 ·rename_i k0 e0 ht
  obtain⟨ti,hf,htd⟩:=tdV_f hT ht
  rw[zfl,zju]at h
  have hr:(execOp a.eval o).run P w=((Instr.makeMap t none).run P w).andThen fun v w'=>.ok (.value v) w':=by
   simp only[execOp,ho,Sem.run_bind,Sem.run_pure,Option.map_none]
  have hrun:(Instr.makeMap t none).run P w=.ok (.map (some w.heap.size)) (w.alloc (.map #[] 0)):=by rfl
  rw[hrun]at hr
  obtain⟨m',s',e,hv⟩:=m.pushObj (al:=al) (.set []) (.map #[] 0) (fun _ _=>⟨#[],0,rfl,rfl,by simp,by simp,by simp,by simp,by simp⟩)
  exact zat hr (Nxt.ret h m' (noSub s' hts) hv e)
 ·cases h
theorem addU_val{ks:List KU}{k:KU}{ks':List Value}(h:(kV k∈ks.map kV∧ks'=ks.map kV)∨(kV k∉ks.map kV∧ks'=ks.map kV++[kV k])):ks'=(addU ks k).map kV:=by
 unfold addU
 rcases h with ⟨h1,h2⟩|⟨h1,h2⟩
 ·rw[zfm.2 (kV_mem.1 h1),h2]; rfl
 ·have:memU k ks=false:=by
   cases hm:memU k ks with
   |true=>exact absurd (kV_mem.2 (zfm.1 hm)) h1
   |false=>rfl
  rw[this,h2]; simp
theorem kV_h{U:Nat→Prop}{w:World}{k:KU}{v:Value}(h:tKU.hv U w k v):v=kV k:=by
 obtain⟨us,h,rfl⟩:=h
 simp only[DT.h]at h
 obtain⟨us1,us',rfl,rfl,us2,us3,rfl,rfl,rfl⟩:=h
 rfl
theorem h_kV{E:Env}(k:KU):(tKU.val k).h E (kV k):=by
 simp only[DT.val,DT.cells,DV.h,hL]
 exact⟨_,rfl,_,_,rfl,rfl,_,_,rfl,rfl,rfl⟩
theorem ydk{t:TypeId}{x y z:Operand}(hT:zas P T)(ho:o.op=.mapUpdate t x y z)(h:evOp stdW T C al av o ts pb rw K=some q)(m:Mem V U0 L B A pb rw w)(hts:hL (env U0 B A pb rw w) ts a.tmps.toList):o.wp P a w (Nxt V U0 L al B A pb rw w a K q) Q:=by
 simp only[evOp,ho]at h
 split at h
 ·rename_i kt et j kd ht hx hy hz
  split at h
  ·rename_i ks k hj hk
   rw[zbm]at hj
   have hp:=opV_h hx hts
   have hpy:=opV_h hy hts
   have hpz:=opV_h hz hts
   simp only[DV.h]at hp hpz
   obtain⟨d1,ad,hj1,hA,hv⟩:=hp
   have hA:(A j).1=some ad:=hA
   have hj1:rw[j]?=some (.obj d1):=hj1
   rw[hj]at hj1; simp only[Option.some.injEq,DR.obj.injEq]at hj1; subst hj1
   obtain⟨b,ob,hb,hwb,es,clock,rfl,hso⟩:=m.itr j _ hj
   rw[hA]at hb; simp only[Option.some.injEq]at hb; subst hb
   replace hv:a.eval x=.map (some b):=hv
   have hky:=kV_h (DT.ofV_h hk hpy)
   obtain⟨ti,hf,htd⟩:=tdV_f hT ht
   have hbl:=(Array.getElem?_eq_some_iff.1 hwb).1
   obtain⟨es',clock',ks',hrun,hso',hd⟩:=set_store (tdV_k hT ht).key (td_map hf htd) hwb hso (k:=kV k) ⟨k.1,k.2.1,rfl⟩
   have hr:(execOp a.eval o).run P w=((Instr.mapUpdate t (a.eval x) (a.eval y) (a.eval z)).run P w).andThen fun _ w'=>.ok .skip w':=by
    simp only[execOp,ho,Sem.run_bind,Sem.run_pure]
   rw[hv,hky,hpz,hrun]at hr
   rw[zdg]at h
   have hks:=addU_val hd
   subst hks
   obtain⟨m',s',e⟩:=m.turnObj (al:=al) (d:=.set (addU ks k)) (ob:=.map es' clock') hj rfl hA hbl (w1:=w) ⟨rfl,rfl,rfl,rfl⟩ (fun _ _=>⟨es',clock',rfl,hso'⟩)
   exact zrc hr (Nxt.ret h m' (noSub s' hts) (by simp only[DV.h]) e)
  ·cases h
 ·cases h
theorem lastI{dn:List KU}{K:KU→Option β}(h:stdW.idx dn ((dn.length:Int) - 1) K=some q):∃k,dn[dn.length - 1]?=some k∧K k=some q:=by
 change idxF dn ((dn.length:Int) - 1) K=some q at h
 unfold idxF at h
 rw[show ((dn.length:Int) - 1).toNat=dn.length - 1 by omega]at h
 split at h
 ·rename_i x hx
  rcases bif_s h with ⟨_,h⟩|⟨_,h⟩
  ·exact⟨x,hx,h⟩
  ·cases h
 ·cases h
theorem op_lookup{t:TypeId}{x y:Operand}{c:Bool}(hT:zas P T)(ho:o.op=.lookup t x y c)(h:evOp stdW T C al av o ts pb rw K=some q)(m:Mem V U0 L B A pb rw w)(hts:hL (env U0 B A pb rw w) ts a.tmps.toList):o.wp P a w (Nxt V U0 L al B A pb rw w a K q) Q:=by
 simp only[evOp,ho]at h
 split at h
 ·rename_i kt et p kd ht hx hy
  have hp:=opV_h hx hts
  have hpy:=opV_h hy hts
  have hr:(execOp a.eval o).run P w=((Instr.lookup t (a.eval x) (a.eval y) false).run P w).andThen fun v w'=>.ok (.value v) w':=by
   simp only[execOp,ho,Sem.run_bind,Sem.run_pure]
  obtain⟨ti,hf,htd⟩:=tdV_f hT ht
  split at h
  ·rename_i k hk
   have hky:=kV_h (DT.ofV_h hk hpy)
   split at h
   ·rename_i ks
    simp only[DV.h]at hp
    obtain⟨b,es,clock,hv,_,_,hwb,hso⟩:=hp
    simp only[List.cons.injEq,and_true]at hv
    replace hwb:w.heap[b]?=some (.map es clock):=hwb
    rw[hv,hky,zxu (tdV_k hT ht) (td_map hf htd) hwb hso k]at hr
    exact zat hr (Nxt.ret h m hts (by simp only[DV.h]) Ext.refl)
   ·rename_i j
    split at h
    ·rename_i ks hj
     rw[zbm]at hj
     simp only[DV.h]at hp
     obtain⟨d1,ad,hj1,hA,hv⟩:=hp
     have hA:(A j).1=some ad:=hA
     have hj1:rw[j]?=some (.obj d1):=hj1
     rw[hj]at hj1; simp only[Option.some.injEq,DR.obj.injEq]at hj1; subst hj1
     obtain⟨b,ob,hb,hwb,es,clock,rfl,hso⟩:=m.itr j _ hj
     rw[hA]at hb; simp only[Option.some.injEq]at hb; subst hb
     replace hv:a.eval x=.map (some b):=hv
     rw[hv,hky,zxu (tdV_k hT ht) (td_map hf htd) hwb hso k]at hr
     exact zat hr (Nxt.ret h m hts (by simp only[DV.h]) Ext.refl)
    ·cases h
   ·cases h
  ·cases h
 ·cases h
theorem op_entry{x:Operand}(ho:o.op=.entry x)(h:evOp stdW T C al av o ts pb rw K=some q)(m:Mem V U0 L B A pb rw w)(hts:hL (env U0 B A pb rw w) ts a.tmps.toList):o.wp P a w (Nxt V U0 L al B A pb rw w a K q) Q:=by
 simp only[evOp,ho]at h
 split at h
 ·rename_i j hx
  split at h
  ·rename_i ks dn hj
   rw[zbm]at hj
   obtain⟨k,hk,h⟩:=lastI h
   have hp:=opV_h hx hts
   simp only[DV.h]at hp
   obtain⟨d1,ad,hj1,hA,hv⟩:=hp
   have hA:(A j).1=some ad:=hA
   have hj1:rw[j]?=some (.obj d1):=hj1
   rw[hj]at hj1; simp only[Option.some.injEq,DR.obj.injEq]at hj1; subst hj1
   obtain⟨b,ob,hb,hwb,bm,es,clock,since,seen,ds,H⟩:=m.itr j _ hj
   rw[hA]at hb; simp only[Option.some.injEq]at hb; subst hb
   replace hv:a.eval x=.pointer (some ⟨b,0,none⟩):=hv
   have hr:(execOp a.eval o).run P w=((Instr.entry (a.eval x)).run P w).andThen fun v w'=>.ok (.value v) w':=by
    simp only[execOp,ho,Sem.run_bind,Sem.run_pure]
   rw[hv,H.entry hk hwb]at hr
   refine zat hr (Nxt.ret h m hts ?_ Ext.refl)
   simp only[DV.h,hL]
   exact⟨_,rfl,_,_,rfl,h_kV k,_,_,rfl,rfl,rfl⟩
  ·cases h
 ·cases h
theorem op_pick[EqB β]{j:Nat}{ks dn:List KU}(hp:pickQ o ts rw=some (j,ks,dn))
  (h:(stdW.pick (restU ks dn) (fun k=>setE rw j (.obj (.walk ks (dn++[k]))) fun rw'=>retE o.dst (.tup [.lit true,tKU.val k,.lit true]) ts pb rw' K) (retE o.dst (.tup [.lit false]) ts pb rw K))=some q)
  (m:Mem V U0 L B A pb rw w) (hts:hL (env U0 B A pb rw w) ts a.tmps.toList):o.wp P a w (Nxt V U0 L al B A pb rw w a K q) Q:=by
 unfold pickQ at hp
 split at hp
 ·rename_i x ho
  split at hp
  ·rename_i j1 hx
   split at hp
   ·rename_i ks1 dn1 hj
    simp only[Option.some.injEq,Prod.mk.injEq]at hp
    obtain⟨rfl,rfl,rfl⟩:=hp
    rw[zbm]at hj
    have hp:=opV_h hx hts
    simp only[DV.h]at hp
    obtain⟨d1,ad,hj1,hA,hv⟩:=hp
    have hA:(A j1).1=some ad:=hA
    have hj1:rw[j1]?=some (.obj d1):=hj1
    rw[hj]at hj1; simp only[Option.some.injEq,DR.obj.injEq]at hj1; subst hj1
    obtain⟨b,ob,hb,hwb,bm,es,clock,since,seen,ds,H⟩:=m.itr j1 _ hj
    rw[hA]at hb; simp only[Option.some.injEq]at hb; subst hb
    replace hv:a.eval x=.pointer (some ⟨b,0,none⟩):=hv
    have hr:(execOp a.eval o).run P w=((Instr.next (a.eval x) false o.type).run P w).andThen fun v w'=>.ok (.value v) w':=by
     simp only[execOp,ho,Sem.run_bind,Sem.run_pure]
    have hne:b≠bm:=fun e=>H.nu (.inr ⟨true,j1,_,_,hj,by simp,hA,e⟩)
    have hbl:=(Array.getElem?_eq_some_iff.1 hwb).1
    obtain⟨h0,h1⟩:=pickF_s (show pickF _ _ _=some q from h)
    rcases H.next (P:=P) (ty:=o.type) hwb hne with ⟨hrun,he⟩|⟨k,w1,o',hk,hrun,hw1,hW⟩
    ·rw[hv,hrun]at hr
     refine zat hr (Nxt.ret (h0 he) m hts ?_ Ext.refl)
     simp only[DV.h,hL]
     exact⟨_,rfl,_,_,rfl,rfl,rfl⟩
    ·rw[hv,hrun]at hr
     have hq:=h1 k hk
     rw[zdg]at hq
     obtain⟨m',s',e⟩:=m.turnObj (al:=al) (d:=.walk ks1 (dn1++[k])) (ob:=o') hj rfl hA hbl (w1:=w1) hw1 (fun U' lt=>hW U' _ (fun hu=>H.nu (lt.sub _ H.low hu)) (Nat.lt_of_lt_of_le H.low lt.size) (by rw[zyh (Ne.symm hne),hw1.1]))
     refine zat hr (Nxt.ret hq m' (noSub s' hts) ?_ e)
     simp only[DV.h,hL]
     exact⟨_,rfl,_,_,rfl,rfl,_,_,rfl,h_kV k,_,_,rfl,rfl,rfl⟩
   ·cases hp
  ·cases hp
 ·cases hp
end
end Go.Vc

namespace Go.Vc
open Go Go.RowKit
def Ow(B:Nat→Nat)(A:Asg)(pb:DBs)(rw:List DR):Nat→Prop:=fun b=>∃k i,blk B A pb rw k i b
def Ctr(P:Program)(g:FuncId)(args:List DV)(pb:DBs)(rw:List DR)(Q:DV→DBs→List DR→Prop):Prop:=
 ∀(U0:Nat→Prop) (B:Nat→Nat) (A:Asg) (vs:List Value) (w:World),Mem w U0 (Ow B A pb rw) B A pb rw w→hL (env U0 B A pb rw w) args vs→
  CallsX P g vs.toArray w fun v w'=>∃B' A' r pb' rw',Mem w U0 (Ow B A pb rw) B' A' pb' rw' w'∧r.h (env U0 B' A' pb' rw' w') v∧(∀i,live pb i→live pb' i∧B' i=B i)∧Q r pb' rw'
def ESok(P:Program)(g:FuncId)(s:ES):Prop:=∀x q,s.fn x=some q→Ctr P g (argVs s.P x) [] [] fun r pb' rw'=>pb'=[]∧(r,rw')=s.Q.mk q []
def LSok(P:Program)(g:FuncId)(s:LS):Prop:=∀z o,s.fn z=some o→
 Ctr P g (pkM s.P .unit (bkM s.B _ z []).2.1 (bkM s.B _ z []).2.2).1 (bkM s.B _ z []).1 (pkM s.P .unit (bkM s.B _ z []).2.1 (bkM s.B _ z []).2.2).2.2
  fun r pb' rw'=>pb'=(bkM s.E .unit o.2 []).1∧(r,rw')=s.Q.mk o.1 (bkM s.E .unit o.2 []).2.2
def MUok(P:Program)(g:FuncId)(s:MU):Prop:=∀l z l',s.fn l z=some l'→l'.length=l.length∧
 ∀(U0:Nat→Prop) (B:Nat→Nat) (A:Asg) (vs:List Value) (w:World),Mem w U0 (Ow B A [] [.own s.e s.t l]) B A [] [.own s.e s.t l] w→hL (env U0 B A [] [.own s.e s.t l] w) (.row 0::(pkM s.P .unit z []).1) vs→
  CallsX P g vs.toArray w fun v w'=>v=.tuple #[]∧Mem w U0 (Ow B A [] [.own s.e s.t l]) B A [] [.own s.e s.t l'] w'
def ECok(P:Program)(g:FuncId):EC→Prop
 | .mu s=>MUok P g s
 | .es s=>ESok P g s
 | .ls s=>LSok P g s
def CsOk(P:Program):ESs→Prop
 |[]=>True
 |(n,c)::C=>ECok P n c∧CsOk P C
theorem esV_s{P:Program}:∀{C:ESs} {g:Nat} {xs:List DV} {c:EC},CsOk P C→esV C g xs=some c→ECok P g c
 |[],_,_,_,_,h=>by simp[esV]at h
 |(n,c)::C,g,xs,c',hC,h=>by
  simp only[esV]at h
  split at h
  ·rename_i hb
   simp only[Bool.and_eq_true]at hb
   simp only[Option.some.injEq]at h; subst h; rw[←Nat.eq_of_beq_eq_true hb.1]; exact hC.1
  ·exact esV_s hC.2 h
def lB(B:Nat→Nat)(σ:Nat→Option Nat):Nat→Nat:=fun k=>B ((σ k).getD 0)
def lA(A:Asg)(rs:List (Option Nat)):Asg:=fun n=>match rs[n]? with|some (some j)=>A j|_=>(none,0)
def lU(U:Nat→Prop)(B:Nat→Nat)(A:Asg)(rw:List DR)(L0:Nat→Prop)(bor:Nat→Prop):Nat→Prop:=fun b=>U b∧¬L0 b∧¬ ∃j,bor j∧blk B A [] rw true j b
section
variable {V:World} {U0 L:Nat→Prop} {al:Nat→Bool} {B:Nat→Nat} {A:Asg} {ts:List DV} {pb:DBs} {rw:List DR} {w:World}
theorem Mem.lend(m:Mem V U0 L B A pb rw w){σ:Nat→Option Nat}{rs:List (Option Nat)}{bor:Nat→Prop}{pb0:DBs}{rw0:List DR}
  (hb:∀(k:Nat) (b0:DB),pb0[k]?=some (some b0)→∃i b,σ k=some i∧pb[i]?=some (some b)∧b0.ty=b.ty∧b0.w=true)
  (hc:∀(k:Nat) (b0:DB) (i:Nat) (b:DB),pb0[k]?=some (some b0)→σ k=some i→pb[i]?=some (some b)→∀vs,hL (env U0 B A pb rw w) b.cells vs→hL (env (lU (Us U0 B A pb rw) B A rw (Ow (lB B σ) (lA A rs) pb0 rw0) bor) (lB B σ) (lA A rs) pb0 rw0 w) b0.cells vs)
  (hσ:∀(k k' i:Nat),σ k=some i→σ k'=some i→k=k')
  (hr:∀(n:Nat) (r:DR),rw0[n]?=some r→(∃j e t l,rs[n]?=some (some j)∧rw[j]?=some r∧r=.own e t l)∨(rs[n]?=some none∧∃e t,r=.own e t []))
  (hρ:∀(n n' j:Nat),rs[n]?=some (some j)→rs[n']?=some (some j)→n=n'):
  Mem w (lU (Us U0 B A pb rw) B A rw (Ow (lB B σ) (lA A rs) pb0 rw0) bor) (Ow (lB B σ) (lA A rs) pb0 rw0) (lB B σ) (lA A rs) pb0 rw0 w∧
   (∀b,Us (lU (Us U0 B A pb rw) B A rw (Ow (lB B σ) (lA A rs) pb0 rw0) bor) (lB B σ) (lA A rs) pb0 rw0 b→Us U0 B A pb rw b)∧
   (∀n b,blk (lB B σ) (lA A rs) pb0 rw0 true n b→∃j,rs[n]?=some (some j)∧blk B A pb rw true j b)∧
   (∀k b,blk (lB B σ) (lA A rs) pb0 rw0 false k b→∃i,σ k=some i∧blk B A pb rw false i b):=by
 have h1:∀n b,blk (lB B σ) (lA A rs) pb0 rw0 true n b→∃j,rs[n]?=some (some j)∧blk B A pb rw true j b:=by
  rintro n b ⟨r,ad,g1,g2,g3,g4⟩
  rcases hr n r g1 with ⟨j,e,t,l,k1,k2,k3⟩|⟨k1,_⟩
  ·refine⟨j,k1,r,ad,k2,g2,?_,g4⟩
   simpa only[lA,k1]using g3
  ·simp only[lA,k1]at g3; cases g3
 have h2:∀k b,blk (lB B σ) (lA A rs) pb0 rw0 false k b→∃i,σ k=some i∧blk B A pb rw false i b:=by
  rintro k b ⟨⟨b0,g1⟩,g2⟩
  obtain⟨i,b1,k1,k2,_⟩:=hb k b0 g1
  exact⟨i,k1,⟨b1,k2⟩,by simpa only[lB,k1,Option.getD_some]using g2⟩
 have h3:∀k i b,blk (lB B σ) (lA A rs) pb0 rw0 k i b→∃i',blk B A pb rw k i' b:=by
  intro k i b h
  cases k with
  |true=>obtain⟨j,_,h⟩:=h1 i b h; exact⟨j,h⟩
  |false=>obtain⟨j,_,h⟩:=h2 i b h; exact⟨j,h⟩
 have hU:∀b,Us (lU (Us U0 B A pb rw) B A rw (Ow (lB B σ) (lA A rs) pb0 rw0) bor) (lB B σ) (lA A rs) pb0 rw0 b→Us U0 B A pb rw b:=by
  rintro b (⟨h,_⟩|⟨k,i,h⟩)
  ·exact h
  ·obtain⟨i',h⟩:=h3 k i b h; exact .inr ⟨k,i',h⟩
 have hlt:∀b,Us U0 B A pb rw b→b<w.heap.size:=by
  rintro b (h|⟨k,i,h⟩)
  ·exact Nat.lt_of_lt_of_le (m.u0 b h).1 m.size
  ·exact(m.low k i b h).1
 refine⟨⟨rfl,rfl,rfl,Nat.le_refl _,fun _ _ _=>rfl,fun b h=>⟨hlt b h.1,h.2.1⟩,fun k i b h=>?_,fun k i k' i' b h h'=>?_,fun k b0 h=>?_,fun n e t l h=>?_,fun n d h=>?_⟩,hU,h1,h2⟩
 ·obtain⟨i',g⟩:=h3 k i b h; exact⟨(m.low k i' b g).1,.inr ⟨k,i,h⟩⟩
 ·cases k with
  |true=>
   obtain⟨j,g1,g2⟩:=h1 i b h
   cases k' with
   |true=>obtain⟨j',g3,g4⟩:=h1 i' b h'; have:=(m.inj _ _ _ _ _ g2 g4).2; subst this; exact⟨rfl,hρ _ _ _ g1 g3⟩
   |false=>obtain⟨j',g3,g4⟩:=h2 i' b h'; have:=(m.inj _ _ _ _ _ g2 g4).1; cases this
  |false=>
   obtain⟨j,g1,g2⟩:=h2 i b h
   cases k' with
   |true=>obtain⟨j',g3,g4⟩:=h1 i' b h'; have:=(m.inj _ _ _ _ _ g2 g4).1; cases this
   |false=>obtain⟨j',g3,g4⟩:=h2 i' b h'; have:=(m.inj _ _ _ _ _ g2 g4).2; subst this; exact⟨rfl,hσ _ _ _ g1 g3⟩
 ·obtain⟨i,b,g1,g2,g3,g4⟩:=hb k b0 h
  obtain⟨cs,k1,k2,_⟩:=m.box i b g2
  exact⟨cs,by simp only[lB,g1,Option.getD_some,g3]; exact k1,hc k b0 i b h g1 g2 cs k2,fun hw=>by rw[g4]at hw; cases hw⟩
 ·rcases hr n _ h with ⟨j,e',t',l',k1,k2,k3⟩|⟨k1,e',t',k3⟩
  ·obtain⟨xs,g1,g2⟩:=m.row j e t l k2
   refine⟨xs,by simp only[lA,k1]; exact g1,DT.hs_mono ⟨fun _ _ _=>rfl,Nat.le_refl _,fun b _ h=>hU b h⟩ g2⟩
  ·simp only[DR.own.injEq]at k3
   obtain⟨rfl,rfl,k3⟩:=k3
   cases k3
   exact⟨[],by simp only[lA,k1]; exact World.ownsRow_nil w 0 e t.size,DT.hs_nil⟩
 ·rcases hr n _ h with ⟨j,e',t',l',k1,k2,k3⟩|⟨k1,e',t',k3⟩<;>cases k3
end
mutual
def DV.ren(σ:Nat→Option Nat)(js:List Nat):DV→DV
 | .row n=>match js[n]? with|some j=>.row j|none=>.junk
 | .own k o=>match σ k with|some i=>.own i o|none=>.junk
 | .fn g cs=>.fn g (renL σ js cs)
 | .agg xs=>.agg (renL σ js xs)
 | .tup xs=>.tup (renL σ js xs)
 | .el _ _ _=>.junk
 | .re _ _ _=>.junk
 | .rt _ _=>.junk
 | .ob _=>.junk
 |p=>p
def renL(σ:Nat→Option Nat)(js:List Nat):List DV→List DV
 |[]=>[]
 |p::ps=>p.ren σ js::renL σ js ps
end
mutual
def DV.okf(f:Bool):DV→Bool
 | .sl _ _=>f
 | .set _=>f
 | .fn _ cs=>okfL f cs
 | .agg cs=>okfL f cs
 | .tup cs=>okfL f cs
 |_=>true
def okfL(f:Bool):List DV→Bool
 |[]=>true
 |p::ps=>p.okf f&&okfL f ps
end
structure Tr(f:Bool)(σ:Nat→Option Nat)(js:List Nat)(E E':Env):Prop where
 sl:f=true→Later E.U E'.U E.w E'.w
 bx:∀k i,σ k=some i→live E.pb k→live E'.pb i∧E'.B i=E.B k
 row:∀n j e t l,js[n]?=some j→E.rw[n]?=some (.own e t l)→E'.rw[j]?=some (.own e t l)∧E'.A j=E.A n
mutual
theorem DV.ren_h{f:Bool}{σ:Nat→Option Nat}{js:List Nat}{E E':Env}(s:Tr f σ js E E'):(p:DV)→p.okf f=true→{v:Value}→p.h E v→(p.ren σ js).h E' v
 | .int _ _,_,_,h=>by simpa only[DV.ren,DV.h]using h
 | .bool _,_,_,h=>by simpa only[DV.ren,DV.h]using h
 | .lit _,_,_,h=>by simpa only[DV.ren,DV.h]using h
 | .str _,_,_,h=>by simpa only[DV.ren,DV.h]using h
 | .v _,_,_,h=>by simpa only[DV.ren,DV.h]using h
 | .und,_,_,h=>by simpa only[DV.ren,DV.h]using h
 | .sl t l,o,_,h=>by
  cases f with
  |false=>simp[DV.okf]at o
  |true=>simp only[DV.ren,DV.h]at h ⊢; exact(DT.slc t).mono (s.sl rfl) h
 | .set ks,o,_,h=>by
  cases f with
  |false=>simp[DV.okf]at o
  |true=>simp only[DV.ren,DV.h]at h ⊢; exact DT.set.mono (s.sl rfl) h
 | .row n,_,v,h=>by
  simp only[DV.h]at h
  obtain⟨e,t,l,hj,rfl⟩:=h
  unfold DV.ren
  cases hn:js[n]? with
  |none=>simp only[DV.h]
  |some j=>obtain⟨h1,h2⟩:=s.row n j e t l hn hj; simp only[DV.h]; exact⟨e,t,l,h1,by rw[h2]⟩
 | .own k o,_,v,h=>by
  simp only[DV.h]at h
  obtain⟨h1,rfl⟩:=h
  unfold DV.ren
  cases hk:σ k with
  |none=>simp only[DV.h]
  |some i=>obtain⟨h2,h3⟩:=s.bx k i hk h1; simp only[DV.h]; exact⟨h2,by rw[h3]⟩
 | .fn g cs,o,v,h=>by
  simp only[DV.ren,DV.h]at h ⊢
  obtain⟨vs,rfl,h⟩:=h
  exact⟨vs,rfl,renL_h s cs (by simpa only[DV.okf]using o) h⟩
 | .agg xs,o,v,h=>by
  simp only[DV.ren,DV.h]at h ⊢
  obtain⟨vs,rfl,h⟩:=h
  exact⟨vs,rfl,renL_h s xs (by simpa only[DV.okf]using o) h⟩
 | .tup xs,o,v,h=>by
  simp only[DV.ren,DV.h]at h ⊢
  obtain⟨vs,rfl,h⟩:=h
  exact⟨vs,rfl,renL_h s xs (by simpa only[DV.okf]using o) h⟩
 | .el _ _ _,_,_,_=>by simp only[DV.ren,DV.h]
 | .re _ _ _,_,_,_=>by simp only[DV.ren,DV.h]
 | .rt _ _,_,_,_=>by simp only[DV.ren,DV.h]
 | .ob _,_,_,_=>by simp only[DV.ren,DV.h]
 | .junk,_,_,_=>by simp only[DV.ren,DV.h]
theorem renL_h{f:Bool}{σ:Nat→Option Nat}{js:List Nat}{E E':Env}(s:Tr f σ js E E'):(ps:List DV)→okfL f ps=true→{vs:List Value}→hL E ps vs→hL E' (renL σ js ps) vs
 |[],_,_,h=>by simpa only[renL,hL]using h
 |p::ps,o,_,h=>by
  simp only[okfL,Bool.and_eq_true]at o
  simp only[hL,renL]at h ⊢
  obtain⟨v,vs',rfl,h1,h2⟩:=h
  exact⟨v,vs',rfl,DV.ren_h s p o.1 h1,renL_h s ps o.2 h2⟩
end
end Go.Vc

namespace Go.Vc
open Go Go.RowKit
structure MI(E:Env)(m:MS)(rw0:List DR):Prop where
 len:m.rs.length=rw0.length
 row:∀(n:Nat) (r:DR),rw0[n]?=some r→(∃j e t l,m.rs[n]?=some (some j)∧E.rw[j]?=some r∧r=.own e t l)∨(m.rs[n]?=some none∧∃e t,r=.own e t [])
 inj:∀(n n' j:Nat),m.rs[n]?=some (some j)→m.rs[n']?=some (some j)→n=n'
 left:∀(j:Nat),(∀n:Nat,m.rs[n]?≠some (some j))→m.rw[j]?=E.rw[j]?
 gone:∀(n j:Nat),m.rs[n]?=some (some j)→m.rw[j]?=some .dead
theorem MI.nil(E:Env):MI E ⟨[],E.rw⟩ []:=⟨rfl,fun n r h=>by simp at h,fun n n' j h=>by simp at h,fun _ _=>rfl,fun n j h=>by simp at h⟩
theorem zcz{α:Type}{l:List α}{x y:α}{n:Nat}(h:(l++[x])[n]?=some y):(n<l.length∧l[n]?=some y)∨(n=l.length∧x=y):=by
 rcases Nat.lt_or_ge n l.length with hl|hl
 ·rw[List.getElem?_append_left hl]at h; exact .inl ⟨hl,h⟩
 ·have:=(List.getElem?_eq_some_iff.1 h).1
  simp at this
  have:n=l.length:=by omega
  subst this; simp at h; exact .inr ⟨rfl,h⟩
theorem MI.take{E:Env}{m:MS}{rw0:List DR}(h:MI E m rw0){j:Nat}{e:TypeId}{t:DT}{l:List t.den}(hj:m.rw[j]?=some (.own e t l)):MI E ⟨m.rs++[some j],m.rw.set j .dead⟩ (rw0++[.own e t l])∧E.rw[j]?=some (.own e t l):=by
 have hn:∀n:Nat,m.rs[n]?≠some (some j):=fun n hn=>by rw[h.gone n j hn]at hj; cases hj
 have hE:=(h.left j hn).symm.trans hj
 have hl:=(List.getElem?_eq_some_iff.1 hj).1
 refine⟨⟨by simp[h.len],fun n r hr=>?_,fun n n' k h1 h2=>?_,fun k hk=>?_,fun n k hk=>?_⟩,hE⟩
 ·rcases zcz hr with ⟨hlt,hr⟩|⟨rfl,rfl⟩
  ·have e1:(m.rs++[some j])[n]?=m.rs[n]?:=List.getElem?_append_left (by rw[h.len]; exact hlt)
   simp only[e1]; exact h.row n r hr
  ·exact .inl ⟨j,e,t,l,by simp[←h.len],hE,rfl⟩
 ·rcases zcz h1 with ⟨_,h1⟩|⟨e1,g1⟩
  ·rcases zcz h2 with ⟨_,h2⟩|⟨_,g2⟩
   ·exact h.inj n n' k h1 h2
   ·simp only[Option.some.injEq]at g2; subst g2; exact absurd h1 (hn n)
  ·simp only[Option.some.injEq]at g1; subst g1
   rcases zcz h2 with ⟨_,h2⟩|⟨e2,_⟩
   ·exact absurd h2 (hn n')
   ·rw[e1,e2]
 ·have hkj:k≠j:=by rintro rfl; exact hk m.rs.length (by simp)
  show (m.rw.set j .dead)[k]?=_
  rw[List.getElem?_set,if_neg (Ne.symm hkj)]
  refine h.left k fun n hn'=>hk n ?_
  show (m.rs++[some j])[n]?=_
  rw[List.getElem?_append_left (List.getElem?_eq_some_iff.1 hn').1]; exact hn'
 ·show (m.rw.set j .dead)[k]?=_
  by_cases hkj:k=j
  ·subst hkj; rw[List.getElem?_set,if_pos rfl,if_pos hl]
  ·rw[List.getElem?_set,if_neg (Ne.symm hkj)]
   rcases zcz hk with ⟨_,hk⟩|⟨_,gk⟩
   ·exact h.gone n k hk
   ·simp only[Option.some.injEq]at gk; exact absurd gk.symm hkj
theorem MI.emp{E:Env}{m:MS}{rw0:List DR}(h:MI E m rw0)(e:TypeId)(t:DT):MI E ⟨m.rs++[none],m.rw⟩ (rw0++[.own e t []]):=by
 have hs:∀{n j:Nat},(m.rs++[none])[n]?=some (some j)→m.rs[n]?=some (some j):=fun hk=>by
  rcases zcz hk with ⟨_,hk⟩|⟨_,gk⟩
  ·exact hk
  ·cases gk
 refine⟨by simp[h.len],fun n r hr=>?_,fun n n' k h1 h2=>h.inj n n' k (hs h1) (hs h2),fun k hk=>?_,fun n k hk=>h.gone n k (hs hk)⟩
 ·rcases zcz hr with ⟨hlt,hr⟩|⟨rfl,rfl⟩
  ·have e1:(m.rs++[Option.none])[n]?=m.rs[n]?:=List.getElem?_append_left (by rw[h.len]; exact hlt)
   simp only[e1]; exact h.row n r hr
  ·exact .inr ⟨by simp[←h.len],e,t,rfl⟩
 ·refine h.left k fun n hn'=>hk n ?_
  show (m.rs++[Option.none])[n]?=_
  rw[List.getElem?_append_left (List.getElem?_eq_some_iff.1 hn').1]; exact hn'
structure TrI(am:List (Nat×Nat))(rs:List (Option Nat))(E E0:Env):Prop where
 sl:Later E.U E0.U E.w E0.w
 bx:∀k i,lkA am k=some i→live E.pb i→live E0.pb k∧E0.B k=E.B i
 row:∀(n j:Nat) e t l,rs[n]?=some (some j)→E.rw[j]?=some (.own e t l)→E0.rw[n]?=some (.own e t l)∧E0.A n=E.A j
 nil:∀(n:Nat),rs[n]?=some none→(∃e t,E0.rw[n]?=some (.own e t []))∧E0.A n=(none,0)
theorem ofA_h{E E0:Env}(l:Later E.U E0.U E.w E0.w):∀{P:DT} {ps:List DV} {x:P.den} {vs:List Value},ofA P ps=some x→hL E ps vs→hL E0 (argVs P x) vs
 | .unit,ps,x,vs,h,hv=>by
  simp only[ofA]at h
  split at h
  ·simp only[argVs,hL]at hv ⊢; exact hv
  ·cases h
 | .pair a b,ps,x,vs,h,hv=>by
  simp only[ofA]at h
  split at h
  ·split at h
   ·rename_i x1 x2 h1 h2
    simp only[Option.some.injEq]at h; subst h
    simp only[hL]at hv
    obtain⟨v,vs',rfl,h3,h4⟩:=hv
    simp only[argVs,hL]
    exact⟨v,vs',rfl,a.val_h (DT.hv_mono l (DT.ofV_h h1 h3)),ofA_h l h2 h4⟩
   ·cases h
  ·cases h
 | .int _,ps,x,vs,h,_=>by simp[ofA]at h
 | .bool,ps,x,vs,h,_=>by simp[ofA]at h
 | .str,ps,x,vs,h,_=>by simp[ofA]at h
 | .slc _,ps,x,vs,h,_=>by simp[ofA]at h
mutual
theorem PK.x_s{am:List (Nat×Nat)}{E:Env}:(p:PK)→(r:DT)→(u:DV)→(m:MS)→(k:MS→Option (r.den×MS))→(rw0:List DR)→(z:(p.T r).den)→(mF:MS)→p.x am r u m k=some (z,mF)→MI E m rw0→
  ∃z0 m1 rw1,k m1=some (z0,mF)∧(p.mk r z rw0).2=(z0,rw1)∧MI E m1 rw1∧(∃a,m1.rs=m.rs++a)∧(∃b,rw1=rw0++b)∧
   ∀E0 v,(∃a,mF.rs=m1.rs++a)→TrI am mF.rs E E0→u.h E v→(p.mk r z rw0).1.h E0 v
 | .v t,r,u,m,k,rw0,z,mF,h,hm=>by
  simp only[PK.x]at h
  split at h
  ·rename_i x y m1 hx hk
   simp only[Option.some.injEq,Prod.mk.injEq]at h
   obtain⟨rfl,rfl⟩:=h
   exact⟨y,m,rw0,hk,rfl,hm,⟨[],by simp⟩,⟨[],by simp⟩,fun E0 v _ s hu=>t.val_h (DT.hv_mono s.sl (DT.ofV_h hx hu))⟩
  ·cases h
 | .row e t,r,u,m,k,rw0,z,mF,h,hm=>by
  simp only[PK.x]at h
  split at h
  ·rename_i j
   split at h
   ·rename_i e' t' xs hj
    rw[zbm]at hj
    split at h
    ·rename_i hh y m1 he hs hk
     simp only[Option.some.injEq,Prod.mk.injEq]at h
     obtain⟨rfl,rfl⟩:=h
     have he:=Nat.eq_of_beq_eq_true he
     subst he hh
     obtain⟨hm',hE⟩:=hm.take hj
     refine⟨y,_,rw0++[.own e' t' xs],hk,rfl,hm',⟨_,rfl⟩,⟨_,rfl⟩,fun E0 v ⟨a,ha⟩ s hu=>?_⟩
     have hn:m1.rs[rw0.length]?=some (some j):=by rw[ha]; simp[←hm.len]
     obtain⟨g1,g2⟩:=s.row _ _ _ _ _ hn hE
     simp only[DV.h]at hu
     obtain⟨e2,t2,l2,hj2,rfl⟩:=hu
     rw[hE]at hj2; simp only[Option.some.injEq,DR.own.injEq]at hj2
     obtain⟨rfl,rfl,hl2⟩:=hj2
     cases hl2
     simp only[PK.mk,DV.h]
     exact⟨_,_,_,g1,by rw[g2]⟩
    ·cases h
   ·cases h
  ·split at h
   ·rename_i y m1 hk
    simp only[Option.some.injEq,Prod.mk.injEq]at h
    obtain⟨rfl,rfl⟩:=h
    refine⟨y,_,rw0++[.own e t []],hk,rfl,hm.emp e t,⟨_,rfl⟩,⟨_,rfl⟩,fun E0 v ⟨a,ha⟩ s hu=>?_⟩
    have hn:m1.rs[rw0.length]?=some none:=by rw[ha]; simp[←hm.len]
    obtain⟨⟨e1,t1,g1⟩,g2⟩:=s.nil _ hn
    simp only[DV.h]at hu
    subst hu
    simp only[PK.mk,DV.h]
    exact⟨_,_,_,g1,by rw[g2]; rfl⟩
   ·cases h
  ·cases h
 | .ptr n,r,u,m,k,rw0,z,mF,h,hm=>by
  simp only[PK.x]at h
  split at h
  ·rename_i i o
   split at h
   ·rename_i i' hl
    split at h
    ·rename_i hb
     have hb:=Nat.eq_of_beq_eq_true hb
     subst hb
     refine⟨z,m,rw0,h,rfl,hm,⟨[],by simp⟩,⟨[],by simp⟩,fun E0 v _ s hu=>?_⟩
     simp only[DV.h]at hu
     obtain⟨g1,rfl⟩:=hu
     obtain⟨g2,g3⟩:=s.bx _ _ hl g1
     simp only[PK.mk,DV.h]
     exact⟨g2,by rw[g3]⟩
    ·cases h
   ·cases h
  ·cases h
 | .fn g l,r,u,m,k,rw0,z,mF,h,hm=>by
  simp only[PK.x]at h
  split at h
  ·rename_i g' cs
   split at h
   ·rename_i hg
    have hg:=Nat.eq_of_beq_eq_true hg
    subst hg
    obtain⟨z0,m1,rw1,h1,h2,h3,h4,h5,h6⟩:=pkX_s l r cs m k rw0 z mF h hm
    refine⟨z0,m1,rw1,h1,by simp only[PK.mk]; exact h2,h3,h4,h5,fun E0 v ha s hu=>?_⟩
    simp only[DV.h]at hu
    obtain⟨vs,rfl,hu⟩:=hu
    simp only[PK.mk,DV.h]
    exact⟨vs,rfl,h6 E0 _ ha s hu⟩
   ·cases h
  ·cases h
 | .agg l,r,u,m,k,rw0,z,mF,h,hm=>by
  simp only[PK.x]at h
  split at h
  ·rename_i cs
   obtain⟨z0,m1,rw1,h1,h2,h3,h4,h5,h6⟩:=pkX_s l r cs m k rw0 z mF h hm
   refine⟨z0,m1,rw1,h1,by simp only[PK.mk]; exact h2,h3,h4,h5,fun E0 v ha s hu=>?_⟩
   simp only[DV.h]at hu
   obtain⟨vs,rfl,hu⟩:=hu
   simp only[PK.mk,DV.h]
   exact⟨vs,rfl,h6 E0 _ ha s hu⟩
  ·cases h
theorem pkX_s{am:List (Nat×Nat)}{E:Env}:(l:List PK)→(r:DT)→(us:List DV)→(m:MS)→(k:MS→Option (r.den×MS))→(rw0:List DR)→(z:(pkT l r).den)→(mF:MS)→pkX am l r us m k=some (z,mF)→MI E m rw0→
  ∃z0 m1 rw1,k m1=some (z0,mF)∧(pkM l r z rw0).2=(z0,rw1)∧MI E m1 rw1∧(∃a,m1.rs=m.rs++a)∧(∃b,rw1=rw0++b)∧
   ∀E0 vs,(∃a,mF.rs=m1.rs++a)→TrI am mF.rs E E0→hL E us vs→hL E0 (pkM l r z rw0).1 vs
 |[],r,us,m,k,rw0,z,mF,h,hm=>by
  simp only[pkX]at h
  split at h
  ·exact⟨z,m,rw0,h,rfl,hm,⟨[],by simp⟩,⟨[],by simp⟩,fun E0 vs _ _ hu=>by simpa only[pkM,hL]using hu⟩
  ·cases h
 |p::l,r,us,m,k,rw0,z,mF,h,hm=>by
  simp only[pkX]at h
  split at h
  ·rename_i u us
   obtain⟨z0,m1,rw1,h1,h2,h3,⟨a1,h4⟩,⟨b1,h5⟩,h6⟩:=PK.x_s p (pkT l r) u m _ rw0 z mF h hm
   obtain⟨z2,m2,rw2,g1,g2,g3,⟨a2,g4⟩,⟨b2,g5⟩,g6⟩:=pkX_s l r us m1 k rw1 z0 mF h1 h3
   have e1:(p.mk (pkT l r) z rw0)=((p.mk (pkT l r) z rw0).1,z0,rw1):=by rw[←h2]
   refine⟨z2,m2,rw2,g1,?_,g3,⟨a1++a2,by rw[g4,h4,List.append_assoc]⟩,⟨b1++b2,by rw[g5,h5,List.append_assoc]⟩,fun E0 vs ⟨a,ha⟩ s hu=>?_⟩
   ·simp only[pkM]; rw[e1]; simp only[g2]
   ·simp only[hL]at hu
    obtain⟨v,vs',rfl,hu1,hu2⟩:=hu
    simp only[pkM]; rw[e1]; simp only[hL]
    exact⟨v,vs',rfl,h6 E0 v ⟨a2++a,by rw[ha,g4,List.append_assoc]⟩ s hu1,g6 E0 vs' ⟨a,ha⟩ s hu2⟩
  ·cases h
end
theorem bkX_s{am:List (Nat×Nat)}{E:Env}:(l:List BK)→(n:Nat)→(r:DT)→(m:MS)→(k:MS→Option (r.den×MS))→(rw0:List DR)→(z:(bkT l r).den)→(mF:MS)→bkX am E.pb l n r m k=some (z,mF)→MI E m rw0→
  ∃z0 m1 rw1,k m1=some (z0,mF)∧(bkM l r z rw0).2=(z0,rw1)∧MI E m1 rw1∧(∃a,m1.rs=m.rs++a)∧(∃b,rw1=rw0++b)∧(bkM l r z rw0).1.length=l.length∧
   (∀(q:Nat) (b0:DB),(bkM l r z rw0).1[q]?=some (some b0)→∃i b,lkA am (n+q)=some i∧E.pb[i]?=some (some b)∧b0.ty=b.ty∧b0.w=true∧
    ∀E0,(∃a,mF.rs=m1.rs++a)→TrI am mF.rs E E0→∀vs,hL E b.cells vs→hL E0 b0.cells vs)∧
   (∀q:Nat,q<l.length→∃b0,(bkM l r z rw0).1[q]?=some (some b0))
 |[],n,r,m,k,rw0,z,mF,h,hm=>⟨z,m,rw0,h,rfl,hm,⟨[],by simp⟩,⟨[],by simp⟩,rfl,by simp[bkM],by simp⟩
 |Bk::l,n,r,m,k,rw0,z,mF,h,hm=>by
  simp only[bkX]at h
  split at h
  ·rename_i i hi
   split at h
   ·rename_i b hb
    rw[zly]at hb
    split at h
    ·rename_i hty
     have hty:=Nat.eq_of_beq_eq_true hty
     obtain⟨z0,m1,rw1,h1,h2,h3,⟨a1,h4⟩,⟨b1,h5⟩,h6⟩:=pkX_s Bk.cells (bkT l r) b.cells m _ rw0 z mF h hm
     obtain⟨z2,m2,rw2,g1,g2,g3,⟨a2,g4⟩,⟨b2,g5⟩,g6,g7,g8⟩:=bkX_s l (n+1) r m1 k rw1 z0 mF h1 h3
     have e1:(pkM Bk.cells (bkT l r) z rw0)=((pkM Bk.cells (bkT l r) z rw0).1,z0,rw1):=by rw[←h2]
     have e2:bkM (Bk::l) r z rw0=(some ⟨Bk.ty,(pkM Bk.cells (bkT l r) z rw0).1,true⟩::(bkM l r z0 rw1).1,z2,rw2):=by
      simp only[bkM]; rw[e1]; simp only[g2]
     rw[e2]
     refine⟨z2,m2,rw2,g1,rfl,g3,⟨a1++a2,by rw[g4,h4,List.append_assoc]⟩,⟨b1++b2,by rw[g5,h5,List.append_assoc]⟩,by simp[g6],fun q b0 hq=>?_,fun q hq=>?_⟩
     ·cases q with
      |zero=>
       simp only[List.getElem?_cons_zero,Option.some.injEq]at hq; subst hq
       exact⟨i,b,hi,hb,hty.symm,rfl,fun E0 ⟨a,ha⟩ s vs hv=>h6 E0 vs ⟨a2++a,by rw[ha,g4,List.append_assoc]⟩ s hv⟩
      |succ q=>
       obtain⟨i',b',k1,k2,k3,k4,k5⟩:=g7 q b0 (by simpa using hq)
       exact⟨i',b',by rw[show n+(q+1)=n+1+q by omega]; exact k1,k2,k3,k4,k5⟩
     ·cases q with
      |zero=>exact⟨_,rfl⟩
      |succ q=>simpa using g8 q (by simpa using hq)
    ·cases h
   ·cases h
  ·cases h
end Go.Vc

namespace Go.Vc
open Go Go.RowKit
def Pre(a b:List Nat):Prop:=∃c,b=a++c
theorem Pre.refl(a:List Nat):Pre a a:=⟨[],by simp⟩
theorem Pre.trans{a b c:List Nat}(h:Pre a b)(k:Pre b c):Pre a c:=by obtain⟨x,rfl⟩:=h; obtain⟨y,rfl⟩:=k; exact⟨x++y,by simp⟩
theorem Pre.get{a b:List Nat}(h:Pre a b){n j:Nat}(hn:a[n]?=some j):b[n]?=some j:=by
 obtain⟨c,rfl⟩:=h
 rw[List.getElem?_append_left (List.getElem?_eq_some_iff.1 hn).1]; exact hn
structure RO(base rwE:List DR)(ρ:List (Option Nat))(rwC:List DR)(js:List Nat):Prop where
 len:js.length=rwE.length
 row:∀(n j:Nat) (r:DR),js[n]?=some j→rwE[n]?=some r→rwC[j]?=some r
 inj:∀(n n' j:Nat),js[n]?=some j→js[n']?=some j→n=n'
 sup:∀(a j:Nat),ρ[a]?=some (some j)→rwC[j]?=some .dead∧base[j]?=some .dead∧∀n:Nat,js[n]?≠some j
 supn:∀(a b j:Nat),ρ[a]?=some (some j)→ρ[b]?=some (some j)→a=b
 old:∀j:Nat,(∀n:Nat,js[n]?≠some j)→rwC[j]?=base[j]?
 new:∀(n j:Nat),js[n]?=some j→base[j]?=some .dead∨base[j]?=none
 own:∀(n:Nat) (r:DR),rwE[n]?=some r→∃e t l,r=.own e t l
theorem RO.tail{base rwE:List DR}{x:Option Nat}{ρ:List (Option Nat)}{rwC:List DR}{js:List Nat}(h:RO base rwE (x::ρ) rwC js):RO base rwE ρ rwC js:=
 ⟨h.len,h.row,h.inj,fun a j ha=>h.sup (a+1) j (by simpa using ha),fun a b j ha hb=>by have:=h.supn (a+1) (b+1) j (by simpa using ha) (by simpa using hb); omega,h.old,h.new,h.own⟩
theorem RO.lt{base rwE:List DR}{ρ:List (Option Nat)}{rwC:List DR}{js:List Nat}(h:RO base rwE ρ rwC js){n j:Nat}(hn:js[n]?=some j):j<rwC.length:=by
 have hl:=(List.getElem?_eq_some_iff.1 hn).1
 rw[h.len]at hl
 exact(List.getElem?_eq_some_iff.1 (h.row n j _ hn (List.getElem?_eq_getElem hl))).1
theorem RO.put{base rwE:List DR}{ρ:List (Option Nat)}{rwC rwC':List DR}{js:List Nat}(h:RO base rwE ρ rwC js){j:Nat}{e:TypeId}{t:DT}{l:List t.den}(hn:∀n:Nat,js[n]?≠some j)(hj:rwC'[j]?=some (.own e t l))(ho:∀k:Nat,k≠j→rwC'[k]?=rwC[k]?)
  (hb:base[j]?=some .dead∨base[j]?=none) (hs:∀a:Nat,ρ[a]?≠some (some j)):RO base (rwE++[.own e t l]) ρ rwC' (js++[j]):=by
 have ne:∀{n k:Nat},js[n]?=some k→k≠j:=fun hk=>by rintro rfl; exact hn _ hk
 refine⟨by simp[h.len],fun n k r h1 h2=>?_,fun n n' k h1 h2=>?_,fun a k ha=>?_,h.supn,fun k hk=>?_,fun n k h1=>?_,fun n r h1=>?_⟩
 ·rcases zcz h1 with ⟨g0,g1⟩|⟨g0,g1⟩
  ·rcases zcz h2 with ⟨_,g2⟩|⟨g2,_⟩
   ·rw[ho k (ne g1)]; exact h.row n k r g1 g2
   ·have:=h.len; omega
  ·rcases zcz h2 with ⟨g2,_⟩|⟨_,g2⟩
   ·have:=h.len; omega
   ·subst g1 g2; exact hj
 ·rcases zcz h1 with ⟨_,g1⟩|⟨g0,g1⟩
  ·rcases zcz h2 with ⟨_,g2⟩|⟨_,g2⟩
   ·exact h.inj n n' k g1 g2
   ·exact absurd g2.symm (ne g1)
  ·rcases zcz h2 with ⟨_,g2⟩|⟨g3,_⟩
   ·exact absurd g1.symm (ne g2)
   ·omega
 ·obtain⟨g1,g2,g3⟩:=h.sup a k ha
  have hkj:k≠j:=by rintro rfl; exact hs a ha
  refine⟨by rw[ho k hkj]; exact g1,g2,fun n hk=>?_⟩
  rcases zcz hk with ⟨_,g⟩|⟨_,g⟩
  ·exact g3 n g
  ·exact hkj g.symm
 ·have hkj:k≠j:=by rintro rfl; exact hk js.length (by simp)
  rw[ho k hkj]
  refine h.old k fun n hk'=>hk n ?_
  rw[List.getElem?_append_left (List.getElem?_eq_some_iff.1 hk').1]; exact hk'
 ·rcases zcz h1 with ⟨_,g⟩|⟨_,g⟩
  ·exact h.new n k g
  ·subst g; exact hb
 ·rcases zcz h1 with ⟨_,g⟩|⟨_,g⟩
  ·exact h.own n r g
  ·exact⟨e,t,l,g.symm⟩
section
variable {β:Type} {q:β} {σ:Nat→Option Nat} {base:List DR}
theorem rowO_s{ρ:List (Option Nat)}{e:TypeId}{t:DT}{l:List t.den}{rwC rwE:List DR}{js:List Nat}{K:DV→List (Option Nat)→List DR→Option β}(h:rowO ρ e t l rwC K=some q)(ro:RO base rwE ρ rwC js):
  ∃j ρ' rwC',K (.row j) ρ' rwC'=some q∧RO base (rwE++[.own e t l]) ρ' rwC' (js++[j]):=by
 have push:∀ρ',RO base rwE ρ' rwC js→K (.row rwC.length) ρ' (rwC++[.own e t l])=some q→∃j ρ' rwC',K (.row j) ρ' rwC'=some q∧RO base (rwE++[.own e t l]) ρ' rwC' (js++[j]):=fun ρ' ro h=>by
  have hn:∀n:Nat,js[n]?≠some rwC.length:=fun n hn=>by have:=ro.lt hn; omega
  refine⟨_,ρ',_,h,ro.put hn (by simp) (fun k hk=>?_) (.inr ?_) fun a ha=>?_⟩
  ·rcases Nat.lt_or_ge k rwC.length with hl|hl
   ·rw[List.getElem?_append_left hl]
   ·rw[List.getElem?_eq_none (by simp; omega),List.getElem?_eq_none hl]
  ·rw[←ro.old _ hn,List.getElem?_eq_none (Nat.le_refl _)]
  ·have:=(ro.sup a _ ha).1; rw[List.getElem?_eq_none (Nat.le_refl _)]at this; cases this
 unfold rowO at h
 split at h
 ·rename_i j ρ'
  rw[zdg]at h
  obtain⟨g1,g2,g3⟩:=ro.sup 0 j rfl
  have hl:=(List.getElem?_eq_some_iff.1 g1).1
  refine⟨j,ρ',_,h,ro.tail.put g3 (by rw[List.getElem?_set,if_pos rfl,if_pos hl]) (fun k hk=>by rw[List.getElem?_set,if_neg (Ne.symm hk)]) (.inl g2) fun a ha=>?_⟩
  have:=ro.supn 0 (a+1) j rfl (by simpa using ha)
  omega
 ·rename_i ρ'
  rw[zfl,zju]at h
  exact push _ ro.tail h
 ·rw[zfl,zju]at h
  exact push _ ro h
theorem zqv(js:List Nat):(t:DT)→(x:t.den)→(r:List DV)→renL σ js (t.cells x r)=t.cells x (renL σ js r)
 | .int _,_,_ | .bool,_,_ | .str,_,_ | .slc _,_,_ | .set,_,_ | .unit,_,_=>rfl
 | .pair a b,x,r=>by simp only[DT.cells]; rw[zqv js a,zqv js b]
theorem val_ren(js:List Nat):(t:DT)→(x:t.den)→(t.val x).ren σ js=t.val x
 | .int _,_ | .bool,_ | .str,_ | .slc _,_ | .set,_ | .unit,_=>rfl
 | .pair a b,x=>by simp only[DT.val,DV.ren]; rw[zqv js a,zqv js b]; rfl
theorem ren_row{js:List Nat}{n j:Nat}(h:js[n]?=some j):(DV.row n).ren σ js=.row j:=by simp only[DV.ren,h]
mutual
theorem PK.o_s:(p:PK)→(r:DT)→(z:(p.T r).den)→(ρ:List (Option Nat))→(rwC:List DR)→(K:DV→r.den→List (Option Nat)→List DR→Option β)→(rwE:List DR)→(js:List Nat)→p.o σ r z ρ rwC K=some q→RO base rwE ρ rwC js→
  ∃d ρ' rwC' js',K d (p.mk r z rwE).2.1 ρ' rwC'=some q∧RO base (p.mk r z rwE).2.2 ρ' rwC' js'∧Pre js js'∧∀jsF,Pre js' jsF→d=(p.mk r z rwE).1.ren σ jsF
 | .v t,r,z,ρ,rwC,K,rwE,js,h,ro=>⟨_,ρ,rwC,js,h,ro,Pre.refl _,fun jsF _=>(val_ren jsF t z.1).symm⟩
 | .row e t,r,z,ρ,rwC,K,rwE,js,h,ro=>by
  simp only[PK.o]at h
  obtain⟨j,ρ',rwC',h1,h2⟩:=rowO_s h ro
  exact⟨_,ρ',rwC',_,h1,h2,⟨[j],rfl⟩,fun jsF hp=>(ren_row (hp.get (by rw[←ro.len]; simp))).symm⟩
 | .ptr k,r,z,ρ,rwC,K,rwE,js,h,ro=>by
  simp only[PK.o]at h
  split at h
  ·rename_i i hi
   exact⟨_,ρ,rwC,js,h,ro,Pre.refl _,fun jsF _=>by simp only[PK.mk,DV.ren,hi]⟩
  ·cases h
 | .fn g l,r,z,ρ,rwC,K,rwE,js,h,ro=>by
  simp only[PK.o]at h
  obtain⟨ds,ρ',rwC',js',h1,h2,h3,h4⟩:=pkO_s l r z ρ rwC _ rwE js h ro
  exact⟨_,ρ',rwC',js',h1,h2,h3,fun jsF hp=>by simp only[PK.mk,DV.ren]; rw[h4 jsF hp]⟩
 | .agg l,r,z,ρ,rwC,K,rwE,js,h,ro=>by
  simp only[PK.o]at h
  obtain⟨ds,ρ',rwC',js',h1,h2,h3,h4⟩:=pkO_s l r z ρ rwC _ rwE js h ro
  exact⟨_,ρ',rwC',js',h1,h2,h3,fun jsF hp=>by simp only[PK.mk,DV.ren]; rw[h4 jsF hp]⟩
theorem pkO_s:(l:List PK)→(r:DT)→(z:(pkT l r).den)→(ρ:List (Option Nat))→(rwC:List DR)→(K:List DV→r.den→List (Option Nat)→List DR→Option β)→(rwE:List DR)→(js:List Nat)→pkO σ l r z ρ rwC K=some q→RO base rwE ρ rwC js→
  ∃ds ρ' rwC' js',K ds (pkM l r z rwE).2.1 ρ' rwC'=some q∧RO base (pkM l r z rwE).2.2 ρ' rwC' js'∧Pre js js'∧∀jsF,Pre js' jsF→ds=renL σ jsF (pkM l r z rwE).1
 |[],r,z,ρ,rwC,K,rwE,js,h,ro=>⟨[],ρ,rwC,js,h,ro,Pre.refl _,fun _ _=>rfl⟩
 |p::l,r,z,ρ,rwC,K,rwE,js,h,ro=>by
  simp only[pkO]at h
  obtain⟨d,ρ1,rwC1,js1,h1,h2,h3,h4⟩:=PK.o_s p (pkT l r) z ρ rwC _ rwE js h ro
  obtain⟨ds,ρ2,rwC2,js2,g1,g2,g3,g4⟩:=pkO_s l r _ ρ1 rwC1 _ _ js1 h1 h2
  exact⟨d::ds,ρ2,rwC2,js2,g1,g2,h3.trans g3,fun jsF hp=>by simp only[pkM,renL]; rw[←h4 jsF (g3.trans hp),←g4 jsF hp]⟩
end
mutual
theorem QT.o_s:(Q:QT)→(x:Q.den)→(ρ:List (Option Nat))→(rwC:List DR)→(K:DV→List (Option Nat)→List DR→Option β)→(rwE:List DR)→(js:List Nat)→Q.o σ x ρ rwC K=some q→RO base rwE ρ rwC js→
  ∃d ρ' rwC' js',K d ρ' rwC'=some q∧RO base (Q.mk x rwE).2 ρ' rwC' js'∧Pre js js'∧∀jsF,Pre js' jsF→d=(Q.mk x rwE).1.ren σ jsF
 | .v t,x,ρ,rwC,K,rwE,js,h,ro=>⟨_,ρ,rwC,js,h,ro,Pre.refl _,fun jsF _=>(val_ren jsF t x).symm⟩
 | .own e t,x,ρ,rwC,K,rwE,js,h,ro=>by
  simp only[QT.o]at h
  obtain⟨j,ρ',rwC',h1,h2⟩:=rowO_s h ro
  exact⟨_,ρ',rwC',_,h1,h2,⟨[j],rfl⟩,fun jsF hp=>(ren_row (hp.get (by rw[←ro.len]; simp))).symm⟩
 | .ptr k,x,ρ,rwC,K,rwE,js,h,ro=>by
  simp only[QT.o]at h
  split at h
  ·rename_i i hi
   exact⟨_,ρ,rwC,js,h,ro,Pre.refl _,fun jsF _=>by simp only[QT.mk,DV.ren,hi]⟩
  ·cases h
 | .unit,x,ρ,rwC,K,rwE,js,h,ro=>⟨_,ρ,rwC,js,h,ro,Pre.refl _,fun jsF _=>rfl⟩
 | .pair a b,x,ρ,rwC,K,rwE,js,h,ro=>by
  simp only[QT.o]at h
  obtain⟨d,ρ1,rwC1,js1,h1,h2,h3,h4⟩:=QT.o_s a x.1 ρ rwC _ rwE js h ro
  obtain⟨ds,ρ2,rwC2,js2,g1,g2,g3,g4⟩:=QT.os_s b x.2 ρ1 rwC1 _ _ js1 h1 h2
  exact⟨_,ρ2,rwC2,js2,g1,g2,h3.trans g3,fun jsF hp=>by simp only[QT.mk,DV.ren,renL]; rw[←h4 jsF (g3.trans hp),←g4 jsF hp]⟩
theorem QT.os_s:(Q:QT)→(x:Q.den)→(ρ:List (Option Nat))→(rwC:List DR)→(K:List DV→List (Option Nat)→List DR→Option β)→(rwE:List DR)→(js:List Nat)→Q.os σ x ρ rwC K=some q→RO base rwE ρ rwC js→
  ∃ds ρ' rwC' js',K ds ρ' rwC'=some q∧RO base (Q.mks x rwE).2 ρ' rwC' js'∧Pre js js'∧∀jsF,Pre js' jsF→ds=renL σ jsF (Q.mks x rwE).1
 | .v t,x,ρ,rwC,K,rwE,js,h,ro=>⟨_,ρ,rwC,js,h,ro,Pre.refl _,fun jsF _=>rfl⟩
 | .own e t,x,ρ,rwC,K,rwE,js,h,ro=>⟨_,ρ,rwC,js,h,ro,Pre.refl _,fun jsF _=>rfl⟩
 | .ptr k,x,ρ,rwC,K,rwE,js,h,ro=>⟨_,ρ,rwC,js,h,ro,Pre.refl _,fun jsF _=>rfl⟩
 | .unit,x,ρ,rwC,K,rwE,js,h,ro=>⟨_,ρ,rwC,js,h,ro,Pre.refl _,fun jsF _=>rfl⟩
 | .pair a b,x,ρ,rwC,K,rwE,js,h,ro=>by
  simp only[QT.os]at h
  obtain⟨d,ρ1,rwC1,js1,h1,h2,h3,h4⟩:=QT.o_s a x.1 ρ rwC _ rwE js h ro
  obtain⟨ds,ρ2,rwC2,js2,g1,g2,g3,g4⟩:=QT.os_s b x.2 ρ1 rwC1 _ _ js1 h1 h2
  exact⟨_,ρ2,rwC2,js2,g1,g2,h3.trans g3,fun jsF hp=>by simp only[QT.mks,renL]; rw[←h4 jsF (g3.trans hp),←g4 jsF hp]⟩
end
theorem bkO_s{m:Nat}(hσ:∀(k k' i:Nat),σ k=some i→σ k'=some i→k=k'):(l:List BK)→(n:Nat)→(r:DT)→(z:(bkT l r).den)→(ρ:List (Option Nat))→(pb:DBs)→(rwC:List DR)→(K:r.den→List (Option Nat)→DBs→List DR→Option β)→(rwE:List DR)→(js:List Nat)→
  bkO σ m l n r z ρ pb rwC K=some q→RO base rwE ρ rwC js→(∀k i,k<m→σ k=some i→i<pb.length)→(∀k,m≤k→n≤k→σ k=some (pb.length+(k - max n m)))→
  ∃ρ' pb' rwC' js',K (bkM l r z rwE).2.1 ρ' pb' rwC'=some q∧RO base (bkM l r z rwE).2.2 ρ' rwC' js'∧Pre js js'∧
   (∀i,i<pb.length→(∀k,n≤k→k<m→σ k≠some i)→pb'[i]?=pb[i]?)∧
   (∀k b1 i,(bkM l r z rwE).1[k]?=some (some b1)→σ (n+k)=some i→∀jsF,Pre js' jsF→pb'[i]?=some (some ⟨b1.ty,renL σ jsF b1.cells,true⟩))∧
   (∀i,i<pb'.length→i<pb.length∨∃k,k<l.length∧m≤n+k∧σ (n+k)=some i)∧(∀i,i<pb.length→live pb i→live pb' i)∧(∀k i,n≤k→k<n+l.length→k<m→σ k=some i→live pb' i)
 |[],n,r,z,ρ,pb,rwC,K,rwE,js,h,ro,h1,h2=>⟨ρ,pb,rwC,js,h,ro,Pre.refl _,fun _ _ _=>rfl,fun k b1 i hk=>by simp[bkM]at hk,fun i hi=>.inl hi,fun _ _ h=>h,fun k i a b=>by simp at b; omega⟩
 |Bk::l,n,r,z,ρ,pb,rwC,K,rwE,js,h,ro,h1,h2=>by
  simp only[bkO]at h
  obtain⟨ds,ρ1,rwC1,js1,h3,h4,h5,h6⟩:=pkO_s Bk.cells (bkT l r) z ρ rwC _ rwE js h ro
  have e2:bkM (Bk::l) r z rwE=(some ⟨Bk.ty,(pkM Bk.cells (bkT l r) z rwE).1,true⟩::(bkM l r (pkM Bk.cells (bkT l r) z rwE).2.1 (pkM Bk.cells (bkT l r) z rwE).2.2).1,(bkM l r (pkM Bk.cells (bkT l r) z rwE).2.1 (pkM Bk.cells (bkT l r) z rwE).2.2).2.1,(bkM l r (pkM Bk.cells (bkT l r) z rwE).2.1 (pkM Bk.cells (bkT l r) z rwE).2.2).2.2):=rfl
  rw[e2]
  split at h3
  ·rename_i hnm
   have hnm:=Nat.le_of_ble_eq_true hnm
   split at h3
   ·rename_i i hi
    rw[zdg]at h3
    have hil:=h1 n i (by omega) hi
    obtain⟨ρ2,pb2,rwC2,js2,g1,g2,g3,g4,g5,g6,g7,g8⟩:=bkO_s hσ l (n+1) r _ ρ1 _ rwC1 K _ js1 h3 h4 (fun k i' hk hk'=>by simpa using h1 k i' hk hk') (fun k hk hk'=>by rw[h2 k hk (by omega)]; simp; omega)
    refine⟨ρ2,pb2,rwC2,js2,g1,g2,h5.trans g3,fun i' hi' hno=>?_,fun k b1 i' hk hk' jsF hp=>?_,fun i' hi'=>?_,fun i' hi' hl=>?_,fun k i' ha hb hm hk=>?_⟩
    ·rw[g4 i' (by simpa using hi') fun k hk hk'=>hno k (by omega) hk',List.getElem?_set,if_neg]
     rintro rfl; exact hno n (Nat.le_refl _) (by omega) hi
    ·cases k with
     |zero=>
      simp only[List.getElem?_cons_zero,Option.some.injEq]at hk; subst hk
      rw[Nat.add_zero,hi]at hk'; simp only[Option.some.injEq]at hk'; subst hk'
      rw[g4 i (by simpa using hil) fun k hk hk' hk2=>by have:=hσ _ _ _ hk2 hi; omega,List.getElem?_set,if_pos rfl,if_pos hil,h6 jsF (g3.trans hp)]
     |succ k=>exact g5 k b1 i' (by simpa using hk) (by rw[show n+1+k=n+(k+1) by omega]; exact hk') jsF hp
    ·rcases g6 i' hi' with h'|⟨k,k1,k2,k3⟩
     ·exact .inl (by simpa using h')
     ·exact .inr ⟨k+1,by simp; omega,by omega,by rw[show n+(k+1)=n+1+k by omega]; exact k3⟩
    ·refine g7 i' (by simpa using hi') ?_
     obtain⟨b,hb⟩:=hl
     unfold live
     rw[List.getElem?_set]; split
     ·rename_i e; subst e; exact⟨_,rfl⟩
     ·exact⟨b,hb⟩
    ·by_cases hkn:k=n
     ·subst hkn
      rw[hi]at hk; simp only[Option.some.injEq]at hk; subst hk
      refine g7 i (by simpa using hil) ?_
      unfold live
      rw[List.getElem?_set,if_pos rfl,if_pos hil]; exact⟨_,rfl⟩
     ·exact g8 k i' (by omega) (by simp at hb; omega) hm hk
   ·cases h3
  ·rename_i hnm
   have hnm:m≤n:=by
    rcases Nat.lt_or_ge n m with h'|h'
    ·have:=Nat.ble_eq_true_of_le h'; simp only[Nat.blt]at hnm; rw[this]at hnm; cases hnm
    ·exact h'
   rw[zfl]at h3
   have hsn:σ n=some pb.length:=by have:=h2 n hnm (Nat.le_refl _); rw[Nat.max_eq_left hnm]at this; simpa using this
   obtain⟨ρ2,pb2,rwC2,js2,g1,g2,g3,g4,g5,g6,g7,g8⟩:=bkO_s hσ l (n+1) r _ ρ1 _ rwC1 K _ js1 h3 h4 (fun k i' hk hk'=>by have:=h1 k i' hk hk'; simp; omega) (fun k hk hk'=>by rw[h2 k hk (by omega)]; simp; omega)
   refine⟨ρ2,pb2,rwC2,js2,g1,g2,h5.trans g3,fun i' hi' hno=>?_,fun k b1 i' hk hk' jsF hp=>?_,fun i' hi'=>?_,fun i' hi' hl=>?_,fun k i' ha hb hm hk=>by omega⟩
   ·rw[g4 i' (by simp; omega) fun k hk hk'=>by omega,List.getElem?_append_left hi']
   ·cases k with
    |zero=>
     simp only[List.getElem?_cons_zero,Option.some.injEq]at hk; subst hk
     rw[Nat.add_zero,hsn]at hk'; simp only[Option.some.injEq]at hk'; subst hk'
     rw[g4 pb.length (by simp) fun k hk hk'=>by omega,h6 jsF (g3.trans hp)]; simp
    |succ k=>exact g5 k b1 i' (by simpa using hk) (by rw[show n+1+k=n+(k+1) by omega]; exact hk') jsF hp
   ·rcases g6 i' hi' with h'|⟨k,k1,k2,k3⟩
    ·rcases Nat.lt_or_ge i' pb.length with hl|hl
     ·exact .inl hl
     ·have:i'=pb.length:=by simp at h'; omega
      subst this
      exact .inr ⟨0,by simp,by omega,by simpa using hsn⟩
    ·exact .inr ⟨k+1,by simp; omega,by omega,by rw[show n+(k+1)=n+1+k by omega]; exact k3⟩
   ·refine g7 i' (by simp; omega) ?_
    obtain⟨b,hb⟩:=hl
    exact⟨b,by rw[List.getElem?_append_left hi']; exact hb⟩
end
end Go.Vc

namespace Go.Vc
open Go Go.RowKit
mutual
theorem DV.okf_true:(p:DV)→p.okf true=true
 | .fn _ cs=>by simp only[DV.okf]; exact zmv cs
 | .agg cs=>by simp only[DV.okf]; exact zmv cs
 | .tup cs=>by simp only[DV.okf]; exact zmv cs
 | .sl _ _ | .set _ | .int _ _ | .bool _ | .lit _ | .str _ | .v _ | .und | .row _ | .el _ _ _ | .re _ _ _ | .rt _ _ | .ob _ | .own _ _ | .junk=>rfl
theorem zmv:(ps:List DV)→okfL true ps=true
 |[]=>rfl
 |p::ps=>by simp only[okfL,DV.okf_true p,zmv ps]; rfl
end
theorem zqw{f:Bool}:(t:DT)→(x:t.den)→(r:List DV)→t.free=true→okfL f r=true→okfL f (t.cells x r)=true
 | .int _,_,r,_,h | .bool,_,r,_,h | .str,_,r,_,h=>by simp only[DT.cells,okfL,DV.okf]; exact h
 | .slc _,_,_,h,_=>by cases h
 | .set,_,_,h,_=>by cases h
 | .unit,_,r,_,h=>h
 | .pair a b,x,r,hf,h=>by
  simp only[DT.free,Bool.and_eq_true]at hf
  exact zqw a _ _ hf.1 (zqw b _ _ hf.2 h)
theorem val_okf{f:Bool}:(t:DT)→(x:t.den)→t.free=true→(t.val x).okf f=true
 | .int _,_,_ | .bool,_,_ | .str,_,_ | .unit,_,_=>rfl
 | .slc _,_,h=>by cases h
 | .set,_,h=>by cases h
 | .pair a b,x,hf=>by
  simp only[DT.free,Bool.and_eq_true]at hf
  simp only[DT.val,DV.okf]
  exact zqw a _ _ hf.1 (zqw b _ _ hf.2 rfl)
def rwFree(rw:List DR):Prop:=∀(n:Nat) e t l,rw[n]?=some (.own e t l)→t.free=true
theorem rwFree.snoc{rw:List DR}(h:rwFree rw){e:TypeId}{t:DT}(l:List t.den)(ht:t.free=true):rwFree (rw++[.own e t l]):=by
 intro n e' t' l' hn
 rcases zcz hn with ⟨_,g⟩|⟨_,g⟩
 ·exact h n e' t' l' g
 ·simp only[DR.own.injEq]at g; obtain⟨_,rfl,_⟩:=g; exact ht
mutual
theorem PK.mk_okf:(p:PK)→(r:DT)→(z:(p.T r).den)→(rw:List DR)→p.free=true→rwFree rw→(p.mk r z rw).1.okf false=true∧rwFree (p.mk r z rw).2.2
 | .v t,r,z,rw,h,hr=>⟨val_okf t _ (by simpa only[PK.free]using h),hr⟩
 | .row e t,r,z,rw,h,hr=>⟨rfl,hr.snoc _ (by simpa only[PK.free]using h)⟩
 | .ptr k,r,z,rw,h,hr=>⟨rfl,hr⟩
 | .fn g l,r,z,rw,h,hr=>by simp only[PK.mk,DV.okf]; exact zzx l r z rw (by simpa only[PK.free]using h) hr
 | .agg l,r,z,rw,h,hr=>by simp only[PK.mk,DV.okf]; exact zzx l r z rw (by simpa only[PK.free]using h) hr
theorem zzx:(l:List PK)→(r:DT)→(z:(pkT l r).den)→(rw:List DR)→pkFree l=true→rwFree rw→okfL false (pkM l r z rw).1=true∧rwFree (pkM l r z rw).2.2
 |[],r,z,rw,_,hr=>⟨rfl,hr⟩
 |p::l,r,z,rw,h,hr=>by
  simp only[pkFree,Bool.and_eq_true]at h
  obtain⟨h1,h2⟩:=PK.mk_okf p (pkT l r) z rw h.1 hr
  obtain⟨h3,h4⟩:=zzx l r _ _ h.2 h2
  exact⟨by simp only[pkM,okfL,h1,h3,Bool.and_self],h4⟩
end
theorem bkM_okf:(l:List BK)→(r:DT)→(z:(bkT l r).den)→(rw:List DR)→bkFree l=true→rwFree rw→(∀(k:Nat) b,(bkM l r z rw).1[k]?=some (some b)→okfL false b.cells=true)∧rwFree (bkM l r z rw).2.2
 |[],r,z,rw,_,hr=>⟨fun k b h=>by simp[bkM]at h,hr⟩
 |Bk::l,r,z,rw,h,hr=>by
  simp only[bkFree,Bool.and_eq_true]at h
  obtain⟨h1,h2⟩:=zzx Bk.cells (bkT l r) z rw h.1 hr
  obtain⟨h3,h4⟩:=bkM_okf l r _ _ h.2 h2
  refine⟨fun k b hk=>?_,h4⟩
  simp only[bkM]at hk
  cases k with
  |zero=>simp only[List.getElem?_cons_zero,Option.some.injEq]at hk; subst hk; exact h1
  |succ k=>exact h3 k b (by simpa using hk)
mutual
theorem QT.mk_okf:(Q:QT)→(x:Q.den)→(rw:List DR)→Q.free=true→rwFree rw→(Q.mk x rw).1.okf false=true∧rwFree (Q.mk x rw).2
 | .v t,x,rw,h,hr=>⟨val_okf t _ h,hr⟩
 | .own e t,x,rw,h,hr=>⟨rfl,hr.snoc _ h⟩
 | .ptr k,x,rw,h,hr=>⟨rfl,hr⟩
 | .unit,x,rw,h,hr=>⟨rfl,hr⟩
 | .pair a b,x,rw,h,hr=>by
  simp only[QT.free,Bool.and_eq_true]at h
  obtain⟨h1,h2⟩:=QT.mk_okf a x.1 rw h.1 hr
  obtain⟨h3,h4⟩:=QT.mks_okf b x.2 _ h.2 h2
  exact⟨by simp only[QT.mk,DV.okf,okfL,h1,h3,Bool.and_self],h4⟩
theorem QT.mks_okf:(Q:QT)→(x:Q.den)→(rw:List DR)→Q.free=true→rwFree rw→okfL false (Q.mks x rw).1=true∧rwFree (Q.mks x rw).2
 | .v t,x,rw,h,hr=>⟨rfl,hr⟩
 | .own e t,x,rw,h,hr=>⟨rfl,hr⟩
 | .ptr k,x,rw,h,hr=>⟨rfl,hr⟩
 | .unit,x,rw,h,hr=>⟨rfl,hr⟩
 | .pair a b,x,rw,h,hr=>by
  simp only[QT.free,Bool.and_eq_true]at h
  obtain⟨h1,h2⟩:=QT.mk_okf a x.1 rw h.1 hr
  obtain⟨h3,h4⟩:=QT.mks_okf b x.2 _ h.2 h2
  exact⟨by simp only[QT.mks,okfL,h1,h3,Bool.and_self],h4⟩
end
open Classical in
noncomputable def hitB(B B1:Nat→Nat)(pb1:DBs)(σ:Nat→Option Nat):Nat→Nat:=fun i=>if h:∃k,live pb1 k∧σ k=some i then B1 (Classical.choose h) else B i
open Classical in
noncomputable def hitA(A A1:Asg)(js:List Nat):Asg:=fun j=>if h:∃n:Nat,js[n]?=some j then A1 (Classical.choose h) else A j
theorem zty{B B1:Nat→Nat}{pb1:DBs}{σ:Nat→Option Nat}(hσ:∀(k k' i:Nat),σ k=some i→σ k'=some i→k=k'){k i:Nat}(hl:live pb1 k)(hk:σ k=some i):hitB B B1 pb1 σ i=B1 k:=by
 have h:∃k,live pb1 k∧σ k=some i:=⟨k,hl,hk⟩
 unfold hitB; rw[dif_pos h,hσ _ _ _ (Classical.choose_spec h).2 hk]
theorem hitB_no{B B1:Nat→Nat}{pb1:DBs}{σ:Nat→Option Nat}{i:Nat}(h:¬ ∃k,live pb1 k∧σ k=some i):hitB B B1 pb1 σ i=B i:=by unfold hitB; rw[dif_neg h]
theorem yar{A A1:Asg}{js:List Nat}(hi:∀(n n' j:Nat),js[n]?=some j→js[n']?=some j→n=n'){n j:Nat}(hn:js[n]?=some j):hitA A A1 js j=A1 n:=by
 have h:∃n:Nat,js[n]?=some j:=⟨n,hn⟩
 unfold hitA; rw[dif_pos h,hi _ _ _ (Classical.choose_spec h) hn]
theorem zvy{A A1:Asg}{js:List Nat}{j:Nat}(h:¬ ∃n:Nat,js[n]?=some j):hitA A A1 js j=A j:=by unfold hitA; rw[dif_neg h]
section
variable {V:World} {U0 L:Nat→Prop} {al:Nat→Bool} {B B1:Nat→Nat} {A A1:Asg} {pb pb0 pb1 pbF:DBs} {rw rw0 rw1 rwF base:List DR} {w w':World} {σ0 σ:Nat→Option Nat} {rs ρ:List (Option Nat)} {js:List Nat} {bor:Nat→Prop}
theorem Mem.back(f:Nat→Option DV)(fr:Bool)(m:Mem V U0 L B A pb rw w)
  (hrow:∀(n b:Nat),blk (lB B σ0) (lA A rs) pb0 rw0 true n b→∃j:Nat,rs[n]?=some (some j)∧blk B A pb rw true j b)
  (hbx:∀k b,blk (lB B σ0) (lA A rs) pb0 rw0 false k b→∃i,σ0 k=some i∧blk B A pb rw false i b)
  (hal:∀k i,σ0 k=some i→al i=true)
  (m1:Mem w (lU (Us U0 B A pb rw) B A rw (Ow (lB B σ0) (lA A rs) pb0 rw0) bor) (Ow (lB B σ0) (lA A rs) pb0 rw0) B1 A1 pb1 rw1 w')
  (hlive:∀i,live pb0 i→live pb1 i∧B1 i=lB B σ0 i)
  (hσ:∀(k k' i:Nat),σ k=some i→σ k'=some i→k=k') (hσ0:∀k i,live pb0 k→σ0 k=some i→σ k=some i) (hσl:∀k i,σ0 k=some i→live pb0 k)
  (hσn:∀k i,live pb1 k→σ k=some i→σ0 k=some i∨¬live pb i)
  (hpb:∀(i:Nat) (b':DB),pbF[i]?=some (some b')→(∃(k:Nat) (b1:DB),σ k=some i∧pb1[k]?=some (some b1)∧b'.ty=b1.ty∧b'.cells=renL σ js b1.cells∧b'.w=true)∨
   ((∀k,σ k=some i→¬live pb1 k)∧(∀k,σ0 k≠some i)∧∃b,pb[i]?=some (some b)∧b'=⟨b.ty,subL f b.cells,b.w⟩))
  (hpl:∀i,live pb i→live pbF i) (hlF:∀k i,σ k=some i→live pb1 k→live pbF i) (ro:RO base rw1 ρ rwF js)
  (hb1:∀j:Nat,(∀n:Nat,rs[n]?≠some (some j))→base[j]?=rw[j]?) (hb2:∀n j:Nat,rs[n]?=some (some j)→base[j]?=some .dead)
  (hf:∀j,f j=none→∀n:Nat,rs[n]?≠some (some j)) (hfj:∀j p,f j=some p→p=.junk)
  (hfr:fr=true→∀j,¬bor j) (hok:∀(k:Nat) b,pb1[k]?=some (some b)→okfL fr b.cells=true) (hok2:fr=false→rwFree rw1):
  Mem V U0 L (hitB B B1 pb1 σ) (hitA A A1 js) pbF rwF w'∧Sub f (env U0 B A pb rw w) (env U0 (hitB B B1 pb1 σ) (hitA A A1 js) pbF rwF w')∧Ext al B A pb rw w (hitB B B1 pb1 σ) (hitA A A1 js) pbF rwF w'∧
   Tr fr σ js (env (lU (Us U0 B A pb rw) B A rw (Ow (lB B σ0) (lA A rs) pb0 rw0) bor) B1 A1 pb1 rw1 w') (env U0 (hitB B B1 pb1 σ) (hitA A A1 js) pbF rwF w'):=by
 generalize hL0:Ow (lB B σ0) (lA A rs) pb0 rw0=L0 at*
 have L0s:∀b,L0 b→(∃k i,σ0 k=some i∧blk B A pb rw false i b)∨∃n j:Nat,rs[n]?=some (some j)∧blk B A pb rw true j b:=by
  intro b hb
  rw[←hL0]at hb
  obtain⟨k,i,hb⟩:=hb
  cases k with
  |true=>obtain⟨j,h1,h2⟩:=hrow i b hb; exact .inr ⟨i,j,h1,h2⟩
  |false=>obtain⟨j,h1,h2⟩:=hbx i b hb; exact .inl ⟨i,j,h1,h2⟩
 have L0w:∀b,L0 b→Wr al B A pb rw b:=fun b hb=>by
  rcases L0s b hb with ⟨k,i,h1,h2⟩|⟨n,j,_,h2⟩
  ·exact .inl ⟨i,hal k i h1,h2⟩
  ·exact .inr ⟨j,h2⟩
 have L0o:∀b,L0 b→∃k i,blk B A pb rw k i b:=fun b hb=>by
  rcases L0s b hb with ⟨k,i,h1,h2⟩|⟨n,j,_,h2⟩
  ·exact⟨_,i,h2⟩
  ·exact⟨_,j,h2⟩
 have jold:∀j:Nat,(¬ ∃n:Nat,js[n]?=some j)→rwF[j]?=base[j]?:=fun j h=>ro.old j fun n hn=>h ⟨n,hn⟩
 have jbase:∀j r,rw[j]?=some r→r≠.dead→(∀n:Nat,rs[n]?≠some (some j))→¬ ∃n:Nat,js[n]?=some j:=by
  rintro j r h1 h2 h3 ⟨n,hn⟩
  have:=hb1 j h3
  rw[h1]at this
  rcases ro.new n j hn with h|h
  ·rw[this]at h; simp at h; exact h2 h
  ·rw[this]at h; cases h
 have cl:∀k i b,blk (hitB B B1 pb1 σ) (hitA A A1 js) pbF rwF k i b→(∃i1,blk B1 A1 pb1 rw1 k i1 b∧((k=false∧σ i1=some i)∨(k=true∧js[i1]?=some i)))∨(blk B A pb rw k i b∧¬L0 b):=by
  intro k i b h
  cases k with
  |false=>
   obtain⟨⟨b',g1⟩,g2⟩:=h
   rcases hpb i b' g1 with ⟨k1,b1,h1,h2,_⟩|⟨h0,h1,b0,h2,_⟩
   ·rw[zty hσ ⟨b1,h2⟩ h1]at g2
    exact .inl ⟨k1,⟨⟨b1,h2⟩,g2⟩,.inl ⟨rfl,h1⟩⟩
   ·rw[hitB_no (by rintro⟨k,hk1,hk2⟩; exact h0 k hk2 hk1)]at g2
    have hbl:blk B A pb rw false i b:=⟨⟨b0,h2⟩,g2⟩
    refine .inr ⟨hbl,fun hL=>?_⟩
    rcases L0s b hL with ⟨k,i',e1,e2⟩|⟨n,j,_,e2⟩
    ·have:=(m.inj _ _ _ _ _ hbl e2).2; subst this; exact h1 k e1
    ·have:=(m.inj _ _ _ _ _ hbl e2).1; cases this
  |true=>
   obtain⟨r,ad,g1,g2,g3,g4⟩:=h
   by_cases hh:∃n:Nat,js[n]?=some i
   ·obtain⟨n,hn⟩:=hh
    have hl:=(List.getElem?_eq_some_iff.1 hn).1
    rw[ro.len]at hl
    have hr1:=List.getElem?_eq_getElem hl
    have:=ro.row n i _ hn hr1
    rw[g1]at this; simp only[Option.some.injEq]at this; subst this
    rw[yar ro.inj hn]at g3
    exact .inl ⟨n,⟨_,ad,hr1,g2,g3,g4⟩,.inr ⟨rfl,hn⟩⟩
   ·rw[jold i hh]at g1
    have hnr:∀n:Nat,rs[n]?≠some (some i):=fun n hn=>by rw[hb2 n i hn]at g1; simp at g1; exact g2 g1.symm
    rw[hb1 i hnr]at g1
    rw[zvy hh]at g3
    have hbl:blk B A pb rw true i b:=⟨r,ad,g1,g2,g3,g4⟩
    refine .inr ⟨hbl,fun hL=>?_⟩
    rcases L0s b hL with ⟨k,i',e1,e2⟩|⟨n,j,e1,e2⟩
    ·have:=(m.inj _ _ _ _ _ hbl e2).1; cases this
    ·have:=(m.inj _ _ _ _ _ hbl e2).2; subst this; exact hnr n e1
 have keepB:∀b,b<w.heap.size→¬L0 b→w'.heap[b]?=w.heap[b]?:=fun b hb hn=>m1.same b hb hn
 have lt:fr=true→Later (Us (lU (Us U0 B A pb rw) B A rw L0 bor) B1 A1 pb1 rw1) (Us U0 (hitB B B1 pb1 σ) (hitA A A1 js) pbF rwF) w' w':=fun hfr'=>⟨fun _ _ _=>rfl,Nat.le_refl _,fun b _ hu=>by
  have u1:∀b,Us U0 B A pb rw b→¬L0 b→lU (Us U0 B A pb rw) B A rw L0 bor b:=fun b h1 h2=>⟨h1,h2,fun ⟨j,hj,_⟩=>hfr hfr' j hj⟩
  rcases hu with hu|⟨k,i,hu⟩
  ·refine .inl (u1 b (.inl hu) fun hL=>?_)
   obtain⟨k,i,hb⟩:=L0o b hL
   have:=m.u0 b hu
   rcases (m.low k i b hb).2 with h|h
   ·omega
   ·exact this.2 h
  ·rcases cl k i b hu with ⟨i1,h,_⟩|⟨h,hn⟩
   ·exact .inr ⟨k,i1,h⟩
   ·exact .inl (u1 b (.inr ⟨k,i,h⟩) hn)⟩
 have tr:Tr fr σ js (env (lU (Us U0 B A pb rw) B A rw L0 bor) B1 A1 pb1 rw1 w') (env U0 (hitB B B1 pb1 σ) (hitA A A1 js) pbF rwF w'):=by
  refine⟨lt,fun k i hk hl=>?_,fun n j e t l hn hr=>⟨ro.row n j _ hn hr,yar ro.inj hn⟩⟩
  exact⟨hlF k i hk hl,zty hσ hl hk⟩
 have hbxx:∀i,live pb i→live pbF i∧hitB B B1 pb1 σ i=B i:=fun i hl=>by
  refine⟨hpl i hl,?_⟩
  by_cases hh:∃k,live pb1 k∧σ k=some i
  ·obtain⟨k,hk1,hk2⟩:=hh
   rw[zty hσ hk1 hk2]
   rcases hσn k i hk1 hk2 with h|h
   ·rw[(hlive k (hσl k i h)).2]; simp only[lB,h,Option.getD_some]
   ·exact absurd hl h
  ·exact hitB_no hh
 obtain⟨M,S,X⟩:=m.step0 (al:=al) f (w':=w') (B':=hitB B B1 pb1 σ) (A':=hitA A A1 js) (pb':=pbF) (rw':=rwF) ⟨m1.os,m1.tape,m1.output,m1.size⟩ (fun b hb hn=>keepB b hb fun hL=>hn (L0w b hL))
  (fun b hb=>by
   rcases hb with ⟨i,ha,hb⟩|⟨j,hb⟩
   ·rcases cl _ i b hb with ⟨i1,h,_⟩|⟨h,_⟩
    ·rcases (m1.low _ _ _ h).2 with h'|h'
     ·exact .inr h'
     ·exact .inl (L0w b h')
    ·exact .inl (.inl ⟨i,ha,h⟩)
   ·rcases cl _ j b hb with ⟨i1,h,_⟩|⟨h,_⟩
    ·rcases (m1.low _ _ _ h).2 with h'|h'
     ·exact .inr h'
     ·exact .inl (L0w b h')
    ·exact .inl (.inr ⟨j,h⟩))
  (fun k i b hb=>by
   rcases cl k i b hb with ⟨i1,h,_⟩|⟨h,_⟩
   ·have hl:=m1.low _ _ _ h
    rcases hl.2 with h'|h'
    ·exact .inr ⟨h',hl.1⟩
    ·exact .inl (L0o b h')
   ·exact .inl ⟨k,i,h⟩)
  (fun k i k' i' b hb hb'=>by
   have no:∀k i k1 i1,blk B1 A1 pb1 rw1 k1 i1 b→blk B A pb rw k i b→¬L0 b→False:=fun k i k1 i1 h1 h2 h3=>by
    rcases (m1.low _ _ _ h1).2 with h'|h'
    ·have:=(m.low _ _ _ h2).1; omega
    ·exact h3 h'
   rcases cl k i b hb with ⟨i1,h,hk⟩|⟨h,hn⟩
   ·rcases cl k' i' b hb' with ⟨i1',h',hk'⟩|⟨h',hn'⟩
    ·obtain⟨e1,e2⟩:=m1.inj _ _ _ _ _ h h'
     subst e1 e2
     rcases hk with ⟨rfl,hk⟩|⟨rfl,hk⟩
     ·rcases hk' with ⟨_,hk'⟩|⟨h0,_⟩
      ·rw[hk]at hk'; simp at hk'; exact⟨rfl,hk'⟩
      ·cases h0
     ·rcases hk' with ⟨h0,_⟩|⟨_,hk'⟩
      ·cases h0
      ·rw[hk]at hk'; simp at hk'; exact⟨rfl,hk'⟩
    ·exact(no _ _ _ _ h h' hn').elim
   ·rcases cl k' i' b hb' with ⟨i1',h',_⟩|⟨h',_⟩
    ·exact(no _ _ _ _ h' h hn).elim
    ·exact m.inj _ _ _ _ _ h h')
  hbxx (fun j e t l hfj' hj=>by
   have hnr:=hf j hfj'
   have hnj:=jbase j _ hj (by simp) hnr
   exact⟨l,by rw[jold j hnj,hb1 j hnr]; exact hj,rfl,zvy hnj⟩)
  (fun j d hfj' hj=>by
   have hnr:=hf j hfj'
   have hnj:=jbase j _ hj (by simp) hnr
   exact⟨⟨d,by rw[jold j hnj,hb1 j hnr]; exact hj,rfl⟩,zvy hnj⟩)
  (fun _ j p e t l hp _=>by rw[hfj j p hp]; simp only[DV.h])
  (fun _ j p d ad hp _ _=>by rw[hfj j p hp]; simp only[DV.h])
  (fun _ i b' hi=>by
   rcases hpb i b' hi with ⟨k,b1,h1,h2,h3,h4,h5⟩|⟨h0,h1,b,h2,rfl⟩
   ·obtain⟨cs,g1,g2,_⟩:=m1.box k b1 h2
    refine .inr ⟨cs,by rw[zty hσ ⟨b1,h2⟩ h1,h3]; exact g1,by rw[h4]; exact renL_h tr _ (hok k b1 h2) g2,h5⟩
   ·refine .inl ⟨b,h2,rfl,rfl,id,?_⟩
    have hbl:blk B A pb rw false i (B i):=⟨⟨b,h2⟩,rfl⟩
    refine keepB _ (m.low _ _ _ hbl).1 fun hL=>?_
    rcases L0s _ hL with ⟨k,i',e1,e2⟩|⟨n,j,_,e2⟩
    ·have:=(m.inj _ _ _ _ _ hbl e2).2; subst this; exact h1 k e1
    ·have:=(m.inj _ _ _ _ _ hbl e2).1; cases this)
  (fun _ j e t l hj=>by
   by_cases hh:∃n:Nat,js[n]?=some j
   ·obtain⟨n,hn⟩:=hh
    have hl:=(List.getElem?_eq_some_iff.1 hn).1
    rw[ro.len]at hl
    have hr1:=List.getElem?_eq_getElem hl
    have:=ro.row n j _ hn hr1
    rw[hj]at this; simp only[Option.some.injEq]at this
    rw[←this]at hr1
    obtain⟨xs,g1,g2⟩:=m1.row n e t l hr1
    refine .inr ⟨xs,by rw[yar ro.inj hn]; exact g1,?_⟩
    cases hfr':fr with
    |true=>exact DT.hs_mono (lt hfr') g2
    |false=>exact⟨g2.1,fun i x hx=>t.h_free (hok2 hfr' n e t l hr1) (g2.2 i x hx)⟩
   ·rw[jold j hh]at hj
    have hnr:∀n:Nat,rs[n]?≠some (some j):=fun n hn=>by rw[hb2 n j hn]at hj; cases hj
    rw[hb1 j hnr]at hj
    refine .inl ⟨hj,zvy hh,fun ad had=>?_⟩
    have hbl:blk B A pb rw true j ad.block:=⟨_,ad,hj,by simp,had,rfl⟩
    refine keepB _ (m.low _ _ _ hbl).1 fun hL=>?_
    rcases L0s _ hL with ⟨k,i',e1,e2⟩|⟨n,j',e1,e2⟩
    ·have:=(m.inj _ _ _ _ _ hbl e2).1; cases this
    ·have:=(m.inj _ _ _ _ _ hbl e2).2; subst this; exact hnr n e1)
  (fun _ j d hj=>by
   by_cases hh:∃n:Nat,js[n]?=some j
   ·obtain⟨n,hn⟩:=hh
    have hl:=(List.getElem?_eq_some_iff.1 hn).1
    rw[ro.len]at hl
    have hr1:=List.getElem?_eq_getElem hl
    have:=ro.row n j _ hn hr1
    rw[hj]at this; simp only[Option.some.injEq]at this
    rw[←this]at hr1
    obtain⟨_,_,_,h'⟩:=ro.own n _ hr1
    cases h'
   ·rw[jold j hh]at hj
    have hnr:∀n:Nat,rs[n]?≠some (some j):=fun n hn=>by rw[hb2 n j hn]at hj; cases hj
    rw[hb1 j hnr]at hj
    refine .inl ⟨hj,zvy hh,fun ad had=>?_⟩
    have hbl:blk B A pb rw true j ad.block:=⟨_,ad,hj,by simp,had,rfl⟩
    refine keepB _ (m.low _ _ _ hbl).1 fun hL=>?_
    rcases L0s _ hL with ⟨k,i',e1,e2⟩|⟨n,j',e1,e2⟩
    ·have:=(m.inj _ _ _ _ _ hbl e2).1; cases this
    ·have:=(m.inj _ _ _ _ _ hbl e2).2; subst this; exact hnr n e1)
 exact⟨M,S,X,tr⟩
end
end Go.Vc

namespace Go.Vc
open Go Go.RowKit
mutual
theorem DV.sub_agree {f g : Nat → Option DV} (h : ∀ j, (f j).isSome = (g j).isSome) : (p : DV) → (acc : List Nat) → (∀ j ∈ p.rows acc, f j = g j) → p.sub f = p.sub g ∧ ∀ j ∈ acc, f j = g j
  | .row i, acc, hr => by simp only [DV.rows] at hr; exact ⟨by unfold DV.sub; rw [hr i (by simp)], fun j hj => hr j (by simp [hj])⟩
  | .re i a b, acc, hr => by
    refine ⟨?_, hr⟩
    unfold DV.sub
    have := h i
    revert this
    cases f i <;> cases g i <;> simp
  | .rt i a, acc, hr => by
    refine ⟨?_, hr⟩
    unfold DV.sub
    have := h i
    revert this
    cases f i <;> cases g i <;> simp
  | .ob i, acc, hr => by simp only [DV.rows] at hr; exact ⟨by unfold DV.sub; rw [hr i (by simp)], fun j hj => hr j (by simp [hj])⟩
  | .fn _ cs, acc, hr => by simp only [DV.rows] at hr; obtain ⟨h1, h2⟩ := zns h cs acc hr; exact ⟨by simp only [DV.sub, h1], h2⟩
  | .agg cs, acc, hr => by simp only [DV.rows] at hr; obtain ⟨h1, h2⟩ := zns h cs acc hr; exact ⟨by simp only [DV.sub, h1], h2⟩
  | .tup cs, acc, hr => by simp only [DV.rows] at hr; obtain ⟨h1, h2⟩ := zns h cs acc hr; exact ⟨by simp only [DV.sub, h1], h2⟩
  | .int _ _, _, hr | .bool _, _, hr | .lit _, _, hr | .str _, _, hr | .v _, _, hr | .und, _, hr | .sl _ _, _, hr | .set _, _, hr | .el _ _ _, _, hr | .own _ _, _, hr | .junk, _, hr => ⟨rfl, hr⟩
theorem zns {f g : Nat → Option DV} (h : ∀ j, (f j).isSome = (g j).isSome) : (ps : List DV) → (acc : List Nat) → (∀ j ∈ rowsDL ps acc, f j = g j) → subL f ps = subL g ps ∧ ∀ j ∈ acc, f j = g j
  | [], acc, hr => ⟨rfl, hr⟩
  | p :: ps, acc, hr => by
    simp only [rowsDL] at hr
    obtain ⟨h1, h2⟩ := DV.sub_agree h p _ hr
    obtain ⟨h3, h4⟩ := zns h ps acc h2
    exact ⟨by simp only [subL, h1, h3], h4⟩
end
theorem yeo {rw : List DR} {j : Nat} {e : TypeId} {t : DT} {l : List t.den} (h : rw[j]? = some (.own e t l)) : viewD rw j = some (.sl t l) := by unfold viewD; rw [zbm, h]
mutual
theorem PK.view_s {β : Type} {q : β} {rw : List DR} {f : Nat → Option DV} {E E' : Env} (s : Sub f E E') (s0 : Sub noF E E') (hs : ∀ j, (f j).isSome = (viewD rw j).isSome) : (p : PK) → (u : DV) → (acc : List Nat) → (K : DV → Option β) → (∀ j ∈ p.frz u acc, f j = viewD rw j) → p.view rw u K = some q →
    (∃ u', K u' = some q ∧ ∀ v, u.h E v → u'.h E' v) ∧ ∀ j ∈ acc, f j = viewD rw j
  | .v t, u, acc, K, hr, h => by
    simp only [PK.view, DV.subE_eq] at h
    simp only [PK.frz] at hr
    obtain ⟨h1, h2⟩ := DV.sub_agree hs u acc hr
    rw [← h1] at h
    exact ⟨⟨_, h, fun v hv => DV.h_sub s u hv⟩, h2⟩
  | .row e t, u, acc, K, hr, h => ⟨⟨u, by cases u <;> exact h, fun v hv => noSub1 s0 hv⟩, by cases u <;> exact hr⟩
  | .ptr k, u, acc, K, hr, h => ⟨⟨u, by cases u <;> exact h, fun v hv => noSub1 s0 hv⟩, by cases u <;> exact hr⟩
  | .fn g l, u, acc, K, hr, h => by
    cases u with
    | fn g' cs =>
      simp only [PK.view] at h
      simp only [PK.frz] at hr
      obtain ⟨⟨us, h1, h2⟩, h3⟩ := zyr s s0 hs l cs acc _ hr h
      refine ⟨⟨_, h1, fun v hv => ?_⟩, h3⟩
      simp only [DV.h] at hv ⊢
      obtain ⟨vs, rfl, hv⟩ := hv
      exact ⟨vs, rfl, h2 _ hv⟩
    | _ => exact ⟨⟨_, h, fun v hv => noSub1 s0 hv⟩, hr⟩
  | .agg l, u, acc, K, hr, h => by
    cases u with
    | agg cs =>
      simp only [PK.view] at h
      simp only [PK.frz] at hr
      obtain ⟨⟨us, h1, h2⟩, h3⟩ := zyr s s0 hs l cs acc _ hr h
      refine ⟨⟨_, h1, fun v hv => ?_⟩, h3⟩
      simp only [DV.h] at hv ⊢
      obtain ⟨vs, rfl, hv⟩ := hv
      exact ⟨vs, rfl, h2 _ hv⟩
    | _ => exact ⟨⟨_, h, fun v hv => noSub1 s0 hv⟩, hr⟩
theorem zyr {β : Type} {q : β} {rw : List DR} {f : Nat → Option DV} {E E' : Env} (s : Sub f E E') (s0 : Sub noF E E') (hs : ∀ j, (f j).isSome = (viewD rw j).isSome) : (l : List PK) → (us : List DV) → (acc : List Nat) → (K : List DV → Option β) → (∀ j ∈ frzL l us acc, f j = viewD rw j) → viewL rw l us K = some q →
    (∃ us', K us' = some q ∧ ∀ vs, hL E us vs → hL E' us' vs) ∧ ∀ j ∈ acc, f j = viewD rw j
  | [], us, acc, K, hr, h => ⟨⟨us, h, fun v hv => noSub s0 hv⟩, hr⟩
  | p :: l, [], acc, K, hr, h => ⟨⟨[], h, fun v hv => noSub s0 hv⟩, hr⟩
  | p :: l, u :: us, acc, K, hr, h => by
    simp only [viewL] at h
    simp only [frzL] at hr
    obtain ⟨⟨u', h1, h2⟩, h3⟩ := PK.view_s s s0 hs p u _ _ hr h
    obtain ⟨⟨us', g1, g2⟩, g3⟩ := zyr s s0 hs l us acc _ h3 h1
    refine ⟨⟨_, g1, fun vs hv => ?_⟩, g3⟩
    simp only [hL] at hv ⊢
    obtain ⟨v, vs', rfl, k1, k2⟩ := hv
    exact ⟨v, vs', rfl, h2 v k1, g2 vs' k2⟩
end
theorem ygi : ∀ {am : List (Nat × Nat)} {k i : Nat}, lkA am k = some i → (k, i) ∈ am
  | [], k, i, h => by simp [lkA] at h
  | (k', i') :: am, k, i, h => by
    simp only [lkA] at h
    split at h
    · rename_i hb; simp only [Option.some.injEq] at h; subst h; rw [Nat.eq_of_beq_eq_true hb]; simp
    · exact List.mem_cons_of_mem _ (ygi h)
theorem yal : ∀ {am : List (Nat × Nat)}, nodupN (sndN am) = true → ∀ {k k' i : Nat}, lkA am k = some i → lkA am k' = some i → k = k'
  | [], _, k, k', i, h, _ => by simp [lkA] at h
  | (k0, i0) :: am, hn, k, k', i, h, h' => by
    simp only [sndN, nodupN, Bool.and_eq_true, Bool.not_eq_true'] at hn
    have hni : ∀ k, (k, i0) ∉ am := fun k hm => by
      have : i0 ∈ sndN am := by
        clear h h' hn
        induction am with
        | nil => cases hm
        | cons p am ih => rcases List.mem_cons.1 hm with rfl | hm
                          · simp [sndN]
                          · simp [sndN, ih hm]
      rw [← zof] at this; rw [hn.1] at this; cases this
    simp only [lkA] at h h'
    split at h
    · rename_i hb
      simp only [Option.some.injEq] at h; subst h
      split at h'
      · rename_i hb'; rw [← Nat.eq_of_beq_eq_true hb, ← Nat.eq_of_beq_eq_true hb']
      · exact absurd (ygi h') (hni _)
    · split at h'
      · simp only [Option.some.injEq] at h'; subst h'; exact absurd (ygi h) (hni _)
      · exact yal hn.2 h h'
theorem ztv : ∀ {am : List (Nat × Nat)} {n : Nat}, keysLt am n = true → ∀ {k i : Nat}, lkA am k = some i → k < n
  | [], _, _, k, i, h => by simp [lkA] at h
  | (k0, i0) :: am, n, ha, k, i, h => by
    simp only [keysLt, Bool.and_eq_true] at ha
    simp only [lkA] at h
    split at h
    · rename_i hb; rw [← Nat.eq_of_beq_eq_true hb]; exact Nat.le_of_ble_eq_true ha.1
    · exact ztv ha.2 h
theorem allN_s : ∀ {am : List (Nat × Nat)} {al : Nat → Bool}, allN al (sndN am) = true → ∀ {k i : Nat}, lkA am k = some i → al i = true
  | [], _, _, k, i, h => by simp [lkA] at h
  | (k0, i0) :: am, al, ha, k, i, h => by
    simp only [sndN, allN, Bool.and_eq_true] at ha
    simp only [lkA] at h
    split at h
    · simp only [Option.some.injEq] at h; subst h; exact ha.1
    · exact allN_s ha.2 h
theorem zpz : ∀ {rs : List (Option Nat)} {j : Nat}, j ∈ someN rs ↔ ∃ n : Nat, rs[n]? = some (some j)
  | [], j => by simp [someN]
  | some i :: rs, j => by
    simp only [someN, List.mem_cons, zpz (rs := rs)]
    constructor
    · rintro (rfl | ⟨n, hn⟩)
      · exact ⟨0, rfl⟩
      · exact ⟨n + 1, by simpa using hn⟩
    · rintro ⟨n, hn⟩
      cases n with
      | zero => simp at hn; exact .inl hn.symm
      | succ n => exact .inr ⟨n, by simpa using hn⟩
  | none :: rs, j => by
    simp only [someN, zpz (rs := rs)]
    constructor
    · rintro ⟨n, hn⟩; exact ⟨n + 1, by simpa using hn⟩
    · rintro ⟨n, hn⟩
      cases n with
      | zero => simp at hn
      | succ n => exact ⟨n, by simpa using hn⟩
theorem someD_s {js : List Nat} {j : Nat} : (someD js j = none ↔ j ∉ js) ∧ ∀ p, someD js j = some p → p = .junk := by
  unfold someD
  cases h : memN j js with
  | true => exact ⟨by simp [(zof j js).1 h], fun p hp => by simp at hp; exact hp.symm⟩
  | false =>
    have hn : j ∉ js := fun hm => by rw [(zof j js).2 hm] at h; cases h
    exact ⟨⟨fun _ => hn, fun _ => rfl⟩, fun p hp => by cases hp⟩
theorem disN_s : ∀ {l js : List Nat}, disN l js = true → ∀ j ∈ l, j ∉ js
  | [], _, _ => by simp
  | n :: l, js, h => by
    simp only [disN, Bool.and_eq_true, Bool.not_eq_true'] at h
    intro j hj
    rcases List.mem_cons.1 hj with rfl | hj
    · intro hm; rw [(zof _ _).2 hm] at h; cases h.1
    · exact disN_s h.2 j hj
section
variable {P : Program} {V : World} {U0 L : Nat → Prop} {al : Nat → Bool} {B : Nat → Nat} {A : Asg} {ts : List DV} {pb : DBs} {rw : List DR} {a : Act} {w : World} {β : Type} {q : β} {o : Oper} {K : DK β} {Q : Exit → Act → World → Prop}
theorem yhl {g : FuncId} {args : Array Value} {R : Value → World → Prop} {N : Act → World → Prop} (hrun : (execOp a.eval o).run P w = (callFunc g args).run P w) (hc : CallsX P g args w R) (hR : ∀ v w', R v w' → N (a.put o.dst v) w') : o.wp P a w N Q := by
  rcases hc.ex with ⟨hb, hc⟩ | ⟨v, w', h1, h2⟩
  · rw [hb.run] at hrun
    simp only [Oper.wp, hrun, Oper.upon]
    refine hc.mono fun e w' ⟨v, he, hh⟩ => ?_
    subst he
    exact hR v w' hh
  · rw [h1] at hrun
    exact zat hrun (hR v w' h2)
theorem call_first {c : Call} {f : Operand} {g : FuncId} {caps : Array Value} (ho : o.op = .call c) (hc : c.callee = .value f) (hf : a.eval f = .func (.func g) caps #[]) :
    (execOp a.eval o).run P w = (callFunc g (caps ++ c.args.map a.eval)).run P w := by
  simp only [execOp, ho, resolve, hc, hf, Deferred.ofValue, Sem.run_bind, Sem.run_pure, Result.andThen_ok, invoke, Array.append_empty]
theorem yeh {c : Call} {f : Operand} {g : FuncId} {caps : Array Value} (ho : o.op = .call c) (hc : c.callee = .value f) (hf : a.eval f = .func (.func g) #[] caps) :
    (execOp a.eval o).run P w = (callFunc g (c.args.map a.eval ++ caps)).run P w := by
  simp only [execOp, ho, resolve, hc, hf, Deferred.ofValue, Sem.run_bind, Sem.run_pure, Result.andThen_ok, invoke, Array.empty_append]
theorem fnV_t {g : Nat} (h : Nat.ble 1000000 g = true) (vs : Array Value) : fnV g vs = .func (.func (g - 1000000)) vs #[] := by unfold fnV; rw [h, cond_true]
theorem fnV_f {g : Nat} (h : Nat.ble 1000000 g = false) (vs : Array Value) : fnV g vs = .func (.func g) #[] vs := by unfold fnV; rw [h, cond_false]
theorem RO.nil (rw : List DR) : RO rw [] [] rw [] := ⟨rfl, fun n j r h => by simp at h, fun n n' j h => by simp at h, fun a j h => by simp at h, fun a b j h => by simp at h, fun _ _ => rfl, fun n j h => by simp at h, fun n r h => by simp at h⟩
theorem esF_ok {g : FuncId} {s : ES} {xs : List DV} {vs : List Value} (fr : Bool) (bor : Nat → Prop) (hs : ESok P g s) (h : esF stdW s xs ts pb rw (fun r ts pb rw => retE o.dst r ts pb rw K) = some q) (m : Mem V U0 L B A pb rw w) (hts : hL (env U0 B A pb rw w) ts a.tmps.toList)
    (hxs : hL ⟨lU (Us U0 B A pb rw) B A rw (fun _ => False) bor, w, B, A, pb, rw⟩ xs vs) (hfr : fr = true → ∀ j, ¬ bor j) (hfree : fr = false → s.Q.free = true) (hrun : (execOp a.eval o).run P w = (callFunc g vs.toArray).run P w) : o.wp P a w (Nxt V U0 L al B A pb rw w a K q) Q := by
  unfold esF at h
  split at h
  · rename_i x hx
    obtain ⟨y, hy, h⟩ := call_s h
    have hL0 : Ow (lB B fun _ => none) (lA A []) [] [] = fun _ => False := by
      funext b
      refine propext ⟨?_, False.elim⟩
      rintro ⟨k, i, hb⟩
      cases k with
      | true => obtain ⟨r, ad, h1, _⟩ := hb; simp at h1
      | false => obtain ⟨⟨b0, h1⟩, _⟩ := hb; simp at h1
    obtain ⟨m0, hU, hr1, hb1⟩ := m.lend (σ := fun _ => none) (rs := []) (bor := bor) (pb0 := []) (rw0 := []) (fun k b0 h => by simp at h) (fun k b0 i b h => by simp at h) (fun k k' i h => by cases h) (fun n r h => by simp at h) (fun n n' j h => by simp at h)
    have hargs : hL (env (lU (Us U0 B A pb rw) B A rw (Ow (lB B fun _ => none) (lA A []) [] []) bor) (lB B fun _ => none) (lA A []) [] [] w) (argVs s.P x) vs := by
      refine ofA_h (E := ⟨lU (Us U0 B A pb rw) B A rw (fun _ => False) bor, w, B, A, pb, rw⟩) (E0 := env (lU (Us U0 B A pb rw) B A rw (Ow (lB B fun _ => none) (lA A []) [] []) bor) (lB B fun _ => none) (lA A []) [] [] w) ⟨fun _ _ _ => rfl, Nat.le_refl _, fun b _ hu => ?_⟩ hx hxs
      rcases hu with hu | hu
      · rw [hL0] at hu; exact hu
      · have : Ow (lB B fun _ => none) (lA A []) [] [] b := hu
        rw [hL0] at this; exact this.elim
    refine yhl hrun (hs x y hy _ _ _ vs w m0 hargs) ?_
    rintro v w' ⟨B1, A1, r, pb1, rw1, m1, hrv, hlv, rfl, hmk⟩
    obtain ⟨d, ρ', rwC, js, h1, h2, _, h3⟩ := QT.o_s s.Q y [] rw _ [] [] h (RO.nil rw)
    rw [← hmk] at h2 h3
    obtain ⟨M, S, X, tr⟩ := Mem.back (al := al) (σ := fun _ => none) (pbF := pb) (base := rw) noF fr m hr1 hb1 (fun k i h => by cases h) m1 hlv (fun k k' i h => by cases h) (fun k i _ h => by cases h) (fun k i h => by cases h) (fun k i _ h => by cases h)
      (fun i b' hi => .inr ⟨fun k h => (by cases h), fun k h => (by cases h), b', hi, (by rw [zfi])⟩) (fun i h => h) (fun k i h => by cases h) h2 (fun _ _ => rfl) (fun n j h => by simp at h) (fun j _ n h => by simp at h) (fun j p h => by cases h) hfr (fun k b h => by simp at h)
      (fun hf => by have := (QT.mk_okf s.Q y [] (hfree hf) (fun n e t l h => by simp at h)).2; rw [← hmk] at this; exact this)
    refine Nxt.ret h1 M (noSub S hts) ?_ X
    rw [h3 js (Pre.refl _)]
    refine DV.ren_h tr r ?_ hrv
    cases hf : fr with
    | true => exact DV.okf_true r
    | false => have := (QT.mk_okf s.Q y [] (hfree hf) (fun n e t l h => by simp at h)).1; rw [← hmk] at this; exact this
  · cases h
end
end Go.Vc
