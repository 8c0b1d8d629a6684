import Derived.Test.YtllkmncnmlmefaaGreatB6
import Derived.Test.YtllkmncnmlmefaaGreatRows
namespace Go.Proofs.YtllkmncnmlmefaaGreat
open Go Go.Vc Go.RowKit
theorem loop_P{X β:Type}{f:X→(X→Option β)→Option β}(Q:Option β→Prop)(μ:X→Nat)(R:X→Prop){z:X}(hz:R z)(hm:μ z<18446744073709551616)
  (h:∀z,R z→∀again:X→Option β,(∀z',R z'→μ z'<μ z→Q (again z'))→Q (f z again)):Q (stdW.loop f z):=by
 have key:∀n z,R z→μ z<n→Q (loopF n f z):=by
  intro n
  induction n with
  |zero=>intro z _ h; omega
  |succ n ih=>intro z hz hm; exact h z hz _ fun z' hz' hm'=>ih z' hz' (by omega)
 exact key FU z hz (by rw[FU_eq]; exact hm)
theorem loop_ai{X β:Type}{N:Nat}(hN:N<9223372036854775808){f:X→(X→Option β)→Option β}(st:Nat→X)(Inv:Nat→Prop)(r:Option β){z0:X}(hz:z0=st 0)(h0:Inv 0)
  (hend:Inv N→∀again:X→Option β,f (st N) again=r) (hstep:∀i,i<N→Inv i→∀again:X→Option β,(Inv (i+1)→again (st (i+1))=r)→f (st i) again=r):stdW.loop f z0=r:=by
 subst hz
 have key:∀n i,i≤N→N - i<n→Inv i→loopF n f (st i)=r:=by
  intro n
  induction n with
  |zero=>intro i _ h; omega
  |succ n ih=>
   intro i hi hn hv
   show f (st i) (loopF n f)=r
   by_cases h:i<N
   ·exact hstep i h hv _ fun hv'=>ih (i+1) (by omega) (by omega) hv'
   ·have:i=N:=by omega
    subst this; exact hend hv _
 show loopF FU f (st 0)=r
 exact key FU 0 (Nat.zero_le _) (by rw[FU_eq]; omega) h0
theorem zvz{X β:Type}{Q:Option β→Prop}{k0:X→Option β}{f:(X→Option β)→Option β}(h:∀k,k=k0→Q (f k)):Q (stdW.join k0 f):=h k0 rfl
theorem r_price(p:Int):zlc p=some (decide (0≤p∧p<2147483648)):=by
 show zif stdW p=_
 unfold zif
 by_cases h:0≤p
 ·rw[cnd_y (decide_eq_true h)]; congr 1; exact decide_eq_decide.2 (by omega)
 ·rw[cnd_n (decide_eq_false h),decide_eq_false (by omega)]
theorem findI_cons(x:AInst')(t:List AInst')(id:Int):findI (x::t) id=if x.1=id then some x else findI t id:=by
 unfold findI
 rw[List.find?_cons]
 by_cases h:x.1=id
 ·simp[h]
 ·rw[if_neg h,show (x.1==id)=false by simpa using h]
theorem yos{t:List AInst'}{id:Int}(hl:t.length≤1000000):zoz t id=some (match findI t id with|some i=>(i,(true,()))|none=>(zeroI,(false,()))):=by
 show zlf stdW t id=_
 unfold zlf
 refine zde (l:=t) (by omega) (fun _ _=>True) (fun t _=>some (match findI t id with|some i=>(i,(true,()))|none=>(zeroI,(false,())))) trivial ?_ ?_
 ·rintro _ again _
  rw[zam]; rfl
 ·rintro i hi _ _ again ha
  rw[cnd_lt hi,idx_w hi,findI_cons]
  by_cases h:t[i].1=id
  ·rw[cnd_y (by simpa using h),if_pos h]
   show stdW.idx t (i:Int) _=_
   rw[idx_w hi]
  ·rw[cnd_n (by simpa using h),if_neg h]
   show again (IntKind.i64.wrap ((i:Int)+1),())=_
   rw[i64_s i (by omega)]
   exact ha _ trivial
abbrev Leg:=AUnit'
def VInv(l:List Leg):Prop:=(∀x∈l,(1≤x.1∧x.1≤8)∧x.2.1≠0)∧(l.map (·.1)).Pairwise (· < ·)
instance (l:List Leg):Decidable (VInv l):=by unfold VInv; infer_instance
def isV(l:List Leg):Bool:=decide (VInv l)
theorem zwa{l:List Leg}{i:Nat}(hi:i<l.length)(h:¬((1≤l[i].1∧l[i].1≤8)∧l[i].2.1≠0)):isV l=false:=
 decide_eq_false fun hp=>h (hp.1 _ (List.getElem_mem hi))
theorem ypo{l:List Leg}{i:Nat}(hi:i<l.length)(h0:0<i)(h:¬(l[i - 1]'(by omega)).1<l[i].1):isV l=false:=
 decide_eq_false fun hp=>h (by
  have:=List.pairwise_iff_getElem.1 hp.2 (i - 1) i (by simp; omega) (by simpa using hi) (by omega)
  simpa using this)
theorem yhj{l:List Leg}{i:Nat}(hi:i<l.length)(inv:VInv (l.take i))(h1:(1≤l[i].1∧l[i].1≤8)∧l[i].2.1≠0)(h2:∀h0:0<i,(l[i - 1]'(by omega)).1<l[i].1):VInv (l.take (i+1)):=by
 rw[List.take_succ_eq_append_getElem hi]
 refine⟨fun x hx=>?_,?_⟩
 ·rcases List.mem_append.1 hx with hx|hx
  ·exact inv.1 x hx
  ·simp only[List.mem_singleton]at hx; rw[hx]; exact h1
 ·show ((l.take i++[l[i]]).map (·.1)).Pairwise (· < ·)
  rw[List.map_append]
  refine List.pairwise_append.2 ⟨inv.2,by simp,fun a ha b hb=>?_⟩
  simp only[List.map_cons,List.map_nil,List.mem_singleton]at hb
  subst hb
  obtain⟨k,hk,hka⟩:=List.mem_iff_getElem.1 ha
  have hk':k<i:=by simp at hk; omega
  have h3:=h2 (by omega)
  by_cases hki:k=i - 1
  ·subst hki; rw[←hka]; simpa using h3
  ·have h4:=List.pairwise_iff_getElem.1 inv.2 k (i - 1) (by simpa using hk) (by simp; omega) (by omega)
   rw[hka]at h4
   refine Int.lt_trans h4 ?_
   simpa using h3
theorem isV_end{l:List Leg}(h:VInv (l.take l.length)):isV l=true:=by rw[List.take_length]at h; exact decide_eq_true h
def lastV(l:List Leg)(i:Nat):Int:=if h:0<i∧i≤l.length then (l[i - 1]'(by omega)).1 else 0
theorem lastV_s{l:List Leg}{i:Nat}(h:i<l.length):lastV l (i+1)=l[i].1:=by
 unfold lastV; rw[dif_pos ⟨by omega,by omega⟩]; rfl
theorem r_isV{l:List Leg}(hl:l.length≤1000000):vec_Is l=some (isV l):=by
 show yfr stdW l=_
 unfold yfr
 refine loop_ai (N:=l.length) (by omega) (fun i=>(lastV l i,((i:Int),()))) (fun i=>VInv (l.take i)) (some (isV l)) (by unfold lastV; simp) (by simp[VInv]) ?_ ?_
 ·intro h again
  show stdW.cnd (decide ((l.length:Int)<(l.length:Int))) _ _=_
  rw[zam,isV_end h]
 ·intro i hi inv again ha
  show stdW.cnd (decide ((i:Int)<(l.length:Int))) (stdW.idx l (i:Int) _) _=_
  rw[cnd_lt hi,idx_w hi]
  refine join_g fun k hk=>?_
  have kt:k (true,())=some false:=by subst hk; rfl
  have kf:k (false,())=again (lastV l (i+1),(((i+1:Nat):Int),())):=by rw[←i64_s i (by omega),lastV_s hi]; subst hk; rfl
  clear hk
  show stdW.cnd (decide (l[i].1≤lastV l i)) _ _=_
  by_cases h1:l[i].1≤lastV l i
  ·rw[cnd_y (decide_eq_true h1),kt]
   unfold lastV at h1
   by_cases h0:0<i
   ·rw[dif_pos ⟨h0,by omega⟩]at h1
    rw[ypo hi h0 (by omega)]
   ·rw[dif_neg (by omega)]at h1
    rw[zwa hi (by omega)]
  ·rw[cnd_n (decide_eq_false h1)]
   by_cases h2:8<l[i].1
   ·rw[cnd_y (decide_eq_true h2),kt,zwa hi (by omega)]
   ·rw[cnd_n (decide_eq_false h2)]
    by_cases h3:l[i].2.1=0
    ·rw[show (l[i].2.1==0)=true by simpa using h3,kt,zwa hi (by simp[h3])]
    ·rw[show (l[i].2.1==0)=false by simpa using h3,kf]
     have hpos:1≤l[i].1:=by
      unfold lastV at h1
      by_cases h0:0<i
      ·rw[dif_pos ⟨h0,by omega⟩]at h1
       have:=(inv.1 (l[i - 1]'(by omega)) (List.mem_iff_getElem.2 ⟨i - 1,by simp; omega,by simp⟩)).1.1
       omega
      ·rw[dif_neg (by omega)]at h1; omega
     refine ha (yhj hi inv ⟨⟨hpos,by omega⟩,h3⟩ fun h0=>?_)
     unfold lastV at h1
     rw[dif_pos ⟨h0,by omega⟩]at h1; omega
theorem r_isV11{l:List Leg}(hl:l.length≤1000000):zyd l=some (isV l):=by
 show ztc stdW l=_
 unfold ztc
 refine loop_n (N:=l.length) (by omega) (fun i _=>VInv (l.take i)) (some (isV l)) (by simp[VInv]) ?_ ?_
 ·rintro _ again h
  rw[zam,isV_end h]
 ·rintro i hi _ inv again ha
  rw[cnd_lt hi]
  refine join_g fun k hk=>?_
  have kt:k (true,())=some false:=by subst hk; rfl
  have kf:k (false,())=again (((i+1:Nat):Int),()):=by rw[←i64_s i (by omega)]; subst hk; rfl
  clear hk
  rw[idx_w hi]
  by_cases h1:l[i].1<1
  ·rw[cnd_y (decide_eq_true h1),kt,zwa hi (by omega)]
  rw[cnd_n (decide_eq_false h1),idx_w hi]
  by_cases h2:8<l[i].1
  ·rw[cnd_y (decide_eq_true h2),kt,zwa hi (by omega)]
  rw[cnd_n (decide_eq_false h2),idx_w hi]
  by_cases h3:l[i].2.1=0
  ·rw[cnd_y (by simpa using h3),kt,zwa hi (by simp[h3])]
  rw[cnd_n (by simpa using h3)]
  by_cases h0:0<i
  ·rw[cnd_y (decide_eq_true (by omega)),zgy i h0 (by rw[zat]; omega),idx_w (by omega),idx_w hi]
   by_cases h4:l[i].1≤(l[i - 1]'(by omega)).1
   ·rw[decide_eq_true h4,kt,ypo hi h0 (by omega)]
   ·rw[decide_eq_false h4,kf]
    exact ha _ (yhj hi inv ⟨by omega,h3⟩ fun _=>by omega)
  ·rw[cnd_n (decide_eq_false (by omega)),kf]
   exact ha _ (yhj hi inv ⟨by omega,h3⟩ fun h=>absurd h h0)
theorem yha{a b A B:Int}(ha : -A≤a∧a≤A)(hb : -B≤b∧b≤B) : -(A*B)≤a*b∧a*b≤A*B:=by
 have h1:a.natAbs≤A.toNat:=by omega
 have h2:b.natAbs≤B.toNat:=by omega
 have h3:(a*b).natAbs≤A.toNat*B.toNat:=by rw[Int.natAbs_mul]; exact Nat.mul_le_mul h1 h2
 have h4:((A.toNat*B.toNat:Nat):Int)=A*B:=by
  rw[Int.natCast_mul,Int.toNat_of_nonneg (by omega),Int.toNat_of_nonneg (by omega)]
 omega
def okL(l:List Leg):Prop:=∀x∈l,I64 x.2.1
def BInv(l:List APos'):Prop:=(∀p∈l,p.2.1≠[]∧VInv p.2.1)∧SrtA (l.map (·.1))
instance (l:List APos'):Decidable (BInv l):=by unfold BInv SrtA; infer_instance
def isB(l:List APos'):Bool:=decide (BInv l)
theorem zyp{l:List APos'}{i:Nat}(hi:i<l.length)(h:¬(l[i].2.1≠[]∧VInv l[i].2.1)):isB l=false:=
 decide_eq_false fun hp=>h (hp.1 _ (List.getElem_mem hi))
theorem ypr{l:List APos'}{i:Nat}(hi:i<l.length)(h0:0<i)(h:¬ltA (l[i - 1]'(by omega)).1 l[i].1):isB l=false:=
 decide_eq_false fun hp=>h (by
  have:=List.pairwise_iff_getElem.1 hp.2 (i - 1) i (by simp; omega) (by simpa using hi) (by omega)
  simpa using this)
theorem zyo{l:List APos'}{i:Nat}(hi:i<l.length)(inv:BInv (l.take i))(h1:l[i].2.1≠[]∧VInv l[i].2.1)(h2:∀h0:0<i,ltA (l[i - 1]'(by omega)).1 l[i].1):BInv (l.take (i+1)):=by
 rw[List.take_succ_eq_append_getElem hi]
 refine⟨fun x hx=>?_,?_⟩
 ·rcases List.mem_append.1 hx with hx|hx
  ·exact inv.1 x hx
  ·simp only[List.mem_singleton]at hx; rw[hx]; exact h1
 ·show SrtA ((l.take i++[l[i]]).map (·.1))
  rw[List.map_append]
  refine List.pairwise_append.2 ⟨inv.2,by simp,fun a ha b hb=>?_⟩
  simp only[List.map_cons,List.map_nil,List.mem_singleton]at hb
  subst hb
  obtain⟨k,hk,hka⟩:=List.mem_iff_getElem.1 ha
  have hk':k<i:=by simp at hk; omega
  have h3:=h2 (by omega)
  by_cases hki:k=i - 1
  ·subst hki; rw[←hka]; simpa using h3
  ·have h4:=List.pairwise_iff_getElem.1 inv.2 k (i - 1) (by simpa using hk) (by simp; omega) (by omega)
   rw[hka]at h4
   refine ltA_tr h4 ?_
   simpa using h3
theorem isB_end{l:List APos'}(h:BInv (l.take l.length)):isB l=true:=by rw[List.take_length]at h; exact decide_eq_true h
def okB(l:List APos'):Prop:=(∀p∈l,okL p.2.1∧p.2.1.length≤100)∧l.length≤100
theorem r_isB{l:List APos'}(hb:okB l):zro l=some (isB l):=by
 have hl:=hb.2
 show zzi stdW l=_
 unfold zzi
 refine loop_n (N:=l.length) (by omega) (fun i _=>BInv (l.take i)) (some (isB l)) (by simp[BInv]) ?_ ?_
 ·rintro _ again h
  rw[zam,isB_end h]
 ·rintro i hi _ inv again ha
  rw[cnd_lt hi,idx_w hi]
  refine join_g fun k hk=>?_
  have kt:k (true,())=some false:=by subst hk; rfl
  have kf:k (false,())=again (((i+1:Nat):Int),()):=by rw[←i64_s i (by omega)]; subst hk; rfl
  clear hk
  have hli:=(hb.1 _ (List.getElem_mem hi)).2
  by_cases h1:l[i].2.1=[]
  ·rw[cnd_y (by simp[h1]),both_w,kt,zyp hi (by simp[h1])]
  rw[cnd_n (by simpa using h1),zaa (r_isV (by omega))]
  by_cases hv:VInv l[i].2.1
  ·rw[show isV l[i].2.1=true from decide_eq_true hv,cnd_n (by decide)]
   by_cases h0:0<i
   ·rw[cnd_y (decide_eq_true (by omega)),zgy i h0 (by rw[zat]; omega),idx_w (by omega),zaa (ygn _ _),both_w]
    by_cases h2:ltA (l[i - 1]'(by omega)).1 l[i].1
    ·rw[decide_eq_true h2]
     exact kf.trans (ha _ (zyo hi inv ⟨h1,hv⟩ fun _=>h2))
    ·rw[decide_eq_false h2,ypr hi h0 h2]; exact kt
   ·rw[cnd_n (decide_eq_false (by omega)),both_w]
    exact kf.trans (ha _ (zyo hi inv ⟨h1,hv⟩ fun h=>absurd h h0))
  ·rw[show isV l[i].2.1=false from decide_eq_false hv,cnd_y (by decide),both_w,kt,zyp hi fun h=>hv h.2]
theorem ymf{l:List APos'}(hb:okB l):zkw l=some (isB l):=by
 have hl:=hb.2
 show zsm stdW l=_
 unfold zsm
 refine loop_n (N:=l.length) (by omega) (fun i _=>BInv (l.take i)) (some (isB l)) (by simp[BInv]) ?_ ?_
 ·rintro _ again h
  rw[zam,isB_end h]
 ·rintro i hi _ inv again ha
  rw[cnd_lt hi]
  refine join_g fun k hk=>?_
  have kt:k (true,())=some false:=by subst hk; rfl
  have kf:k (false,())=again (((i+1:Nat):Int),()):=by rw[←i64_s i (by omega)]; subst hk; rfl
  clear hk
  have hli:=(hb.1 _ (List.getElem_mem hi)).2
  rw[idx_w hi]
  by_cases h1:l[i].2.1=[]
  ·rw[cnd_y (by simp[h1]),both_w,kt,zyp hi (by simp[h1])]
  rw[cnd_n (by simpa using h1),idx_w hi,zaa (r_isV11 (by omega))]
  by_cases hv:VInv l[i].2.1
  ·rw[show isV l[i].2.1=true from decide_eq_true hv,cnd_n (by decide)]
   by_cases h0:0<i
   ·rw[cnd_y (decide_eq_true (by omega)),zgy i h0 (by rw[zat]; omega),idx_w (by omega),idx_w hi,zaa (zyf _ _),both_w]
    by_cases h2:ltA (l[i - 1]'(by omega)).1 l[i].1
    ·rw[decide_eq_true h2]
     exact kf.trans (ha _ (zyo hi inv ⟨h1,hv⟩ fun _=>h2))
    ·rw[decide_eq_false h2,ypr hi h0 h2]; exact kt
   ·rw[cnd_n (decide_eq_false (by omega)),both_w]
    exact kf.trans (ha _ (zyo hi inv ⟨h1,hv⟩ fun h=>absurd h h0))
  ·rw[show isV l[i].2.1=false from decide_eq_false hv,cnd_y (by decide),both_w,kt,zyp hi fun h=>hv h.2]
theorem r_few11(l:List Leg)(hl:l.length≤9223372036854775807):ybk l=some (l.take 12):=by
 show zpw stdW l=_
 unfold zpw
 by_cases h:12<l.length
 ·rw[cnd_y (decide_eq_true (by omega)),bnd_w (by omega) (by omega)]; rfl
 ·rw[cnd_n (decide_eq_false (by omega)),List.take_of_length_le (by omega)]
def fewPos(p:APos'):APos':=(p.1,(p.2.1.take 12,()))
def few19(l:List APos'):List APos':=(l.take 12).map fewPos
theorem ypu{l:List APos'}(h:∀p∈l,okL p.2.1):okB (few19 l):=by
 unfold few19
 refine⟨fun p hp=>?_,by rw[List.length_map,List.length_take]; omega⟩
 obtain⟨x,hx,rfl⟩:=List.mem_map.1 hp
 have hx:=h x (List.mem_of_mem_take hx)
 exact⟨fun y hy=>hx y (List.mem_of_mem_take hy),by show (x.2.1.take 12).length≤100; rw[List.length_take]; omega⟩
theorem r_few19(l:List APos')(hl:l.length≤9223372036854775807)(hm:∀p∈l,p.2.1.length≤9223372036854775807):zgo l=some (few19 l):=by
 show zpu stdW l=_
 unfold zpu
 rw[join_w]
 refine zlw (N:=min l.length 12) (by omega) (fun i=>((i:Int),((l.take i).map fewPos,()))) _ rfl ?_ ?_
 ·intro again
  have e:(l.take (min l.length 12)).map fewPos=few19 l:=by
   unfold few19; rw[Nat.min_comm,←List.take_take,List.take_length]
  have g:(some ((l.take (min l.length 12)).map fewPos):Option (List APos'))=some (few19 l):=by rw[e]
  show stdW.cnd (decide (((min l.length 12:Nat):Int)<(l.length:Int))) (stdW.cnd (decide (((min l.length 12:Nat):Int)<12)) _ (some ((l.take (min l.length 12)).map fewPos))) (some ((l.take (min l.length 12)).map fewPos))=_
  by_cases h:(min l.length 12:Nat)<l.length
  ·rw[cnd_lt h,cnd_n (decide_eq_false (by omega))]; exact g
  ·rw[cnd_n (decide_eq_false (by omega))]; exact g
 ·intro i hi again ha
  have hi1:i<l.length:=by omega
  show stdW.cnd (decide ((i:Int)<(l.length:Int))) (stdW.cnd (decide ((i:Int)<12)) (stdW.idx l (i:Int) _) _) _=_
  rw[cnd_lt hi1,cnd_y (decide_eq_true (by omega)),idx_w hi1,idx_w hi1,zaa (r_few11 _ (hm _ (List.getElem_mem hi1)))]
  show stdW.room (((l.take i).map fewPos).length+1) 40 (again (IntKind.i64.wrap ((i:Int)+1),((l.take i).map fewPos++[fewPos l[i]],())))=_
  have:((l.take i).map fewPos).length≤12:=by rw[List.length_map,List.length_take]; omega
  rw[room_w (by omega) (by omega),i64_s i (by omega)]
  rw[List.take_succ_eq_append_getElem hi1,List.map_append]at ha
  exact ha
end Go.Proofs.YtllkmncnmlmefaaGreat
namespace Go.Proofs.YtllkmncnmlmefaaGreat
open Go Go.Vc Go.RowKit
end Go.Proofs.YtllkmncnmlmefaaGreat

namespace Go.Proofs.YtllkmncnmlmefaaGreat
open Go Go.Vc Go.RowKit
theorem okD_insts{l:DT.den (.slc tAInst)}(h:DT.okD (.slc tAInst) l):(∀i∈l,i.2.2.2.2.1.length≤9223372036854775807)∧l.length≤9223372036854775807:=by
 refine⟨fun x hx=>?_,?_⟩
 ·have:=(h.1 x hx).2.2.2.2.1.2
  rwa [zat]at this
 ·have:=h.2
  rwa [zat]at this
theorem okD_legs{l:DT.den (.slc tAUnit)}(h:DT.okD (.slc tAUnit) l):okL l∧l.length≤9223372036854775807:=by
 refine⟨fun x hx=>wf_i64 (h.1 x hx).2.1,?_⟩
 have:=h.2
 rwa [zat]at this
theorem ypc{l:DT.den (.slc tAPos)}(h:DT.okD (.slc tAPos) l):(∀p∈l,okL p.2.1∧p.2.1.length≤9223372036854775807)∧l.length≤9223372036854775807:=by
 refine⟨fun x hx=>okD_legs (h.1 x hx).2.1,?_⟩
 have:=h.2
 rwa [zat]at this
theorem nz_w{β:Type}{b:Int}(h:b≠0)(K:Option β):stdW.nz b K=K:=nz_eq h K
theorem yis(xs:List Int)(i:Nat)(h:i<xs.length):valB (xs.drop i)=xs[i].toNat+2*valB (xs.drop (i+1)):=by
 rw[List.drop_eq_getElem_cons h]; rfl
theorem zon(xs:List Int)(i:Nat)(h:¬i<xs.length):xs.drop i=[]:=List.drop_eq_nil_of_le (by omega)
theorem yic{a b:List Int}(ha:bitL a)(hb:bitL b):bitL (a++b):=fun x hx=>(List.mem_append.1 hx).elim (ha x) (hb x)
theorem bit_nat{xs:List Int}(h:bitL xs)(i:Nat)(hi:i<xs.length):∃u:Nat,u≤1∧xs[i]=(u:Int):=by
 rcases h _ (List.getElem_mem hi) with e|e
 ·exact⟨0,by omega,by rw[e]; rfl⟩
 ·exact⟨1,by omega,by rw[e]; rfl⟩
theorem plus_gen{xs ys:List Int}(hx:bitL xs)(hy:bitL ys)(lx:xs.length≤1000)(ly:ys.length≤1000):
  ∃r,zfc xs ys=some r∧bitL r∧valB r=valB xs+valB ys∧r.length≤max xs.length ys.length+1:=by
 show ∃r,zlj stdW xs ys=some r∧_
 unfold zlj
 refine loop_P (fun o=>∃r,o=some r∧bitL r∧valB r=valB xs+valB ys∧r.length≤max xs.length ys.length+1) (fun z=>2001 - z.2.1.toNat)
  (fun z=>∃(i c:Nat) (s:List Int),z=((c:Int),((i:Int),(s,())))∧c≤1∧bitL s∧s.length=i∧i≤max xs.length ys.length∧valB s+2 ^ i*(valB (xs.drop i)+valB (ys.drop i)+c)=valB xs+valB ys)
  ⟨0,0,[],rfl,by omega,(by intro x hx; cases hx),rfl,by omega,by simp[valB]⟩ (by show 2001 - (0:Int).toNat<_; omega) ?_
 rintro _ ⟨i,c,s,rfl,hc,hs,hsl,hi,hv⟩ again ha
 generalize hQ:(fun o:Option (List Int)=>∃r,o=some r∧bitL r∧valB r=valB xs+valB ys∧r.length≤max xs.length ys.length+1)=Q
 have ha':∀z',(∃(i c:Nat) (s:List Int),z'=((c:Int),((i:Int),(s,())))∧c≤1∧bitL s∧s.length=i∧i≤max xs.length ys.length∧valB s+2 ^ i*(valB (xs.drop i)+valB (ys.drop i)+c)=valB xs+valB ys)→2001 - z'.2.1.toNat<2001 - (i:Int).toNat→Q (again z'):=by
  intro z' h1 h2; rw[←hQ]; exact ha z' h1 h2
 have hfin:∀r,bitL r→valB r=valB xs+valB ys→r.length≤max xs.length ys.length+1→Q (some r):=by
  intro r h1 h2 h3; rw[←hQ]; exact⟨r,rfl,h1,h2,h3⟩
 refine(congrFun hQ _).mpr ?_
 clear ha hQ
 have go:∀(u v:Nat),u≤1→v≤1→(i<xs.length∨i<ys.length)→valB (xs.drop i)=u+2*valB (xs.drop (i+1))→valB (ys.drop i)=v+2*valB (ys.drop (i+1))→
   Q (stdW.nz 2 (stdW.room (s.length+[Int.tmod ((c+u+v:Nat):Int) 2].length) 1 (stdW.nz 2 (again (IntKind.u8.wrap (Int.tdiv ((c+u+v:Nat):Int) 2),(IntKind.i64.wrap ((i:Int)+1),(s++[Int.tmod ((c+u+v:Nat):Int) 2],()))))))):=by
  intro u v hu hv' hlt ex ey
  rw[nz_w (by omega),room_w (by simp; omega) (by simp; omega),nz_w (by omega),u8_half _ (by omega),zyk,zys i (by omega)]
  refine ha' _ ⟨i+1,(c+u+v) / 2,s++[(((c+u+v) % 2:Nat):Int)],rfl,by omega,yic hs fun x hx=>?_,by simp[hsl],by omega,?_⟩ (by show 2001 - ((i+1:Nat):Int).toNat<2001 - ((i:Nat):Int).toNat; omega)
  ·simp only[List.mem_singleton]at hx; subst hx; omega
  ·rw[←hv,zoo,hsl,ex,ey,Nat.pow_succ]
   have e1:valB [(((c+u+v) % 2:Nat):Int)]=(c+u+v) % 2:=by simp only[valB]; omega
   rw[e1,Nat.add_assoc,Nat.mul_assoc,←Nat.mul_add]
   congr 2; omega
 refine zvz (Q:=Q) fun k10 hk10=>?_
 have step10:(i<xs.length∨i<ys.length)→Q (k10 (s,())):=by
  intro hlt
  subst hk10
  refine zvz (Q:=Q) fun k8 hk8=>?_
  have step8:∀u:Nat,u≤1→valB (xs.drop i)=u+2*valB (xs.drop (i+1))→Q (k8 (((c+u:Nat):Int),(s,()))):=by
   intro u hu ex
   subst hk8
   refine zvz (Q:=Q) fun k6 hk6=>?_
   have step6:∀v:Nat,v≤1→valB (ys.drop i)=v+2*valB (ys.drop (i+1))→Q (k6 (((c+u+v:Nat):Int),(s,()))):=by
    intro v hv' ey
    subst hk6
    exact go u v hu hv' hlt ex ey
   clear hk6
   show Q (stdW.cnd (decide ((i:Int)<(ys.length:Int))) (stdW.idx ys (i:Int) fun x7=>k6 (IntKind.u8.wrap (((c+u:Nat):Int)+x7),(s,()))) (k6 (((c+u:Nat):Int),(s,()))))
   by_cases h2:i<ys.length
   ·obtain⟨v,hv',ev⟩:=bit_nat hy i h2
    have ey:=yis ys i h2
    rw[ev,Int.toNat_natCast]at ey
    rw[cnd_lt h2,idx_w h2,ev,u8_add _ _ (by omega)]
    exact step6 v hv' ey
   ·rw[cnd_n (decide_eq_false (by omega))]
    exact step6 0 (by omega) (by rw[zon ys i h2,zon ys (i+1) (by omega)]; rfl)
  clear hk8
  show Q (stdW.cnd (decide ((i:Int)<(xs.length:Int))) (stdW.idx xs (i:Int) fun x9=>k8 (IntKind.u8.wrap ((c:Int)+x9),(s,()))) (k8 ((c:Int),(s,()))))
  by_cases h1:i<xs.length
  ·obtain⟨u,hu,eu⟩:=bit_nat hx i h1
   have ex:=yis xs i h1
   rw[eu,Int.toNat_natCast]at ex
   rw[cnd_lt h1,idx_w h1,eu,u8_add _ _ (by omega)]
   exact step8 u hu ex
  ·rw[cnd_n (decide_eq_false (by omega))]
   exact step8 0 (by omega) (by rw[zon xs i h1,zon xs (i+1) (by omega)]; rfl)
 clear hk10
 show Q (stdW.cnd (decide ((i:Int)<(xs.length:Int))) (k10 (s,())) (stdW.cnd (decide ((i:Int)<(ys.length:Int))) (k10 (s,())) (stdW.join (fun (z11:List (Int)×Unit)=>some z11.1) fun k12=>stdW.cnd (decide (0<(c:Int))) (stdW.room (s.length+((c:Int)::[]).length) 1 ((k12 ((s++((c:Int)::[])),())))) (k12 (s,())))))
 by_cases h1:i<xs.length
 ·rw[cnd_lt h1]; exact step10 (.inl h1)
 rw[cnd_n (decide_eq_false (by omega))]
 by_cases h2:i<ys.length
 ·rw[cnd_lt h2]; exact step10 (.inr h2)
 rw[cnd_n (decide_eq_false (by omega)),join_w]
 rw[zon xs i h1,zon ys i h2]at hv
 by_cases h3:c=0
 ·subst h3
  rw[cnd_n (by decide)]
  exact hfin s hs (by rw[←hv]; simp[valB]) (by omega)
 ·have:c=1:=by omega
  subst this
  rw[cnd_y (by decide),room_w (by simp; omega) (by simp; omega)]
  refine hfin _ (yic hs (by intro x hx; simp only[List.mem_singleton]at hx; subst hx; exact .inr rfl)) ?_ (by simp; omega)
  rw[←hv,zoo,hsl]; simp[valB]
theorem valB_zeros(n:Nat)(a:List Int):valB (List.replicate n (0:Int)++a)=2 ^ n*valB a:=by
 have:∀n:Nat,valB (List.replicate n (0:Int))=0:=by
  intro n; induction n with
  |zero=>rfl
  |succ n ih=>rw[List.replicate_succ,valB,ih]; rfl
 rw[zoo,this,List.length_replicate,Nat.zero_add]
theorem bit_eq{xs:List Int}(h:bitL xs)(i:Nat)(hi:i<xs.length):(xs[i]=1∧xs[i].toNat=1)∨(xs[i]=0∧xs[i].toNat=0):=by
 rcases h _ (List.getElem_mem hi) with e|e
 ·exact .inr ⟨e,by rw[e]; rfl⟩
 ·exact .inl ⟨e,by rw[e]; rfl⟩
theorem r_mul{x y:BigT}(hx:bitL x.2.1)(hy:bitL y.2.1)(lx:x.2.1.length≤300)(ly:y.2.1.length≤300):zho x y=some (bigS (x.1 != y.1) (valB x.2.1*valB y.2.1)):=by
 show zpe stdW x y=_
 unfold zpe
 rw[room_w (by omega) (by omega)]
 refine(zdr (fun z=>y.2.1.length+1 - z.2.2.1.toNat) (fun z=>∃(i:Nat) (s:List Int),z=(s,(List.replicate i (0:Int)++x.2.1,((i:Int),())))∧i≤y.2.1.length∧bitL s∧s.length≤x.2.1.length+i∧valB s=valB x.2.1*valB (y.2.1.take i))
  (fun _=>some (bigS (x.1 != y.1) (valB x.2.1*valB y.2.1))) ⟨0,[],rfl,by omega,(by intro x hx; cases hx),by simp,by simp[valB]⟩ (by show y.2.1.length+1 - (0:Int).toNat<_; omega) ?_)
 rintro _ ⟨i,s,rfl,hi,hs,hsl,hv⟩ again ha
 have hz:bitL (List.replicate i (0:Int)++x.2.1):=yic (fun x hx=>.inl (List.mem_replicate.1 hx).2) hx
 have hzl:(List.replicate i (0:Int)++x.2.1).length=i+x.2.1.length:=by simp
 by_cases h:i<y.2.1.length
 ·show stdW.cnd (decide ((i:Int)<(y.2.1.length:Int))) (stdW.join (fun (z3:List (Int)×Unit)=>stdW.room [(0:Int)].length 1 (stdW.room ([(0:Int)].length+(List.replicate i (0:Int)++x.2.1).length) 1 (again (z3.1,([(0:Int)]++(List.replicate i (0:Int)++x.2.1),(IntKind.i64.wrap ((i:Int)+1),())))))) _) _=_
  rw[cnd_lt h]
  refine join_g fun k hk=>?_
  have kk:∀v:List Int,bitL v→v.length≤x.2.1.length+(i+1)→valB v=valB x.2.1*valB (y.2.1.take (i+1))→k (v,())=some (bigS (x.1 != y.1) (valB x.2.1*valB y.2.1)):=by
   intro v h1 h2 h3
   subst hk
   show stdW.room [(0:Int)].length 1 (stdW.room ([(0:Int)].length+(List.replicate i (0:Int)++x.2.1).length) 1 (again (v,([(0:Int)]++(List.replicate i (0:Int)++x.2.1),(IntKind.i64.wrap ((i:Int)+1),())))))=_
   rw[room_w (by simp) (by simp),room_w (by rw[hzl]; simp; omega) (by rw[hzl]; simp; omega),i64_s i (by omega)]
   exact ha _ ⟨i+1,v,rfl,by omega,h1,h2,h3⟩ (by show y.2.1.length+1 - ((i+1:Nat):Int).toNat<y.2.1.length+1 - ((i:Nat):Int).toNat; omega)
  clear hk ha
  show stdW.idx y.2.1 (i:Int) _=_
  rw[idx_w h]
  rw[zgd y.2.1 i h]at kk
  rcases bit_eq hy i h with ⟨e1,e2⟩|⟨e1,e2⟩
  ·rw[cnd_y (by rw[e1]; rfl)]
   obtain⟨r,hr,r1,r2,r3⟩:=plus_gen hs hz (by omega) (by rw[hzl]; omega)
   show stdW.call (zfc s (List.replicate i (0:Int)++x.2.1)) _=_
   rw[zaa hr]
   refine kk r r1 (by rw[hzl]at r3; omega) ?_
   rw[r2,hv,valB_zeros,e2,Nat.mul_add,Nat.mul_one,Nat.mul_comm (valB x.2.1) (2 ^ i)]
  ·rw[cnd_n (by rw[e1]; rfl)]
   exact kk s hs (by omega) (by rw[hv,e2]; simp)
 ·have:i=y.2.1.length:=by omega
  subst this
  show stdW.cnd (decide ((y.2.1.length:Int)<(y.2.1.length:Int))) _ (stdW.call (zfb (notIf true (x.1==y.1)) s) fun v7=>some (v7.1,(v7.2.1,())))=_
  rw[zam,zaa (r_trim hs (by omega)),hv,List.take_length,nif_t]
  rfl
theorem len_of{z:Int}(h:sml z):(big z).2.1.length≤300:=Nat.le_trans (zgg h) (by decide)
theorem r_mulB{x y:Int}(hx:sml x)(hy:sml y):zho (big x) (big y)=some (big (x*y)):=by
 rw[r_mul (zog _) (zog _) (len_of hx) (len_of hy)]
 have e:∀z:Int,valB (big z).2.1=z.natAbs:=fun z=>zgh _
 rw[e,e,yck]
 have:=zut x y
 have e2:∀z:Int,((z.natAbs:Nat):Int)=absI z:=by intro z; unfold absI; split<;>omega
 rw[Int.natCast_mul,e2,e2]
 show some (big (if (decide (x<0) != decide (y<0))=true then _ else _))=_
 rw[this]
theorem r_subB{a b:Int}(ha:sml a)(hb:sml b):zjm (big a) (big b)=some (big (a - b)):=by
 unfold sml at*
 have:=r_sub (nb_big a) (nb_big b) (Nat.le_trans (zgg ha) (by decide)) (Nat.le_trans (zgg hb) (by decide))
 rwa [bv_big,bv_big]at this
def getV:List Leg→Int→Int
 |[],_=>0
 |x::l,k=>if x.1=k then x.2.1 else getV l k
theorem r_vget{l:List Leg}{k:Int}(hl:l.length≤1000000):zzs l k=some (getV l k):=by
 show zxt stdW l k=_
 unfold zxt
 refine zde (l:=l) (by omega) (s0:=()) (fun _ _=>True) (fun l' _=>some (getV l' k)) trivial ?_ ?_
 ·rintro _ again _
  rw[zam]; rfl
 ·rintro i hi _ _ again ha
  rw[cnd_lt hi,idx_w hi]
  show _=some (getV (l[i]::l.drop (i+1)) k)
  rw[getV]
  by_cases h:l[i].1=k
  ·rw[cnd_y (by simpa using h),if_pos h]
  ·rw[cnd_n (by simpa using h),if_neg h]
   show again (IntKind.i64.wrap ((i:Int)+1),())=_
   rw[i64_s i (by omega)]
   exact ha _ trivial
theorem ybr{l:List Leg}(h:okL l)(k:Int):I64 (getV l k):=by
 induction l with
 |nil=>show I64 0; unfold I64; omega
 |cons x l ih=>
  rw[getV]
  split
  ·exact h x (by simp)
  ·exact ih fun y hy=>h y (by simp[hy])
def opnZ(l:List APos')(k:Int):Int:=sumBy (fun p=>getV p.2.1 k) l
def ks:List Int:=[1,2,3,4,5,6,7,8]
theorem ks_mem(k:Int):k∈ks↔1≤k∧k≤8:=by unfold ks; simp; omega
theorem r_none{l:List Leg}(hl:l.length≤1000000):zxs l=some (!isV l):=by
 show zrz stdW l=_
 unfold zrz
 rw[zaa (r_isV hl)]
theorem r_ix{s:List (List Leg)}(hs:s.length≤1000000)(hl:∀l∈s,l.length≤1000000):∃i:Int,zbm s=some (i,())∧decide (0≤i)=!(s.all isV):=by
 show ∃i,zaw stdW s=_∧_
 unfold zaw
 refine loop_P (fun o=>∃i:Int,o=some (i,())∧decide (0≤i)=!(s.all isV)) (fun z=>s.length+1 - z.1.toNat) (fun z=>∃j:Nat,j≤s.length∧z=((j:Int),())∧(s.take j).all isV=true) ⟨0,Nat.zero_le _,rfl,by simp⟩ (by show _ - (0:Int).toNat<_; omega) ?_
 rintro _ ⟨j,hj,rfl,hp⟩ again ha
 show ∃i,stdW.cnd (decide ((j:Int)<(s.length:Int))) _ _=_∧_
 by_cases h:j<s.length
 ·rw[cnd_lt h]
  show ∃i,stdW.idx s (j:Int) _=_∧_
  rw[idx_w h,zaa (r_none (hl _ (List.getElem_mem h)))]
  by_cases hv:isV s[j]=true
  ·rw[hv,cnd_n (by decide)]
   show ∃i,again (IntKind.i64.wrap ((j:Int)+1),())=_∧_
   rw[i64_s j (by omega)]
   refine ha _ ⟨j+1,by omega,rfl,?_⟩ (by show _ - ((j+1:Nat):Int).toNat<_ - ((j:Nat):Int).toNat; omega)
   rw[List.take_succ_eq_append_getElem h,List.all_append,hp]; simp[hv]
  ·have hv:isV s[j]=false:=by simpa using hv
   rw[hv,cnd_y (by decide)]
   refine⟨(j:Int),rfl,?_⟩
   have:s.all isV=false:=by
    rw[List.all_eq_false]
    exact⟨s[j],List.getElem_mem h,by simp[hv]⟩
   rw[this,decide_eq_true (by omega)]; rfl
 ·have:j=s.length:=by omega
  subst this
  rw[zam]
  rw[List.take_length]at hp
  exact⟨-1,rfl,by rw[hp]; rfl⟩
theorem r_cf{s:List (List Leg)}(hs:s.length≤1000000)(hl:∀l∈s,l.length≤1000000):zbi s=some (!(s.all isV),()):=by
 show zar stdW s=_
 unfold zar
 obtain⟨i,e,h⟩:=r_ix hs hl
 rw[zaa e]
 show some (decide (0≤i),())=_
 rw[h]
def sumV(l:List (List Leg))(k:Int):Int:=(l.map fun v=>getV v k).sum
def addGo(l:List (List Leg)):List Int→List Leg→List Leg×Int×Unit
 |[],acc=>(acc,0,())
 |k::ks,acc=>if I64 (sumV l k) then (if sumV l k=0 then addGo l ks acc else addGo l ks (acc++[(k,sumV l k,())])) else ([],7,())
def addV(l:List (List Leg)):List Leg×Int×Unit:=if l.all isV=true then addGo l ks [] else ([],3,())
theorem ks_drop{j:Nat}(h:j<8):ks.drop j=((j:Int)+1)::ks.drop (j+1):=by
 have:j=0∨j=1∨j=2∨j=3∨j=4∨j=5∨j=6∨j=7:=by omega
 rcases this with rfl|rfl|rfl|rfl|rfl|rfl|rfl|rfl<;>rfl
theorem r_vadd{l:List (List Leg)}(hs:l.length≤1000)(hl:∀v∈l,v.length≤1000)(ho:∀v∈l,okL v):ylu l=some (addV l):=by
 show zxu stdW l=_
 unfold zxu addV
 rw[zaa (r_cf (by omega) fun v hv=>by have:=hl v hv; omega)]
 by_cases hv:l.all isV=true
 ·rw[hv,cnd_n (by decide),if_pos rfl]
  refine(zdr (fun z=>10 - z.1.toNat) (fun z=>∃(j:Nat) (acc:List Leg),j≤8∧acc.length≤j∧z=((j:Int)+1,(acc,()))) (fun z=>some (addGo l (ks.drop (z.1.toNat - 1)) z.2.1)) ⟨0,[],by omega,Nat.le_refl _,rfl⟩ (by show 10 - (1:Int).toNat<_; omega) ?_)
  rintro _ ⟨j,acc,hj,hacc,rfl⟩ again ha
  have ej:(((j:Int)+1).toNat - 1)=j:=by omega
  show stdW.cnd (decide ((j:Int)+1≤8)) _ _=some (addGo l (ks.drop ((((j:Int)+1)).toNat - 1)) acc)
  rw[ej]
  by_cases h8:j<8
  ·rw[cnd_y (decide_eq_true (by omega)),ks_drop h8]
   refine join_g fun k5 hk=>?_
   have kk:∀v:List Leg,v.length≤j+1→k5 (v,())=some (addGo l (ks.drop (j+1)) v):=by
    intro v hv
    subst hk
    show again (IntKind.i64.wrap ((j:Int)+1+1),(v,()))=_
    have e1:IntKind.i64.wrap ((j:Int)+1+1)=((j+1:Nat):Int)+1:=by rw[IntWalk.i64_in _ (by omega)]; omega
    rw[e1,ha _ ⟨j+1,v,by omega,hv,rfl⟩ (by show 10 - (((j+1:Nat):Int)+1).toNat<10 - ((j:Int)+1).toNat; omega)]
    show some (addGo l (ks.drop ((((j+1:Nat):Int)+1).toNat - 1)) v)=_
    rw[show (((j+1:Nat):Int)+1).toNat - 1=j+1 by omega]
   clear hk ha
   rw[addGo]
   have hall:∀x∈l.map (fun v=>getV v ((j:Int)+1)),I64 x:=by
    intro x hx
    obtain⟨v,hv,rfl⟩:=List.mem_map.1 hx
    exact ybr (ho v hv) _
   refine zlw (N:=l.length) (by omega) (fun i=>((i:Int),(acc,((l.take i).map (fun v=>getV v ((j:Int)+1)),())))) _ rfl ?_ ?_
   ·intro again2
    show stdW.cnd (decide ((l.length:Int)<(l.length:Int))) _ (stdW.call (zwg ((l.take l.length).map fun v=>getV v ((j:Int)+1))) _)=_
    rw[zam,List.take_length,zaa (r_fSum hall (by rw[List.length_map]; omega))]
    show stdW.cnd ((fits64 (sumV l ((j:Int)+1))).2.1 != 0) (some ([],(fits64 (sumV l ((j:Int)+1))).2)) (stdW.cnd ((fits64 (sumV l ((j:Int)+1))).1 != 0) (stdW.room (acc.length+1) 16 (k5 (acc++[((j:Int)+1,((fits64 (sumV l ((j:Int)+1))).1,()))],()))) (k5 (acc,())))=_
    unfold fits64
    by_cases hI:I64 (sumV l ((j:Int)+1))
    ·rw[if_pos hI,if_pos hI]
     show stdW.cnd ((0:Int) != 0) _ (stdW.cnd (sumV l ((j:Int)+1) != 0) (stdW.room (acc.length+1) 16 (k5 (acc++[((j:Int)+1,(sumV l ((j:Int)+1),()))],()))) (k5 (acc,())))=_
     rw[cnd_n (by decide)]
     by_cases h0:sumV l ((j:Int)+1)=0
     ·rw[cnd_n (by simp[h0]),if_pos h0]; exact kk acc (by omega)
     ·rw[cnd_y (by simp[h0]),if_neg h0,room_w (by omega) (by omega)]
      exact kk _ (by simp; omega)
    ·rw[if_neg hI,if_neg hI]
     show stdW.cnd ((7:Int) != 0) _ _=_
     rw[cnd_y (by decide)]
   ·intro i hi again2 ha2
    show stdW.cnd (decide ((i:Int)<(l.length:Int))) (stdW.idx l (i:Int) fun x8=>stdW.call (zzs x8 ((j:Int)+1)) fun v9=>stdW.room (((l.take i).map fun v=>getV v ((j:Int)+1)).length+1) 8 (again2 (IntKind.i64.wrap ((i:Int)+1),(acc,(((l.take i).map fun v=>getV v ((j:Int)+1))++[v9],()))))) _=_
    have h2:=hl _ (List.getElem_mem hi)
    rw[cnd_lt hi,idx_w hi,zaa (r_vget (by omega))]
    have:((l.take i).map fun v=>getV v ((j:Int)+1)).length≤1000:=by rw[List.length_map,List.length_take]; omega
    rw[room_w (by omega) (by omega),i64_s i (by omega)]
    rw[List.take_succ_eq_append_getElem hi,List.map_append]at ha2
    exact ha2
  ·have:j=8:=by omega
   subst this
   rw[cnd_n (decide_eq_false (by omega))]
   rfl
 ·have hv:l.all isV=false:=by simpa using hv
  rw[hv,cnd_y (by decide),if_neg (by simp)]
theorem yii(l:List (List Leg)):∀(us:List Int) (acc:List Leg),(addGo l us acc).2.1=0→
  (addGo l us acc).1=acc++(us.filter fun u=>decide (sumV l u≠0)).map (fun u=>((u,(sumV l u,())):Leg))∧∀u∈us,I64 (sumV l u)
 |[],acc,_=>by simp[addGo]
 |u::us,acc,h=>by
  unfold addGo at h ⊢
  by_cases hI:I64 (sumV l u)
  ·rw[if_pos hI]at h ⊢
   by_cases h0:sumV l u=0
   ·rw[if_pos h0]at h ⊢
    obtain⟨h1,h2⟩:=yii l us _ h
    refine⟨?_,fun x hx=>?_⟩
    ·rw[h1,List.filter_cons,if_neg (by simp[h0])]
    ·rcases List.mem_cons.1 hx with rfl|hx
     ·exact hI
     ·exact h2 x hx
   ·rw[if_neg h0]at h ⊢
    obtain⟨h1,h2⟩:=yii l us _ h
    refine⟨?_,fun x hx=>?_⟩
    ·rw[h1,List.filter_cons,if_pos (by simp[h0])]; simp
    ·rcases List.mem_cons.1 hx with rfl|hx
     ·exact hI
     ·exact h2 x hx
  ·rw[if_neg hI]at h; simp at h
def resV(f:Int→Int):List Leg:=(ks.filter fun u=>decide (f u≠0)).map fun u=>((u,(f u,())):Leg)
theorem yoi(f:Int→Int):(resV f).length≤8:=by
 unfold resV; rw[List.length_map]; exact Nat.le_trans (List.length_filter_le _ _) (by decide)
theorem ks_sorted:ks.Pairwise (· < ·):=by decide
theorem resV_V(f:Int→Int):VInv (resV f):=by
 refine⟨fun x hx=>?_,?_⟩
 ·obtain⟨u,hu,rfl⟩:=List.mem_map.1 hx
  obtain⟨h1,h2⟩:=List.mem_filter.1 hu
  simp only[decide_eq_true_eq]at h2
  exact⟨(ks_mem u).1 h1,h2⟩
 ·unfold resV
  rw[List.map_map]
  have:((fun x:Leg=>x.1) ∘ fun u=>((u,(f u,())):Leg))=id:=rfl
  rw[this,List.map_id]
  exact ks_sorted.filter _
theorem getV_none{l:List Leg}{k:Int}(h:∀x∈l,x.1≠k):getV l k=0:=by
 induction l with
 |nil=>rfl
 |cons x l ih=>rw[getV,if_neg (h x (by simp)),ih fun y hy=>h y (by simp[hy])]
theorem getV_out{l:List Leg}(h:VInv l){k:Int}(hk:k∉ks):getV l k=0:=by
 refine getV_none fun x hx e=>hk ?_
 rw[←e,ks_mem]; exact(h.1 x hx).1
theorem getV_map(f:Int→Int)(us:List Int)(k:Int):getV (us.map fun u=>((u,(f u,())):Leg)) k=if k∈us then f k else 0:=by
 induction us with
 |nil=>rfl
 |cons u us ih=>
  rw[List.map_cons,getV,ih]
  by_cases h:u=k
  ·subst h; simp
  ·rw[if_neg h]
   by_cases hm:k∈us
   ·rw[if_pos hm,if_pos (by simp[hm])]
   ·rw[if_neg hm,if_neg (by simp[hm,Ne.symm h])]
theorem resV_get(f:Int→Int)(k:Int)(hf:k∉ks→f k=0):getV (resV f) k=f k:=by
 unfold resV
 rw[getV_map]
 by_cases h:k∈ks
 ·by_cases h0:f k=0
  ·rw[if_neg (by simp[h0]),h0]
  ·rw[if_pos (by simp[h,h0])]
 ·rw[if_neg (by simp[h]),hf h]
theorem addV_ok{l:List (List Leg)}(h:(addV l).2.1=0):l.all isV=true∧(addV l).1=resV (sumV l)∧(∀k∈ks,I64 (sumV l k))∧∀k,getV (addV l).1 k=sumV l k:=by
 unfold addV at h ⊢
 by_cases hv:l.all isV=true
 ·rw[if_pos hv]at h ⊢
  obtain⟨h1,h2⟩:=yii l ks [] h
  rw[List.nil_append]at h1
  refine⟨hv,h1,h2,fun k=>?_⟩
  rw[h1]
  refine resV_get _ k fun hk=>?_
  unfold sumV
  have:∀x∈l.map (fun v=>getV v k),x=0:=by
   intro x hx
   obtain⟨v,hv',rfl⟩:=List.mem_map.1 hx
   exact getV_out (of_decide_eq_true (List.all_eq_true.1 hv v hv')) hk
  clear h h1 h2
  generalize l.map (fun v=>getV v k)=m at this
  induction m with
  |nil=>rfl
  |cons x m ih=>rw[List.sum_cons,this x (by simp),ih fun y hy=>this y (by simp[hy])]; rfl
 ·rw[if_neg hv]at h; simp at h
theorem r_neg1{k q:Int}(hk:1≤k∧k≤8)(hq:q≠0)(hI:I64 q)(hI2:I64 (-q)):yfq [(k,(q,()))]=some ([(k,(-q,()))],(0,())):=by
 show zom stdW [(k,(q,()))]=_
 unfold zom
 have hv:isV [((k,(q,())):Leg)]=true:=decide_eq_true ⟨by intro x hx; simp only[List.mem_singleton]at hx; subst hx; exact⟨hk,hq⟩,by simp⟩
 rw[zaa (r_none (by simp)),hv,cnd_n (by decide)]
 refine zlw (N:=1) (by omega) (fun i=>((i:Int),((([((k,(-q,())):Leg)]).take i),()))) _ rfl ?_ ?_
 ·intro again
  show stdW.cnd (decide ((1:Int)<(1:Int))) _ _=_
  rw[cnd_n (by decide)]; rfl
 ·intro i hi again ha
  have:i=0:=by omega
  subst this
  have e:=r_fSub (a:=0) (b:=q) (by unfold I64; omega) hI
  rw[show (0:Int) - q = -q by omega]at e
  show stdW.cnd (decide ((0:Int)<(1:Int))) (stdW.call (zwh 0 q) _) _=_
  rw[cnd_y (by decide),zaa e]
  unfold fits64
  rw[if_pos hI2]
  show stdW.cnd ((0:Int) != 0) _ (stdW.room 1 16 (again (IntKind.i64.wrap (0+1),([(k,(-q,()))],()))))=_
  rw[cnd_n (by decide),room_w (by omega) (by omega)]
  exact ha
def ofB:List APos'→AUnit'→List Leg
 |[],_=>[]
 |p::l,u=>if p.1=u then p.2.1 else ofB l u
theorem yot{s:List Leg}(h:s.length≤1000000):zbo s=some s:=by
 show zby stdW s=_
 unfold zby
 rw[nilq_w]
 refine ymn ?_ fun he=>?_
 ·show stdW.cnd (notIf false false) _ _=_
  rw[cnd_n (by decide),room_w (by omega) (by omega)]; rfl
 ·have:s=[]:=by simpa using he
  subst this; rfl
theorem r_bof{l:List APos'}{u:AUnit'}(hb:okB l):ych l u=some (ofB l u):=by
 have hl:=hb.2
 show zzh stdW l u=_
 unfold zzh
 refine zde (l:=l) (by omega) (s0:=()) (fun _ _=>True) (fun l' _=>some (ofB l' u)) trivial ?_ ?_
 ·rintro _ again _
  rw[zam]; rfl
 ·rintro i hi _ _ again ha
  have h2:=(hb.1 _ (List.getElem_mem hi)).2
  rw[cnd_lt hi,idx_w hi,nif_f,eqA]
  show _=some (ofB (l[i]::l.drop (i+1)) u)
  rw[ofB]
  by_cases h:l[i].1=u
  ·rw[cnd_y (decide_eq_true h),if_pos h,zaa (yot (by omega))]
  ·rw[cnd_n (decide_eq_false h),if_neg h]
   show again (IntKind.i64.wrap ((i:Int)+1),())=_
   rw[i64_s i (by omega)]
   exact ha _ trivial
theorem r_copied{l:List APos'}(hb:okB l):zrn l=some l:=by
 have hl:=hb.2
 show zit stdW l=_
 unfold zit
 refine zlw (N:=l.length) (by omega) (fun i=>((i:Int),(l.take i,()))) _ rfl ?_ ?_
 ·intro again
  show stdW.cnd (decide ((l.length:Int)<(l.length:Int))) _ (some (l.take l.length))=_
  rw[zam,List.take_length]
 ·intro i hi again ha
  have h2:=(hb.1 _ (List.getElem_mem hi)).2
  show stdW.cnd (decide ((i:Int)<(l.length:Int))) (stdW.idx l (i:Int) fun x3=>stdW.call (zbo x3.2.1) fun v4=>stdW.room ((l.take i).length+1) 40 (again (IntKind.i64.wrap ((i:Int)+1),(l.take i++[(x3.1,(v4,()))],())))) _=_
  have:(l.take i).length≤100:=by rw[List.length_take]; omega
  rw[cnd_lt hi,idx_w hi,zaa (yot (by omega)),room_w (by omega) (by omega),i64_s i (by omega)]
  rw[List.take_succ_eq_append_getElem hi]at ha
  exact ha
def lowB(u:AUnit')(l:List APos'):List APos':=l.filter fun p=>decide (ltA p.1 u)
def midB(u:AUnit')(l:List APos'):List APos':=l.filter fun p=>decide (p.1=u)
def highB(u:AUnit')(l:List APos'):List APos':=l.filter fun p=>decide (ltA u p.1)
theorem ziq{α:Type}{f:α→Bool}{l:List α}(h:∀x∈l,f x=false):l.filter f=[]:=List.filter_eq_nil_iff.2 fun x hx=>by simp[h x hx]
theorem yhr{α:Type}{f:α→Bool}{l:List α}(h:∀x∈l,f x=true):l.filter f=l:=List.filter_eq_self.2 h
theorem cutB(u:AUnit'):∀{l:List APos'},SrtA (l.map (·.1))→l=lowB u l++(midB u l++highB u l)
 |[],_=>rfl
 |p::l,h=>by
  obtain⟨h1,h2⟩:=List.pairwise_cons.1 h
  have h1:∀x∈l,ltA p.1 x.1:=fun x hx=>h1 _ (List.mem_map_of_mem hx)
  have ih:=cutB u (l:=l) h2
  unfold lowB midB highB at ih ⊢
  rw[List.filter_cons,List.filter_cons,List.filter_cons]
  by_cases hp:ltA p.1 u
  ·have e1:¬p.1=u:=fun e=>zex u (by rw[e]at hp; exact hp)
   have e2:¬ltA u p.1:=fun e=>ltA_as hp e
   rw[if_pos (by simpa using hp),if_neg (by simpa using e1),if_neg (by simpa using e2),List.cons_append,←ih]
  ·by_cases hu:p.1=u
   ·have e2:¬ltA u p.1:=by rw[hu]; exact zex u
    have a1:∀x∈l,decide (ltA x.1 u)=false:=fun x hx=>decide_eq_false fun e=>ltA_as e (by rw[←hu]; exact h1 x hx)
    have a2:∀x∈l,decide (x.1=u)=false:=fun x hx=>decide_eq_false fun e=>zex u (by have:=h1 x hx; rw[hu,e]at this; exact this)
    have a3:∀x∈l,decide (ltA u x.1)=true:=fun x hx=>decide_eq_true (by rw[←hu]; exact h1 x hx)
    rw[if_neg (by simpa using hp),if_pos (by simpa using hu),if_neg (by simpa using e2),ziq a1,ziq a2,yhr a3]; rfl
   ·have e2:ltA u p.1:=Classical.byContradiction fun hn=>hu (yhe hp hn)
    have a1:∀x∈l,decide (ltA x.1 u)=false:=fun x hx=>decide_eq_false fun e=>ltA_as (ltA_tr e2 (h1 x hx)) e
    have a2:∀x∈l,decide (x.1=u)=false:=fun x hx=>decide_eq_false fun e=>zex u (by have:=ltA_tr e2 (h1 x hx); rw[e]at this; exact this)
    have a3:∀x∈l,decide (ltA u x.1)=true:=fun x hx=>decide_eq_true (ltA_tr e2 (h1 x hx))
    rw[if_neg (by simpa using hp),if_neg (by simpa using hu),if_pos (by simpa using e2),ziq a1,ziq a2,yhr a3]; rfl
theorem B_nd{l:List APos'}(h:SrtA (l.map (·.1))):(l.map (·.1)).Nodup:=srt_nd h
theorem ygx{l:List APos'}(h:(l.map (·.1)).Nodup){p:APos'}(hp:p∈l):ofB l p.1=p.2.1:=by
 induction l with
 |nil=>cases hp
 |cons x l ih=>
  obtain⟨h1,h2⟩:=List.nodup_cons.1 h
  rw[ofB]
  rcases List.mem_cons.1 hp with rfl|hp
  ·rw[if_pos rfl]
  ·rw[if_neg fun e=>h1 (by show x.1∈_; rw[e]; exact List.mem_map_of_mem hp),ih h2 hp]
theorem zyj{l:List APos'}{u:AUnit'}(h:∀p∈l,p.1≠u):ofB l u=[]:=by
 induction l with
 |nil=>rfl
 |cons x l ih=>rw[ofB,if_neg (h x (by simp)),ih fun y hy=>h y (by simp[hy])]
theorem ykc{l:List APos'}(h:SrtA (l.map (·.1)))(u:AUnit'):(midB u l=[]∧(∀p∈l,p.1≠u)∧ofB l u=[])∨(midB u l=[(u,(ofB l u,()))]∧(u,(ofB l u,()))∈l):=by
 by_cases hex:∃p∈l,p.1=u
 ·right
  obtain⟨p,hp,rfl⟩:=hex
  have e:=ygx (B_nd h) hp
  have ep:((p.1,(ofB l p.1,())):APos')=p:=by rw[e]
  rw[ep]
  refine⟨?_,hp⟩
  have hn:=B_nd h
  clear h e ep
  induction l with
  |nil=>cases hp
  |cons x l ih=>
   obtain⟨h1,h2⟩:=List.nodup_cons.1 hn
   unfold midB at ih ⊢
   rw[List.filter_cons]
   rcases List.mem_cons.1 hp with rfl|hp
   ·rw[if_pos (by simp),ziq fun y hy=>decide_eq_false fun e=>h1 (by show p.1∈_; rw[←e]; exact List.mem_map_of_mem hy)]
   ·rw[if_neg (by simpa using fun e=>h1 (by show x.1∈_; rw[e]; exact List.mem_map_of_mem hp)),ih hp h2]
 ·left
  have hne:∀p∈l,p.1≠u:=fun p hp e=>hex ⟨p,hp,e⟩
  exact⟨ziq fun p hp=>decide_eq_false (hne p hp),hne,zyj hne⟩
def hasU(l:List APos')(u:AUnit'):Bool:=!(midB u l).isEmpty
theorem r_place{l:List APos'}{u:AUnit'}(hb:okB l)(h:SrtA (l.map (·.1))):zwm l u=some (((lowB u l).length:Int),(hasU l u,())):=by
 have hl:=hb.2
 have hc:=cutB u h
 show zmq stdW l u=_
 unfold zmq
 have hlow:∀p∈lowB u l,ltA p.1 u:=fun p hp=>by simpa using(List.mem_filter.1 hp).2
 have hrest:∀p∈midB u l++highB u l,¬ltA p.1 u:=fun p hp=>by
  rcases List.mem_append.1 hp with hp|hp
  ·have:p.1=u:=by simpa using(List.mem_filter.1 hp).2
   rw[this]; exact zex u
  ·have:ltA u p.1:=by simpa using(List.mem_filter.1 hp).2
   exact fun e=>ltA_as this e
 have hll:(lowB u l).length+(midB u l++highB u l).length=l.length:=by rw[←List.length_append,←hc]
 have hget1:∀i (hi:i<l.length),i<(lowB u l).length→ltA l[i].1 u:=fun i hi hlt=>by
  refine hlow _ ?_
  have:l[i]?=(lowB u l++(midB u l++highB u l))[i]?:=by rw[←hc]
  rw[List.getElem?_append_left hlt,List.getElem?_eq_getElem hi,List.getElem?_eq_getElem hlt]at this
  rw[Option.some.inj this]; exact List.getElem_mem hlt
 have hget2:∀(hi:(lowB u l).length<l.length),(midB u l++highB u l)[0]?=some l[(lowB u l).length]:=fun hi=>by
  have:l[(lowB u l).length]?=(lowB u l++(midB u l++highB u l))[(lowB u l).length]?:=by rw[←hc]
  rw[List.getElem?_append_right (Nat.le_refl _),Nat.sub_self,List.getElem?_eq_getElem hi]at this
  exact this.symm
 refine(zdr (fun z=>l.length+1 - z.1.toNat) (fun z=>∃i:Nat,i≤(lowB u l).length∧z=((i:Int),())) (fun _=>some (((lowB u l).length:Int),(hasU l u,()))) ⟨0,Nat.zero_le _,rfl⟩ (by show _ - (0:Int).toNat<_; omega) ?_)
 rintro _ ⟨i,hi,rfl⟩ again ha
 show stdW.cnd (decide ((i:Int)<(l.length:Int))) (stdW.idx l (i:Int) _) (some ((l.length:Int),(false,())))=_
 by_cases hlt:i<(lowB u l).length
 ·have hil:i<l.length:=by omega
  rw[cnd_lt hil,idx_w hil,zaa (ygn _ _),decide_eq_true (hget1 i hil hlt),cnd_n (by decide)]
  show again (IntKind.i64.wrap ((i:Int)+1),())=_
  rw[i64_s i (by omega)]
  exact ha _ ⟨i+1,by omega,rfl⟩ (by show _ - ((i+1:Nat):Int).toNat<_ - ((i:Nat):Int).toNat; omega)
 ·have hie:i=(lowB u l).length:=by omega
  by_cases hil:i<l.length
  ·subst hie
   have h0:=hget2 hil
   have hm:=hrest l[(lowB u l).length] (List.mem_of_getElem? h0)
   rw[cnd_lt hil,idx_w hil,zaa (ygn _ _),decide_eq_false hm,cnd_y (by decide),nif_f,eqA]
   congr 3
   unfold hasU
   cases hmid:midB u l with
   |nil=>
    rw[hmid,List.nil_append]at h0
    have:=List.mem_of_getElem? h0
    have:ltA u l[(lowB u l).length].1:=by simpa using(List.mem_filter.1 this).2
    rw[decide_eq_false fun e=>zex u (by rw[e]at this; exact this)]; rfl
   |cons p m=>
    rw[hmid]at h0
    have e:p=l[(lowB u l).length]:=by simpa using h0
    have hp:p∈midB u l:=by rw[hmid]; simp
    have:p.1=u:=by simpa using(List.mem_filter.1 hp).2
    rw[←e,decide_eq_true this]; rfl
  ·have hil':i=l.length:=by omega
   have:midB u l++highB u l=[]:=List.eq_nil_of_length_eq_zero (by omega)
   have hm:midB u l=[]:=(List.append_eq_nil_iff.1 this).1
   rw[cnd_n (decide_eq_false (by omega))]
   unfold hasU
   rw[hm,←hie,hil']; rfl
def putB(l:List APos')(u:AUnit')(now:List Leg):List APos':=lowB u l++((if now=[] then [] else [(u,(now,()))])++highB u l)
theorem ypa{l:List APos'}(h:SrtA (l.map (·.1)))(u:AUnit')(now:List Leg):(putB l u now).length≤l.length+1:=by
 have hc:=congrArg List.length (cutB u h)
 unfold putB
 rw[List.length_append,List.length_append]at hc
 rw[List.length_append,List.length_append]
 split<;>simp<;>omega
theorem zpi{l:List APos'}{u:AUnit'}{now:List Leg}{p:APos'}:p∈putB l u now↔(p∈l∧p.1≠u)∨(now≠[]∧p=(u,(now,()))):=by
 unfold putB lowB highB
 rw[List.mem_append,List.mem_append,List.mem_filter,List.mem_filter]
 constructor
 ·rintro(⟨h1,h2⟩|h|⟨h1,h2⟩)
  ·exact .inl ⟨h1,fun e=>zex u (by simp only[decide_eq_true_eq]at h2; rw[e]at h2; exact h2)⟩
  ·split at h
   ·cases h
   ·rename_i hn; exact .inr ⟨hn,by simpa using h⟩
  ·exact .inl ⟨h1,fun e=>zex u (by simp only[decide_eq_true_eq]at h2; rw[e]at h2; exact h2)⟩
 ·rintro(⟨h1,h2⟩|⟨hn,rfl⟩)
  ·by_cases hlt:ltA p.1 u
   ·exact .inl ⟨h1,by simpa using hlt⟩
   ·by_cases hgt:ltA u p.1
    ·exact .inr (.inr ⟨h1,by simpa using hgt⟩)
    ·exact absurd (yhe hlt hgt) h2
  ·rw[if_neg hn]; exact .inr (.inl (by simp))
theorem yoz{l:List APos'}(h:SrtA (l.map (·.1)))(u:AUnit')(now:List Leg):SrtA ((putB l u now).map (·.1)):=by
 unfold putB
 rw[List.map_append,List.map_append]
 have hlow:∀x∈(lowB u l).map (·.1),ltA x u:=fun x hx=>by
  obtain⟨p,hp,rfl⟩:=List.mem_map.1 hx
  simpa using(List.mem_filter.1 hp).2
 have hhigh:∀x∈(highB u l).map (·.1),ltA u x:=fun x hx=>by
  obtain⟨p,hp,rfl⟩:=List.mem_map.1 hx
  simpa using(List.mem_filter.1 hp).2
 have s1:SrtA ((lowB u l).map (·.1)):=List.Pairwise.sublist ((List.filter_sublist).map _) h
 have s2:SrtA ((highB u l).map (·.1)):=List.Pairwise.sublist ((List.filter_sublist).map _) h
 have hmid:∀x∈(if now=[] then ([]:List APos') else [(u,(now,()))]).map (·.1),x=u:=fun x hx=>by
  split at hx
  ·cases hx
  ·simpa using hx
 refine List.pairwise_append.2 ⟨s1,List.pairwise_append.2 ⟨?_,s2,fun a ha b hb=>?_⟩,fun a ha b hb=>?_⟩
 ·split<;>simp
 ·rw[hmid a ha]; exact hhigh b hb
 ·rcases List.mem_append.1 hb with hb|hb
  ·rw[hmid b hb]; exact hlow a ha
  ·exact ltA_tr (hlow a ha) (hhigh b hb)
theorem putB_B{l:List APos'}(h:BInv l)(u:AUnit'){now:List Leg}(hv:VInv now):BInv (putB l u now):=
 ⟨fun p hp=>by
  rcases zpi.1 hp with ⟨h1,_⟩|⟨hn,rfl⟩
  ·exact h.1 p h1
  ·exact⟨hn,hv⟩,yoz h.2 u now⟩
theorem putB_of{l:List APos'}(h:SrtA (l.map (·.1)))(u:AUnit')(now:List Leg)(x:AUnit'):ofB (putB l u now) x=if x=u then now else ofB l x:=by
 have hn:=B_nd (yoz h u now)
 by_cases hx:x=u
 ·subst hx
  rw[if_pos rfl]
  by_cases h0:now=[]
  ·rw[h0]
   refine zyj fun p hp=>?_
   rcases zpi.1 hp with ⟨_,h2⟩|⟨h2,_⟩
   ·exact h2
   ·exact absurd rfl h2
  ·exact ygx hn (p:=(x,(now,()))) (zpi.2 (.inr ⟨h0,rfl⟩))
 ·rw[if_neg hx]
  by_cases hex:∃p∈l,p.1=x
  ·obtain⟨p,hp,rfl⟩:=hex
   rw[ygx (B_nd h) hp,ygx hn (zpi.2 (.inl ⟨hp,hx⟩))]
  ·have hne:∀p∈l,p.1≠x:=fun p hp e=>hex ⟨p,hp,e⟩
   rw[zyj hne]
   refine zyj fun p hp=>?_
   rcases zpi.1 hp with ⟨h1,_⟩|⟨_,rfl⟩
   ·exact hne p h1
   ·exact Ne.symm hx
theorem opn_put{l:List APos'}(h:SrtA (l.map (·.1)))(u:AUnit')(now:List Leg)(k:Int):opnZ (putB l u now) k=opnZ l k - getV (ofB l u) k+getV now k:=by
 have e:opnZ l k=opnZ (lowB u l) k+(opnZ (midB u l) k+opnZ (highB u l) k):=by
  have:=congrArg (fun m=>opnZ m k) (cutB u h)
  unfold opnZ at this ⊢
  rw[zhk,zhk]at this
  exact this
 have e2:opnZ (midB u l) k=getV (ofB l u) k:=by
  rcases ykc h u with ⟨h1,_,h3⟩|⟨h1,_⟩
  ·rw[h1,h3]; rfl
  ·rw[h1]; show getV (ofB l u) k+0=_; omega
 have e3:opnZ (putB l u now) k=opnZ (lowB u l) k+(getV now k+opnZ (highB u l) k):=by
  unfold putB opnZ
  rw[zhk,zhk]
  by_cases h0:now=[]
  ·rw[if_pos h0,h0]; rfl
  ·rw[if_neg h0]
   show _+((getV now k+0)+_)=_; omega
 rw[e3,e,e2]; omega
def shiftP(l:List APos')(u:AUnit')(legs:List Leg):List APos'×Int×Unit:=
 if isB l=true then (if (addV [ofB l u,legs]).2.1=0 then (putB l u (addV [ofB l u,legs]).1,(0,())) else ([],(addV [ofB l u,legs]).2)) else ([],(3,()))
theorem ofB_ok{l:List APos'}(hb:okB l)(u:AUnit'):okL (ofB l u)∧(ofB l u).length≤100:=by
 have:∀l:List APos',(∀p∈l,okL p.2.1∧p.2.1.length≤100)→okL (ofB l u)∧(ofB l u).length≤100:=by
  intro l
  induction l with
  |nil=>intro _; exact⟨(fun x hx=>by cases hx),by simp[ofB]⟩
  |cons p l ih=>
   intro h
   rw[ofB]
   split
   ·exact h p (by simp)
   ·exact ih fun q hq=>h q (by simp[hq])
 exact this l hb.1
theorem ymd{l:List APos'}{u:AUnit'}{legs:List Leg}(hb:okB l)(hl:l.length≤90)(ho:okL legs)(hg:legs.length≤100):zef l u legs=some (shiftP l u legs):=by
 show zmr stdW l u legs=_
 unfold zmr shiftP
 rw[zaa (r_isB hb)]
 by_cases hp:isB l=true
 ·have hB:BInv l:=of_decide_eq_true hp
  obtain⟨h1,h2⟩:=ofB_ok hb u
  rw[hp,cnd_n (by decide),if_pos rfl,zaa (r_bof hb),zaa (r_vadd (l:=[ofB l u,legs]) (by simp) (fun v hv=>by
   simp only[List.mem_cons,List.not_mem_nil,or_false]at hv
   rcases hv with rfl|rfl<;>omega) (fun v hv=>by
   simp only[List.mem_cons,List.not_mem_nil,or_false]at hv
   rcases hv with rfl|rfl
   ·exact h1
   ·exact ho))]
  by_cases he:(addV [ofB l u,legs]).2.1=0
  ·have hnow:=(addV_ok he).2.1
   have hnl:=yoi (sumV [ofB l u,legs])
   rw[←hnow]at hnl
   rw[cnd_n (by simp[he]),if_pos he,zaa (r_place hb hB.2),zaa (r_copied hb)]
   have hc:=cutB u hB.2
   have hcl:=congrArg List.length hc
   rw[List.length_append,List.length_append]at hcl
   refine join_g fun k10 hk=>?_
   have kk:∀o:List APos',o=lowB u l++highB u l→k10 ((addV [ofB l u,legs]).1,(o,()))=some (putB l u (addV [ofB l u,legs]).1,(0,())):=by
    intro o ho'
    subst hk
    refine join_g fun k8 hk8=>?_
    have k8':∀o',k8 (o',())=some (o',(0,())):=by intro o'; subst hk8; rfl
    clear hk8
    show stdW.cnd (decide ((0:Int)<((addV [ofB l u,legs]).1.length:Int))) (stdW.call (insO o ((lowB u l).length:Int) [(u,((addV [ofB l u,legs]).1,()))]) fun v9=>k8 (v9.1,())) (k8 (o,()))=_
    unfold putB
    by_cases h0:(addV [ofB l u,legs]).1=[]
    ·rw[cnd_n (decide_eq_false (by rw[h0]; simp)),k8',if_pos h0,ho']; rfl
    ·have hpos:0<(addV [ofB l u,legs]).1.length:=List.length_pos_iff.2 h0
     have e:insO o ((lowB u l).length:Int) [(u,((addV [ofB l u,legs]).1,()))]=some (lowB u l++(u,((addV [ofB l u,legs]).1,()))::highB u l,()):=by
      unfold insO
      rw[ho',if_pos ⟨by omega,by rw[List.length_append]; omega,by rw[List.length_append]; omega⟩]
      show some ((lowB u l++highB u l).take ((lowB u l).length:Int).toNat++_::(lowB u l++highB u l).drop ((lowB u l).length:Int).toNat,())=_
      rw[Int.toNat_natCast,List.take_left,List.drop_left]
     rw[cnd_y (decide_eq_true (by omega)),zaa e,if_neg h0]
     exact k8' _
   clear hk
   show stdW.cnd (hasU l u) (stdW.call (delO l ((lowB u l).length:Int) (IntKind.i64.wrap (((lowB u l).length:Int)+1))) fun v11=>k10 ((addV [ofB l u,legs]).1,(v11.1,()))) (k10 ((addV [ofB l u,legs]).1,(l,())))=_
   rcases ykc hB.2 u with ⟨h3,_,_⟩|⟨h3,_⟩
   ·rw[cnd_n (by unfold hasU; rw[h3]; rfl)]
    rw[h3,List.nil_append]at hc
    exact kk l hc
   ·rw[h3]at hc hcl
    rw[cnd_y (by unfold hasU; rw[h3]; rfl),i64_s _ (by simp at hcl; omega)]
    have e:delO l ((lowB u l).length:Int) (((lowB u l).length+1:Nat):Int)=some (lowB u l++highB u l,()):=by
     unfold delO
     rw[if_pos ⟨by omega,by omega,by simp at hcl; omega⟩,Int.toNat_natCast,Int.toNat_natCast]
     congr 2
     have e1:l.take (lowB u l).length=lowB u l:=by
      have:=congrArg (List.take (lowB u l).length) hc
      rwa [List.take_left]at this
     have e2:l.drop ((lowB u l).length+1)=highB u l:=by
      have:=congrArg (List.drop ((lowB u l).length+1)) hc
      rw[List.drop_append,List.drop_eq_nil_of_le (Nat.le_succ _),Nat.add_sub_cancel_left]at this
      exact this
     rw[e1,e2]
    rw[zaa e]
    exact kk _ rfl
  ·rw[cnd_y (by simp[he]),if_neg he]
 ·have hp:isB l=false:=by simpa using hp
  rw[hp,cnd_y (by decide),if_neg (by simp)]
theorem zye(p:Int):zey p=some (decide (0≤p∧p≤2147483647)):=by
 show zip stdW p=_
 unfold zip
 by_cases h:0≤p
 ·rw[cnd_y (decide_eq_true h)]; congr 1; exact decide_eq_decide.2 (by omega)
 ·rw[cnd_n (decide_eq_false h),decide_eq_false (by omega)]
def farI(m:Int):Bool:=decide (m < -2147483647)||decide (2147483647<m)
theorem r_far(m:Int):yhk m=some (farI m):=by
 show ztu stdW m=_
 unfold ztu farI
 by_cases h:m < -2147483647
 ·rw[cnd_y (decide_eq_true h),decide_eq_true h]; rfl
 ·rw[cnd_n (decide_eq_false h),decide_eq_false h]; rfl
theorem r_ixf{s:List Int}(hs:s.length≤1000000):∃i:Int,zbu s=some (i,())∧decide (0≤i)=s.any farI:=by
 show ∃i,zbf stdW s=_∧_
 unfold zbf
 refine loop_P (fun o=>∃i:Int,o=some (i,())∧decide (0≤i)=s.any farI) (fun z=>s.length+1 - z.1.toNat) (fun z=>∃j:Nat,j≤s.length∧z=((j:Int),())∧(s.take j).any farI=false) ⟨0,Nat.zero_le _,rfl,by simp⟩ (by show _ - (0:Int).toNat<_; omega) ?_
 rintro _ ⟨j,hj,rfl,hp⟩ again ha
 show ∃i,stdW.cnd (decide ((j:Int)<(s.length:Int))) _ _=_∧_
 by_cases h:j<s.length
 ·rw[cnd_lt h]
  show ∃i,stdW.idx s (j:Int) _=_∧_
  rw[idx_w h,zaa (r_far _)]
  cases hv:farI s[j]with
  |false=>
   rw[cnd_n rfl]
   show ∃i,again (IntKind.i64.wrap ((j:Int)+1),())=_∧_
   rw[i64_s j (by omega)]
   refine ha _ ⟨j+1,by omega,rfl,?_⟩ (by show _ - ((j+1:Nat):Int).toNat<_ - ((j:Nat):Int).toNat; omega)
   rw[List.take_succ_eq_append_getElem h,List.any_append,hp]; simp[hv]
  |true=>
   rw[cnd_y rfl]
   refine⟨(j:Int),rfl,?_⟩
   have:s.any farI=true:=List.any_eq_true.2 ⟨s[j],List.getElem_mem h,hv⟩
   rw[this,decide_eq_true (by omega)]
 ·have:j=s.length:=by omega
  subst this
  rw[zam]
  rw[List.take_length]at hp
  exact⟨-1,rfl,by rw[hp]; rfl⟩
theorem r_cff{s:List Int}(hs:s.length≤1000000):zbn s=some (s.any farI,()):=by
 show zay stdW s=_
 unfold zay
 obtain⟨i,e,h⟩:=r_ixf hs
 rw[zaa e]
 show some (decide (0≤i),())=_
 rw[h]
def okC(i:AInst'):Prop:=(1≤i.1∧i.1≤8)∧(1≤i.2.1∧i.2.1≤65536)∧(0≤i.2.2.1∧i.2.2.1≤2147483647)∧(0≤i.2.2.2.1∧i.2.2.2.1≤2147483647)∧i.2.2.2.2.1.length≤8∧i.2.2.2.2.1.any farI=false
instance (i:AInst'):Decidable (okC i):=by unfold okC; infer_instance
theorem r_check{i:AInst'}(hm:i.2.2.2.2.1.length≤1000000):zqa i=some (if okC i then 0 else 2):=by
 show zmb stdW i=_
 unfold zmb
 refine join_g fun k7 hk7=>?_
 have bad:¬okC i→(2:Int)=if okC i then 0 else 2:=fun h=>(if_neg h).symm
 have k7f:¬okC i→k7 (false,())=some (if okC i then 0 else 2):=by
  intro h
  rw[←bad h]
  subst hk7
  refine join_g fun k3 hk3=>?_
  have k3t:k3 (true,())=some 2:=by subst hk3; rfl
  clear hk3
  show stdW.cnd true (k3 (true,())) _=_
  rw[cnd_y rfl,k3t]
 have k7t:(1≤i.1∧i.1≤8)→(1≤i.2.1∧i.2.1≤65536)→k7 (true,())=some (if okC i then 0 else 2):=by
  intro c1 c2
  subst hk7
  refine join_g fun k3 hk3=>?_
  have k3t:k3 (true,())=some 2:=by subst hk3; rfl
  have k3f:k3 (false,())=some 0:=by subst hk3; rfl
  clear hk3
  show stdW.cnd false _ (stdW.call (zey i.2.2.1) _)=_
  rw[cnd_n rfl,zaa (zye _)]
  by_cases h3:0≤i.2.2.1∧i.2.2.1≤2147483647
  ·rw[decide_eq_true h3,cnd_n (by decide),zaa (zye _)]
   by_cases h4:0≤i.2.2.2.1∧i.2.2.2.1≤2147483647
   ·rw[decide_eq_true h4,cnd_n (by decide)]
    by_cases h5:i.2.2.2.2.1.length≤8
    ·rw[cnd_n (decide_eq_false (by omega)),zaa (r_cff hm)]
     cases h6:i.2.2.2.2.1.any farI with
     |true=>rw[←bad fun h=>by rw[h.2.2.2.2.2]at h6; cases h6]; exact k3t
     |false=>rw[if_pos ⟨c1,c2,h3,h4,h5,h6⟩]; exact k3f
    ·rw[cnd_y (decide_eq_true (by omega)),k3t,←bad fun h=>h5 h.2.2.2.2.1]
   ·rw[decide_eq_false h4,cnd_y (by decide),k3t,←bad fun h=>h4 h.2.2.2.1]
  ·rw[decide_eq_false h3,cnd_y (by decide),k3t,←bad fun h=>h3 h.2.2.1]
 clear hk7
 by_cases h1:1≤i.1
 ·rw[cnd_y (decide_eq_true h1)]
  by_cases h2:i.1≤8
  ·rw[cnd_y (decide_eq_true h2)]
   by_cases h3:1≤i.2.1
   ·rw[cnd_y (decide_eq_true h3)]
    by_cases h4:i.2.1≤65536
    ·rw[decide_eq_true h4]; exact k7t ⟨h1,h2⟩ ⟨h3,h4⟩
    ·rw[decide_eq_false h4]; exact k7f fun h=>h4 h.2.1.2
   ·rw[cnd_n (decide_eq_false h3)]; exact k7f fun h=>h3 h.2.1.1
  ·rw[cnd_n (decide_eq_false h2)]; exact k7f fun h=>h2 h.1.2
 ·rw[cnd_n (decide_eq_false h1)]; exact k7f fun h=>h1 h.1.1
def gZ(i:AInst')(q a b:Int):Int:=(b - a)*i.2.1*q
theorem gZ_bd{i:AInst'}(h:okC i){q a b:Int}(hq:I64 q)(ha:0≤a∧a≤2147483647)(hb:0≤b∧b≤2147483647) : -1298074214633706907132624082305024≤gZ i q a b∧gZ i q a b≤1298074214633706907132624082305024:=by
 unfold I64 at hq
 obtain⟨_,h2,_⟩:=h
 have h1 : -140737488355328≤(b - a)*i.2.1∧(b - a)*i.2.1≤140737488355328:=yha (A:=2147483648) (B:=65536) (by omega) (by omega)
 exact yha (A:=140737488355328) (B:=9223372036854775808) h1 (by omega)
theorem r_igain{i:AInst'}{q a b:Int}(hm:i.2.2.2.2.1.length≤1000000)(h:okC i)(hq:I64 q)(ha:0≤a∧a≤2147483647)(hb:0≤b∧b≤2147483647):ztw i q a b=some (fits64 (gZ i q a b)):=by
 show zpy stdW i q a b=_
 unfold zpy
 have e:zqa (i.1,(i.2.1,(i.2.2.1,(i.2.2.2.1,(i.2.2.2.2.1,())))))=some (if okC i then 0 else 2):=r_check hm
 have hbd:=gZ_bd h hq ha hb
 have h2:=h.2.1
 have h1 : -140737488355328≤(b - a)*i.2.1∧(b - a)*i.2.1≤140737488355328:=yha (A:=2147483648) (B:=65536) (by omega) (by omega)
 refine join_g fun k5 hk=>?_
 have kf:k5 (false,())=some (fits64 (gZ i q a b)):=by
  subst hk
  show stdW.cnd false _ (stdW.call (zxq (IntKind.i64.wrap (b - a)) i.2.1) _)=_
  rw[cnd_n rfl,IntWalk.i64_in _ (by omega),zaa (r_wMul (by unfold I64; omega) (by unfold I64; omega)),zaa (r_wTimes (by unfold I64; omega) hq)]
  show stdW.cnd ((0:Int) != 0) _ (stdW.call (zrw (wide (gZ i q a b))) _)=_
  rw[cnd_n (by decide),zaa (r_wInt (by unfold In128; omega))]
 clear hk
 rw[zaa e,if_pos h,cnd_n (by decide),zaa (zye _),decide_eq_true ha,cnd_n (by decide),zaa (zye _),decide_eq_true hb]
 exact kf
structure ShOk(l l':List APos')(u:AUnit')(legs:List Leg):Prop where
 inv:BInv l
 inv':BInv l'
 other:∀x,x≠u→ofB l' x=ofB l x
 own:∀j,getV (ofB l' u) j=getV (ofB l u) j+getV legs j
 opn:∀j,opnZ l' j=opnZ l j+getV legs j
 len:l'.length≤l.length+1
 ok:okB l→l.length≤99→okB l'
theorem sumV2(a b:List Leg)(k:Int):sumV [a,b] k=getV a k+getV b k:=by
 show getV a k+(getV b k+0)=_; omega
theorem zxx{l:List APos'}{u:AUnit'}{legs:List Leg}(h:(shiftP l u legs).2.1=0):ShOk l (shiftP l u legs).1 u legs:=by
 unfold shiftP at h ⊢
 by_cases hp:isB l=true
 ·have hB:BInv l:=of_decide_eq_true hp
  rw[if_pos hp]at h ⊢
  by_cases he:(addV [ofB l u,legs]).2.1=0
  ·rw[if_pos he]at h ⊢
   obtain⟨h1,h2,h3,h4⟩:=addV_ok he
   have hV:VInv (addV [ofB l u,legs]).1:=by rw[h2]; exact resV_V _
   refine⟨hB,putB_B hB u hV,fun x hx=>by rw[putB_of hB.2,if_neg hx],fun j=>by rw[putB_of hB.2,if_pos rfl,h4,sumV2],fun j=>by rw[opn_put hB.2,h4,sumV2]; omega,ypa hB.2 u _,fun hb hl=>⟨fun p hp=>?_,by show (putB l u (addV [ofB l u,legs]).1).length≤100; have:=ypa hB.2 u (addV [ofB l u,legs]).1; omega⟩⟩
   rcases zpi.1 hp with ⟨h5,_⟩|⟨_,rfl⟩
   ·exact hb.1 p h5
   ·refine⟨fun x hx=>?_,?_⟩
    ·show I64 x.2.1
     have hx:x∈(addV [ofB l u,legs]).1:=hx
     rw[h2]at hx
     obtain⟨v,hv,rfl⟩:=List.mem_map.1 hx
     exact h3 v (List.mem_filter.1 hv).1
    ·show (addV [ofB l u,legs]).1.length≤100
     rw[h2]; exact Nat.le_trans (yoi _) (by decide)
  ·rw[if_neg he]at h; exact absurd h he
 ·rw[if_neg hp]at h; simp at h
theorem okL1{k q:Int}(h:I64 q):okL [((k,(q,())):Leg)]:=fun x hx=>by
 simp only[List.mem_singleton]at hx; subst hx; exact h
theorem r_same11{a:List Leg}(hl:a.length≤1000000):zvl a a=some true:=by
 show zlg stdW a a=_
 unfold zlg
 rw[cnd_n (by simp)]
 refine zde (l:=a) (by omega) (s0:=()) (fun _ _=>True) (fun _ _=>some true) trivial ?_ ?_
 ·rintro _ again _
  rw[zam]
 ·rintro i hi _ _ again ha
  rw[cnd_lt hi,idx_w hi,idx_w hi,nif_t,cnd_n (by simp)]
  show again (IntKind.i64.wrap ((i:Int)+1),())=_
  rw[i64_s i (by omega)]
  exact ha _ trivial
theorem yon{a:List APos'}(hb:okB a):zhb a a=some true:=by
 have hl:=hb.2
 show zku stdW a a=_
 unfold zku
 rw[cnd_n (by simp)]
 refine zde (l:=a) (by omega) (s0:=()) (fun _ _=>True) (fun _ _=>some true) trivial ?_ ?_
 ·rintro _ again _
  rw[zam]
 ·rintro i hi _ _ again ha
  have h2:=(hb.1 _ (List.getElem_mem hi)).2
  rw[cnd_lt hi]
  refine join_g fun k hk=>?_
  have kf:k (false,())=some true:=by
   subst hk
   show stdW.cnd false _ (again (IntKind.i64.wrap ((i:Int)+1),()))=_
   rw[cnd_n rfl,i64_s i (by omega)]
   exact ha _ trivial
  clear hk
  show stdW.idx a (i:Int) _=_
  rw[idx_w hi,idx_w hi,nif_t,cnd_n (by simp),idx_w hi,idx_w hi,zaa (r_same11 (by omega))]
  exact kf
theorem r_gain13g{i:AInst'}(hi:okC i){q a b:Int}(hq:I64 q)(ha:0≤a∧a≤2147483647)(hb:0≤b∧b≤2147483647):zoy i q a b=some (big (gZ i q a b)):=by
 show zle stdW i q a b=_
 unfold zle
 have h1:=hi.2.1
 have hq2:=hq
 unfold I64 at hq2
 have b1 : -9223372036854775808*65536≤q*i.2.1∧q*i.2.1≤9223372036854775808*65536:=by
  have:=yha (a:=q) (b:=i.2.1) (A:=9223372036854775808) (B:=65536) (by omega) (by omega)
  omega
 rw[zaa (r_of hq),zaa (r_of (by unfold I64; omega))]
 show stdW.call (zho (big q) (big i.2.1)) _=_
 rw[zaa (r_mulB (ybn hq) (by unfold sml; omega)),zaa (r_of (by unfold I64; omega)),zaa (r_of (by unfold I64; omega))]
 show stdW.call (zjm (big b) (big a)) _=_
 rw[zaa (r_subB (by unfold sml; omega) (by unfold sml; omega))]
 show stdW.call (zho (big (q*i.2.1)) (big (b - a))) _=_
 rw[zaa (r_mulB (by unfold sml; omega) (by unfold sml; omega))]
 have e:q*i.2.1*(b - a)=gZ i q a b:=by
  unfold gZ
  rw[Int.mul_comm (q*i.2.1),Int.mul_comm q,←Int.mul_assoc]
 rw[e]
def goV(f:Int→Int):List Int→List Leg→List Leg×Int×Unit
 |[],acc=>(acc,0,())
 |k::us,acc=>if I64 (f k) then (if f k=0 then goV f us acc else goV f us (acc++[(k,f k,())])) else ([],7,())
theorem ync(l:List (List Leg)):∀(us:List Int) (acc:List Leg),goV (sumV l) us acc=addGo l us acc
 |[],_=>rfl
 |k::us,acc=>by
  rw[goV,addGo,ync l us,ync l us]
def shGo(u:AUnit')(now:List Leg):List APos'→Bool→List APos'→List APos'
 |[],d,out=>if d=true then out else out++[(u,(now,()))]
 |p::l,d,out=>
  if d=true∨ltA p.1 u then (if p.1=u then shGo u now l d out else shGo u now l d (out++[p]))
  else (if p.1=u then shGo u now l true (out++[(u,(now,()))]) else shGo u now l true (out++[(u,(now,()))]++[p]))
theorem shGo_t(u:AUnit')(now:List Leg):∀(l out:List APos'),shGo u now l true out=out++l.filter fun p=>decide (p.1≠u)
 |[],out=>by rw[shGo,if_pos rfl,List.filter_nil,List.append_nil]
 |p::l,out=>by
  rw[shGo,if_pos (.inl rfl),List.filter_cons]
  by_cases h:p.1=u
  ·rw[if_pos h,shGo_t u now l,if_neg (by simpa using h)]
  ·rw[if_neg h,shGo_t u now l,if_pos (by simpa using h),List.append_assoc]; rfl
theorem ne_cut{u:AUnit'}{l:List APos'}(h:SrtA (l.map (·.1))):(l.filter fun p=>decide (p.1≠u))=lowB u l++highB u l:=by
 have e:=cutB u h
 have a1:(lowB u l).filter (fun p=>decide (p.1≠u))=lowB u l:=yhr fun x hx=>decide_eq_true fun e=>by
  have:=(List.mem_filter.1 hx).2
  simp only[decide_eq_true_eq]at this
  rw[e]at this; exact zex u this
 have a2:(midB u l).filter (fun p=>decide (p.1≠u))=[]:=ziq fun x hx=>decide_eq_false fun hn=>by
  have:=(List.mem_filter.1 hx).2
  simp only[decide_eq_true_eq]at this
  exact hn this
 have a3:(highB u l).filter (fun p=>decide (p.1≠u))=highB u l:=yhr fun x hx=>decide_eq_true fun e=>by
  have:=(List.mem_filter.1 hx).2
  simp only[decide_eq_true_eq]at this
  rw[e]at this; exact zex u this
 calc (l.filter fun p=>decide (p.1≠u))=(lowB u l++(midB u l++highB u l)).filter (fun p=>decide (p.1≠u)):=by rw[←e]
  _=lowB u l++highB u l:=by rw[List.filter_append,List.filter_append,a1,a2,a3]; rfl
theorem shGo_f(u:AUnit')(now:List Leg):∀(l out:List APos'),SrtA (l.map (·.1))→shGo u now l false out=out++(lowB u l++([(u,(now,()))]++highB u l))
 |[],out,_=>by rw[shGo,if_neg (by simp)]; rfl
 |p::l,out,h=>by
  obtain⟨h1,h2⟩:=List.pairwise_cons.1 h
  have h1:∀x∈l,ltA p.1 x.1:=fun x hx=>h1 _ (List.mem_map_of_mem hx)
  rw[shGo]
  by_cases hp:ltA p.1 u
  ·have hu:¬p.1=u:=fun e=>zex u (by rw[e]at hp; exact hp)
   rw[if_pos (.inr hp),if_neg hu,shGo_f u now l _ h2]
   have e1:lowB u (p::l)=p::lowB u l:=by unfold lowB; rw[List.filter_cons,if_pos (by simpa using hp)]
   have e2:highB u (p::l)=highB u l:=by unfold highB; rw[List.filter_cons,if_neg (by simpa using fun e=>ltA_as hp e)]
   rw[e1,e2,List.append_assoc]; rfl
  ·rw[if_neg (by simpa using hp)]
   have hge:∀x∈p::l,¬ltA x.1 u:=by
    intro x hx hxu
    rcases List.mem_cons.1 hx with rfl|hx
    ·exact hp hxu
    ·exact hp (ltA_tr (h1 x hx) hxu)
   have e1:lowB u (p::l)=[]:=ziq fun x hx=>decide_eq_false (hge x hx)
   have e2:=ne_cut (u:=u) h
   rw[e1,List.nil_append]at e2
   rw[e1,←e2,List.filter_cons]
   by_cases hu:p.1=u
   ·rw[if_pos hu,if_neg (by simpa using hu),shGo_t,List.append_assoc]; rfl
   ·rw[if_neg hu,if_pos (by simpa using hu),shGo_t]
    simp only[List.append_assoc,List.nil_append,List.cons_append]
theorem shGo_put{l:List APos'}(h:SrtA (l.map (·.1)))(u:AUnit')(now:List Leg):shGo u now l (decide (now=[])) []=putB l u now:=by
 unfold putB
 by_cases h0:now=[]
 ·rw[decide_eq_true h0,shGo_t,if_pos h0,ne_cut h]; rfl
 ·rw[decide_eq_false h0,shGo_f u now l [] h,if_neg h0]; rfl
theorem r_is13x{i:AInst'}(hm:i.2.2.2.2.1.length≤1000000):zsz i=some (decide (okC i)):=by
 show zsy stdW i=_
 unfold zsy
 refine join_g fun k hk=>?_
 have kt:k (true,())=some false:=by subst hk; rfl
 have kf:k (false,())=some (!(i.2.2.2.2.1.any farI)):=by
  subst hk
  show stdW.cnd false (some false) (stdW.loop _ (0,()))=_
  rw[cnd_n rfl]
  refine zde (l:=i.2.2.2.2.1) (by omega) (s0:=()) (fun _ _=>True) (fun l' _=>some (!(l'.any farI))) trivial ?_ ?_
  ·rintro _ again _
   rw[zam]; rfl
  ·rintro j hj _ _ again ha
   rw[cnd_lt hj,join_w]
   show stdW.idx i.2.2.2.2.1 (j:Int) _=some (!((i.2.2.2.2.1[j]::i.2.2.2.2.1.drop (j+1)).any farI))
   rw[idx_w hj,List.any_cons]
   by_cases h1:i.2.2.2.2.1[j] < -2147483647
   ·have e:farI i.2.2.2.2.1[j]=true:=by unfold farI; simp[h1]
    rw[cnd_y (decide_eq_true h1),e]; rfl
   ·rw[cnd_n (decide_eq_false h1)]
    show stdW.idx i.2.2.2.2.1 (j:Int) _=_
    rw[idx_w hj]
    show stdW.cnd (decide (2147483647<i.2.2.2.2.1[j])) (some false) (again (IntKind.i64.wrap ((j:Int)+1),()))=_
    by_cases h2:2147483647<i.2.2.2.2.1[j]
    ·have e:farI i.2.2.2.2.1[j]=true:=by unfold farI; simp[h2]
     rw[cnd_y (decide_eq_true h2),e]; rfl
    ·have e:farI i.2.2.2.2.1[j]=false:=by unfold farI; simp[h1,h2]
     rw[cnd_n (decide_eq_false h2),e,Bool.false_or,i64_s j (by omega)]
     exact ha _ trivial
 clear hk
 have bad:¬okC i→k (true,())=some (decide (okC i)):=fun h=>by rw[kt,decide_eq_false h]
 by_cases h1:i.1<1
 ·rw[cnd_y (decide_eq_true h1)]; exact bad fun h=>by have:=h.1; omega
 rw[cnd_n (decide_eq_false h1)]
 by_cases h2:8<i.1
 ·rw[cnd_y (decide_eq_true h2)]; exact bad fun h=>by have:=h.1; omega
 rw[cnd_n (decide_eq_false h2)]
 by_cases h3:i.2.1<1
 ·rw[cnd_y (decide_eq_true h3)]; exact bad fun h=>by have:=h.2.1; omega
 rw[cnd_n (decide_eq_false h3)]
 by_cases h4:65536<i.2.1
 ·rw[cnd_y (decide_eq_true h4)]; exact bad fun h=>by have:=h.2.1; omega
 rw[cnd_n (decide_eq_false h4),zaa (r_price _)]
 by_cases h5:0≤i.2.2.1∧i.2.2.1<2147483648
 ·rw[decide_eq_true h5,cnd_n (by decide),zaa (r_price _)]
  by_cases h6:0≤i.2.2.2.1∧i.2.2.2.1<2147483648
  ·rw[decide_eq_true h6,cnd_n (by decide)]
   by_cases h7:i.2.2.2.2.1.length≤8
   ·rw[decide_eq_false (by omega)]
    refine kf.trans ?_
    cases h8:i.2.2.2.2.1.any farI with
    |true=>rw[decide_eq_false fun h=>by rw[h.2.2.2.2.2]at h8; cases h8]; rfl
    |false=>rw[decide_eq_true (show okC i from⟨by omega,by omega,by omega,by omega,h7,h8⟩)]; rfl
   ·rw[decide_eq_true (by omega)]; exact bad fun h=>h7 h.2.2.2.2.1
  ·rw[decide_eq_false h6,cnd_y (by decide)]; exact bad fun h=>h6 (by have:=h.2.2.2.1; omega)
 ·rw[decide_eq_false h5,cnd_y (by decide)]; exact bad fun h=>h5 (by have:=h.2.2.1; omega)
def bigs(f:Int→Int):List BigT:=ks.map fun k=>big (f k)
theorem zuk(f:Int→Int):(bigs f).length=8:=by unfold bigs; rw[List.length_map]; rfl
theorem ks_at{j:Nat}(h:j<ks.length):ks[j]=(j:Int)+1:=by
 have h8:j<8:=h
 have:j=0∨j=1∨j=2∨j=3∨j=4∨j=5∨j=6∨j=7:=by omega
 rcases this with rfl|rfl|rfl|rfl|rfl|rfl|rfl|rfl<;>rfl
theorem zwn{f:Int→Int}{j:Nat}(h:j<(bigs f).length):(bigs f)[j]=big (f ((j:Int)+1)):=by
 have h':j<(ks.map fun k=>big (f k)).length:=h
 have e:(ks.map fun k=>big (f k))[j]=big (f ((j:Int)+1)):=by
  rw[List.getElem_map,ks_at]
 exact e
def mix(f g:Int→Int)(j:Nat)(u:Int):Int:=if u≤(j:Int) then f u else g u
theorem bigs_set{f g:Int→Int}{j:Nat}(_:j<8):(bigs (mix f g j)).set j (big (f ((j:Int)+1)))=bigs (mix f g (j+1)):=by
 apply List.ext_getElem (by rw[List.length_set,zuk,zuk])
 intro n h1 h2
 rw[List.getElem_set]
 by_cases hn:j=n
 ·subst hn
  rw[if_pos rfl,zwn,mix,if_pos (by omega)]
 ·rw[if_neg hn,zwn,zwn]
  congr 1
  unfold mix
  by_cases h3:(n:Int)+1≤(j:Int)
  ·rw[if_pos h3,if_pos (by omega)]
  ·rw[if_neg h3,if_neg (by omega)]
theorem yfe{f g:Int→Int}(h:∀u∈ks,f u=g u):bigs f=bigs g:=by
 unfold bigs; exact List.map_congr_left fun u hu=>by rw[h u hu]
theorem bigs_0(f g:Int→Int):bigs (mix f g 0)=bigs g:=yfe fun u hu=>by
 have:=(ks_mem u).1 hu
 unfold mix; rw[if_neg (by omega)]
theorem bigs_8(f g:Int→Int):bigs (mix f g 8)=bigs f:=yfe fun u hu=>by
 have:=(ks_mem u).1 hu
 unfold mix; rw[if_pos (by omega)]
theorem rep_bigs:List.replicate 8 ((false,([],())):BigT)=bigs fun _=>0:=by
 unfold bigs
 show _=ks.map fun _=>big 0
 rw[big0]; rfl
theorem r_ofV{f:Int→Int}(hf:∀k∈ks,sml (f k)):zyc (bigs f)=some (goV f ks []):=by
 show ztb stdW (bigs f)=_
 unfold ztb
 refine(zdr (fun z=>9 - z.1.toNat) (fun z=>∃(j:Nat) (acc:List Leg),j≤8∧acc.length≤j∧z=((j:Int),(acc,()))) (fun z=>some (goV f (ks.drop z.1.toNat) z.2.1)) ⟨0,[],by omega,Nat.le_refl _,rfl⟩ (by show 9 - (0:Int).toNat<_; omega) ?_)
 rintro _ ⟨j,acc,hj,hacc,rfl⟩ again ha
 show stdW.cnd (decide ((j:Int)<((bigs f).length:Int))) _ _=some (goV f (ks.drop ((j:Int)).toNat) acc)
 rw[Int.toNat_natCast]
 by_cases h8:j<8
 ·have hjl:j<(bigs f).length:=by rw[zuk]; exact h8
  rw[cnd_lt hjl,ks_drop h8,goV]
  refine join_g fun k5 hk5=>?_
  have kk:∀v:List Leg,v.length≤j+1→k5 (v,())=some (goV f (ks.drop (j+1)) v):=by
   intro v hv
   subst hk5
   show again (IntKind.i64.wrap ((j:Int)+1),(v,()))=_
   rw[i64_s j (by omega),ha _ ⟨j+1,v,by omega,hv,rfl⟩ (by show 9 - ((j+1:Nat):Int).toNat<9 - ((j:Nat):Int).toNat; omega)]
   show some (goV f (ks.drop (((j+1:Nat):Int).toNat)) v)=_
   rw[Int.toNat_natCast]
  clear hk5 ha
  have hs:=hf ((j:Int)+1) ((ks_mem _).2 (by omega))
  show stdW.idx (bigs f) (j:Int) _=_
  rw[idx_w hjl,zwn hjl]
  show stdW.call (zfd (big (f ((j:Int)+1)))) _=_
  rw[zaa (r_fits hs)]
  by_cases hI:I64 (f ((j:Int)+1))
  ·rw[decide_eq_true hI,cnd_n (by decide),if_pos hI,idx_w hjl,zwn hjl]
   show stdW.call (zfq (big (f ((j:Int)+1)))) _=_
   rw[zaa (r_int hI)]
   by_cases h0:f ((j:Int)+1)=0
   ·rw[cnd_n (by simp[h0]),if_pos h0]; exact kk acc (by omega)
   ·rw[cnd_y (by simp[h0]),if_neg h0]
    show stdW.room (acc.length+1) 16 (k5 (acc++[(IntKind.i64.wrap ((j:Int)+1),(f ((j:Int)+1),()))],()))=_
    have e1:IntKind.i64.wrap ((j:Int)+1)=(j:Int)+1:=by rw[i64_s j (by omega)]; omega
    rw[room_w (by omega) (by omega),e1]
    exact kk _ (by simp; omega)
  ·rw[decide_eq_false hI,cnd_y (by decide),if_neg hI]
 ·have:j=8:=by omega
  subst this
  have:(bigs f).length=8:=zuk f
  rw[cnd_n (decide_eq_false (by omega))]
  rfl
theorem ymh{l:List Leg}{k:Int}(hl:l.length≤1000000):zfp l k=some (getV l k):=by
 show zpa stdW l k=_
 unfold zpa
 refine zde (l:=l) (by omega) (s0:=()) (fun _ _=>True) (fun l' _=>some (getV l' k)) trivial ?_ ?_
 ·rintro _ again _
  rw[zam]; rfl
 ·rintro i hi _ _ again ha
  rw[cnd_lt hi,idx_w hi]
  show _=some (getV (l[i]::l.drop (i+1)) k)
  rw[getV]
  by_cases h:l[i].1=k
  ·rw[cnd_y (by simpa using h),if_pos h,idx_w hi]
  ·rw[cnd_n (by simpa using h),if_neg h]
   show again (IntKind.i64.wrap ((i:Int)+1),())=_
   rw[i64_s i (by omega)]
   exact ha _ trivial
theorem r_negB{a:Int}(ha:sml a):zjn (big a)=some (big (-a)):=by
 unfold sml at ha
 have:=r_neg (nb_big a) (Nat.le_trans (zgg ha) (by decide))
 rwa [bv_big]at this
theorem sumV_take{l:List (List Leg)}{i:Nat}(h:i<l.length)(u:Int):sumV (l.take (i+1)) u=sumV (l.take i) u+getV l[i] u:=by
 unfold sumV
 rw[List.take_succ_eq_append_getElem h,List.map_append,List.sum_append]
 simp
theorem ynv{l:List (List Leg)}(ho:∀v∈l,okL v)(hl:l.length≤1000)(u:Int):sml (sumV l u):=by
 have h1:=sum_in (l:=l.map fun v=>getV v u) fun x hx=>by
  obtain⟨v,hv,rfl⟩:=List.mem_map.1 hx
  exact ybr (ho v hv) u
 rw[List.length_map]at h1
 unfold sumV sml
 omega
theorem r_add11{l:List (List Leg)}(hs:l.length≤1000)(hl:∀v∈l,v.length≤1000)(ho:∀v∈l,okL v):znl l=some (addV l):=by
 show zpb stdW l=_
 unfold zpb
 rw[nn_w (by omega),room_w (by decide) (by decide),bnd_w (by omega) (by decide)]
 have h0:(0,(List.replicate (Int.toNat 8) ((false,([],())):BigT),()))=((((0:Nat):Int)),(bigs (sumV (l.take 0)),())):=by
  rw[show bigs (sumV (l.take 0))=bigs fun _=>0 from rfl,←rep_bigs]; rfl
 have htk:∀i,∀v∈l.take i,okL v:=fun i v hv=>ho v (List.mem_of_mem_take hv)
 have htl:∀i,(l.take i).length≤1000:=fun i=>by rw[List.length_take]; omega
 refine loop_ai (N:=l.length) (by omega) (fun i=>((i:Int),(bigs (sumV (l.take i)),()))) (fun i=>(l.take i).all isV=true) _ h0 rfl ?_ ?_
 ·intro hall again
  rw[List.take_length]at hall
  show stdW.cnd (decide ((l.length:Int)<(l.length:Int))) _ (stdW.call (zyc (bigs (sumV (l.take l.length)))) _)=_
  rw[zam,List.take_length,zaa (r_ofV fun k _=>ynv ho hs k)]
  unfold addV
  rw[if_pos hall,ync]
 ·intro i hi hall again ha
  have hil:=hl _ (List.getElem_mem hi)
  have hio:=ho _ (List.getElem_mem hi)
  show stdW.cnd (decide ((i:Int)<(l.length:Int))) (stdW.idx l (i:Int) _) _=_
  rw[cnd_lt hi,idx_w hi,zaa (r_isV11 (by omega))]
  by_cases hv:isV l[i]=true
  ·rw[hv,cnd_n (by decide)]
   have ha:=ha (by rw[List.take_succ_eq_append_getElem hi,List.all_append,hall]; simp[hv])
   let f:Int→Int:=sumV (l.take (i+1))
   let g:Int→Int:=sumV (l.take i)
   have hz:(0,(bigs (sumV (l.take i)),()))=((((0:Nat):Int)),(bigs (mix f g 0),())):=by rw[bigs_0]; rfl
   refine zlw (N:=8) (by omega) (fun j=>((j:Int),(bigs (mix f g j),()))) _ hz ?_ ?_
   ·intro again2
    show stdW.cnd (decide ((8:Int)<8)) _ (again (IntKind.i64.wrap ((i:Int)+1),(bigs (mix f g 8),())))=_
    rw[cnd_n (by decide),bigs_8,i64_s i (by omega)]
    exact ha
   ·intro j hj again2 ha2
    have hb:j<(bigs (mix f g j)).length:=by rw[zuk]; exact hj
    have e1:IntKind.i64.wrap ((j:Int)+1)=(j:Int)+1:=by rw[i64_s j (by omega)]; omega
    show stdW.cnd (decide ((j:Int)<8)) _ _=_
    rw[cnd_y (decide_eq_true (by omega))]
    refine join_g fun k9 hk9=>?_
    have kk:k9 (bigs (mix f g (j+1)),())=some (addV l):=by
     subst hk9
     show again2 (IntKind.i64.wrap ((j:Int)+1),(bigs (mix f g (j+1)),()))=_
     rw[i64_s j (by omega)]; exact ha2
    clear hk9 ha2
    have hg:=ybr hio ((j:Int)+1)
    have hx:(bigs (mix f g j))[j]=big (g ((j:Int)+1)):=by rw[zwn hb,mix,if_neg (by omega)]
    have e2:zfp l[i] ((j:Int)+1)=some (getV l[i] ((j:Int)+1)):=ymh (by omega)
    have e3:zdc (getV l[i] ((j:Int)+1))=some (big (getV l[i] ((j:Int)+1))):=r_of hg
    have e4:zbs ((big (g ((j:Int)+1))).1,((big (g ((j:Int)+1))).2.1,())) ((big (getV l[i] ((j:Int)+1))).1,((big (getV l[i] ((j:Int)+1))).2.1,()))=some (big (f ((j:Int)+1))):=by
     have:=r_addB (ynv (htk i) (htl i) ((j:Int)+1)) (ybn hg)
     rw[←sumV_take hi]at this
     exact this
    show stdW.idx (bigs (mix f g j)) (j:Int) _=_
    rw[idx_w hb]
    show stdW.idx l (i:Int) _=_
    rw[idx_w hi]
    have fin:stdW.idx (bigs (mix f g j)) (j:Int) (fun _=>stdW.nth (bigs (mix f g j)) (Int.toNat (j:Int)) fun _=>k9 ((bigs (mix f g j)).set (Int.toNat (j:Int)) ((big (f ((j:Int)+1))).1,((big (f ((j:Int)+1))).2.1,())),()))=some (addV l):=by
     rw[idx_w hb,nth_w hb,Int.toNat_natCast]
     show k9 ((bigs (mix f g j)).set j (big (f ((j:Int)+1))),())=_
     rw[bigs_set hj]; exact kk
    show stdW.both (stdW.nth (bigs (mix f g j)) (Int.toNat (j:Int)) fun x12=>stdW.call (zfp l[i] (IntKind.i64.wrap ((j:Int)+1))) _) _=_
    rw[e1]
    repeat' (first|exact fin|refine zmp ?_ ?_|rw[nth_w hb,hx]|rw[zaa e2]|rw[zaa e3]|rw[zaa e4])
  ·have hv:isV l[i]=false:=by simpa using hv
   have:l.all isV=false:=by rw[List.all_eq_false]; exact⟨l[i],List.getElem_mem hi,by simp[hv]⟩
   rw[hv,cnd_y (by decide)]
   unfold addV
   rw[this,if_neg (by simp)]
theorem r_of19{l:List APos'}{u:AUnit'}(hl:l.length≤1000000):zee l u=some (ofB l u):=by
 show zsl stdW l u=_
 unfold zsl
 refine zde (l:=l) (by omega) (s0:=()) (fun _ _=>True) (fun l' _=>some (ofB l' u)) trivial ?_ ?_
 ·rintro _ again _
  rw[zam]; rfl
 ·rintro i hi _ _ again ha
  rw[cnd_lt hi,idx_w hi,nif_f,eqA]
  show _=some (ofB (l[i]::l.drop (i+1)) u)
  rw[ofB]
  by_cases h:l[i].1=u
  ·rw[cnd_y (decide_eq_true h),if_pos h,idx_w hi]
  ·rw[cnd_n (decide_eq_false h),if_neg h]
   show again (IntKind.i64.wrap ((i:Int)+1),())=_
   rw[i64_s i (by omega)]
   exact ha _ trivial
theorem yjo{l:List APos'}{u:AUnit'}{legs:List Leg}(hb:okB l)(ho:okL legs)(hg:legs.length≤100):zfx l u legs=some (shiftP l u legs):=by
 have hl:=hb.2
 show zhz stdW l u legs=_
 unfold zhz shiftP
 rw[zaa (ymf hb)]
 by_cases hp:isB l=true
 ·have hB:BInv l:=of_decide_eq_true hp
  obtain⟨h1,h2⟩:=ofB_ok hb u
  have hadd:znl [ofB l u,legs]=some (addV [ofB l u,legs]):=r_add11 (by simp) (fun v hv=>by
   simp only[List.mem_cons,List.not_mem_nil,or_false]at hv
   rcases hv with rfl|rfl<;>omega) (fun v hv=>by
   simp only[List.mem_cons,List.not_mem_nil,or_false]at hv
   rcases hv with rfl|rfl
   ·exact h1
   ·exact ho)
  rw[hp,cnd_n (by decide),if_pos rfl,zaa (r_of19 (by omega))]
  show stdW.call (znl [ofB l u,legs]) _=_
  rw[zaa hadd]
  by_cases he:(addV [ofB l u,legs]).2.1=0
  ·rw[cnd_n (by simp[he]),if_pos he]
   generalize (addV [ofB l u,legs]).1=now
   rw[←shGo_put hB.2]
   have hz:((now.length:Int)==0)=decide (now=[]):=by
    cases now with
    |nil=>rfl
    |cons x xs=>rw[decide_eq_false (by simp)]; simp; omega
   rw[hz]
   refine(zdr (fun z=>l.length+1 - z.2.2.1.toNat) (fun z=>∃(j:Nat) (d:Bool) (out:List APos'),j≤l.length∧out.length≤2*j∧z=(now,(d,((j:Int),(out,()))))) (fun z=>some (shGo u now (l.drop z.2.2.1.toNat) z.2.1 z.2.2.2.1,(0,()))) ⟨0,decide (now=[]),[],Nat.zero_le _,Nat.le_refl _,rfl⟩ (by show l.length+1 - (0:Int).toNat<_; omega) ?_)
   rintro _ ⟨j,d,out,hj,hol,rfl⟩ again ha
   show stdW.cnd (decide ((j:Int)<(l.length:Int))) _ _=some (shGo u now (l.drop ((j:Int)).toNat) d out,(0,()))
   rw[Int.toNat_natCast]
   by_cases h:j<l.length
   ·rw[cnd_lt h,zjx l j h,shGo]
    refine join_g fun k7 hk7=>?_
    have kk7:∀(d:Bool) (o:List APos'),o.length≤2*(j+1)→k7 (d,(o,()))=some (shGo u now (l.drop (j+1)) d o,(0,())):=by
     intro d o hlo
     subst hk7
     show again (now,(d,(IntKind.i64.wrap ((j:Int)+1),(o,()))))=_
     rw[i64_s j (by omega),ha _ ⟨j+1,d,o,by omega,hlo,rfl⟩ (by show l.length+1 - ((j+1:Nat):Int).toNat<l.length+1 - ((j:Nat):Int).toNat; omega)]
     show some (shGo u now (l.drop (((j+1:Nat):Int).toNat)) d o,(0,()))=_
     rw[Int.toNat_natCast]
    clear hk7 ha
    refine join_g fun k11 hk11=>?_
    have kk11:∀(d:Bool) (o:List APos'),o.length≤2*j+1→k11 (d,(o,()))=some (if l[j].1=u then shGo u now (l.drop (j+1)) d o else shGo u now (l.drop (j+1)) d (o++[l[j]]),(0,())):=by
     intro d o hlo
     subst hk11
     show stdW.idx l (j:Int) _=_
     rw[idx_w h,nif_t,eqA]
     by_cases hu:l[j].1=u
     ·rw[cnd_n (by simp[hu]),if_pos hu]; exact kk7 d o (by omega)
     ·rw[cnd_y (by simp[hu]),if_neg hu,idx_w h]
      show stdW.room (o.length+1) 40 (k7 (d,(o++[l[j]],())))=_
      rw[room_w (by omega) (by omega)]
      exact kk7 d _ (by simp; omega)
    clear hk11
    refine join_g fun k13 hk13=>?_
    have kk13t:k13 (true,(out,()))=some (if l[j].1=u then shGo u now (l.drop (j+1)) true (out++[(u,(now,()))]) else shGo u now (l.drop (j+1)) true (out++[(u,(now,()))]++[l[j]]),(0,())):=by
     subst hk13
     show stdW.cnd true (stdW.room (out.length+1) 40 (k11 (true,(out++[(u,(now,()))],())))) _=_
     rw[cnd_y rfl,room_w (by omega) (by omega)]
     exact kk11 true _ (by simp; omega)
    have kk13f:k13 (false,(out,()))=some (if l[j].1=u then shGo u now (l.drop (j+1)) d out else shGo u now (l.drop (j+1)) d (out++[l[j]]),(0,())):=by
     subst hk13
     show stdW.cnd false _ (k11 (d,(out,())))=_
     rw[cnd_n rfl]
     exact kk11 d _ (by omega)
    clear hk13
    show stdW.cnd (!d) (stdW.idx l (j:Int) _) (k13 (false,(out,())))=_
    cases d with
    |true=>rw[cnd_n (by decide),kk13f,if_pos (show true=true∨ltA l[j].1 u from .inl rfl)]
    |false=>
     rw[cnd_y (by decide),idx_w h]
     show stdW.call (zfa l[j].1 u) _=_
     rw[zaa (zyf _ _)]
     by_cases hlt:ltA l[j].1 u
     ·rw[decide_eq_true hlt]
      show k13 (false,(out,()))=_
      rw[kk13f,if_pos (show false=true∨ltA l[j].1 u from .inr hlt)]
     ·rw[decide_eq_false hlt]
      show k13 (true,(out,()))=_
      rw[kk13t,if_neg (show ¬(false=true∨ltA l[j].1 u) by simpa using hlt)]
   ·have:j=l.length:=by omega
    subst this
    rw[zam,List.drop_length,shGo]
    refine join_g fun k17 hk17=>?_
    have kk:∀o:List APos',k17 (o,())=some (o,(0,())):=by intro o; subst hk17; rfl
    clear hk17 ha
    show stdW.cnd (!d) (stdW.room (out.length+1) 40 (k17 (out++[(u,(now,()))],()))) (k17 (out,()))=_
    cases d with
    |true=>rw[cnd_n (by decide),kk,if_pos rfl]
    |false=>rw[cnd_y (by decide),room_w (by omega) (by omega),kk,if_neg (by simp)]
  ·rw[cnd_y (by simp[he]),if_neg he]
 ·have hp:isB l=false:=by simpa using hp
  rw[hp,cnd_y (by decide),if_neg (by simp)]
end Go.Proofs.YtllkmncnmlmefaaGreat
namespace Go.Proofs.YtllkmncnmlmefaaGreat
open Go Go.Vc Go.RowKit
end Go.Proofs.YtllkmncnmlmefaaGreat

namespace Go.Proofs.YtllkmncnmlmefaaGreat
open Go Go.Vc Go.RowKit
theorem you{s:List Int}(h:s.length≤1000000):zev s=some s:=by
 show zdl stdW s=_
 unfold zdl
 rw[nilq_w]
 refine ymn ?_ fun he=>?_
 ·show stdW.cnd (notIf false false) _ _=_
  rw[cnd_n (by decide),room_w (by omega) (by omega)]; rfl
 ·have:s=[]:=by simpa using he
  subst this; rfl
def okAs(l:List zab):Prop:=(∀a∈l,a.2.2.2.1.length≤1000)∧l.length≤1000
theorem r_copiedA{l:List zab}(h:okAs l):zrr l=some l:=by
 have hl:=h.2
 show ziv stdW l=_
 unfold ziv
 refine zlw (N:=l.length) (by omega) (fun i=>((i:Int),(l.take i,()))) _ rfl ?_ ?_
 ·intro again
  show stdW.cnd (decide ((l.length:Int)<(l.length:Int))) _ (some (l.take l.length))=_
  rw[zam,List.take_length]
 ·intro i hi again ha
  have h2:=h.1 _ (List.getElem_mem hi)
  have e:zql (l[i].1,(l[i].2.1,(l[i].2.2.1,(l[i].2.2.2.1,()))))=some l[i]:=by
   show zkf stdW l[i]=_
   unfold zkf
   rw[zaa (you (by omega))]
  show stdW.cnd (decide ((i:Int)<(l.length:Int))) (stdW.idx l (i:Int) fun x3=>stdW.call (zql (x3.1,(x3.2.1,(x3.2.2.1,(x3.2.2.2.1,()))))) fun v4=>stdW.room ((l.take i).length+1) 48 (again (IntKind.i64.wrap ((i:Int)+1),(l.take i++[(v4.1,(v4.2.1,(v4.2.2.1,(v4.2.2.2.1,()))))],())))) _=_
  have:(l.take i).length≤1000:=by rw[List.length_take]; omega
  rw[cnd_lt hi,idx_w hi,zaa e,room_w (by omega) (by omega),i64_s i (by omega)]
  rw[List.take_succ_eq_append_getElem hi]at ha
  exact ha
def isM(id:Int)(a:zab):Bool:=decide (a.2.1=id)
theorem r_of1(a:zab)(id:Int):zuq (a.1,(a.2.1,(a.2.2.1,(a.2.2.2.1,())))) id=some (!(isM id a),(id,())):=by
 show some ((a.2.1 != id),(id,()))=_
 unfold isM
 by_cases h:a.2.1=id<;>simp[h]
theorem r_ixM{l:List zab}{id:Int}(hl:l.length≤1000000):
  (zan l id=some (-1,(id,()))∧∀a∈l,isM id a=true)∨
  ∃i:Nat,i<l.length∧zan l id=some ((i:Int),(id,()))∧(∀a∈l.take i,isM id a=true)∧∀h:i<l.length,isM id l[i]=false:=by
 show (zag stdW l id=_∧_)∨∃i:Nat,_∧zag stdW l id=_∧_
 unfold zag
 refine loop_P (fun o=>(o=some ((-1:Int),(id,()))∧∀a∈l,isM id a=true)∨∃i:Nat,i<l.length∧o=some ((i:Int),(id,()))∧(∀a∈l.take i,isM id a=true)∧∀h:i<l.length,isM id l[i]=false) (fun z=>l.length+1 - z.1.toNat)
  (fun z=>∃j:Nat,j≤l.length∧z=((j:Int),(id,()))∧∀a∈l.take j,isM id a=true) ⟨0,Nat.zero_le _,rfl,by simp⟩ (by show _ - (0:Int).toNat<_; omega) ?_
 rintro _ ⟨j,hj,rfl,hp⟩ again ha
 show (stdW.cnd (decide ((j:Int)<(l.length:Int))) _ _=_∧_)∨∃i:Nat,_∧stdW.cnd (decide ((j:Int)<(l.length:Int))) _ _=_∧_
 by_cases h:j<l.length
 ·rw[cnd_lt h]
  show (stdW.idx l (j:Int) _=_∧_)∨∃i:Nat,_∧stdW.idx l (j:Int) _=_∧_
  rw[idx_w h,zaa (r_of1 _ _)]
  by_cases hv:isM id l[j]=true
  ·rw[hv,cnd_n (by rfl)]
   show (again (IntKind.i64.wrap ((j:Int)+1),(id,()))=_∧_)∨∃i:Nat,_∧again (IntKind.i64.wrap ((j:Int)+1),(id,()))=_∧_
   rw[i64_s j (by omega)]
   refine ha _ ⟨j+1,by omega,rfl,fun a hm=>?_⟩ (by show _ - ((j+1:Nat):Int).toNat<_ - ((j:Nat):Int).toNat; omega)
   rw[List.take_succ_eq_append_getElem h]at hm
   rcases List.mem_append.1 hm with hm|hm
   ·exact hp a hm
   ·simp only[List.mem_singleton]at hm; subst hm; exact hv
  ·have hv:isM id l[j]=false:=by simpa using hv
   rw[hv,cnd_y (by rfl)]
   exact .inr ⟨j,h,rfl,hp,fun _=>hv⟩
 ·have:j=l.length:=by omega
  subst this
  rw[zam]
  rw[List.take_length]at hp
  exact .inl ⟨rfl,hp⟩
theorem r_delM{l:List zab}{id:Int}(hl:l.length≤1000000):zax id l=some (l.filter (isM id),(id,())):=by
 show zak stdW id l=_
 unfold zak
 rcases r_ixM (id:=id) hl with ⟨e,hall⟩|⟨i0,hi0,e,hp,hn⟩
 ·rw[zaa e,cnd_y (by rfl),List.filter_eq_self.2 hall]
 ·rw[zaa e,cnd_n (show ((i0:Int) == -1)=false by simp)]
  have hi0':i0+1≤l.length:=hi0
  have hf0:(l.take (i0+1)).filter (isM id)=l.take i0:=by
   rw[List.take_succ_eq_append_getElem hi0,List.filter_append,List.filter_eq_self.2 hp,List.filter_cons,hn hi0]; simp
  have hz:((i0:Int),((IntKind.i64.wrap ((i0:Int)+1)),(id,(l,()))))=(((i0:Nat):Int),(((i0+1:Nat):Int),(id,(l,())))):=by rw[i64_s i0 (by omega)]
  show stdW.loop _ ((i0:Int),((IntKind.i64.wrap ((i0:Int)+1)),(id,(l,()))))=_
  rw[hz]
  refine(zdr (fun z=>l.length+1 - z.2.1.toNat) (fun z=>∃(i j:Nat) (s:List zab),i<j∧j≤l.length∧s.length=l.length∧s.take i=(l.take j).filter (isM id)∧s.drop j=l.drop j∧z=((i:Int),((j:Int),(id,(s,()))))) (fun _=>some (l.filter (isM id),(id,()))) ⟨i0,i0+1,l,by omega,hi0',rfl,hf0.symm,rfl,rfl⟩ (by show l.length+1 - (((i0+1:Nat):Int)).toNat<_; omega) ?_)
  rintro _ ⟨i,j,s,hij,hj,hs,ht,hd,rfl⟩ again ha
  show stdW.cnd (decide ((j:Int)<(s.length:Int))) _ _=_
  by_cases h:j<s.length
  ·have hjl:j<l.length:=by omega
   have hx:s[j]=l[j]:=by
    have h1:(s.drop j)[0]?=(l.drop j)[0]?:=by rw[hd]
    rw[List.getElem?_drop,List.getElem?_drop,Nat.add_zero,List.getElem?_eq_getElem h,List.getElem?_eq_getElem hjl]at h1
    exact Option.some.inj h1
   rw[cnd_lt h]
   refine join_g fun k5 hk5=>?_
   have kk:∀(i':Nat) (s':List zab),i'<j+1→s'.length=l.length→s'.take i'=(l.take (j+1)).filter (isM id)→s'.drop (j+1)=l.drop (j+1)→k5 ((i':Int),(id,(s',())))=some (l.filter (isM id),(id,())):=by
    intro i' s' g1 g2 g3 g4
    subst hk5
    show again ((i':Int),(IntKind.i64.wrap ((j:Int)+1),(id,(s',()))))=_
    rw[i64_s j (by omega)]
    exact ha _ ⟨i',j+1,s',by omega,by omega,g2,g3,g4,rfl⟩ (by show l.length+1 - (((j+1:Nat):Int)).toNat<l.length+1 - (((j:Nat):Int)).toNat; omega)
   clear hk5 ha
   have hd1:s.drop (j+1)=l.drop (j+1):=by
    have:=congrArg (List.drop 1) hd
    rwa [List.drop_drop,List.drop_drop]at this
   have il:i<s.length:=by omega
   show stdW.idx s (j:Int) _=_
   rw[idx_w h]
   show stdW.nth s (Int.toNat (j:Int)) _=_
   rw[nth_w h,hx,zaa (r_of1 _ _)]
   by_cases hv:isM id l[j]=true
   ·rw[hv,cnd_y (by rfl)]
    show stdW.idx s (i:Int) _=_
    rw[idx_w il]
    show stdW.nth s (Int.toNat (i:Int)) _=_
    rw[nth_w il]
    show k5 (IntKind.i64.wrap ((i:Int)+1),(id,(s.set (Int.toNat (i:Int)) l[j],())))=_
    rw[Int.toNat_natCast,i64_s i (by omega)]
    refine kk (i+1) (s.set i l[j]) (by omega) (by rw[List.length_set]; exact hs) ?_ ?_
    ·rw[List.take_succ_eq_append_getElem hjl,List.filter_append,←ht,List.filter_cons,hv,List.filter_nil,if_pos rfl]
     have h1:i<(s.set i l[j]).length:=by rw[List.length_set]; exact il
     rw[List.take_succ_eq_append_getElem h1,List.getElem_set_self]
     congr 1
     rw[List.take_set_of_le (Nat.le_refl _)]
    ·rw[List.drop_set_of_lt (by omega)]; exact hd1
   ·have hv:isM id l[j]=false:=by simpa using hv
    rw[hv,cnd_n (by rfl)]
    refine kk i s (by omega) hs ?_ hd1
    rw[List.take_succ_eq_append_getElem hjl,List.filter_append,List.filter_cons,hv,ht]; simp
  ·have:j=s.length:=by omega
   subst this
   have hll:s.length=l.length:=hs
   rw[zam]
   show stdW.bnd (i:Int) s.length _=_
   rw[bnd_w (by omega) (by omega),Int.toNat_natCast]
   show stdW.bnd (i:Int) s.length _=_
   rw[bnd_w (by omega) (by omega),Int.toNat_natCast]
   show stdW.bnd (i:Int) (s.take i++List.replicate (s.length - i) (0,(0,(0,([],()))))).length _=_
   have hlt:(s.take i).length=i:=by rw[List.length_take]; omega
   rw[bnd_w (by omega) (by rw[List.length_append,hlt]; omega),Int.toNat_natCast]
   show some ((s.take i++List.replicate (s.length - i) (0,(0,(0,([],()))))).take i,(id,()))=_
   rw[List.take_append_of_le_length (by omega),List.take_take,Nat.min_self,ht,hll,List.take_length]
theorem r_aof{l:List zab}{id:Int}(h:okAs l):ynn l id=some (l.filter (isM id)):=by
 show zzl stdW l id=_
 unfold zzl
 have hl:=h.2
 rw[zaa (r_copiedA h),zaa (r_delM (by omega))]
def unitsA(a:zab):List AUnit':=if a.2.2.1=1 then [(a.1,(0,()))] else a.2.2.2.1.map fun c=>(a.1,(c,()))
theorem r_aunits{a:zab}(h:a.2.2.2.1.length≤1000):zwq (a.1,(a.2.1,(a.2.2.1,(a.2.2.2.1,()))))=some (unitsA a):=by
 show zmw stdW a=_
 unfold zmw unitsA
 by_cases hk:a.2.2.1=1
 ·rw[cnd_y (by simpa using hk),if_pos hk]
 ·rw[cnd_n (by simpa using hk),if_neg hk]
  refine zlw (N:=a.2.2.2.1.length) (by omega) (fun i=>((i:Int),((a.2.2.2.1.take i).map (fun c=>((a.1,(c,())):AUnit')),()))) _ rfl ?_ ?_
  ·intro again
   show stdW.cnd (decide ((a.2.2.2.1.length:Int)<(a.2.2.2.1.length:Int))) _ (some _)=_
   rw[zam,List.take_length]
  ·intro i hi again ha
   show stdW.cnd (decide ((i:Int)<(a.2.2.2.1.length:Int))) (stdW.idx a.2.2.2.1 (i:Int) fun x3=>stdW.room (((a.2.2.2.1.take i).map (fun c=>((a.1,(c,())):AUnit'))).length+1) 16 (again (IntKind.i64.wrap ((i:Int)+1),((a.2.2.2.1.take i).map (fun c=>((a.1,(c,())):AUnit'))++[(a.1,(x3,()))],())))) _=_
   have:((a.2.2.2.1.take i).map (fun c=>((a.1,(c,())):AUnit'))).length≤1000:=by rw[List.length_map,List.length_take]; omega
   rw[cnd_lt hi,idx_w hi,room_w (by omega) (by omega),i64_s i (by omega)]
   rw[List.take_succ_eq_append_getElem hi,List.map_append]at ha
   exact ha
theorem r_units15{a:zab}(h:a.2.2.2.1.length≤1000):zqy (a.1,(a.2.1,(a.2.2.1,(a.2.2.2.1,()))))=some (unitsA a):=by
 show zic stdW a=_
 unfold zic unitsA
 by_cases hk:a.2.2.1=1
 ·rw[cnd_y (by simpa using hk),if_pos hk,room_w (by simp) (by simp)]
 ·rw[cnd_n (by simpa using hk),if_neg hk]
  refine zlw (N:=a.2.2.2.1.length) (by omega) (fun i=>((i:Int),((a.2.2.2.1.take i).map (fun c=>((a.1,(c,())):AUnit')),()))) _ rfl ?_ ?_
  ·intro again
   show stdW.cnd (decide ((a.2.2.2.1.length:Int)<(a.2.2.2.1.length:Int))) _ (some _)=_
   rw[zam,List.take_length]
  ·intro i hi again ha
   show stdW.cnd (decide ((i:Int)<(a.2.2.2.1.length:Int))) (stdW.idx a.2.2.2.1 (i:Int) fun x3=>stdW.room (((a.2.2.2.1.take i).map (fun c=>((a.1,(c,())):AUnit'))).length+1) 16 (again (IntKind.i64.wrap ((i:Int)+1),((a.2.2.2.1.take i).map (fun c=>((a.1,(c,())):AUnit'))++[(a.1,(x3,()))],())))) _=_
   have:((a.2.2.2.1.take i).map (fun c=>((a.1,(c,())):AUnit'))).length≤1000:=by rw[List.length_map,List.length_take]; omega
   rw[cnd_lt hi,idx_w hi,room_w (by omega) (by omega),i64_s i (by omega)]
   rw[List.take_succ_eq_append_getElem hi,List.map_append]at ha
   exact ha
theorem ydp{a:zab}(h:a.2.2.2.1.length≤1000):(unitsA a).length≤1000:=by
 unfold unitsA
 split
 ·simp
 ·rw[List.length_map]; exact h
end Go.Proofs.YtllkmncnmlmefaaGreat
namespace Go.Proofs.YtllkmncnmlmefaaGreat
open Go Go.Vc Go.RowKit
end Go.Proofs.YtllkmncnmlmefaaGreat

namespace Go.Proofs.YtllkmncnmlmefaaGreat
open Go Go.Vc Go.RowKit
def pu(s:zae):List AFlow':=s.2.2.2.2.2.2.2.2.2.2.1
theorem ex_cnd{β:Type}{c:Bool}{a b:Option β}(ha:∃r,a=some r)(hb:∃r,b=some r):∃r,stdW.cnd c a b=some r:=by
 cases c
 ·exact hb
 ·exact ha
theorem r_is15{a:zab}(hm:a.2.2.2.1.length≤1000000):∃b,ygi a=some b:=by
 show ∃b,zsr stdW a=some b
 unfold zsr
 refine zvz (Q:=fun o=>∃b,o=some b) fun k12 hk12=>?_
 have kb12:∀c,∃b,k12 (c,())=some b:=by
  intro c
  subst hk12
  show ∃b,stdW.cnd c (some false) _=some b
  refine ex_cnd ⟨_,rfl⟩ ?_
  refine zvz (Q:=fun o=>∃b,o=some b) fun k11 hk11=>?_
  have kb11:∀c,∃b,k11 (c,())=some b:=by
   intro c
   subst hk11
   show ∃b,stdW.cnd c (some false) _=some b
   refine ex_cnd ⟨_,rfl⟩ ?_
   refine loop_P (fun o=>∃b,o=some b) (fun z=>a.2.2.2.1.length+1 - z.1.toNat) (fun z=>∃j:Nat,j≤a.2.2.2.1.length∧z=((j:Int),())) ⟨0,Nat.zero_le _,rfl⟩ (by show _ - (0:Int).toNat<_; omega) ?_
   rintro _ ⟨j,hj,rfl⟩ again ha
   show ∃b,stdW.cnd (decide ((j:Int)<(a.2.2.2.1.length:Int))) _ _=some b
   by_cases h:j<a.2.2.2.1.length
   ·rw[cnd_lt h]
    refine zvz (Q:=fun o=>∃b,o=some b) fun k6 hk6=>?_
    have kb6:∀c,∃b,k6 (c,())=some b:=by
     intro c
     subst hk6
     show ∃b,stdW.cnd c (some false) (again (IntKind.i64.wrap ((j:Int)+1),()))=some b
     refine ex_cnd ⟨_,rfl⟩ ?_
     rw[i64_s j (by omega)]
     exact ha _ ⟨j+1,by omega,rfl⟩ (by show _ - ((j+1:Nat):Int).toNat<_ - ((j:Nat):Int).toNat; omega)
    clear hk6 ha
    show ∃b,stdW.idx a.2.2.2.1 (j:Int) _=some b
    rw[idx_w h]
    refine ex_cnd (kb6 _) ?_
    show ∃b,stdW.idx a.2.2.2.1 (j:Int) _=some b
    rw[idx_w h]
    refine ex_cnd (kb6 _) ?_
    show ∃b,stdW.cnd (decide (0<(j:Int))) (stdW.idx a.2.2.2.1 (j:Int) fun x9=>stdW.idx a.2.2.2.1 (IntKind.i64.wrap ((j:Int) - 1)) _) _=some b
    by_cases h0:0<j
    ·rw[cnd_y (decide_eq_true (by omega)),idx_w h,zgy j h0 (by rw[zat]; omega),idx_w (by omega)]
     exact kb6 _
    ·rw[cnd_n (decide_eq_false (by omega))]; exact kb6 _
   ·have:j=a.2.2.2.1.length:=by omega
    subst this
    rw[zam]; exact⟨_,rfl⟩
  clear hk11
  repeat' (first|exact kb11 _|refine ex_cnd ?_ ?_)
 clear hk12
 repeat' (first|exact kb12 _|refine ex_cnd ?_ ?_)
theorem r_find15{l:List zab}{id:Int}(hl:l.length≤1000000):∃x b,zjk l id=some (x,(b,()))∧(b=false→∀a∈l,a.1≠id):=by
 show ∃x b,zfy stdW l id=some (x,(b,()))∧_
 unfold zfy
 refine loop_P (fun o=>∃(x:zab) (b:Bool),o=some (x,(b,()))∧(b=false→∀a∈l,a.1≠id)) (fun z=>l.length+1 - z.1.toNat) (fun z=>∃j:Nat,j≤l.length∧z=((j:Int),())∧∀a∈l.take j,a.1≠id) ⟨0,Nat.zero_le _,rfl,by simp⟩ (by show _ - (0:Int).toNat<_; omega) ?_
 rintro _ ⟨j,hj,rfl,hp⟩ again ha
 show ∃x b,stdW.cnd (decide ((j:Int)<(l.length:Int))) _ _=some (x,(b,()))∧_
 by_cases h:j<l.length
 ·rw[cnd_lt h]
  show ∃x b,stdW.idx l (j:Int) _=some (x,(b,()))∧_
  rw[idx_w h]
  by_cases hi:l[j].1=id
  ·rw[cnd_y (by simpa using hi)]
   show ∃x b,stdW.idx l (j:Int) _=some (x,(b,()))∧_
   rw[idx_w h]
   exact⟨_,true,rfl,fun h=>by cases h⟩
  ·rw[cnd_n (by simpa using hi)]
   show ∃x b,again (IntKind.i64.wrap ((j:Int)+1),())=some (x,(b,()))∧_
   rw[i64_s j (by omega)]
   refine ha _ ⟨j+1,by omega,rfl,fun a hm=>?_⟩ (by show _ - ((j+1:Nat):Int).toNat<_ - ((j:Nat):Int).toNat; omega)
   rw[List.take_succ_eq_append_getElem h]at hm
   rcases List.mem_append.1 hm with hm|hm
   ·exact hp a hm
   ·simp only[List.mem_singleton]at hm; subst hm; exact hi
 ·have:j=l.length:=by omega
  subst this
  rw[List.take_length]at hp
  rw[zam]; exact⟨_,false,rfl,fun _=>hp⟩
def yga(a:zab):zab:=(a.1,(a.2.1,(a.2.2.1,(a.2.2.2.1.take 20,()))))
theorem r_short{a:zab}(hl:a.2.2.2.1.length≤9223372036854775807):zrg (a.1,(a.2.1,(a.2.2.1,(a.2.2.2.1,()))))=some (yga a):=by
 show zin stdW a=_
 unfold zin
 refine join_g fun k hk=>?_
 have kk:∀x:zab,k x=some x:=by intro x; subst hk; rfl
 clear hk
 by_cases h:20<a.2.2.2.1.length
 ·rw[cnd_y (decide_eq_true (by omega)),bnd_w (by omega) (by omega),kk]; rfl
 ·rw[cnd_n (decide_eq_false (by omega)),kk]
  unfold yga
  rw[List.take_of_length_le (by omega)]
end Go.Proofs.YtllkmncnmlmefaaGreat
namespace Go.Vc
open Go
theorem zvs{α X S β:Type}{l:List α}(hN:l.length<9223372036854775808){f:X→(X→Option β)→Option β}(st:Nat→S→X)(Inv:Nat→S→Prop)(G:List α→S→Option β){z0:X}{s0:S}(hz:z0=st 0 s0)(h0:Inv 0 s0)
  (hend:∀s,Inv l.length s→∀again:X→Option β,f (st l.length s) again=G [] s)
  (hstep:∀(i:Nat) (hi:i<l.length) (s:S),Inv i s→∀again:X→Option β,(∀s',Inv (i+1) s'→again (st (i+1) s')=G (l.drop (i+1)) s')→f (st i s) again=G (l[i]::l.drop (i+1)) s):stdW.loop f z0=G l s0:=by
 subst hz
 have key:∀n i s,i≤l.length→l.length - i<n→Inv i s→loopF n f (st i s)=G (l.drop i) s:=by
  intro n
  induction n with
  |zero=>intro i s _ h; omega
  |succ n ih=>
   intro i s hi hn hv
   show f (st i s) (loopF n f)=_
   by_cases h:i<l.length
   ·rw[List.drop_eq_getElem_cons h]
    exact hstep i h s hv _ fun s' hv'=>ih (i+1) s' (by omega) (by omega) hv'
   ·have:i=l.length:=by omega
    subst this; rw[List.drop_length]; exact hend s hv _
 show loopF FU f (st 0 s0)=_
 have:=key FU 0 s0 (Nat.zero_le _) (by rw[FU_eq]; omega) h0
 rwa [List.drop_zero]at this
end Go.Vc
namespace Go.Proofs.YtllkmncnmlmefaaGreat
open Go Go.Vc Go.RowKit
def bk(s:zae):List APos':=s.2.2.2.2.2.2.2.2.1
def sa(s:zae):List APos':=s.2.2.2.2.2.2.2.2.2.1
def noS:zae:=(0,([],([],([],([],([],([],([],([],([],([],([],()))))))))))))
def setS(s:zae)(b a:List APos')(p:List AFlow'):zae:=(s.1,(s.2.1,(s.2.2.1,(s.2.2.2.1,(s.2.2.2.2.1,(s.2.2.2.2.2.1,(s.2.2.2.2.2.2.1,(s.2.2.2.2.2.2.2.1,(b,(a,(p,(s.2.2.2.2.2.2.2.2.2.2.2.1,()))))))))))))
def hasA(a:zab)(u:AUnit'):Bool:=decide (u∈unitsA a)
def ownA(t:List zab)(id:Int)(u:AUnit'):Bool:=t.any fun a=>isM id a&&hasA a u
def zcn(own:AUnit'→Bool):List APos'→List APos'→List APos'→List APos'×List APos'×Int
 |[],sale,stays=>(sale,stays,0)
 |p::l,sale,stays=>if own p.1=true then (if (shiftP sale p.1 p.2.1).2.1=0 then zcn own l (shiftP sale p.1 p.2.1).1 stays else ([],[],(shiftP sale p.1 p.2.1).2.1)) else zcn own l sale (stays++[p])
def startP(s:zae)(id:Int):zae×Int×Unit:=
 if isB (bk s)=true∧isB (sa s)=true then (
  if (zcn (ownA s.2.2.2.2.1 id) (bk s) (sa s) []).2.2=0 then (setS s (zcn (ownA s.2.2.2.2.1 id) (bk s) (sa s) []).2.1 (zcn (ownA s.2.2.2.2.1 id) (bk s) (sa s) []).1 (pu s),(0,()))
  else (noS,((zcn (ownA s.2.2.2.2.1 id) (bk s) (sa s) []).2.2,()))) else (noS,(3,()))
def leftP(s:zae)(id:Int):List APos':=(sa s).filter fun p=>ownA s.2.2.2.2.1 id p.1
structure StOk(l sale stays sale' stays':List APos'):Prop where
 okS:okB sale'
 okT:okB stays'
 lenS:sale'.length≤sale.length+l.length
 lenT:stays'.length≤stays.length+l.length
 opn:∀k,opnZ stays' k+opnZ sale' k=opnZ stays k+opnZ l k+opnZ sale k
 inv:BInv sale→BInv sale'
 other:∀x∈stays',x∈stays∨x∈l
theorem opnZ_app(a b:List APos')(k:Int):opnZ (a++b) k=opnZ a k+opnZ b k:=by unfold opnZ; rw[zhk]
theorem yaz(p:APos')(b:List APos')(k:Int):opnZ (p::b) k=getV p.2.1 k+opnZ b k:=by unfold opnZ; rw[zcu]
theorem okB_snoc{a:List APos'}{p:APos'}(h:okB a)(hl:a.length≤99)(hp:okL p.2.1∧p.2.1.length≤100):okB (a++[p]):=
 ⟨fun q hq=>by
  rcases List.mem_append.1 hq with hq|hq
  ·exact h.1 q hq
  ·simp only[List.mem_singleton]at hq; subst hq; exact hp,by rw[List.length_append]; simp; omega⟩
theorem zoq(own:AUnit'→Bool):∀(l sale stays:List APos'),(zcn own l sale stays).2.2=0→okB sale→okB stays→okB l→sale.length+l.length≤90→stays.length+l.length≤90→
  StOk l sale stays (zcn own l sale stays).1 (zcn own l sale stays).2.1
 |[],sale,stays,_,h1,h2,_,_,_=>⟨h1,h2,by simp[zcn],by simp[zcn],fun k=>by show opnZ stays k+opnZ sale k=opnZ stays k+0+opnZ sale k; omega,id,fun x hx=>.inl hx⟩
 |p::l,sale,stays,he,h1,h2,hl,n1,n2=>by
  have hl':okB l:=⟨fun q hq=>hl.1 q (by simp[hq]),by have:=hl.2; simp at this; omega⟩
  simp only[List.length_cons]at n1 n2
  unfold zcn at he ⊢
  by_cases ho:own p.1=true
  ·rw[if_pos ho]at he ⊢
   by_cases hs:(shiftP sale p.1 p.2.1).2.1=0
   ·rw[if_pos hs]at he ⊢
    have S:=zxx hs
    have hlen:=S.len
    have R:=zoq own l _ stays he (S.ok h1 (by omega)) h2 hl' (by omega) (by omega)
    refine⟨R.okS,R.okT,by have:=R.lenS; simp; omega,by have:=R.lenT; simp; omega,fun k=>?_,fun h=>R.inv S.inv',fun x hx=>(R.other x hx).imp id fun h=>by simp[h]⟩
    rw[R.opn,S.opn,yaz]; omega
   ·rw[if_neg hs]at he; exact absurd he hs
  ·rw[if_neg ho]at he ⊢
   have R:=zoq own l sale (stays++[p]) he h1 (okB_snoc h2 (by omega) (hl.1 p (by simp))) hl' (by omega) (by rw[List.length_append]; simp; omega)
   refine⟨R.okS,R.okT,by have:=R.lenS; simp; omega,by have:=R.lenT; rw[List.length_append]at this; simp at this ⊢; omega,fun k=>?_,R.inv,fun x hx=>?_⟩
   ·rw[R.opn,opnZ_app,yaz,yaz]
    show opnZ stays k+(getV p.2.1 k+0)+opnZ l k+opnZ sale k=_
    omega
   ·rcases R.other x hx with h|h
    ·rcases List.mem_append.1 h with h|h
     ·exact .inl h
     ·simp only[List.mem_singleton]at h; subst h; exact .inr (by simp)
    ·exact .inr (by simp[h])
end Go.Proofs.YtllkmncnmlmefaaGreat
namespace Go.Vc
open Go
variable {β:Type}
def ixP{α:Type}(p:α→Bool)(s:List α):Int:=match s.findIdx? p with|some k=>((k:Nat):Int)|none => -1
theorem loop_ix{α C:Type}{s:List α}(hl:s.length≤1000000)(p:α→Bool)(fn:α→C→Option (Bool×C))(c:C)(h:∀x∈s,fn x c=some (p x,c)):
  stdW.loop (fun (z:Int×C) (again:Int×C→Option (Int×C))=>stdW.cnd (decide (z.1<(s.length:Int))) (stdW.idx s z.1 fun x=>stdW.call (fn x z.2) fun v=>stdW.cnd v.1 (some (z.1,v.2)) (again (IntKind.i64.wrap (z.1+1),v.2))) (some ((-1:Int),z.2))) (0,c)=some (ixP p s,c):=by
 refine zvs (l:=s) (s0:=()) (by omega) (fun i (_:Unit)=>((i:Int),c)) (fun i _=>∀j,∀h:j<s.length,j<i→p s[j]=false) (fun _ _=>some (ixP p s,c)) rfl (fun j _ h=>by omega) ?_ ?_
 ·intro _ hno again
  show stdW.cnd (decide ((s.length:Int)<(s.length:Int))) _ _=_
  rw[zam]
  have:s.findIdx? p=none:=by
   rw[List.findIdx?_eq_none_iff]
   intro x hx
   obtain⟨j,hj,rfl⟩:=List.mem_iff_getElem.1 hx
   exact hno j hj hj
  unfold ixP; rw[this]
 ·intro i hi _ hno again ha
  show stdW.cnd (decide ((i:Int)<(s.length:Int))) (stdW.idx s (i:Int) _) _=_
  rw[cnd_lt hi,idx_w hi,call_w (h _ (List.getElem_mem hi))]
  by_cases hp:p s[i]=true
  ·rw[hp,cnd_y rfl]
   have:s.findIdx? p=some i:=by
    rw[List.findIdx?_eq_some_iff_getElem]
    exact⟨hi,hp,fun j hj=>by rw[hno j (by omega) hj]; simp⟩
   unfold ixP; rw[this]
  ·have hp:p s[i]=false:=by simpa using hp
   rw[hp,cnd_n rfl]
   show again (IntKind.i64.wrap ((i:Int)+1),c)=_
   rw[i64_s i (by omega)]
   exact ha () fun j hj hji=>by
    by_cases hji2:j=i
    ·subst hji2; exact hp
    ·exact hno j hj (by omega)
theorem ixP_any{α:Type}(p:α→Bool)(s:List α):decide (0≤ixP p s)=s.any p:=by
 unfold ixP
 cases h:s.findIdx? p with
 |none=>
  rw[List.findIdx?_eq_none_iff]at h
  have:s.any p=false:=by rw[List.any_eq_false]; intro x hx; simp[h x hx]
  rw[this]; rfl
 |some k=>
  obtain⟨h1,h2,_⟩:=List.findIdx?_eq_some_iff_getElem.1 h
  have:s.any p=true:=List.any_eq_true.2 ⟨_,List.getElem_mem h1,h2⟩
  rw[this]; simp
theorem ixP_find{α:Type}(p:α→Bool)(s:List α):(ixP p s = -1∧s.find? p=none)∨∃k:Nat,∃h:k<s.length,ixP p s=(k:Int)∧s.find? p=some s[k]∧p s[k]=true:=by
 unfold ixP
 cases h:s.findIdx? p with
 |none=>
  refine .inl ⟨rfl,?_⟩
  rw[List.findIdx?_eq_none_iff]at h
  rw[List.find?_eq_none]
  intro x hx; simp[h x hx]
 |some k=>
  obtain⟨h1,h2,h3⟩:=List.findIdx?_eq_some_iff_getElem.1 h
  refine .inr ⟨k,h1,rfl,?_,h2⟩
  rw[List.find?_eq_some_iff_getElem]
  exact⟨h2,k,h1,rfl,fun j hj=>by simpa using h3 j hj⟩
theorem join_b{k0:Bool×Unit→Option β}{f:(Bool×Unit→Option β)→Option β}{r:Option β}(c:Bool)(h:∀k:Bool×Unit→Option β,f k=k (c,()))(hr:k0 (c,())=r):stdW.join k0 f=r:=by
 show f k0=r
 rw[h]; exact hr
end Go.Vc

namespace Go.Proofs.YtllkmncnmlmefaaGreat
open Go Go.Vc Go.RowKit
theorem unitEq(v x:AUnit'):notIf false ((v.1==x.1)&&(v.2.1==x.2.1))=decide (v=x):=by rw[nif_f]; exact eqA v x
theorem r_ixU{s:List AUnit'}{u:AUnit'}(hl:s.length≤1000000):zco s u=some (ixP (fun x=>decide (u=x)) s):=by
 show zbt stdW s u=_
 unfold zbt
 refine zvs (l:=s) (s0:=()) (by omega) (fun i (_:Unit)=>((i:Int),())) (fun i _=>∀j,∀h:j<s.length,j<i→decide (u=s[j])=false) (fun _ _=>some (ixP (fun x=>decide (u=x)) s)) rfl (fun j _ h=>by omega) ?_ ?_
 ·intro _ hno again
  show stdW.cnd (decide ((s.length:Int)<(s.length:Int))) _ _=_
  rw[zam]
  have:s.findIdx? (fun x=>decide (u=x))=none:=by
   rw[List.findIdx?_eq_none_iff]
   intro x hx
   obtain⟨j,hj,rfl⟩:=List.mem_iff_getElem.1 hx
   exact hno j hj hj
  unfold ixP; rw[this]
 ·intro i hi _ hno again ha
  show stdW.cnd (decide ((i:Int)<(s.length:Int))) (stdW.idx s (i:Int) _) _=_
  rw[cnd_lt hi,idx_w hi,unitEq]
  by_cases hp:u=s[i]
  ·rw[cnd_y (decide_eq_true hp)]
   have:s.findIdx? (fun x=>decide (u=x))=some i:=by
    rw[List.findIdx?_eq_some_iff_getElem]
    exact⟨hi,decide_eq_true hp,fun j hj=>by rw[hno j (by omega) hj]; simp⟩
   unfold ixP; rw[this]
  ·rw[cnd_n (decide_eq_false hp)]
   show again (IntKind.i64.wrap ((i:Int)+1),())=_
   rw[i64_s i (by omega)]
   exact ha () fun j hj hji=>by
    by_cases hji2:j=i
    ·subst hji2; exact decide_eq_false hp
    ·exact hno j hj (by omega)
theorem any_mem(u:AUnit')(s:List AUnit'):s.any (fun x=>decide (u=x))=decide (u∈s):=by
 by_cases h:u∈s
 ·rw[decide_eq_true h]; exact List.any_eq_true.2 ⟨u,h,by simp⟩
 ·rw[decide_eq_false h,List.any_eq_false]
  intro x hx; simp; rintro rfl; exact h hx
theorem r_hasA{a:zab}{u:AUnit'}(h:a.2.2.2.1.length≤1000):zus a u=some (hasA a u):=by
 show zur stdW a u=_
 unfold zur
 have hl:=ydp h
 have e:zce (unitsA a) u=some (hasA a u):=by
  show zbl stdW (unitsA a) u=_
  unfold zbl
  rw[zaa (r_ixU (by omega)),ixP_any,any_mem]; rfl
 rw[zaa (r_aunits h),zaa e]
theorem r_has15{a:zab}{u:AUnit'}(h:a.2.2.2.1.length≤1000):zss a u=some (hasA a u):=by
 show zov stdW a u=_
 unfold zov
 have hl:=ydp h
 rw[zaa (r_units15 h)]
 refine(zvs (l:=unitsA a) (s0:=()) (by omega) (fun i (_:Unit)=>((i:Int),(unitsA a,()))) (fun _ _=>True) (fun l _=>some (decide (u∈l))) rfl trivial ?_ ?_).trans rfl
 ·intro _ _ again
  show stdW.cnd (decide (((unitsA a).length:Int)<((unitsA a).length:Int))) _ _=_
  rw[zam]; rfl
 ·intro i hi _ _ again ha
  show stdW.cnd (decide ((i:Int)<((unitsA a).length:Int))) (stdW.idx (unitsA a) (i:Int) fun x4=>stdW.nth (unitsA a) (Int.toNat (i:Int)) _) _=_
  rw[cnd_lt hi,idx_w hi,nth_w hi,unitEq]
  by_cases hp:(unitsA a)[i]=u
  ·rw[cnd_y (decide_eq_true hp)]
   congr 1; exact(decide_eq_true (by rw[hp]; simp)).symm
  ·rw[cnd_n (decide_eq_false hp)]
   show again (IntKind.i64.wrap ((i:Int)+1),(unitsA a,()))=_
   rw[i64_s i (by omega),ha () trivial]
   congr 1
   exact decide_eq_decide.2 ⟨fun h=>List.mem_cons_of_mem _ h,fun h=>(List.mem_cons.1 h).resolve_left fun e=>hp e.symm⟩
theorem yeq{α:Type}(p q:α→Bool):∀l:List α,(l.filter p).any q=l.any fun x=>p x&&q x
 |[]=>rfl
 |x::l=>by
  rw[List.filter_cons,List.any_cons,←yeq p q l]
  cases h:p x
  ·simp
  ·simp
theorem r_owns{s:zae}{id:Int}{u:AUnit'}(h:okAs s.2.2.2.2.1):zkb s id u=some (ownA s.2.2.2.2.1 id u):=by
 show zqg stdW s id u=_
 unfold zqg
 have hl:=h.2
 have hm:∀a∈s.2.2.2.2.1.filter (isM id),a.2.2.2.1.length≤1000:=fun a ha=>h.1 a (List.mem_filter.1 ha).1
 have hfl:(s.2.2.2.2.1.filter (isM id)).length≤1000:=Nat.le_trans (List.length_filter_le _ _) hl
 rw[zaa (r_aof h)]
 have e:zas (s.2.2.2.2.1.filter (isM id)) u.1 u.2.1=some (ownA s.2.2.2.2.1 id u,u):=by
  show zah stdW _ _ _=_
  unfold zah
  have e2:zav (s.2.2.2.2.1.filter (isM id)) u.1 u.2.1=some (ixP (fun a=>hasA a u) (s.2.2.2.2.1.filter (isM id)),u):=by
   show zaj stdW _ _ _=_
   unfold zaj
   refine loop_ix (by omega) (fun a=>hasA a u) (fun (a:zab) (c:AUnit')=>zrp a c.1 c.2.1) u fun x hx=>?_
   show ziu stdW x u.1 u.2.1=_
   unfold ziu
   rw[zaa (r_hasA (hm x hx))]
  rw[zaa e2,ixP_any,yeq]; rfl
 rw[zaa e]
theorem r_books{s:zae}(hb:okB (bk s))(hs:okB (sa s)):zkc s=some (isB (bk s)&&isB (sa s)):=by
 show zmu stdW s=_
 unfold zmu
 have e1:zro s.2.2.2.2.2.2.2.2.1=some (isB (bk s)):=r_isB hb
 have e2:zro s.2.2.2.2.2.2.2.2.2.1=some (isB (sa s)):=r_isB hs
 rw[zaa e1]
 cases isB (bk s)
 ·rfl
 ·rw[cnd_y rfl,zaa e2]; rfl
abbrev StZ:=Int×Int×List zai×List AInst'×List zol×List zab×List zzn×List yin×List AGive'×List APos'×List APos'×List AFlow'×List AHold'×List APos'×Unit
def stZ(s:zae)(i:Int)(z:List APos'×List APos'):StZ:=(i,(s.1,(s.2.1,(s.2.2.1,(s.2.2.2.1,(s.2.2.2.2.1,(s.2.2.2.2.2.1,(s.2.2.2.2.2.2.1,(s.2.2.2.2.2.2.2.1,(s.2.2.2.2.2.2.2.2.1,(z.1,(s.2.2.2.2.2.2.2.2.2.2.1,(s.2.2.2.2.2.2.2.2.2.2.2.1,(z.2,()))))))))))))))
def saleS(s:zae)(a:List APos'):zae:=(s.1,(s.2.1,(s.2.2.1,(s.2.2.2.1,(s.2.2.2.2.1,(s.2.2.2.2.2.1,(s.2.2.2.2.2.2.1,(s.2.2.2.2.2.2.2.1,(s.2.2.2.2.2.2.2.2.1,(a,(s.2.2.2.2.2.2.2.2.2.2.1,(s.2.2.2.2.2.2.2.2.2.2.2.1,()))))))))))))
def startR(s:zae)(r:List APos'×List APos'×Int):zae×Int×Unit:=if r.2.2=0 then (setS s r.2.1 r.1 (pu s),(0,())) else (noS,(r.2.2,()))
theorem yja{own:AUnit'→Bool}{p:APos'}{l sale stays:List APos'}(ho:own p.1=true)(hs:(shiftP sale p.1 p.2.1).2.1≠0):zcn own (p::l) sale stays=([],[],(shiftP sale p.1 p.2.1).2.1):=by
 unfold zcn; rw[if_pos ho,if_neg hs]
theorem yjc{own:AUnit'→Bool}{p:APos'}{l sale stays:List APos'}(ho:own p.1=true)(hs:(shiftP sale p.1 p.2.1).2.1=0):zcn own (p::l) sale stays=zcn own l (shiftP sale p.1 p.2.1).1 stays:=by
 conv=>lhs; unfold zcn
 rw[if_pos ho,if_pos hs]
theorem yjb{own:AUnit'→Bool}{p:APos'}{l sale stays:List APos'}(ho:own p.1=false):zcn own (p::l) sale stays=zcn own l sale (stays++[p]):=by
 conv=>lhs; unfold zcn
 rw[if_neg (by rw[ho]; decide)]
theorem r_start{s:zae}{id:Int}(hA:okAs s.2.2.2.2.1)(hb:okB (bk s))(hs:okB (sa s))(hbl:(bk s).length≤20)(hsl:(sa s).length≤20):zkd s id=some (startP s id):=by
 show zmv stdW s id=_
 unfold zmv startP
 rw[zaa (r_books hb hs)]
 by_cases hB:isB (bk s)=true∧isB (sa s)=true
 ·rw[if_pos hB,hB.1,hB.2,cnd_n (by decide)]
  refine zvs (l:=bk s) (s0:=(sa s,[])) (by omega) (fun i z=>stZ s (i:Int) z) (fun i z=>okB z.1∧z.1.length≤20+i∧z.2.length≤i) (fun l z=>some (startR s (zcn (ownA s.2.2.2.2.1 id) l z.1 z.2))) rfl ⟨hs,by omega,Nat.le_refl _⟩ ?_ ?_
  ·intro z _ again
   show stdW.cnd (decide (((bk s).length:Int)<((bk s).length:Int))) _ _=_
   rw[zam]; rfl
  ·intro i hi z ⟨z1,z2,z3⟩ again ha
   show stdW.cnd (decide ((i:Int)<((bk s).length:Int))) _ _=_
   rw[cnd_lt hi]
   refine join_g fun k hk=>?_
   have kk:∀z':List APos'×List APos',(okB z'.1∧z'.1.length≤20+(i+1)∧z'.2.length≤i+1)→k (stZ s 0 z').2=some (startR s (zcn (ownA s.2.2.2.2.1 id) ((bk s).drop (i+1)) z'.1 z'.2)):=by
    intro z' hz'
    rw[←ha z' hz']
    subst hk
    show again (IntKind.i64.wrap ((i:Int)+1),(stZ s 0 z').2)=_
    rw[i64_s i (by omega)]; rfl
   clear hk ha
   show stdW.idx (bk s) (i:Int) _=_
   have eo:zkb (saleS s z.1) id (bk s)[i].1=some (ownA s.2.2.2.2.1 id (bk s)[i].1):=r_owns (s:=saleS s z.1) hA
   rw[idx_w hi]
   show stdW.call (zkb (saleS s z.1) id (bk s)[i].1) _=_
   rw[zaa eo]
   have hp:=hb.1 _ (List.getElem_mem hi)
   cases ho:ownA s.2.2.2.2.1 id (bk s)[i].1 with
   |false=>
    rw[yjb ho,cnd_y (by rfl)]
    show stdW.room (z.2.length+1) 40 (k (stZ s 0 (z.1,z.2++[(bk s)[i]])).2)=_
    rw[room_w (by omega) (by omega)]
    exact kk (z.1,z.2++[(bk s)[i]]) ⟨z1,by show z.1.length≤_; omega,by rw[List.length_append]; simp; omega⟩
   |true=>
    rw[cnd_n (by rfl)]
    show stdW.call (zef z.1 (bk s)[i].1 (bk s)[i].2.1) _=_
    rw[zaa (ymd z1 (by omega) hp.1 hp.2)]
    by_cases he:(shiftP z.1 (bk s)[i].1 (bk s)[i].2.1).2.1=0
    ·rw[yjc ho he,cnd_n (by simp[he])]
     have S:=zxx he
     have hlen:=S.len
     exact kk ((shiftP z.1 (bk s)[i].1 (bk s)[i].2.1).1,z.2) ⟨S.ok z1 (by omega),by show (shiftP z.1 (bk s)[i].1 (bk s)[i].2.1).1.length≤_; omega,by show z.2.length≤_; omega⟩
    ·rw[yja ho he,cnd_y (by simp[he])]
     unfold startR
     rw[if_neg he]; rfl
 ·rw[if_neg hB]
  have:(isB (bk s)&&isB (sa s))=false:=by
   cases h1:isB (bk s)<;>cases h2:isB (sa s)<;>simp_all
  rw[this,cnd_y (by decide)]; rfl
theorem r_left{s:zae}{id:Int}(hA:okAs s.2.2.2.2.1)(hsl:(sa s).length≤100):zuo s id=some (leftP s id):=by
 show zqh stdW s id=_
 unfold zqh leftP
 refine(zvs (l:=sa s) (s0:=[]) (by omega) (fun i (z:List APos')=>((i:Int),(z,()))) (fun i z=>z.length≤i) (fun l z=>some (z++l.filter fun p=>ownA s.2.2.2.2.1 id p.1)) rfl (Nat.le_refl _) ?_ ?_).trans (by rw[List.nil_append])
 ·intro z _ again
  show stdW.cnd (decide (((sa s).length:Int)<((sa s).length:Int))) _ _=_
  rw[zam,List.filter_nil,List.append_nil]
 ·intro i hi z hz again ha
  show stdW.cnd (decide ((i:Int)<((sa s).length:Int))) _ _=_
  rw[cnd_lt hi]
  refine join_g fun k hk=>?_
  have kk:∀z':List APos',z'.length≤i+1→k (z',())=some (z'++((sa s).drop (i+1)).filter fun p=>ownA s.2.2.2.2.1 id p.1):=by
   intro z' hz'
   rw[←ha z' hz']
   subst hk
   show again (IntKind.i64.wrap ((i:Int)+1),(z',()))=_
   rw[i64_s i (by omega)]
  clear hk ha
  show stdW.idx (sa s) (i:Int) _=_
  rw[idx_w hi,zaa (r_owns hA),List.filter_cons]
  by_cases ho:ownA s.2.2.2.2.1 id (sa s)[i].1=true
  ·rw[ho,cnd_y rfl,if_pos rfl]
   show stdW.room (z.length+1) 40 (k (z++[(sa s)[i]],()))=_
   rw[room_w (by omega) (by omega),kk _ (by rw[List.length_append]; simp; omega),List.append_assoc]; rfl
  ·have ho:ownA s.2.2.2.2.1 id (sa s)[i].1=false:=by simpa using ho
   rw[ho,cnd_n rfl,if_neg (by decide)]
   exact kk z (by omega)
theorem yom{s:zae}(hb:okB (bk s))(hs:okB (sa s))(hp:(pu s).length≤1000000):zjj s s=some true:=by
 show zks stdW s s=_
 unfold zks
 have e1:zhb s.2.2.2.2.2.2.2.2.1 s.2.2.2.2.2.2.2.2.1=some true:=yon hb
 have e2:zhb s.2.2.2.2.2.2.2.2.2.1 s.2.2.2.2.2.2.2.2.2.1=some true:=yon hs
 have e3:zor s.2.2.2.2.2.2.2.2.2.2.1 s.2.2.2.2.2.2.2.2.2.2.1=some true:=r_same hp
 rw[zaa e1,cnd_y rfl,zaa e2,cnd_y rfl,zaa e3]
def okTC(t:List AInst'):Prop:=(∀i∈t,okC i)∧t.length≤10
theorem r_putC{l:List AInst'}{i:AInst'}(hl:l.length≤1000)(hm:i.2.2.2.2.1.length≤1000000):∃r e,zsx l i=some (r,(e,()))∧(e=0→(∀x∈r,x∈l∨(x=i∧okC i))∧r.length≤l.length+1):=by
 show ∃r e,zox stdW l i=some (r,(e,()))∧_
 unfold zox
 obtain⟨b,hb,hok⟩:∃b,zsz i=some b∧(b=true→okC i):=⟨_,r_is13x hm,of_decide_eq_true⟩
 have e0:zsz (i.1,(i.2.1,(i.2.2.1,(i.2.2.2.1,(i.2.2.2.2.1,())))))=some b:=hb
 rw[zaa e0]
 cases b with
 |false=>rw[cnd_y (by decide)]; exact⟨[],2,rfl,by simp⟩
 |true=>
  rw[cnd_n (by decide),zaa (yos (by omega))]
  cases hf:findI l i.1 with
  |some x=>
   show ∃r e,stdW.cnd true _ _=_∧_
   rw[cnd_y rfl]; exact⟨[],12,rfl,by simp⟩
  |none=>
   show ∃r e,stdW.cnd false _ _=_∧_
   rw[cnd_n rfl,join_w]
   refine loop_P (fun o=>∃(r:List AInst') (e:Int),o=some (r,(e,()))∧(e=0→(∀x∈r,x∈l∨(x=i∧okC i))∧r.length≤l.length+1)) (fun z=>l.length+1 - z.1.toNat) (fun z=>∃j:Nat,j≤l.length∧z=((j:Int),())) ⟨0,Nat.zero_le _,rfl⟩ (by show _ - (0:Int).toNat<_; omega) ?_
   rintro _ ⟨j,hj,rfl⟩ again ha
   have fin:∃(r:List AInst') (e:Int),stdW.bnd (j:Int) l.length (fun h4=>stdW.room (l.take h4).length 56 (stdW.room ((l.take h4).length+((i.1,(i.2.1,(i.2.2.1,(i.2.2.2.1,(i.2.2.2.2.1,())))))::([]:List AInst')).length) 56 (stdW.bnd (j:Int) l.length fun h5=>stdW.room (((l.take h4)++((i.1,(i.2.1,(i.2.2.1,(i.2.2.2.1,(i.2.2.2.2.1,())))))::([]:List AInst'))).length+((l.take l.length).drop h5).length) 56 (some (((l.take h4)++((i.1,(i.2.1,(i.2.2.1,(i.2.2.2.1,(i.2.2.2.2.1,())))))::([]:List AInst'))++((l.take l.length).drop h5)),(0,()))))))=some (r,(e,()))∧(e=0→(∀x∈r,x∈l∨(x=i∧okC i))∧r.length≤l.length+1):=by
    rw[bnd_w (by omega) (by omega),Int.toNat_natCast]
    have l1:(l.take j).length≤1000:=by rw[List.length_take]; omega
    rw[room_w (by omega) (by omega),room_w (by simp only[List.length_cons,List.length_nil]; omega) (by simp only[List.length_cons,List.length_nil]; omega),bnd_w (by omega) (by omega),Int.toNat_natCast,List.take_length,
     room_w (by simp only[List.length_append,List.length_drop,List.length_cons,List.length_nil]; omega) (by simp only[List.length_append,List.length_drop,List.length_cons,List.length_nil]; omega)]
    refine⟨_,_,rfl,fun _=>⟨fun x hx=>?_,by simp only[List.length_append,List.length_drop,List.length_cons,List.length_nil,List.length_take]; omega⟩⟩
    rcases List.mem_append.1 hx with hx|hx
    ·rcases List.mem_append.1 hx with hx|hx
     ·exact .inl (List.mem_of_mem_take hx)
     ·simp only[List.mem_singleton]at hx
      exact .inr ⟨hx,hok rfl⟩
    ·exact .inl (List.mem_of_mem_drop hx)
   show ∃r e,stdW.cnd (decide ((j:Int)<(l.length:Int))) _ _=_∧_
   by_cases h:j<l.length
   ·rw[cnd_lt h]
    show ∃r e,stdW.idx l (j:Int) _=_∧_
    rw[idx_w h]
    by_cases h1:l[j].1<i.1
    ·rw[cnd_y (decide_eq_true h1)]
     show ∃r e,again (IntKind.i64.wrap ((j:Int)+1),())=_∧_
     rw[i64_s j (by omega)]
     exact ha _ ⟨j+1,by omega,rfl⟩ (by show _ - ((j+1:Nat):Int).toNat<_ - ((j:Nat):Int).toNat; omega)
    ·rw[cnd_n (decide_eq_false h1)]; exact fin
   ·have:j=l.length:=by omega
    subst this
    rw[zam]; exact fin
theorem r_tableC{l:List AInst'}(hm:∀i∈l,i.2.2.2.2.1.length≤1000000)(hl:l.length≤1000):∃t,zld l=some t∧okTC t:=by
 show ∃t,zig stdW l=some t∧okTC t
 unfold zig
 rw[join_w]
 refine loop_P (fun o=>∃t,o=some t∧okTC t) (fun z=>l.length+1 - z.2.1.toNat) (fun z=>∃(j:Nat) (acc:List AInst'),j≤l.length∧j≤10∧acc.length≤j∧(∀x∈acc,okC x)∧z=(acc,((j:Int),()))) ⟨0,[],Nat.zero_le _,Nat.zero_le _,Nat.le_refl _,by simp,rfl⟩ (by show _ - (0:Int).toNat<_; omega) ?_
 rintro _ ⟨j,acc,hj,hj10,hacc,hok,rfl⟩ again ha
 have fin:∃t,(some acc:Option (List AInst'))=some t∧okTC t:=⟨acc,rfl,hok,by omega⟩
 show ∃t,stdW.cnd (decide ((j:Int)<(l.length:Int))) (stdW.cnd (decide ((j:Int)<10)) _ _) _=some t∧okTC t
 by_cases h:j<l.length
 ·rw[cnd_lt h]
  by_cases h10:j<10
  ·rw[cnd_y (decide_eq_true (by omega)),join_w]
   show ∃t,stdW.idx l (j:Int) _=some t∧okTC t
   rw[idx_w h]
   obtain⟨r,e,hp,hr⟩:=r_putC (l:=acc) (i:=l[j]) (by omega) (hm _ (List.getElem_mem h))
   have nxt:∀a:List AInst',a.length≤j+1→(∀x∈a,okC x)→∃t,again (a,(IntKind.i64.wrap ((j:Int)+1),()))=some t∧okTC t:=by
    intro a h1 h2
    rw[i64_s j (by omega)]
    exact ha _ ⟨j+1,a,by omega,by omega,h1,h2,rfl⟩ (by show _ - ((j+1:Nat):Int).toNat<_ - ((j:Nat):Int).toNat; omega)
   show ∃t,stdW.call (zsx acc l[j]) _=some t∧okTC t
   rw[zaa hp]
   by_cases he:e=0
   ·obtain⟨h1,h2⟩:=hr he
    rw[cnd_y (by simpa using he)]
    exact nxt r (by omega) fun x hx=>(h1 x hx).elim (hok x) fun h3=>h3.1▸h3.2
   ·rw[cnd_n (by simpa using he)]
    exact nxt acc (by omega) hok
  ·rw[cnd_n (decide_eq_false (by omega))]; exact fin
 ·have:j=l.length:=by omega
  subst this
  rw[zam]; exact fin
theorem r_instsC{l:List AInst'}(hl:l.length≤9223372036854775807)(hm:∀i∈l,i.2.2.2.2.1.length≤9223372036854775807):∃t,zly l=some t∧okTC t:=by
 show ∃t,zio stdW l=some t∧okTC t
 unfold zio
 rw[join_w]
 refine loop_P (fun o=>∃t,o=some t∧okTC t) (fun z=>l.length+1 - z.1.toNat) (fun z=>∃(j:Nat) (acc:List AInst'),j≤l.length∧j≤10∧acc.length≤j∧(∀x∈acc,x.2.2.2.2.1.length≤9)∧z=((j:Int),(acc,()))) ⟨0,[],Nat.zero_le _,Nat.zero_le _,Nat.le_refl _,by simp,rfl⟩ (by show _ - (0:Int).toNat<_; omega) ?_
 rintro _ ⟨j,acc,hj,hj10,hacc,hok,rfl⟩ again ha
 have fin:∃t,stdW.call (zld acc) (fun v2=>some v2)=some t∧okTC t:=by
  obtain⟨t,h1,h2⟩:=r_tableC (l:=acc) (fun x hx=>by have:=hok x hx; omega) (by omega)
  rw[zaa h1]; exact⟨t,rfl,h2⟩
 show ∃t,stdW.cnd (decide ((j:Int)<(l.length:Int))) (stdW.cnd (decide ((j:Int)<10)) _ _) _=some t∧okTC t
 by_cases h:j<l.length
 ·rw[cnd_lt h]
  by_cases h10:j<10
  ·rw[cnd_y (decide_eq_true (by omega))]
   show ∃t,stdW.idx l (j:Int) _=some t∧okTC t
   rw[idx_w h,join_w]
   have nxt:∀x:AInst',x.2.2.2.2.1.length≤9→∃t,stdW.room (acc.length+1) 56 (again (IntKind.i64.wrap ((j:Int)+1),(acc++[x],())))=some t∧okTC t:=by
    intro x hx
    rw[room_w (by omega) (by omega),i64_s j (by omega)]
    refine ha _ ⟨j+1,acc++[x],by omega,by omega,by simp; omega,fun y hy=>?_,rfl⟩ (by show _ - ((j+1:Nat):Int).toNat<_ - ((j:Nat):Int).toNat; omega)
    rcases List.mem_append.1 hy with hy|hy
    ·exact hok y hy
    ·simp only[List.mem_singleton]at hy; exact hy▸hx
   have hmj:=hm _ (List.getElem_mem h)
   by_cases h9:9<l[j].2.2.2.2.1.length
   ·rw[cnd_y (decide_eq_true (by omega)),bnd_w (by omega) (by omega)]
    exact nxt (l[j].1,(l[j].2.1,(l[j].2.2.1,(l[j].2.2.2.1,(l[j].2.2.2.2.1.take 9,()))))) (by show (l[j].2.2.2.2.1.take 9).length≤9; rw[List.length_take]; omega)
   ·rw[cnd_n (decide_eq_false (by omega))]
    exact nxt l[j] (by omega)
  ·rw[cnd_n (decide_eq_false (by omega))]; exact fin
 ·have:j=l.length:=by omega
  subst this
  rw[zam]; exact fin
theorem r_is14(m:zai):∃b,ygj m=some b:=by
 show ∃b,zsv stdW m=some b
 unfold zsv
 repeat' (first|exact⟨_,rfl⟩|refine ex_cnd ?_ ?_)
theorem ylb{α:Type}(f:α→Int)(x:α)(t:List α)(id:Int):(x::t).find? (fun a=>f a==id)=if f x=id then some x else t.find? (fun a=>f a==id):=by
 rw[List.find?_cons]
 by_cases h:f x=id
 ·simp[h]
 ·rw[if_neg h,show (f x==id)=false by simpa using h]
def findM(t:List zai)(id:Int):Option zai:=t.find? fun a=>a.1==id
def zeroM:zai:=(0,(0,(0,(0,()))))
theorem findM_cons(x:zai)(t:List zai)(id:Int):findM (x::t) id=if x.1=id then some x else findM t id:=ylb (fun a:zai=>a.1) x t id
theorem yor{t:List zai}{id:Int}(hl:t.length≤1000000):zjl t id=some (match findM t id with|some i=>(i,(true,()))|none=>(zeroM,(false,()))):=by
 show zlb stdW t id=_
 unfold zlb
 refine zde (l:=t) (by omega) (fun _ _=>True) (fun t _=>some (match findM t id with|some i=>(i,(true,()))|none=>(zeroM,(false,())))) trivial ?_ ?_
 ·rintro _ again _
  rw[zam]; rfl
 ·rintro i hi _ _ again ha
  rw[cnd_lt hi,idx_w hi,findM_cons]
  by_cases h:t[i].1=id
  ·rw[cnd_y (by simpa using h),if_pos h]
   show stdW.idx t (i:Int) _=_
   rw[idx_w hi]
  ·rw[cnd_n (by simpa using h),if_neg h]
   show again (IntKind.i64.wrap ((i:Int)+1),())=_
   rw[i64_s i (by omega)]
   exact ha _ trivial
theorem r_findMem{t:List zai}{id:Int}(hl:t.length≤1000000):zlu t id=some (match findM t id with|some i=>(i,(true,()))|none=>(zeroM,(false,()))):=by
 show zik stdW t id=_
 unfold zik
 have e1:zaz t id=some (ixP (fun m=>m.1==id) t,(id,())):=by
  show zal stdW t id=_
  unfold zal
  exact loop_ix hl (fun m=>m.1==id) (fun (m:zai) (c:Int×Unit)=>zre m c.1) (id,()) fun x _=>rfl
 have e0:ybc t id=some (ixP (fun m=>m.1==id) t):=by
  show zpl stdW t id=_
  unfold zpl
  rw[zaa e1]
 rw[zaa e0]
 unfold findM
 rcases ixP_find (fun m:zai=>m.1==id) t with ⟨h1,h2⟩|⟨k,hk,h1,h2,_⟩
 ·rw[h1,h2,cnd_y (by decide)]; rfl
 ·rw[h1,h2,cnd_n (decide_eq_false (by omega)),idx_w hk]
theorem r_put14{l:List zai}{i:zai}(hl:l.length≤1000):∃r e,zsu l i=some (r,(e,()))∧r.length≤l.length+1:=by
 show ∃r e,zow stdW l i=some (r,(e,()))∧_
 unfold zow
 obtain⟨b,hb⟩:=r_is14 i
 rw[zaa hb]
 cases b with
 |false=>rw[cnd_y (by decide)]; exact⟨[],2,rfl,by simp⟩
 |true=>
  rw[cnd_n (by decide),zaa (yor (t:=l) (id:=i.1) (by omega))]
  cases hf:findM l i.1 with
  |some x=>
   show ∃r e,stdW.cnd true _ _=_∧_
   rw[cnd_y rfl]; exact⟨[],12,rfl,by simp⟩
  |none=>
   show ∃r e,stdW.cnd false _ _=_∧_
   rw[cnd_n rfl,join_w]
   refine loop_P (fun o=>∃(r:List zai) (e:Int),o=some (r,(e,()))∧r.length≤l.length+1) (fun z=>l.length+1 - z.1.toNat) (fun z=>∃j:Nat,j≤l.length∧z=((j:Int),())) ⟨0,Nat.zero_le _,rfl⟩ (by show _ - (0:Int).toNat<_; omega) ?_
   rintro _ ⟨j,hj,rfl⟩ again ha
   have fin:∃(r:List zai) (e:Int),stdW.bnd (j:Int) l.length (fun h4=>stdW.room (l.take h4).length 32 (stdW.room ((l.take h4).length+(i::([]:List zai)).length) 32 (stdW.bnd (j:Int) l.length fun h5=>stdW.room (((l.take h4)++(i::([]:List zai))).length+((l.take l.length).drop h5).length) 32 (some (((l.take h4)++(i::([]:List zai))++((l.take l.length).drop h5)),(0,()))))))=some (r,(e,()))∧r.length≤l.length+1:=by
    rw[bnd_w (by omega) (by omega),Int.toNat_natCast]
    have l1:(l.take j).length≤1000:=by rw[List.length_take]; omega
    rw[room_w (by omega) (by omega),room_w (by simp only[List.length_cons,List.length_nil]; omega) (by simp only[List.length_cons,List.length_nil]; omega),bnd_w (by omega) (by omega),Int.toNat_natCast,List.take_length,
     room_w (by simp only[List.length_append,List.length_drop,List.length_cons,List.length_nil]; omega) (by simp only[List.length_append,List.length_drop,List.length_cons,List.length_nil]; omega)]
    exact⟨_,_,rfl,by simp only[List.length_append,List.length_drop,List.length_cons,List.length_nil,List.length_take]; omega⟩
   show ∃r e,stdW.cnd (decide ((j:Int)<(l.length:Int))) _ _=_∧_
   by_cases h:j<l.length
   ·rw[cnd_lt h]
    show ∃r e,stdW.idx l (j:Int) _=_∧_
    rw[idx_w h]
    by_cases h1:l[j].1<i.1
    ·rw[cnd_y (decide_eq_true h1)]
     show ∃r e,again (IntKind.i64.wrap ((j:Int)+1),())=_∧_
     rw[i64_s j (by omega)]
     exact ha _ ⟨j+1,by omega,rfl⟩ (by show _ - ((j+1:Nat):Int).toNat<_ - ((j:Nat):Int).toNat; omega)
    ·rw[cnd_n (decide_eq_false h1)]; exact fin
   ·have:j=l.length:=by omega
    subst this
    rw[zam]; exact fin
theorem r_table14{l:List zai}(hl:l.length≤9223372036854775807):∃t,zla l=some t∧t.length≤10:=by
 show ∃t,zie stdW l=some t∧t.length≤10
 unfold zie
 rw[join_w]
 refine loop_P (fun o=>∃t:List zai,o=some t∧t.length≤10) (fun z=>l.length+1 - z.2.1.toNat) (fun z=>∃(j:Nat) (acc:List zai),j≤l.length∧j≤10∧acc.length≤j∧z=(acc,((j:Int),()))) ⟨0,[],Nat.zero_le _,Nat.zero_le _,Nat.le_refl _,rfl⟩ (by show _ - (0:Int).toNat<_; omega) ?_
 rintro _ ⟨j,acc,hj,hj10,hacc,rfl⟩ again ha
 have fin:∃t:List zai,(some acc:Option (List zai))=some t∧t.length≤10:=⟨acc,rfl,by omega⟩
 show ∃t:List zai,stdW.cnd (decide ((j:Int)<(l.length:Int))) (stdW.cnd (decide ((j:Int)<10)) _ _) _=some t∧t.length≤10
 by_cases h:j<l.length
 ·rw[cnd_lt h]
  by_cases h10:j<10
  ·rw[cnd_y (decide_eq_true (by omega)),join_w]
   show ∃t:List zai,stdW.idx l (j:Int) _=some t∧t.length≤10
   rw[idx_w h]
   obtain⟨r,e,hp,hr⟩:=r_put14 (l:=acc) (i:=l[j]) (by omega)
   have nxt:∀a:List zai,a.length≤j+1→∃t:List zai,again (a,(IntKind.i64.wrap ((j:Int)+1),()))=some t∧t.length≤10:=by
    intro a h1
    rw[i64_s j (by omega)]
    exact ha _ ⟨j+1,a,by omega,by omega,h1,rfl⟩ (by show _ - ((j+1:Nat):Int).toNat<_ - ((j:Nat):Int).toNat; omega)
   show ∃t:List zai,stdW.call (zsu acc l[j]) _=some t∧t.length≤10
   rw[zaa hp]
   by_cases he:e=0
   ·rw[cnd_y (by simpa using he)]
    exact nxt r (by omega)
   ·rw[cnd_n (by simpa using he)]
    exact nxt acc (by omega)
  ·rw[cnd_n (decide_eq_false (by omega))]; exact fin
 ·have:j=l.length:=by omega
  subst this
  rw[zam]; exact fin
theorem srtI_ins{α:Type}(f:α→Int){l:List α}{i:α}{j:Nat}(hs:(l.map f).Pairwise (· < ·))(h1:∀x∈l.take j,f x<f i)(h2:∀h:j<l.length,¬f l[j]<f i)(hno:∀x∈l,f x≠f i):((l.take j++[i]++l.drop j).map f).Pairwise (· < ·):=by
 have hs':((l.take j).map f++(l.drop j).map f).Pairwise (· < ·):=by rw[←List.map_append,List.take_append_drop]; exact hs
 obtain⟨a,b,c⟩:=List.pairwise_append.1 hs'
 have hd:∀x∈l.drop j,f i<f x:=by
  intro x hx
  have hne:=hno x (List.mem_of_mem_drop hx)
  by_cases hj:j<l.length
  ·have hij:=h2 hj
   rw[List.drop_eq_getElem_cons hj]at hx b
   rw[List.map_cons]at b
   rcases List.mem_cons.1 hx with rfl|hx
   ·omega
   ·have:=(List.pairwise_cons.1 b).1 (f x) (List.mem_map_of_mem hx)
    omega
  ·rw[List.drop_eq_nil_of_le (by omega)]at hx; cases hx
 rw[List.map_append,List.map_append,List.append_assoc]
 refine List.pairwise_append.2 ⟨a,List.pairwise_cons.2 ⟨fun y hy=>?_,b⟩,fun x hx y hy=>?_⟩
 ·obtain⟨x,hx,rfl⟩:=List.mem_map.1 hy; exact hd x hx
 ·rcases List.mem_cons.1 hy with rfl|hy
  ·obtain⟨z,hz,rfl⟩:=List.mem_map.1 hx; exact h1 z hz
  ·exact c x hx y hy
def SrtI(l:List zab):Prop:=(l.map (·.1)).Pairwise (· < ·)
theorem r_put15s{l:List zab}{i:zab}(hl:l.length≤1000)(hm:i.2.2.2.1.length≤1000000):∃r e,zsq l i=some (r,(e,()))∧(e=0→(∀x∈r,x∈l∨x=i)∧r.length≤l.length+1∧(SrtI l→SrtI r)):=by
 show ∃r e,zou stdW l i=some (r,(e,()))∧_
 unfold zou
 obtain⟨b,hb⟩:=r_is15 hm
 rw[zaa hb]
 cases b with
 |false=>rw[cnd_y (by decide)]; exact⟨[],2,rfl,by simp⟩
 |true=>
  obtain⟨x,bf,hf,hno⟩:=r_find15 (l:=l) (id:=i.1) (by omega)
  rw[cnd_n (by decide),zaa hf]
  cases bf with
  |true=>
   rw[cnd_y (by rfl)]; exact⟨[],12,rfl,by simp⟩
  |false=>
   have hno:=hno rfl
   rw[cnd_n (by rfl),join_w]
   refine loop_P (fun o=>∃(r:List zab) (e:Int),o=some (r,(e,()))∧(e=0→(∀x∈r,x∈l∨x=i)∧r.length≤l.length+1∧(SrtI l→SrtI r))) (fun z=>l.length+1 - z.1.toNat) (fun z=>∃j:Nat,j≤l.length∧z=((j:Int),())∧∀x∈l.take j,x.1<i.1) ⟨0,Nat.zero_le _,rfl,by simp⟩ (by show _ - (0:Int).toNat<_; omega) ?_
   rintro _ ⟨j,hj,rfl,hlo⟩ again ha
   have fin:(∀h:j<l.length,¬l[j].1<i.1)→∃(r:List zab) (e:Int),stdW.bnd (j:Int) l.length (fun h4=>stdW.room (l.take h4).length 48 (stdW.room ((l.take h4).length+(i::([]:List zab)).length) 48 (stdW.bnd (j:Int) l.length fun h5=>stdW.room (((l.take h4)++(i::([]:List zab))).length+((l.take l.length).drop h5).length) 48 (some (((l.take h4)++(i::([]:List zab))++((l.take l.length).drop h5)),(0,()))))))=some (r,(e,()))∧(e=0→(∀x∈r,x∈l∨x=i)∧r.length≤l.length+1∧(SrtI l→SrtI r)):=by
    intro hhi
    rw[bnd_w (by omega) (by omega),Int.toNat_natCast]
    have l1:(l.take j).length≤1000:=by rw[List.length_take]; omega
    rw[room_w (by omega) (by omega),room_w (by simp only[List.length_cons,List.length_nil]; omega) (by simp only[List.length_cons,List.length_nil]; omega),bnd_w (by omega) (by omega),Int.toNat_natCast,List.take_length,
     room_w (by simp only[List.length_append,List.length_drop,List.length_cons,List.length_nil]; omega) (by simp only[List.length_append,List.length_drop,List.length_cons,List.length_nil]; omega)]
    refine⟨_,_,rfl,fun _=>⟨fun x hx=>?_,by simp only[List.length_append,List.length_drop,List.length_cons,List.length_nil,List.length_take]; omega,fun hs=>srtI_ins (fun a:zab=>a.1) hs hlo hhi hno⟩⟩
    rcases List.mem_append.1 hx with hx|hx
    ·rcases List.mem_append.1 hx with hx|hx
     ·exact .inl (List.mem_of_mem_take hx)
     ·simp only[List.mem_singleton]at hx
      exact .inr hx
    ·exact .inl (List.mem_of_mem_drop hx)
   show ∃r e,stdW.cnd (decide ((j:Int)<(l.length:Int))) _ _=_∧_
   by_cases h:j<l.length
   ·rw[cnd_lt h]
    show ∃r e,stdW.idx l (j:Int) _=_∧_
    rw[idx_w h]
    by_cases h1:l[j].1<i.1
    ·rw[cnd_y (decide_eq_true h1)]
     show ∃r e,again (IntKind.i64.wrap ((j:Int)+1),())=_∧_
     rw[i64_s j (by omega)]
     refine ha _ ⟨j+1,by omega,rfl,fun x hx=>?_⟩ (by show _ - ((j+1:Nat):Int).toNat<_ - ((j:Nat):Int).toNat; omega)
     rw[List.take_succ_eq_append_getElem h]at hx
     rcases List.mem_append.1 hx with hx|hx
     ·exact hlo x hx
     ·simp only[List.mem_singleton]at hx; subst hx; exact h1
    ·rw[cnd_n (decide_eq_false h1)]; exact fin fun _=>h1
   ·have:j=l.length:=by omega
    subst this
    rw[zam]; exact fin fun h=>absurd h (Nat.lt_irrefl _)
def okTS(l t:List zab):Prop:=(∀x∈t,x∈l)∧t.length≤20∧SrtI t
theorem r_table15s{l:List zab}(hm:∀i∈l,i.2.2.2.1.length≤1000000)(hl:l.length≤1000):∃t,zky l=some t∧okTS l t:=by
 show ∃t,zid stdW l=some t∧okTS l t
 unfold zid
 rw[join_w]
 refine loop_P (fun o=>∃t,o=some t∧okTS l t) (fun z=>l.length+1 - z.2.1.toNat) (fun z=>∃(j:Nat) (acc:List zab),j≤l.length∧j≤20∧acc.length≤j∧(∀x∈acc,x∈l)∧SrtI acc∧z=(acc,((j:Int),()))) ⟨0,[],Nat.zero_le _,Nat.zero_le _,Nat.le_refl _,by simp,List.Pairwise.nil,rfl⟩ (by show _ - (0:Int).toNat<_; omega) ?_
 rintro _ ⟨j,acc,hj,hj10,hacc,hok,hnd,rfl⟩ again ha
 have fin:∃t,(some acc:Option (List zab))=some t∧okTS l t:=⟨acc,rfl,hok,by omega,hnd⟩
 show ∃t,stdW.cnd (decide ((j:Int)<(l.length:Int))) (stdW.cnd (decide ((j:Int)<20)) _ _) _=some t∧okTS l t
 by_cases h:j<l.length
 ·rw[cnd_lt h]
  by_cases h10:j<20
  ·rw[cnd_y (decide_eq_true (by omega)),join_w]
   show ∃t,stdW.idx l (j:Int) _=some t∧okTS l t
   rw[idx_w h]
   obtain⟨r,e,hp,hr⟩:=r_put15s (l:=acc) (i:=l[j]) (by omega) (hm _ (List.getElem_mem h))
   have nxt:∀a:List zab,a.length≤j+1→(∀x∈a,x∈l)→SrtI a→∃t,again (a,(IntKind.i64.wrap ((j:Int)+1),()))=some t∧okTS l t:=by
    intro a h1 h2 h3
    rw[i64_s j (by omega)]
    exact ha _ ⟨j+1,a,by omega,by omega,h1,h2,h3,rfl⟩ (by show _ - ((j+1:Nat):Int).toNat<_ - ((j:Nat):Int).toNat; omega)
   show ∃t,stdW.call (zsq acc l[j]) _=some t∧okTS l t
   rw[zaa hp]
   by_cases he:e=0
   ·obtain⟨h1,h2,h3⟩:=hr he
    rw[cnd_y (by simpa using he)]
    exact nxt r (by omega) (fun x hx=>(h1 x hx).elim (hok x) fun h3=>h3▸List.getElem_mem h) (h3 hnd)
   ·rw[cnd_n (by simpa using he)]
    exact nxt acc (by omega) hok hnd
  ·rw[cnd_n (decide_eq_false (by omega))]; exact fin
 ·have:j=l.length:=by omega
  subst this
  rw[zam]; exact fin
def findC(t:List zab)(id:Int):Option zab:=t.find? fun a=>a.1==id
def zeroA:zab:=(0,(0,(0,([],()))))
theorem zwi(x:zab)(t:List zab)(id:Int):findC (x::t) id=if x.1=id then some x else findC t id:=ylb (fun a:zab=>a.1) x t id
theorem r_find15c{t:List zab}{id:Int}(hl:t.length≤1000000):zjk t id=some (match findC t id with|some i=>(i,(true,()))|none=>(zeroA,(false,()))):=by
 show zfy stdW t id=_
 unfold zfy
 refine zde (l:=t) (by omega) (fun _ _=>True) (fun t _=>some (match findC t id with|some i=>(i,(true,()))|none=>(zeroA,(false,())))) trivial ?_ ?_
 ·rintro _ again _
  rw[zam]; rfl
 ·rintro i hi _ _ again ha
  rw[cnd_lt hi,idx_w hi,zwi]
  by_cases h:t[i].1=id
  ·rw[cnd_y (by simpa using h),if_pos h]
   show stdW.idx t (i:Int) _=_
   rw[idx_w hi]
  ·rw[cnd_n (by simpa using h),if_neg h]
   show again (IntKind.i64.wrap ((i:Int)+1),())=_
   rw[i64_s i (by omega)]
   exact ha _ trivial
theorem yep{id:Int}:∀{t:List zab},(∀a∈t,id<a.1)→findC t id=none
 |[],_=>rfl
 |x::t,h=>by
  have:=h x (by simp)
  rw[zwi,if_neg (by omega),yep fun a ha=>h a (by simp[ha])]
theorem r_placeC{t:List zab}{id:Int}(hl:t.length≤1000000)(hs:SrtI t):
  (∃k:Nat,∃h:k<t.length,zqk t id=some ((k:Int),(true,()))∧findC t id=some t[k])∨(∃z,zqk t id=some (z,(false,()))∧findC t id=none):=by
 show (∃k:Nat,∃h:k<t.length,zhu stdW t id=_∧_)∨(∃z,zhu stdW t id=_∧_)
 unfold zhu
 refine loop_P (fun o=>(∃k:Nat,∃h:k<t.length,o=some ((k:Int),(true,()))∧findC t id=some t[k])∨(∃z,o=some (z,(false,()))∧findC t id=none)) (fun z=>t.length+1 - z.1.toNat) (fun z=>∃j:Nat,j≤t.length∧z=((j:Int),())∧findC t id=findC (t.drop j) id) ⟨0,Nat.zero_le _,rfl,rfl⟩ (by show _ - (0:Int).toNat<_; omega) ?_
 rintro _ ⟨j,hj,rfl,hlo⟩ again ha
 show (∃k:Nat,∃h:k<t.length,stdW.cnd (decide ((j:Int)<(t.length:Int))) _ _=_∧_)∨(∃z,stdW.cnd (decide ((j:Int)<(t.length:Int))) _ _=_∧_)
 by_cases h:j<t.length
 ·have hd:=List.drop_eq_getElem_cons h
  rw[hd,zwi]at hlo
  rw[cnd_lt h]
  show (∃k:Nat,∃h:k<t.length,stdW.idx t (j:Int) _=_∧_)∨(∃z,stdW.idx t (j:Int) _=_∧_)
  rw[idx_w h]
  by_cases h1:id≤t[j].1
  ·rw[cnd_y (decide_eq_true h1)]
   by_cases h2:t[j].1=id
   ·rw[if_pos h2]at hlo
    refine .inl ⟨j,h,?_,hlo⟩
    rw[show (t[j].1==id)=true by simpa using h2]
   ·rw[if_neg h2]at hlo
    refine .inr ⟨(j:Int),?_,hlo.trans (yep fun a ham=>?_)⟩
    ·rw[show (t[j].1==id)=false by simpa using h2]
    ·have hs':((t.drop j).map (·.1)).Pairwise (· < ·):=by
      rw[List.map_drop]; exact List.Pairwise.sublist (List.drop_sublist _ _) hs
     rw[hd,List.map_cons]at hs'
     have:=(List.pairwise_cons.1 hs').1 a.1 (List.mem_map_of_mem ham)
     omega
  ·rw[cnd_n (decide_eq_false h1)]
   rw[if_neg (by omega)]at hlo
   show (∃k:Nat,∃h:k<t.length,again (IntKind.i64.wrap ((j:Int)+1),())=_∧_)∨(∃z,again (IntKind.i64.wrap ((j:Int)+1),())=_∧_)
   rw[i64_s j (by omega)]
   exact ha _ ⟨j+1,by omega,rfl,hlo⟩ (by show _ - ((j+1:Nat):Int).toNat<_ - ((j:Nat):Int).toNat; omega)
 ·have:j=t.length:=by omega
  subst this
  rw[List.drop_length]at hlo
  rw[zam]
  exact .inr ⟨_,rfl,hlo⟩
theorem r_findC{t:List zab}{id:Int}(ht:okAs t)(hs:SrtI t):yco t id=some (match findC t id with|some i=>(i,(true,()))|none=>(zeroA,(false,()))):=by
 show zqn stdW t id=_
 unfold zqn
 have hl:=ht.2
 rcases r_placeC (id:=id) (by omega) hs with ⟨k,hk,h1,h2⟩|⟨z,h1,h2⟩
 ·rw[zaa h1,h2,cnd_n (by rfl)]
  show stdW.idx t (k:Int) _=_
  have e1:zql t[k]=some t[k]:=by
   show zkf stdW t[k]=_
   unfold zkf
   rw[zaa (you (by have:=ht.1 _ (List.getElem_mem hk); omega))]
  rw[idx_w hk,zaa e1]
 ·rw[zaa h1,h2,cnd_y (by rfl)]; rfl
structure Few30(s t:zae):Prop where
 m:t.2.1.length≤10
 i:okTC t.2.2.1
 a:okAs t.2.2.2.2.1
 aS:SrtI t.2.2.2.2.1
 b:bk t=few19 (bk s)
 sS:sa t=few19 (sa s)
 p:pu t=(pu s).take 20
theorem r_few30{s:zae}(h1:s.2.1.length≤9223372036854775807)(h2:s.2.2.1.length≤9223372036854775807)(h2m:∀i∈s.2.2.1,i.2.2.2.2.1.length≤9223372036854775807)(h3l:s.2.2.2.2.1.length≤9223372036854775807)(h3:∀a∈s.2.2.2.2.1,a.2.2.2.1.length≤9223372036854775807)
  (h4:(bk s).length≤9223372036854775807) (h4m:∀p∈bk s,p.2.1.length≤9223372036854775807) (h5:(sa s).length≤9223372036854775807) (h5m:∀p∈sa s,p.2.1.length≤9223372036854775807) (h6:(pu s).length≤9223372036854775807):
  ∃t,znv s=some t∧Few30 s t:=by
 show ∃t,zpt stdW s=_∧_
 unfold zpt
 rw[join_w]
 obtain⟨t14,e14,g14⟩:=r_table14 h1
 obtain⟨t13,e13,g13⟩:=r_instsC h2 h2m
 have e19:zgo s.2.2.2.2.2.2.2.2.1=some (few19 (bk s)):=r_few19 _ h4 h4m
 have e19b:zgo s.2.2.2.2.2.2.2.2.2.1=some (few19 (sa s)):=r_few19 _ h5 h5m
 have e17:zny s.2.2.2.2.2.2.2.2.2.2.1=some ((pu s).take 20):=r_few17 _ h6
 have h3':∀i (h:i<s.2.2.2.2.1.length),s.2.2.2.2.1[i].2.2.2.1.length≤9223372036854775807:=fun i h=>h3 _ (List.getElem_mem h)
 generalize s.2.2.2.2.1=l at*
 refine loop_P (fun o=>∃t:zae,o=some t∧Few30 s t) (fun z=>l.length+1 - z.1.toNat)
  (fun z=>∃(j:Nat) (acc:List zab),j≤l.length∧j≤20∧acc.length≤j∧(∀a∈acc,a.2.2.2.1.length≤20)∧z=((j:Int),(acc,()))) ⟨0,[],Nat.zero_le _,Nat.zero_le _,Nat.le_refl _,by simp,rfl⟩ (by show _ - (0:Int).toNat<_; omega) ?_
 rintro _ ⟨j,acc,hj,hj20,hacc,hok,rfl⟩ again ha
 have fin:∃t:zae,(stdW.call (zla s.2.1) fun v2=>stdW.call (zly s.2.2.1) fun v3=>stdW.call (zky acc) fun v4=>stdW.call (zgo s.2.2.2.2.2.2.2.2.1) fun v5=>stdW.call (zgo s.2.2.2.2.2.2.2.2.2.1) fun v6=>stdW.call (zny s.2.2.2.2.2.2.2.2.2.2.1) fun v7=>some (0,(v2,(v3,([],(v4,([],([],([],(v5,(v6,(v7,([],())))))))))))))=some t∧Few30 s t:=by
  obtain⟨t15,e15,g1,g2,g3⟩:=r_table15s (l:=acc) (fun x hx=>by have:=hok x hx; omega) (by omega)
  rw[zaa e14,zaa e13,zaa e15,zaa e19,zaa e19b,zaa e17]
  exact⟨_,rfl,g14,g13,⟨fun a ha=>by have:=hok a (g1 a ha); omega,by show t15.length≤1000; omega⟩,g3,rfl,rfl,rfl⟩
 show ∃t:zae,stdW.cnd (decide ((j:Int)<(l.length:Int))) (stdW.cnd (decide ((j:Int)<20)) _ _) _=_∧_
 by_cases h:j<l.length
 ·rw[cnd_lt h]
  by_cases h20:j<20
  ·rw[cnd_y (decide_eq_true (by omega))]
   show ∃t:zae,stdW.idx l (j:Int) _=_∧_
   rw[idx_w h,zaa (r_short (h3' j h))]
   show ∃t:zae,stdW.room (acc.length+1) 48 (again (IntKind.i64.wrap ((j:Int)+1),(acc++[yga l[j]],())))=_∧_
   rw[room_w (by omega) (by omega),i64_s j (by omega)]
   refine ha _ ⟨j+1,acc++[yga l[j]],by omega,by omega,by simp; omega,fun a hm=>?_,rfl⟩ (by show _ - ((j+1:Nat):Int).toNat<_ - ((j:Nat):Int).toNat; omega)
   rcases List.mem_append.1 hm with hm|hm
   ·exact hok a hm
   ·simp only[List.mem_singleton]at hm; subst hm
    show (l[j].2.2.2.1.take 20).length≤20
    rw[List.length_take]; omega
  ·rw[cnd_n (decide_eq_false (by omega))]; exact fin
 ·have:j=l.length:=by omega
  subst this
  rw[zam]; exact fin
theorem zvp:okB []:=⟨fun p hp=>(by cases hp),by simp⟩
theorem start_okP{s:zae}{id:Int}(hb:okB (bk s))(hs:okB (sa s))(hbl:(bk s).length≤20)(hsl:(sa s).length≤20)(hp:(pu s).length≤20)(hA:okAs s.2.2.2.2.1):
  okB (bk (startP s id).1)∧okB (sa (startP s id).1)∧(sa (startP s id).1).length≤40∧(pu (startP s id).1).length≤20∧okAs (startP s id).1.2.2.2.2.1:=by
 have hno:okB (bk noS)∧okB (sa noS)∧(sa noS).length≤40∧(pu noS).length≤20∧okAs noS.2.2.2.2.1:=⟨zvp,zvp,by simp[noS,sa],by simp[noS,pu],⟨fun a ha=>(by cases ha),by simp[noS]⟩⟩
 unfold startP
 split
 ·split
  ·rename_i he
   have R:=zoq (ownA s.2.2.2.2.1 id) (bk s) (sa s) [] he hs zvp hb (by omega) (by simp; omega)
   exact⟨R.okT,R.okS,by show (zcn _ _ _ _).1.length≤40; have:=R.lenS; omega,hp,hA⟩
  ·exact hno
 ·exact hno
theorem okD_st{x:DT.den tAState}(o:DT.okD tAState x):(x.2.1.length≤9223372036854775807∧x.2.2.1.length≤9223372036854775807∧(∀i∈x.2.2.1,i.2.2.2.2.1.length≤9223372036854775807)∧x.2.2.2.2.1.length≤9223372036854775807∧(∀a∈x.2.2.2.2.1,a.2.2.2.1.length≤9223372036854775807))∧
  ((bk x).length≤9223372036854775807∧(∀p∈bk x,okL p.2.1∧p.2.1.length≤9223372036854775807))∧((sa x).length≤9223372036854775807∧(∀p∈sa x,okL p.2.1∧p.2.1.length≤9223372036854775807))∧(okF (pu x)∧(pu x).length≤9223372036854775807):=by
 obtain⟨_,o1,o2,_,o4,_,_,_,o8,o9,o10,_⟩:=o
 have hm:maxLen=9223372036854775807:=zat
 obtain⟨b1,b2⟩:=ypc o8
 obtain⟨s1,s2⟩:=ypc o9
 obtain⟨p1,p2⟩:=okD_flows o10
 obtain⟨i1,i2⟩:=okD_insts o2
 exact⟨⟨by have:=o1.2; rw[hm]at this; exact this,i2,i1,by have:=o4.2; rw[hm]at this; exact this,fun a ha=>by have:=(o4.1 a ha).2.2.2.1.2; rw[hm]at this; exact this⟩,⟨b2,b1⟩,⟨s2,s1⟩,p1,p2⟩
theorem few30_D{x:DT.den tAState}(o:DT.okD tAState x):∃t,znv x=some t∧Few30 x t∧okB (bk t)∧okB (sa t)∧(bk t).length≤12∧(sa t).length≤12∧okF (pu t)∧(pu t).length≤20:=by
 obtain⟨⟨a1,a2,a3,a4,a5⟩,⟨b1,b2⟩,⟨c1,c2⟩,d1,d2⟩:=okD_st o
 obtain⟨t,e,F⟩:=r_few30 a1 a2 a3 a4 a5 b1 (fun p hp=>(b2 p hp).2) c1 (fun p hp=>(c2 p hp).2) d2
 refine⟨t,e,F,?_,?_,?_,?_,?_,?_⟩
 ·rw[F.b]; exact ypu fun p hp=>(b2 p hp).1
 ·rw[F.sS]; exact ypu fun p hp=>(c2 p hp).1
 ·rw[F.b]; unfold few19; rw[List.length_map,List.length_take]; omega
 ·rw[F.sS]; unfold few19; rw[List.length_map,List.length_take]; omega
 ·rw[F.p]; exact d1.take 20
 ·rw[F.p,List.length_take]; omega
def buyerE(s:zae)(u:AUnit'):Int:=
 match findC s.2.2.2.2.1 u.1 with
 |none=>11
 |some a=>if hasA a u=true then (if a.2.2.1=1 then (match findM s.2.1 a.2.1 with|none=>15|some m=>if m.2.2.1=0 then 0 else 15) else 17) else 11
def hasQ(all qty:Int):Bool:=decide (0<qty∧qty≤all)||decide (qty<0∧all≤qty)
def checkE(s:zae)(u to:AUnit')(id qty price:Int):Int:=
 if (isB (bk s)=true∧isB (sa s)=true)∧isP (pu s)=true then (
  match findI s.2.2.1 id with
  |none=>11
  |some _=>if qty=0∨price<0∨2147483647<price then 2 else if hasQ (getV (ofB (sa s) u) id) qty=true then buyerE s to else 23) else 3
def fill3(s:zae)(u to:AUnit')(id qty g:Int):zae×Int×Unit:=
 if (shiftP (sa s) u [(id,(-qty,()))]).2.1=0 then (
  if (shiftP (bk s) to [(id,(qty,()))]).2.1=0 then (
   if (moveP (pu s) u to g).2.1=0 then (setS s (shiftP (bk s) to [(id,(qty,()))]).1 (shiftP (sa s) u [(id,(-qty,()))]).1 (moveP (pu s) u to g).1,(0,()))
   else (noS,((moveP (pu s) u to g).2.1,()))) else (noS,((shiftP (bk s) to [(id,(qty,()))]).2.1,()))) else (noS,((shiftP (sa s) u [(id,(-qty,()))]).2.1,()))
def fillP(s:zae)(u to:AUnit')(id qty price:Int):zae×Int×Unit:=
 if checkE s u to id qty price=0 then (
  match findI s.2.2.1 id with
  |none=>(noS,(11,()))
  |some i=>if I64 (gZ i qty price i.2.2.1) then (if I64 (-qty) then fill3 s u to id qty (gZ i qty price i.2.2.1) else (noS,(7,()))) else (noS,(7,())))
 else (noS,(checkE s u to id qty price,()))
theorem zer{s:zae}{u to:AUnit'}{id qty price e:Int}(h:checkE s u to id qty price=e)(he:e≠0):fillP s u to id qty price=(noS,(e,())):=by
 unfold fillP; rw[h,if_neg he]
theorem yhq{s:zae}{u to:AUnit'}{id qty price:Int}{i:AInst'}(h:checkE s u to id qty price=0)(hi:findI s.2.2.1 id=some i):
  fillP s u to id qty price=if I64 (gZ i qty price i.2.2.1) then (if I64 (-qty) then fill3 s u to id qty (gZ i qty price i.2.2.1) else (noS,(7,()))) else (noS,(7,())):=by
 unfold fillP; rw[if_pos h,hi]
theorem yhx{s:zae}{u to:AUnit'}{id qty price:Int}(h:checkE s u to id qty price=0):((isB (bk s)=true∧isB (sa s)=true)∧isP (pu s)=true)∧(∃i,findI s.2.2.1 id=some i)∧(qty≠0∧0≤price∧price≤2147483647)∧hasQ (getV (ofB (sa s) u) id) qty=true∧buyerE s to=0:=by
 unfold checkE at h
 split at h
 ·rename_i h1
  refine⟨h1,?_⟩
  split at h
  ·cases h
  ·rename_i i hi
   split at h
   ·cases h
   ·rename_i h2
    split at h
    ·rename_i h3
     exact⟨⟨i,hi⟩,⟨by omega,by omega,by omega⟩,h3,h⟩
    ·cases h
 ·cases h
theorem findI_in{t:List AInst'}{id:Int}{i:AInst'}(h:findI t id=some i):i∈t∧i.1=id:=by
 unfold findI at h
 exact⟨List.mem_of_find?_eq_some h,by simpa using List.find?_some h⟩
theorem ylc{t:List zab}{id:Int}{i:zab}(h:findC t id=some i):i∈t∧i.1=id:=by
 unfold findC at h
 exact⟨List.mem_of_find?_eq_some h,by simpa using List.find?_some h⟩
structure OkF(s:zae):Prop where
 iT:okTC s.2.2.1
 mL:s.2.1.length≤1000
 aA:okAs s.2.2.2.2.1
 aS:SrtI s.2.2.2.2.1
 hb:okB (bk s)
 hs:okB (sa s)
 bl:(bk s).length≤20
 sl:(sa s).length≤20
 pf:okF (pu s)
 pl:(pu s).length≤20
theorem OkF.inst{s:zae}(F:OkF s){id:Int}{i:AInst'}(h:findI s.2.2.1 id=some i):okC i∧i.2.2.2.2.1.length≤1000000∧1≤id∧id≤8:=by
 obtain⟨h1,h2⟩:=findI_in h
 have hc:=F.iT.1 _ h1
 have h3:=hc.1
 have h4:=hc.2.2.2.2.1
 exact⟨hc,by omega,by omega,by omega⟩
theorem r_findI{s:zae}(F:OkF s){id:Int}:zoa s.2.2.1 id=some (match findI s.2.2.1 id with|some i=>(i,(true,()))|none=>(zeroI,(false,()))):=
 r_find (by have:=F.iT.2; omega) fun i hi=>by have:=(F.iT.1 i hi).2.2.2.2.1; omega
theorem r_hasQ(all qty:Int):yid all qty=some (hasQ all qty):=by
 show zul stdW all qty=_
 unfold zul hasQ
 by_cases h1:0<qty
 ·rw[cnd_y (decide_eq_true h1)]
  by_cases h2:qty≤all
  ·rw[cnd_y (decide_eq_true h2)]; simp[h1,h2]
  ·rw[cnd_n (decide_eq_false h2),cnd_n (decide_eq_false (by omega))]
   congr 1
   rw[decide_eq_false (by omega),decide_eq_false (by omega)]; rfl
 ·rw[cnd_n (decide_eq_false h1)]
  by_cases h3:qty<0
  ·rw[cnd_y (decide_eq_true h3)]; simp[h1,h3]
  ·rw[cnd_n (decide_eq_false h3)]; simp[h1,h3]
theorem r_buyer{s:zae}(F:OkF s)(u:AUnit'):zwp s u=some (buyerE s u):=by
 show zmt stdW s u=_
 unfold zmt buyerE
 rw[zaa (r_findC F.aA F.aS)]
 cases hc:findC s.2.2.2.2.1 u.1 with
 |none=>exact join_b true (fun k=>cnd_y (by rfl) _ _) rfl
 |some a=>
  have ha:=F.aA.1 _ (ylc hc).1
  refine join_b (!(hasA a u)) (fun k=>?_) ?_
  ·show stdW.cnd (!true) _ (stdW.call (zus a u) _)=_
   rw[cnd_n (by rfl),zaa (r_hasA ha)]
  ·show stdW.cnd (!(hasA a u)) (some (11:Int)) (stdW.cnd (a.2.2.1 != 1) (some (17:Int)) (stdW.call (zlu s.2.1 a.2.1) _))=some (if hasA a u=true then (if a.2.2.1=1 then (match findM s.2.1 a.2.1 with|none=>(15:Int)|some m=>if m.2.2.1=0 then 0 else 15) else 17) else 11)
   by_cases h1:hasA a u=true
   ·rw[h1,cnd_n (by rfl),if_pos rfl]
    by_cases h2:a.2.2.1=1
    ·rw[cnd_n (by simpa using h2),if_pos h2,zaa (r_findMem (by have:=F.mL; omega))]
     cases hm:findM s.2.1 a.2.1 with
     |none=>rfl
     |some m=>
      show stdW.cnd (!true) _ (stdW.call (zpm m) _)=_
      have e:zpm m=some (if m.2.2.1=0 then 0 else 15):=by
       show zlt stdW m=_
       unfold zlt
       by_cases h3:m.2.2.1=0
       ·rw[cnd_n (by simpa using h3),if_pos h3]
       ·rw[cnd_y (by simpa using h3),if_neg h3]
      rw[cnd_n (by rfl),zaa e]
    ·rw[cnd_y (by simpa using h2),if_neg h2]
   ·have h1:hasA a u=false:=by simpa using h1
    rw[h1]; rfl
theorem r_check30{s:zae}(F:OkF s)(u to:AUnit')(id qty price:Int):zwo s u to id qty price=some (checkE s u to id qty price):=by
 show zms stdW s u to id qty price=_
 unfold zms checkE
 have hpl:=F.pl
 have ep:zpk s.2.2.2.2.2.2.2.2.2.2.1=some (isP (pu s)):=r_is (by show (pu s).length≤_; omega)
 rw[zaa (r_findI F)]
 refine join_b (!((isB (bk s)&&isB (sa s))&&isP (pu s))) (fun k=>?_) ?_
 ·show stdW.call (zkc s) _=_
  rw[zaa (r_books F.hb F.hs)]
  cases isB (bk s)&&isB (sa s) with
  |false=>rfl
  |true=>rw[cnd_n (by rfl),zaa ep]; rfl
 ·show stdW.cnd (!((isB (bk s)&&isB (sa s))&&isP (pu s))) (some 3) _=_
  by_cases hB:(isB (bk s)=true∧isB (sa s)=true)∧isP (pu s)=true
  ·rw[if_pos hB,hB.1.1,hB.1.2,hB.2,cnd_n (by rfl)]
   cases hi:findI s.2.2.1 id with
   |none=>rfl
   |some i=>
    show stdW.cnd (!true) _ _=some (if qty=0∨price<0∨2147483647<price then 2 else if hasQ (getV (ofB (sa s) u) id) qty=true then buyerE s to else 23)
    rw[cnd_n (by rfl)]
    refine join_b (decide (qty=0∨price<0∨2147483647<price)) (fun k=>?_) ?_
    ·by_cases h1:qty=0
     ·rw[cnd_y (by simpa using h1),decide_eq_true (.inl h1)]
     ·rw[cnd_n (by simpa using h1)]
      by_cases h2:price<0
      ·rw[cnd_y (decide_eq_true h2),decide_eq_true (.inr (.inl h2))]
      ·rw[cnd_n (decide_eq_false h2)]
       congr 2
       exact decide_eq_decide.2 ⟨fun h=>.inr (.inr h),fun h=>by omega⟩
    ·show stdW.cnd (decide (qty=0∨price<0∨2147483647<price)) (some 2) (stdW.call (ych (sa s) u) _)=_
     by_cases h1:qty=0∨price<0∨2147483647<price
     ·rw[cnd_y (decide_eq_true h1),if_pos h1]
     ·rw[cnd_n (decide_eq_false h1),if_neg h1,zaa (r_bof F.hs)]
      obtain⟨_,o2⟩:=ofB_ok F.hs u
      rw[zaa (r_vget (by omega)),zaa (r_hasQ _ _)]
      by_cases h3:hasQ (getV (ofB (sa s) u) id) qty=true
      ·rw[h3,cnd_n (by rfl),zaa (r_buyer F to)]; rfl
      ·have h3:hasQ (getV (ofB (sa s) u) id) qty=false:=by simpa using h3
       rw[h3,cnd_y (by rfl)]; rfl
  ·have hB':((isB (bk s)&&isB (sa s))&&isP (pu s))=false:=by
    cases h1:isB (bk s)<;>cases h2:isB (sa s)<;>cases h3:isP (pu s)<;>simp_all
   rw[if_neg hB,hB',cnd_y (by rfl)]
theorem r_neg1_bad{k q:Int}(hk:1≤k∧k≤8)(hq:q≠0)(hI:I64 q)(hI2:¬I64 (-q)):yfq [(k,(q,()))]=some ([],(7,())):=by
 show zom stdW [(k,(q,()))]=_
 unfold zom
 have hv:isV [(k,(q,()))]=true:=decide_eq_true ⟨fun x hx=>by
  simp only[List.mem_singleton]at hx; subst hx; exact⟨hk,hq⟩,by simp⟩
 rw[zaa (r_none (l:=[(k,(q,()))]) (by simp)),hv,cnd_n (by rfl)]
 have e:=r_fSub (a:=0) (b:=q) (by unfold I64; omega) hI
 rw[Int.zero_sub]at e
 unfold fits64 at e
 rw[if_neg hI2]at e
 refine zvs (l:=[(k,(q,()))]) (s0:=()) (by simp) (fun i (_:Unit)=>((i:Int),(([]:List Leg),()))) (fun i _=>i=0) (fun _ _=>some ([],(7,()))) rfl rfl ?_ ?_
 ·intro _ h; simp at h
 ·intro i hi _ h0 again _
  subst h0
  show stdW.cnd (decide ((0:Int)<1)) (stdW.idx [(k,(q,()))] ((0:Nat):Int) _) _=_
  rw[cnd_y (by decide),idx_w (by simp)]
  show stdW.call (zwh 0 q) _=_
  rw[zaa e,cnd_y (by rfl)]
def salS(s:zae)(a:List APos'):zae:=(s.1,(s.2.1,(s.2.2.1,(s.2.2.2.1,(s.2.2.2.2.1,(s.2.2.2.2.2.1,(s.2.2.2.2.2.2.1,(s.2.2.2.2.2.2.2.1,(s.2.2.2.2.2.2.2.2.1,(a,s.2.2.2.2.2.2.2.2.2.2))))))))))
def bookS(s:zae)(b:List APos'):zae:=(s.1,(s.2.1,(s.2.2.1,(s.2.2.2.1,(s.2.2.2.2.1,(s.2.2.2.2.2.1,(s.2.2.2.2.2.2.1,(s.2.2.2.2.2.2.2.1,(b,s.2.2.2.2.2.2.2.2.2)))))))))
def purS(s:zae)(p:List AFlow'):zae:=(s.1,(s.2.1,(s.2.2.1,(s.2.2.2.1,(s.2.2.2.2.1,(s.2.2.2.2.2.1,(s.2.2.2.2.2.2.1,(s.2.2.2.2.2.2.2.1,(s.2.2.2.2.2.2.2.2.1,(s.2.2.2.2.2.2.2.2.2.1,(p,s.2.2.2.2.2.2.2.2.2.2.2)))))))))))
theorem r_fill{s:zae}(F:OkF s)(u to:AUnit')(id qty price:Int)(hq:I64 qty):zke s u to id qty price=some (fillP s u to id qty price):=by
 show zqi stdW s u to id qty price=_
 unfold zqi
 have hpl:=F.pl
 have hbl:=F.bl
 have hsl:=F.sl
 rw[zaa (r_check30 F u to id qty price)]
 by_cases hc:checkE s u to id qty price=0
 ·obtain⟨hB,⟨i,hi⟩,⟨c1,c2,c3⟩,_,_⟩:=yhx hc
  obtain⟨i1,i2,i3,i4⟩:=F.inst hi
  rw[cnd_n (by simpa using hc),zaa (r_findI F),hi,yhq hc hi]
  show stdW.call (ztw i qty price i.2.2.1) _=_
  rw[zaa (r_igain i2 i1 hq ⟨c2,c3⟩ i1.2.2.1)]
  generalize gZ i qty price i.2.2.1=g at*
  unfold fits64
  by_cases hg:I64 g
  ·rw[if_pos hg,if_pos hg,cnd_n (by rfl)]
   have k8:∀(k:Int×zae→Option (zae×Int×Unit)),(k=fun z7=>stdW.cnd (z7.1 != 0) (some (noS,(z7.1,()))) (some (z7.2,(0,()))))→(∀st,k (0,st)=some (st,(0,())))∧∀e,e≠0→∀st,k (e,st)=some (noS,(e,())):=by
    intro k hk
    subst hk
    exact⟨fun st=>rfl,fun e he st=>cnd_y (by simpa using he) _ _⟩
   have k10:∀(k:Int×zae→Option (zae×Int×Unit)),(k=fun z6=>stdW.join (fun z7:Int×zae=>stdW.cnd (z7.1 != 0) (some (noS,(z7.1,()))) (some (z7.2,(0,())))) fun k8=>stdW.cnd (z6.1==0) (stdW.call (zhd (pu z6.2) u to g) fun v9=>k8 (v9.2.1,purS z6.2 v9.1)) (k8 z6))→
     (∀st,pu st=pu s→k (0,st)=some (if (moveP (pu s) u to g).2.1=0 then (purS st (moveP (pu s) u to g).1,(0,())) else (noS,((moveP (pu s) u to g).2.1,()))))∧∀e,e≠0→∀st,k (e,st)=some (noS,(e,())):=by
    intro k hk
    subst hk
    refine⟨fun st hst=>?_,fun e he st=>?_⟩
    ·refine join_g fun k hk=>?_
     obtain⟨a1,a2⟩:=k8 k hk
     show stdW.cnd true (stdW.call (zhd (pu st) u to g) fun v9=>k (v9.2.1,purS st v9.1)) _=_
     rw[cnd_y (by rfl),hst,zaa (r_move F.pf hg (by omega))]
     by_cases h:(moveP (pu s) u to g).2.1=0
     ·rw[if_pos h,h,a1]
     ·rw[if_neg h,a2 _ h]
    ·refine join_g fun k hk=>?_
     obtain⟨a1,a2⟩:=k8 k hk
     show stdW.cnd (e==0) _ (k (e,st))=_
     rw[cnd_n (by simpa using he),a2 _ he]
   have bad:∀k12:Int×zae→Option (zae×Int×Unit),(k12=fun z5=>stdW.join (fun z6:Int×zae=>stdW.join (fun z7:Int×zae=>stdW.cnd (z7.1 != 0) (some (noS,(z7.1,()))) (some (z7.2,(0,())))) fun k8=>stdW.cnd (z6.1==0) (stdW.call (zhd (pu z6.2) u to g) fun v9=>k8 (v9.2.1,purS z6.2 v9.1)) (k8 z6)) fun k10=>stdW.cnd (z5.1==0) (stdW.call (zef (bk z5.2) to [(id,(qty,()))]) fun v11=>k10 (v11.2.1,bookS z5.2 v11.1)) (k10 z5))→∀e,e≠0→∀st,k12 (e,st)=some (noS,(e,())):=by
    intro k12 h12 e he st
    subst h12
    refine join_g fun k hk=>?_
    obtain⟨a1,a2⟩:=k10 k hk
    show stdW.cnd (e==0) _ (k (e,st))=_
    rw[cnd_n (by simpa using he),a2 _ he]
   by_cases hn:I64 (-qty)
   ·rw[if_pos hn,zaa (r_neg1 ⟨i3,i4⟩ c1 hq hn)]
    refine join_g fun k12 h12=>?_
    show stdW.cnd true (stdW.call (zef (sa s) u [(id,(-qty,()))]) fun v13=>k12 (v13.2.1,salS s v13.1)) _=_
    rw[cnd_y (by rfl),zaa (ymd F.hs (by omega) (okL1 hn) (by simp))]
    unfold fill3
    by_cases h1:(shiftP (sa s) u [(id,(-qty,()))]).2.1=0
    ·rw[if_pos h1,h1]
     subst h12
     refine join_g fun k hk=>?_
     obtain⟨a1,a2⟩:=k10 k hk
     show stdW.cnd true (stdW.call (zef (bk s) to [(id,(qty,()))]) fun v11=>k (v11.2.1,bookS (salS s (shiftP (sa s) u [(id,(-qty,()))]).1) v11.1)) _=_
     rw[cnd_y (by rfl),zaa (ymd F.hb (by omega) (okL1 hq) (by simp))]
     by_cases h2:(shiftP (bk s) to [(id,(qty,()))]).2.1=0
     ·rw[if_pos h2,h2,a1 (bookS (salS s (shiftP (sa s) u [(id,(-qty,()))]).1) (shiftP (bk s) to [(id,(qty,()))]).1) rfl]; rfl
     ·rw[if_neg h2,a2 _ h2]
    ·rw[if_neg h1,bad k12 h12 _ h1]
   ·rw[if_neg hn,zaa (r_neg1_bad ⟨i3,i4⟩ c1 hq hn)]
    refine join_g fun k12 h12=>?_
    show stdW.cnd false _ (k12 (7,s))=_
    rw[cnd_n (by rfl),bad k12 h12 7 (by decide)]
  ·rw[if_neg hg,if_neg hg,cnd_y (by rfl)]; rfl
 ·rw[cnd_y (by simpa using hc),zer rfl hc]; rfl
theorem wrap_neg{q:Int}(h:I64 q)(h2:I64 (-q)):IntKind.i64.wrap (0 - q) = -q:=by
 unfold I64 at h h2
 rw[IntWalk.i64_in _ (by omega)]; omega
theorem ypf{l:List AFlow'}{f t:AUnit'}{n:Int}(_:isP l=true)(h:I64 (-n)):moveP l f t n=payP l [(f,(-n,())),(t,(n,()))]:=by unfold moveP; rw[if_pos h]
theorem move_no{l:List AFlow'}{f t:AUnit'}{n:Int}(hp:isP l=true)(h:¬I64 (-n)):moveP l f t n=([],(7,())):=by unfold moveP; rw[if_neg h,if_pos hp]
theorem r_fill30{s:zae}(F:OkF s)(u to:AUnit')(id qty price:Int)(hq:I64 qty):zvk s u to id qty price=some (fillP s u to id qty price):=by
 show zkt stdW s u to id qty price=_
 unfold zkt
 have hpl:=F.pl
 have hbl:=F.bl
 have hsl:=F.sl
 have hml:=F.mL
 have hal:=F.aA.2
 have e1:zkw s.2.2.2.2.2.2.2.2.1=some (isB (bk s)):=ymf F.hb
 have e2:zkw s.2.2.2.2.2.2.2.2.2.1=some (isB (sa s)):=ymf F.hs
 have e3:zsp s.2.2.2.2.2.2.2.2.2.2.1=some (isP (pu s)):=r_is17 (by show (pu s).length≤_; omega)
 refine join_b (!((isB (bk s)&&isB (sa s))&&isP (pu s))) (fun k=>?_) ?_
 ·rw[zaa e1]
  cases isB (bk s) with
  |false=>rfl
  |true=>
   rw[cnd_n (by rfl),zaa e2]
   cases isB (sa s) with
   |false=>rfl
   |true=>rw[cnd_n (by rfl),zaa e3]; rfl
 show stdW.cnd (!((isB (bk s)&&isB (sa s))&&isP (pu s))) (some (noS,(3,()))) _=_
 by_cases hB:(isB (bk s)=true∧isB (sa s)=true)∧isP (pu s)=true
 case neg=>
  have hB':((isB (bk s)&&isB (sa s))&&isP (pu s))=false:=by
   cases h1:isB (bk s)<;>cases h2:isB (sa s)<;>cases h3:isP (pu s)<;>simp_all
  have hc:checkE s u to id qty price=3:=by unfold checkE; rw[if_neg hB]
  rw[hB',cnd_y (by rfl),zer hc (by decide)]
 have hc:checkE s u to id qty price=match findI s.2.2.1 id with
  |none=>11
  |some _=>if qty=0∨price<0∨2147483647<price then 2 else if hasQ (getV (ofB (sa s) u) id) qty=true then buyerE s to else 23:=by unfold checkE; rw[if_pos hB]<;>rfl
 have hB':((isB (bk s)&&isB (sa s))&&isP (pu s))=true:=by rw[hB.1.1,hB.1.2,hB.2]; rfl
 rw[hB',cnd_n (by rfl),zaa (yos (by have:=F.iT.2; omega))]
 cases hi:findI s.2.2.1 id with
 |none=>
  rw[hi]at hc
  replace hc:checkE s u to id qty price=11:=hc
  rw[zer hc (by decide)]; rfl
 |some i=>
 obtain⟨i1,i2,i3,i4⟩:=F.inst hi
 rw[hi]at hc
 show stdW.cnd (!true) _ _=_
 rw[cnd_n (by rfl)]
 refine join_b (decide (qty=0∨price<0∨2147483647<price)) (fun k=>?_) ?_
 ·by_cases h1:qty=0
  ·rw[cnd_y (by simpa using h1),decide_eq_true (.inl h1)]
  ·rw[cnd_n (by simpa using h1)]
   by_cases h2:price<0
   ·rw[cnd_y (decide_eq_true h2),decide_eq_true (.inr (.inl h2))]
   ·rw[cnd_n (decide_eq_false h2)]
    congr 2
    exact decide_eq_decide.2 ⟨fun h=>.inr (.inr h),fun h=>by omega⟩
 show stdW.cnd (decide (qty=0∨price<0∨2147483647<price)) (some (noS,(2,()))) (stdW.call (zee (sa s) u) _)=_
 by_cases h1:qty=0∨price<0∨2147483647<price
 case pos=>
  replace hc:checkE s u to id qty price=2:=hc.trans (if_pos h1)
  rw[cnd_y (decide_eq_true h1),zer hc (by decide)]
 replace hc:checkE s u to id qty price=if hasQ (getV (ofB (sa s) u) id) qty=true then buyerE s to else 23:=hc.trans (if_neg h1)
 have g1:qty≠0:=by omega
 have g2:0≤price∧price≤2147483647:=by omega
 obtain⟨_,o2⟩:=ofB_ok F.hs u
 rw[cnd_n (decide_eq_false h1),zaa (r_of19 (by omega)),zaa (ymh (by omega))]
 refine join_b (!(hasQ (getV (ofB (sa s) u) id) qty)) (fun k=>?_) ?_
 ·unfold hasQ
  generalize getV (ofB (sa s) u) id=v
  by_cases a1:0<qty
  ·rw[cnd_y (decide_eq_true a1)]
   by_cases a2:v<qty
   ·rw[cnd_y (decide_eq_true a2)]
    congr 2
    rw[decide_eq_false (by omega),decide_eq_false (by omega)]; rfl
   ·rw[cnd_n (decide_eq_false a2),cnd_n (decide_eq_false (by omega))]
    congr 2
    rw[decide_eq_true (by omega)]; rfl
  ·rw[cnd_n (decide_eq_false a1),cnd_y (decide_eq_true (by omega))]
   congr 2
   rw[decide_eq_false (p:=0<qty∧qty≤v) (by omega),Bool.false_or,←decide_not]
   exact decide_eq_decide.2 (by omega)
 show stdW.cnd (!(hasQ (getV (ofB (sa s) u) id) qty)) (some (noS,(23,()))) _=_
 by_cases h2:hasQ (getV (ofB (sa s) u) id) qty=true
 case neg=>
  replace hc:checkE s u to id qty price=23:=hc.trans (if_neg h2)
  have h2:hasQ (getV (ofB (sa s) u) id) qty=false:=by simpa using h2
  rw[h2,cnd_y (by rfl),zer hc (by decide)]
 replace hc:checkE s u to id qty price=buyerE s to:=hc.trans (if_pos h2)
 rw[h2,cnd_n (by rfl),zaa (r_find15c (by omega))]
 unfold buyerE at hc
 cases ha:findC s.2.2.2.2.1 to.1 with
 |none=>
  rw[ha]at hc
  replace hc:checkE s u to id qty price=11:=hc
  rw[zer hc (by decide)]
  exact join_b true (fun k=>cnd_y (by rfl) _ _) rfl
 |some a=>
 rw[ha]at hc
 have hca:=F.aA.1 _ (ylc ha).1
 refine join_b (!(hasA a to)) (fun k=>?_) ?_
 ·show stdW.cnd (!true) _ (stdW.call (zss a to) _)=_
  rw[cnd_n (by rfl),zaa (r_has15 hca)]
 show stdW.cnd (!(hasA a to)) (some (noS,(11,()))) (stdW.cnd (a.2.2.1 != 1) (some (noS,(17,()))) (stdW.call (zjl s.2.1 a.2.1) _))=_
 by_cases h3:hasA a to=true
 case neg=>
  replace hc:checkE s u to id qty price=11:=hc.trans (if_neg h3)
  have h3:hasA a to=false:=by simpa using h3
  rw[h3,cnd_y (by rfl),zer hc (by decide)]
 replace hc:=hc.trans (if_pos h3)
 rw[h3,cnd_n (by rfl)]
 by_cases h4:a.2.2.1=1
 case neg=>
  replace hc:checkE s u to id qty price=17:=hc.trans (if_neg h4)
  rw[cnd_y (by simpa using h4),zer hc (by decide)]
 replace hc:=hc.trans (if_pos h4)
 rw[cnd_n (by simpa using h4),zaa (yor (by omega))]
 cases hm:findM s.2.1 a.2.1 with
 |none=>
  rw[hm]at hc
  replace hc:checkE s u to id qty price=15:=hc
  rw[zer hc (by decide)]
  exact join_b true (fun k=>cnd_y (by rfl) _ _) rfl
 |some m=>
 rw[hm]at hc
 refine join_b (m.2.2.1 != 0) (fun k=>?_) ?_
 ·show stdW.cnd (!true) _ _=_
  rw[cnd_n (by rfl)]
 show stdW.cnd (m.2.2.1 != 0) (some (noS,(15,()))) (stdW.call (zoy i qty price i.2.2.1) _)=_
 by_cases h5:m.2.2.1=0
 case neg=>
  replace hc:checkE s u to id qty price=15:=hc.trans (if_neg h5)
  rw[cnd_y (by simpa using h5),zer hc (by decide)]
 replace hc:checkE s u to id qty price=0:=hc.trans (if_pos h5)
 have hz:=gZ_bd i1 hq g2 i1.2.2.1
 rw[cnd_n (by simpa using h5),zaa (r_gain13g i1 hq g2 i1.2.2.1),yhq hc hi]
 generalize gZ i qty price i.2.2.1=g at*
 have hg:sml g:=by unfold sml; omega
 have hng:sml (-g):=by unfold sml; omega
 have hqn:I64 (-qty)↔¬qty = -9223372036854775808:=by unfold I64 at *; omega
 refine join_b (!(decide (I64 g))||decide (qty = -9223372036854775808)) (fun k=>?_) ?_
 ·rw[zaa (r_fits hg)]
  by_cases hI:I64 g
  ·rw[decide_eq_true hI,cnd_n (by rfl)]
   congr 2
  ·rw[decide_eq_false hI]; rfl
 show stdW.cnd (!(decide (I64 g))||decide (qty = -9223372036854775808)) (some (noS,(7,()))) (stdW.call (zfx (sa s) u [(id,(IntKind.i64.wrap (0 - qty),()))]) _)=_
 by_cases hI:I64 g
 case neg=>rw[decide_eq_false hI,if_neg hI,cnd_y (by rfl)]
 rw[decide_eq_true hI,if_pos hI]
 by_cases hn:I64 (-qty)
 case neg=>
  rw[if_neg hn,decide_eq_true (Decidable.not_not.1 fun h=>hn (hqn.2 h)),cnd_y (by rfl)]
 rw[if_pos hn,decide_eq_false (hqn.1 hn),cnd_n (by rfl),wrap_neg hq hn,zaa (yjo F.hs (okL1 hn) (by simp))]
 unfold fill3
 by_cases s1:(shiftP (sa s) u [(id,(-qty,()))]).2.1=0
 case neg=>rw[if_neg s1,cnd_y (by simpa using s1)]; rfl
 rw[if_pos s1,cnd_n (by simpa using s1)]
 show stdW.call (zfx (bk s) to [(id,(qty,()))]) _=_
 rw[zaa (yjo F.hb (okL1 hq) (by simp))]
 by_cases s2:(shiftP (bk s) to [(id,(qty,()))]).2.1=0
 case neg=>rw[if_neg s2,cnd_y (by simpa using s2)]; rfl
 rw[if_pos s2,cnd_n (by simpa using s2),zaa (r_negB hg),zaa (r_fits hng)]
 by_cases hm:I64 (-g)
 case neg=>
  rw[decide_eq_false hm,cnd_y (by rfl),move_no hB.2 hm]; rfl
 rw[decide_eq_true hm,cnd_n (by rfl),zaa (r_negB hg),zaa (r_int hm),zaa (r_int hI),ypf hB.2 hm]
 show stdW.call (zsn (pu s) [(u,(-g,())),(to,(g,()))]) _=_
 have hfl:okF [((u,(-g,())):AFlow'),(to,(g,()))]:=fun x hx=>by
  simp only[List.mem_cons,List.not_mem_nil,or_false]at hx
  rcases hx with rfl|rfl
  ·exact hm
  ·exact hI
 rw[zaa (r_pay17 F.pf hfl (by simp; omega))]
 by_cases s3:(payP (pu s) [(u,(-g,())),(to,(g,()))]).2.1=0
 case neg=>rw[if_neg s3,cnd_y (by simpa using s3)]; rfl
 rw[if_pos s3,cnd_n (by simpa using s3)]; rfl
end Go.Proofs.YtllkmncnmlmefaaGreat
namespace Go.Proofs.YtllkmncnmlmefaaGreat
open Go Go.Vc Go.RowKit
set_option maxRecDepth 100000
set_option synthInstance.maxSize 100000
set_option synthInstance.maxHeartbeats 0
theorem payP_e(l fl:List AFlow'):payP l fl=if isP l=true then payGo (l++fl) ((l++fl).foldl (fun a x=>insA x.1 a) []) [] else ([],3,()):=by unfold payP; rw[ykr]
def li0:zae:=(0,(((2,(0,(0,(0,()))))::[]),(((1,(10,(7,(0,([],())))))::[]),([],(((1,(1,(2,((2::[]),()))))::((2,(2,(1,([],()))))::[])),([],([],([],((((1,(2,())),(((1,(5,()))::[]),()))::[]),([],([],([],()))))))))))))
def li1:zae:=(0,(((2,(0,(0,(0,()))))::[]),(((1,(10,(7,(0,([],())))))::[]),([],(((1,(1,(2,((2::[]),()))))::((2,(2,(1,([],()))))::[])),([],([],([],([],((((1,(2,())),(((1,(5,()))::[]),()))::[]),([],([],()))))))))))))
def li2:zae:=setS li1 [((2,(0,())),([(1,(3,()))],()))] [((1,(2,())),([(1,(2,()))],()))] [((1,(2,())),(-60,())),((2,(0,())),(60,()))]
theorem li_okA:okAs li0.2.2.2.2.1:=⟨by decide +kernel,by decide +kernel⟩
theorem li_ok1:OkF li1:=⟨⟨by decide +kernel,by decide +kernel⟩,by decide +kernel,⟨by decide +kernel,by decide +kernel⟩,by unfold SrtI; decide +kernel,⟨by unfold okL I64; decide +kernel,by decide +kernel⟩,⟨by unfold okL I64; decide +kernel,by decide +kernel⟩,by decide +kernel,by decide +kernel,by unfold okF I64; decide +kernel,by decide +kernel⟩
theorem zte:zds=some true:=by
 show zim stdW=_
 unfold zim
 have e1:=r_start (s:=li0) (id:=1) li_okA ⟨by unfold okL I64; decide +kernel,by decide +kernel⟩ ⟨by unfold okL I64; decide +kernel,by decide +kernel⟩ (by decide +kernel) (by decide +kernel)
 have e2:startP li0 1=(li1,(0,())):=by kernel_rfl
 rw[e2]at e1
 have e3:=r_fill li_ok1 (1,(2,())) (2,(0,())) 1 3 5 (by unfold I64; omega)
 have e4:fillP li1 (1,(2,())) (2,(0,())) 1 3 5=(li2,(0,())):=by unfold fillP fill3 moveP; simp only[payP_e]; kernel_rfl
 rw[e4]at e3
 have e5:=r_left (s:=li2) (id:=1) li_okA (by decide +kernel)
 have e6:leftP li2 1=[((1,(2,())),([(1,(2,()))],()))]:=by kernel_rfl
 rw[e6]at e5
 show stdW.call (zkd li0 1) _=_
 rw[zaa e1]
 show stdW.call (zke li1 (1,(2,())) (2,(0,())) 1 3 5) _=_
 rw[zaa e3,cnd_y (by rfl),cnd_y (by rfl)]
 show stdW.call (zuo li2 1) _=_
 rw[zaa e5,cnd_y (by rfl)]
 have e7:zfo (pu li2) (2,(0,()))=some 60:=by rw[ymg (by decide +kernel)]; decide +kernel
 show stdW.idx [(((1,(2,())),([(1,(2,()))],())):APos')] ((0:Nat):Int) _=_
 rw[idx_w (by simp)]
 show stdW.idx [((1,(2,())):Leg)] ((0:Nat):Int) _=_
 rw[idx_w (by simp)]
 show stdW.cnd ((2:Int)==2) (stdW.call (zfo (pu li2) (2,(0,()))) _) _=_
 rw[cnd_y (by rfl),zaa e7]; rfl
end Go.Proofs.YtllkmncnmlmefaaGreat

namespace Go.Proofs.YtllkmncnmlmefaaGreat
open Go Go.Vc Go.RowKit
structure FilOk(s r:zae)(u to:AUnit'):Prop where
 b:okB (bk r)
 a:okB (sa r)
 p:okF (pu r)
 bl:(bk r).length≤40
 al:(sa r).length≤40
 pl:(pu r).length≤40
 opn:∀k,opnZ (bk r) k+opnZ (sa r) k=opnZ (bk s) k+opnZ (sa s) k
 ofb:∀x,x≠to→ofB (bk r) x=ofB (bk s) x
 ofa:∀x,x≠u→ofB (sa r) x=ofB (sa s) x
 get:∀x,x≠u→x≠to→getP (pu r) x=getP (pu s) x
 sum:sumBy amt (pu r)=sumBy amt (pu s)
theorem pay2{p:List AFlow'}{u to:AUnit'}{g:Int}(h:(payP p [(u,(-g,())),(to,(g,()))]).2.1=0):
  okF (payP p [(u,(-g,())),(to,(g,()))]).1∧(∀x,x≠u→x≠to→getP (payP p [(u,(-g,())),(to,(g,()))]).1 x=getP p x)∧sumBy amt (payP p [(u,(-g,())),(to,(g,()))]).1=sumBy amt p:=by
 obtain⟨h1,h2,h3⟩:=payP_ok h
 rw[h2]
 refine⟨resP_ok h3,fun x hu ht=>?_,?_⟩
 ·rw[resP_get,sumU_app,zhj,zhj,if_neg (Ne.symm hu),if_neg (Ne.symm ht),←yhn (isP_nd h1)]
  show getP p x+(0+(0+0))=_
  omega
 ·rw[resP_sum,zhk,zcu,zcu,zzw]
  show sumBy amt p+(-g+(g+0))=_
  omega
theorem fill_ok{s:zae}(F:OkF s){u to:AUnit'}{id qty price:Int}(h:(fillP s u to id qty price).2.1=0):FilOk s (fillP s u to id qty price).1 u to:=by
 have hbl:=F.bl
 have hsl:=F.sl
 have hpl:=F.pl
 by_cases hc:checkE s u to id qty price=0
 case neg=>rw[zer rfl hc]at h; exact absurd h hc
 obtain⟨hB,⟨i,hi⟩,_⟩:=yhx hc
 rw[yhq hc hi]at h ⊢
 generalize gZ i qty price i.2.2.1=g at*
 by_cases hI:I64 g
 case neg=>rw[if_neg hI]at h; cases h
 rw[if_pos hI]at h ⊢
 by_cases hn:I64 (-qty)
 case neg=>rw[if_neg hn]at h; cases h
 rw[if_pos hn]at h ⊢
 unfold fill3 at h ⊢
 by_cases s1:(shiftP (sa s) u [(id,(-qty,()))]).2.1=0
 case neg=>rw[if_neg s1]at h; exact absurd h s1
 rw[if_pos s1]at h ⊢
 by_cases s2:(shiftP (bk s) to [(id,(qty,()))]).2.1=0
 case neg=>rw[if_neg s2]at h; exact absurd h s2
 rw[if_pos s2]at h ⊢
 by_cases s3:(moveP (pu s) u to g).2.1=0
 case neg=>rw[if_neg s3]at h; exact absurd h s3
 rw[if_pos s3]
 have S:=zxx s1
 have T:=zxx s2
 have hs:=S.len
 have ht:=T.len
 have hm:I64 (-g):=Decidable.byContradiction fun hm=>by rw[move_no hB.2 hm]at s3; cases s3
 rw[ypf hB.2 hm]at s3 ⊢
 obtain⟨p1,p2,p3⟩:=pay2 s3
 have p4:=payP_len (pu s) [(u,(-g,())),(to,(g,()))]
 refine⟨T.ok F.hb (by omega),S.ok F.hs (by omega),p1,?_,?_,?_,fun k=>?_,T.other,S.other,p2,p3⟩
 ·show (shiftP (bk s) to [(id,(qty,()))]).1.length≤40; omega
 ·show (shiftP (sa s) u [(id,(-qty,()))]).1.length≤40; omega
 ·show (payP (pu s) [(u,(-g,())),(to,(g,()))]).1.length≤40
  simp at p4; omega
 ·show opnZ (shiftP (bk s) to [(id,(qty,()))]).1 k+opnZ (shiftP (sa s) u [(id,(-qty,()))]).1 k=_
  rw[T.opn,S.opn]
  have:getV [((id,(-qty,())):Leg)] k+getV [((id,(qty,())):Leg)] k=0:=by
   simp only[getV]
   split<;>omega
  omega
theorem fill_bad{s:zae}{u to:AUnit'}{id qty price:Int}(h:(fillP s u to id qty price).2.1≠0):(fillP s u to id qty price).1=noS:=by
 by_cases hc:checkE s u to id qty price=0
 case neg=>rw[zer rfl hc]
 obtain⟨hB,⟨i,hi⟩,_⟩:=yhx hc
 rw[yhq hc hi]at h ⊢
 generalize gZ i qty price i.2.2.1=g at*
 unfold fill3 at h ⊢
 repeat' split
 all_goals first|rfl|(exfalso; apply h; repeat' (first|rw[if_pos (by assumption)]|rfl))
theorem fewOkF{s t:zae}(F:Few30 s t)(hb:okB (bk t))(hs:okB (sa t))(hbl:(bk t).length≤12)(hsl:(sa t).length≤12)(hf:okF (pu t))(hp:(pu t).length≤20):OkF t:=
 ⟨F.i,by have:=F.m; omega,F.a,F.aS,hb,hs,by omega,by omega,hf,hp⟩
theorem same_no:zjj noS noS=some true:=yom (s:=noS) zvp zvp (by simp[noS,pu])
theorem fill_same{s:zae}(F:OkF s)(u to:AUnit')(id qty price:Int):zjj (fillP s u to id qty price).1 (fillP s u to id qty price).1=some true:=by
 by_cases h:(fillP s u to id qty price).2.1=0
 ·have R:=fill_ok F h
  exact yom R.b R.a (by have:=R.pl; omega)
 ·rw[fill_bad h]; exact same_no
theorem fills_true(x0:DT.den tAState)(x1:DT.den tAUnit)(x2:DT.den tAUnit)(x3:DT.den (.int .i64))(x4:DT.den (.int .i64))(x5:DT.den (.int .i64))(o0:DT.okD tAState x0)(_:DT.okD tAUnit x1)(_:DT.okD tAUnit x2)(_:DT.okD (.int .i64) x3)(o4:DT.okD (.int .i64) x4)(_:DT.okD (.int .i64) x5):
  znx x0 x1 x2 x3 x4 x5=some true:=by
 show zeq stdW x0 x1 x2 x3 x4 x5=_
 unfold zeq
 obtain⟨t,et,F,hb,hs,hbl,hsl,hf,hp⟩:=few30_D o0
 have O:=fewOkF F hb hs hbl hsl hf hp
 have hq:I64 x4:=wf_i64 o4
 rw[zaa et,zaa (r_fill O x1 x2 x3 x4 x5 hq),zaa (r_fill30 O x1 x2 x3 x4 x5 hq),zaa (fill_same O x1 x2 x3 x4 x5),cnd_y rfl,cnd_y (by simp),zaa zte]
theorem yay{l:List APos'}(hb:okB l)(k:Int) : -922337203685477580800≤opnZ l k∧opnZ l k≤922337203685477580800:=by
 have:=zxv (f:=fun p:APos'=>getV p.2.1 k) (B:=9223372036854775808) (l:=l) fun p hp=>by
  have:=ybr (hb.1 p hp).1 k
  unfold I64 at this; omega
 have hl:=hb.2
 unfold opnZ
 omega
theorem okB_take{l:List APos'}(hb:okB l)(i:Nat):okB (l.take i):=⟨fun p hp=>hb.1 p (List.mem_of_mem_take hp),by rw[List.length_take]; have:=hb.2; omega⟩
theorem yoq{l:List APos'}(hb:okB l)(k:Int):zhc l k=some (big (opnZ l k)):=by
 show zkv stdW l k=_
 unfold zkv
 have hl:=hb.2
 refine loop_n (N:=l.length) (by omega) (fun i s=>s=big (opnZ (l.take i) k)) (some (big (opnZ l k))) (by rw[List.take_zero]; exact big0.symm) ?_ ?_
 ·rintro _ again rfl
  rw[zam,List.take_length]
 ·rintro i hi _ rfl again ha
  have h1:=yay (okB_take hb i) k
  have h2:=hb.1 _ (List.getElem_mem hi)
  have h3:=ybr h2.1 k
  have e:opnZ (l.take (i+1)) k=opnZ (l.take i) k+getV l[i].2.1 k:=by unfold opnZ; rw[ydq _ _ _ hi]
  rw[cnd_lt hi]
  refine join_g fun j hj=>?_
  have kk:∀v:BigT,j v=again (((i+1:Nat):Int),v):=by intro v; rw[←i64_s i (by omega)]; subst hj; rfl
  clear hj
  have g:=ymh (l:=l[i].2.1) (k:=k) (by omega)
  have fin:(stdW.call (zdc (getV l[i].2.1 k)) fun v7=>stdW.call (zbs (big (opnZ (l.take i) k)) v7) fun v8=>j v8)=some (big (opnZ l k)):=by
   rw[zaa (r_of h3),zaa (r_addB (by unfold sml; omega) (ybn h3)),kk]
   exact ha _ (by rw[e])
  rw[idx_w hi]
  refine zmp ?_ ?_
  ·rw[zaa g]; exact fin
  ·rw[zaa g]; exact zmp fin fin
theorem yop{s:zae}(hb:okB (bk s))(hs:okB (sa s))(k:Int):zbe s k=some (big (opnZ (bk s) k+opnZ (sa s) k)):=by
 show zlx stdW s k=_
 unfold zlx
 have h1:=yay hb k
 have h2:=yay hs k
 have e1:zhc s.2.2.2.2.2.2.2.2.1 k=some (big (opnZ (bk s) k)):=yoq hb k
 have e2:zhc s.2.2.2.2.2.2.2.2.2.1 k=some (big (opnZ (sa s) k)):=yoq hs k
 rw[zaa e1,zaa e2,zaa (r_addB (by unfold sml; omega) (by unfold sml; omega))]
theorem ypb{s r:zae}(hb:okB (bk s))(hs:okB (sa s))(gb:okB (bk r))(gs:okB (sa r))(k:Int)(h:opnZ (bk r) k+opnZ (sa r) k=opnZ (bk s) k+opnZ (sa s) k)(K:Int→Option Bool):
  (stdW.call (zbe r k) fun v=>stdW.call (zbe s k) fun w=>stdW.call (zbw v w) fun x=>K x)=K 0:=by
 have h1:=yay hb k
 have h2:=yay hs k
 rw[zaa (yop gb gs k),zaa (yop hb hs k),h,zaa (r_cmpB (by unfold sml; omega) (by unfold sml; omega)),if_pos (by omega)]
theorem tot_cmp{p q:List AFlow'}(hp:okF p)(hpl:p.length≤1000)(hq:okF q)(hql:q.length≤1000)(h:sumBy amt q=sumBy amt p)(K:Int→Option Bool):
  (stdW.call (zcc q) fun v=>stdW.call (zcc p) fun w=>stdW.call (zbw v w) fun x=>K x)=K 0:=by
 have h1:=(ynx hp (by omega)).1
 rw[zaa (yjn hq (by omega)),zaa (yjn hp (by omega)),h,zaa (r_cmpB h1 h1),if_pos (by omega)]
theorem start_keep{s:zae}{id:Int}(hb:okB (bk s))(hs:okB (sa s))(hbl:(bk s).length≤20)(hsl:(sa s).length≤20)(h:(startP s id).2.1=0):
  (∀k,opnZ (bk (startP s id).1) k+opnZ (sa (startP s id).1) k=opnZ (bk s) k+opnZ (sa s) k)∧pu (startP s id).1=pu s:=by
 unfold startP at h ⊢
 split
 ·rename_i hB
  rw[if_pos hB]at h
  split
  ·rename_i he
   have R:=zoq (ownA s.2.2.2.2.1 id) (bk s) (sa s) [] he hs zvp hb (by omega) (by simp; omega)
   refine⟨fun k=>?_,rfl⟩
   have:=R.opn k
   show opnZ (zcn _ _ _ _).2.1 k+opnZ (zcn _ _ _ _).1 k=_
   rw[this]
   show 0+opnZ (bk s) k+opnZ (sa s) k=_
   omega
  ·rename_i he
   rw[if_neg he]at h; exact absurd h he
 ·rename_i hB
  rw[if_neg hB]at h; cases h
theorem keeps_true(x0:DT.den tAState)(x1:DT.den tAUnit)(x2:DT.den tAUnit)(x3:DT.den tAUnit)(x4:DT.den (.int .i64))(x5:DT.den (.int .i64))(x6:DT.den (.int .i64))(o0:DT.okD tAState x0)(_:DT.okD tAUnit x1)(_:DT.okD tAUnit x2)(_:DT.okD tAUnit x3)(_:DT.okD (.int .i64) x4)(o5:DT.okD (.int .i64) x5)(_:DT.okD (.int .i64) x6):
  znw x0 x1 x2 x3 x4 x5 x6=some true:=by
 show zep stdW x0 x1 x2 x3 x4 x5 x6=_
 unfold zep
 obtain⟨t,et,F,hb,hs,hbl,hsl,hf,hp⟩:=few30_D o0
 have O:=fewOkF F hb hs hbl hsl hf hp
 have hq:I64 x5:=wf_i64 o5
 have eS:=r_start (id:=x4) F.a hb hs (by omega) (by omega)
 obtain⟨g1,g2,_,g4,_⟩:=start_okP (id:=x4) hb hs (by omega) (by omega) hp F.a
 have SK:=start_keep (id:=x4) hb hs (by omega) (by omega)
 have FK:=fill_ok O (u:=x1) (to:=x2) (id:=x4) (qty:=x5) (price:=x6)
 rw[zaa et,zaa eS,zaa (r_fill O x1 x2 x4 x5 x6 hq)]
 generalize startP t x4=a at*
 generalize fillP t x1 x2 x4 x5 x6=b at*
 have hL:=zte
 have hz:((1:Int),())=(((0:Nat):Int)+1,()):=rfl
 have tail:∀K:Option Bool,K=(stdW.join (fun (z29:Bool×Unit)=>
  stdW.cnd z29.1 (some false)
   (
   stdW.join (fun (z30:Bool×Unit)=>
   stdW.cnd z30.1 (stdW.call (zds) fun v31=>some v31)
    (
    stdW.join (fun (z32:Bool×Unit)=>
    stdW.cnd z32.1 (stdW.call (zcc (pu b.1)) fun v33=>stdW.call (zcc (pu t)) fun v34=>stdW.call (zbw v33 v34) fun v35=>
     stdW.cnd (v35==0) (stdW.call (zds) fun v36=>some v36)
     (some false))
     (some false))
    fun k37=>stdW.call (zfo (pu b.1) x3) fun v38=>stdW.call (zfo (pu t) x3) fun v39=>
    stdW.cnd (v38==v39) (stdW.call (zee (bk b.1) x3) fun v40=>stdW.call (zee (bk t) x3) fun v41=>
     stdW.cnd ((v40.length:Int)==(v41.length:Int)) (stdW.call (zee (sa b.1) x3) fun v42=>stdW.call (zee (sa t) x3) fun v43=>(k37 (((v42.length:Int)==(v43.length:Int)),())))
     ((k37 (false,()))))
     ((k37 (false,())))))
   fun k44=>
   stdW.cnd (b.2.1 != 0) ((k44 (true,())))
    (
    stdW.cnd (Go.Vc.notIf false ((x3.1==x1.1)&&(x3.2.1==x1.2.1))) ((k44 (true,())))
    ((k44 ((Go.Vc.notIf false ((x3.1==x2.1)&&(x3.2.1==x2.2.1))),()))))))
  fun k45=>
  stdW.cnd (a.2.1==0) (stdW.call (zcc (pu a.1)) fun v46=>stdW.call (zcc (pu t)) fun v47=>stdW.call (zbw v46 v47) fun v48=>(k45 ((v48 != 0),())))
   ((k45 (false,()))))→K=some true:=by
  intro K hK
  rw[hK]
  refine join_b false (fun k=>?_) ?_
  ·by_cases ha:a.2.1=0
   ·have hpe:=(SK ha).2
    rw[cnd_y (by simpa using ha),hpe]
    exact tot_cmp hf (by omega) hf (by omega) rfl fun x=>k ((x != 0),())
   ·rw[cnd_n (by simpa using ha)]
  ·show stdW.cnd false (some false) _=_
   rw[cnd_n rfl]
   by_cases he:b.2.1=0
   ·have R:=FK he
    by_cases h1:x3=x1
    ·refine join_b true (fun k=>?_) (by show stdW.cnd true _ _=_; rw[cnd_y rfl,zaa hL])
     rw[cnd_n (by simp[he]),unitEq,cnd_y (decide_eq_true h1)]
    ·by_cases h2:x3=x2
     ·refine join_b true (fun k=>?_) (by show stdW.cnd true _ _=_; rw[cnd_y rfl,zaa hL])
      rw[cnd_n (by simp[he]),unitEq,cnd_n (decide_eq_false h1),unitEq,decide_eq_true h2]
     ·refine join_b false (fun k=>?_) ?_
      ·rw[cnd_n (by simp[he]),unitEq,cnd_n (decide_eq_false h1),unitEq,decide_eq_false h2]
      ·show stdW.cnd false _ _=_
       rw[cnd_n rfl]
       have rbl:=R.bl
       have ral:=R.al
       have rpl:=R.pl
       refine join_b true (fun k=>?_) ?_
       ·rw[zaa (ymg (by omega)),zaa (ymg (by omega)),R.get x3 h1 h2,cnd_y (by simp),zaa (r_of19 (by omega)),zaa (r_of19 (by omega)),R.ofb x3 h2,cnd_y (by simp),zaa (r_of19 (by omega)),zaa (r_of19 (by omega)),R.ofa x3 h1]
        congr 2
        simp
       ·show stdW.cnd true (stdW.call (zcc (pu b.1)) fun v33=>stdW.call (zcc (pu t)) fun v34=>stdW.call (zbw v33 v34) fun v35=>stdW.cnd (v35==0) (stdW.call (zds) fun v36=>some v36) (some false)) _=_
        rw[cnd_y rfl,tot_cmp hf (by omega) R.p (by omega) R.sum fun v35=>stdW.cnd (v35==0) (stdW.call (zds) fun v36=>some v36) (some false),cnd_y (by rfl),zaa hL]
   ·refine join_b true (fun k=>cnd_y (by simpa using he) _ _) (by show stdW.cnd true _ _=_; rw[cnd_y rfl,zaa hL])
 refine zdr (fun z=>10 - z.1.toNat) (fun z=>∃i:Nat,1≤i∧i≤9∧z=((i:Int),())) (fun _=>some true) ⟨1,by omega,by omega,rfl⟩ (by show 10 - (1:Int).toNat<_; omega) ?_
 rintro _ ⟨i,hi1,hi9,rfl⟩ again ha
 show stdW.cnd (decide ((i:Int)≤8)) _ _=_
 by_cases h8:i≤8
 ·rw[cnd_y (decide_eq_true (by omega))]
  refine join_b false (fun k=>?_) ?_
  ·have two:stdW.cnd (b.2.1==0) (stdW.both (stdW.both (stdW.call (zbe b.1 (i:Int)) fun v11=>stdW.call (zbe t (i:Int)) fun v12=>stdW.call (zbw v11 v12) fun v13=>(k ((v13 != 0),()))) (stdW.call (zbe b.1 (i:Int)) fun v11=>stdW.call (zbe t (i:Int)) fun v12=>stdW.call (zbw v11 v12) fun v13=>(k ((v13 != 0),())))) (stdW.call (zbe b.1 (i:Int)) fun v11=>stdW.call (zbe t (i:Int)) fun v12=>stdW.call (zbw v11 v12) fun v13=>(k ((v13 != 0),())))) (stdW.both (stdW.both ((k (false,()))) ((k (false,())))) ((k (false,()))))=k (false,()):=by
    by_cases he:b.2.1=0
    ·have R:=FK he
     have e:=ypb hb hs R.b R.a (i:Int) (R.opn _) fun v=>k ((v != 0),())
     rw[cnd_y (by simpa using he)]
     exact zmp (zmp e e) e
    ·rw[cnd_n (by simpa using he)]
     exact zmp (zmp rfl rfl) rfl
   by_cases ha:a.2.1=0
   ·rw[cnd_y (by simpa using ha)]
    refine(ypb hb hs g1 g2 (i:Int) ((SK ha).1 _) fun v10=>stdW.cnd (v10 != 0) _ _).trans ?_
    show stdW.cnd false _ _=_
    rw[cnd_n rfl]
    exact two
   ·rw[cnd_n (by simpa using ha)]
    exact two
  ·show stdW.cnd false (some false) (again (IntKind.i64.wrap ((i:Int)+1),()))=_
   rw[cnd_n rfl,i64_s i (by omega)]
   exact ha _ ⟨i+1,by omega,by omega,rfl⟩ (by show 10 - ((i+1:Nat):Int).toNat<10 - ((i:Nat):Int).toNat; omega)
 ·rw[cnd_n (decide_eq_false (by omega))]
  exact tail _ rfl
end Go.Proofs.YtllkmncnmlmefaaGreat
namespace Go.Proofs.YtllkmncnmlmefaaGreat
open Go Go.Vc Go.RowKit Go.ChangeShapes Go.WideShapes Go.ChangeAt Go.Joins
theorem own:ownKnob Tryz.prog.godebug=none:=by kernel_rfl
theorem zfz:laidOutB Tryz.prog=true:=by kernel_rfl
theorem zcf{H:Type}{enc:TypeId×Value→H}{w:World}{spare:Nat→Bool}{held:Bool}{t:TypeId}{v:Value}{d:DataW H}{p:List MemPlace}(h:DataW.Trod enc Tryz.prog w 0 spare held t v d p):∀x∈p,x.block<w.heap.size:=by
 obtain⟨m,hm⟩:=h; exact DataW.trod_lt m _ _ _ hm
end Go.Proofs.YtllkmncnmlmefaaGreat