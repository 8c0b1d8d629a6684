import Derived.Test.YtllkmncnmlmefaaGreatB6
namespace Go.Proofs.YtllkmncnmlmefaaGreat
open Go Go.Vc Go.RowKit
abbrev Leg:=AUnit'
def VInv(l:List Leg):Prop:=(∀x∈l,(1≤x.1∧x.1≤8)∧x.2.1≠0)∧(l.map (·.1)).Pairwise (· < ·)
instance (l:List Leg):Decidable (VInv l):=by unfold VInv; infer_instance
def isV(l:List Leg):Bool:=decide (VInv l)
theorem zxb{l:List Leg}{i:Nat}(hi:i<l.length)(h:¬((1≤l[i].1∧l[i].1≤8)∧l[i].2.1≠0)):isV l=false:=
 decide_eq_false λhp=>h (hp.1 _ (List.getElem_mem hi))
theorem yss{l:List Leg}{i:Nat}(hi:i<l.length)(h0:0<i)(h:¬(l[i - 1]'(by omega)).1<l[i].1):isV l=false:=
 decide_eq_false λhp=>h (by
  have:=List.pairwise_iff_getElem.1 hp.2 (i - 1) i (by simp; omega) (by simpa using hi) (by omega)
  simpa using this)
theorem yjy{l:List Leg}{i:Nat}(hi:i<l.length)(inv:VInv (l.take i))(h1:(1≤l[i].1∧l[i].1≤8)∧l[i].2.1≠0)(h2:∀h0:0<i,(l[i - 1]'(by omega)).1<l[i].1):VInv (l.take (i+1)):=by
 rw[List.take_succ_eq_append_getElem hi]
 refine⟨λx hx=>?_,?_⟩
 ·rcases List.mem_append.1 hx with hx|hx
  ·exact inv.1 x hx
  ·simp only[List.mem_singleton]at hx; rw[hx]; exact h1
 ·show ((l.take i++[l[i]]).map (·.1)).Pairwise (· < ·)
  rw[List.map_append]
  refine List.pairwise_append.2 ⟨inv.2,by simp,λa ha b hb=>?_⟩
  simp only[List.map_cons,List.map_nil,List.mem_singleton]at hb
  subst hb
  obtain⟨k,hk,hka⟩:=List.mem_iff_getElem.1 ha
  have hk':k<i:=by simp at hk; omega
  have h3:=h2 (by omega)
  by_cases hki:k=i - 1
  ·subst hki; rw[←hka]; simpa using h3
  ·have h4:=List.pairwise_iff_getElem.1 inv.2 k (i - 1) (by simpa using hk) (by simp; omega) (by omega)
   rw[hka]at h4
   refine Int.lt_trans h4 ?_
   simpa using h3
theorem isV_end{l:List Leg}(h:VInv (l.take l.length)):isV l=true:=by rw[List.take_length]at h; exact decide_eq_true h
def lastV(l:List Leg)(i:Nat):Int:=if h:0<i∧i≤l.length then (l[i - 1]'(by omega)).1 else 0
theorem lastV_s{l:List Leg}{i:Nat}(h:i<l.length):lastV l (i+1)=l[i].1:=by
 unfold lastV; rw[dif_pos ⟨by omega,by omega⟩]; rfl
theorem r_isV{l:List Leg}(hl:l.length≤1000000):vec_Is l=some (isV l):=by
 show ygy stdW l=_
 unfold ygy
 refine loop_ai (N:=l.length) (by omega) (λi=>(lastV l i,((i:Int),()))) (λi=>VInv (l.take i)) (some (isV l)) (by unfold lastV; simp) (by simp[VInv]) ?_ ?_
 ·intro h again
  show stdW.cnd (decide ((l.length:Int)<(l.length:Int))) _ _=_
  rw[zah,isV_end h]
 ·intro i hi inv again ha
  show stdW.cnd (decide ((i:Int)<(l.length:Int))) (stdW.idx l (i:Int) _) _=_
  rw[cnd_lt hi,idx_w hi]
  refine join_g λk hk=>?_
  have kt:k (true,())=some false:=by subst hk; rfl
  have kf:k (false,())=again (lastV l (i+1),(((i+1:Nat):Int),())):=by rw[←i64_s i (by omega),lastV_s hi]; subst hk; rfl
  clear hk
  show stdW.cnd (decide (l[i].1≤lastV l i)) _ _=_
  by_cases h1:l[i].1≤lastV l i
  ·rw[cnd_y (decide_eq_true h1),kt]
   unfold lastV at h1
   by_cases h0:0<i
   ·rw[dif_pos ⟨h0,by omega⟩]at h1
    rw[yss hi h0 (by omega)]
   ·rw[dif_neg (by omega)]at h1
    rw[zxb hi (by omega)]
  ·rw[cnd_n (decide_eq_false h1)]
   by_cases h2:8<l[i].1
   ·rw[cnd_y (decide_eq_true h2),kt,zxb hi (by omega)]
   ·rw[cnd_n (decide_eq_false h2)]
    by_cases h3:l[i].2.1=0
    ·rw[show (l[i].2.1==0)=true by simpa using h3,kt,zxb hi (by simp[h3])]
    ·rw[show (l[i].2.1==0)=false by simpa using h3,kf]
     have hpos:1≤l[i].1:=by
      unfold lastV at h1
      by_cases h0:0<i
      ·rw[dif_pos ⟨h0,by omega⟩]at h1
       have:=(inv.1 (l[i - 1]'(by omega)) (List.mem_iff_getElem.2 ⟨i - 1,by simp; omega,by simp⟩)).1.1
       omega
      ·rw[dif_neg (by omega)]at h1; omega
     refine ha (yjy hi inv ⟨⟨hpos,by omega⟩,h3⟩ λh0=>?_)
     unfold lastV at h1
     rw[dif_pos ⟨h0,by omega⟩]at h1; omega
theorem yiq{l:List Leg}(hl:l.length≤1000000):zpf l=some (isV l):=by
 show ztx stdW l=_
 unfold ztx
 refine loop_n (N:=l.length) (by omega) (λi _=>VInv (l.take i)) (some (isV l)) (by simp[VInv]) ?_ ?_
 ·rintro _ again h
  rw[zah,isV_end h]
 ·rintro i hi _ inv again ha
  rw[cnd_lt hi]
  refine join_g λk hk=>?_
  have kt:k (true,())=some false:=by subst hk; rfl
  have kf:k (false,())=again (((i+1:Nat):Int),()):=by rw[←i64_s i (by omega)]; subst hk; rfl
  clear hk
  rw[idx_w hi]
  by_cases h1:l[i].1<1
  ·rw[cnd_y (decide_eq_true h1),kt,zxb hi (by omega)]
  rw[cnd_n (decide_eq_false h1),idx_w hi]
  by_cases h2:8<l[i].1
  ·rw[cnd_y (decide_eq_true h2),kt,zxb hi (by omega)]
  rw[cnd_n (decide_eq_false h2),idx_w hi]
  by_cases h3:l[i].2.1=0
  ·rw[cnd_y (by simpa using h3),kt,zxb hi (by simp[h3])]
  rw[cnd_n (by simpa using h3)]
  by_cases h0:0<i
  ·rw[cnd_y (decide_eq_true (by omega)),zdz i h0 (by rw[zap]; omega),idx_w (by omega),idx_w hi]
   by_cases h4:l[i].1≤(l[i - 1]'(by omega)).1
   ·rw[decide_eq_true h4,kt,yss hi h0 (by omega)]
   ·rw[decide_eq_false h4,kf]
    exact ha _ (yjy hi inv ⟨by omega,h3⟩ λ_=>by omega)
  ·rw[cnd_n (decide_eq_false (by omega)),kf]
   exact ha _ (yjy hi inv ⟨by omega,h3⟩ λh=>absurd h h0)
def okL(l:List Leg):Prop:=∀x∈l,I64 x.2.1
def BInv(l:List APos'):Prop:=(∀p∈l,p.2.1≠[]∧VInv p.2.1)∧SrtA (l.map (·.1))
instance (l:List APos'):Decidable (BInv l):=by unfold BInv SrtA; infer_instance
def isB(l:List APos'):Bool:=decide (BInv l)
theorem zzq{l:List APos'}{i:Nat}(hi:i<l.length)(h:¬(l[i].2.1≠[]∧VInv l[i].2.1)):isB l=false:=
 decide_eq_false λhp=>h (hp.1 _ (List.getElem_mem hi))
theorem yta{l:List APos'}{i:Nat}(hi:i<l.length)(h0:0<i)(h:¬ltA (l[i - 1]'(by omega)).1 l[i].1):isB l=false:=
 decide_eq_false λhp=>h (by
  have:=List.pairwise_iff_getElem.1 hp.2 (i - 1) i (by simp; omega) (by simpa using hi) (by omega)
  simpa using this)
theorem zzp{l:List APos'}{i:Nat}(hi:i<l.length)(inv:BInv (l.take i))(h1:l[i].2.1≠[]∧VInv l[i].2.1)(h2:∀h0:0<i,ltA (l[i - 1]'(by omega)).1 l[i].1):BInv (l.take (i+1)):=by
 rw[List.take_succ_eq_append_getElem hi]
 refine⟨λx hx=>?_,?_⟩
 ·rcases List.mem_append.1 hx with hx|hx
  ·exact inv.1 x hx
  ·simp only[List.mem_singleton]at hx; rw[hx]; exact h1
 ·show SrtA ((l.take i++[l[i]]).map (·.1))
  rw[List.map_append]
  refine List.pairwise_append.2 ⟨inv.2,by simp,λa ha b hb=>?_⟩
  simp only[List.map_cons,List.map_nil,List.mem_singleton]at hb
  subst hb
  obtain⟨k,hk,hka⟩:=List.mem_iff_getElem.1 ha
  have hk':k<i:=by simp at hk; omega
  have h3:=h2 (by omega)
  by_cases hki:k=i - 1
  ·subst hki; rw[←hka]; simpa using h3
  ·have h4:=List.pairwise_iff_getElem.1 inv.2 k (i - 1) (by simpa using hk) (by simp; omega) (by omega)
   rw[hka]at h4
   refine ltA_tr h4 ?_
   simpa using h3
theorem isB_end{l:List APos'}(h:BInv (l.take l.length)):isB l=true:=by rw[List.take_length]at h; exact decide_eq_true h
def okB(l:List APos'):Prop:=(∀p∈l,okL p.2.1∧p.2.1.length≤100)∧l.length≤100
theorem r_isB{l:List APos'}(hb:okB l):yds l=some (isB l):=by
 have hl:=hb.2
 show yal stdW l=_
 unfold yal
 refine loop_n (N:=l.length) (by omega) (λi _=>BInv (l.take i)) (some (isB l)) (by simp[BInv]) ?_ ?_
 ·rintro _ again h
  rw[zah,isB_end h]
 ·rintro i hi _ inv again ha
  rw[cnd_lt hi,idx_w hi]
  refine join_g λk hk=>?_
  have kt:k (true,())=some false:=by subst hk; rfl
  have kf:k (false,())=again (((i+1:Nat):Int),()):=by rw[←i64_s i (by omega)]; subst hk; rfl
  clear hk
  have hli:=(hb.1 _ (List.getElem_mem hi)).2
  by_cases h1:l[i].2.1=[]
  ·rw[cnd_y (by simp[h1]),both_w,kt,zzq hi (by simp[h1])]
  rw[cnd_n (by simpa using h1),zaa (r_isV (by omega))]
  by_cases hv:VInv l[i].2.1
  ·rw[show isV l[i].2.1=true from decide_eq_true hv,cnd_n (by decide)]
   by_cases h0:0<i
   ·rw[cnd_y (decide_eq_true (by omega)),zdz i h0 (by rw[zap]; omega),idx_w (by omega),zaa (zwj _ _),both_w]
    by_cases h2:ltA (l[i - 1]'(by omega)).1 l[i].1
    ·rw[decide_eq_true h2]
     exact kf.trans (ha _ (zzp hi inv ⟨h1,hv⟩ λ_=>h2))
    ·rw[decide_eq_false h2,yta hi h0 h2]; exact kt
   ·rw[cnd_n (decide_eq_false (by omega)),both_w]
    exact kf.trans (ha _ (zzp hi inv ⟨h1,hv⟩ λh=>absurd h h0))
  ·rw[show isV l[i].2.1=false from decide_eq_false hv,cnd_y (by decide),both_w,kt,zzq hi λh=>hv h.2]
theorem ypb{l:List APos'}(hb:okB l):ztj l=some (isB l):=by
 have hl:=hb.2
 show zti stdW l=_
 unfold zti
 refine loop_n (N:=l.length) (by omega) (λi _=>BInv (l.take i)) (some (isB l)) (by simp[BInv]) ?_ ?_
 ·rintro _ again h
  rw[zah,isB_end h]
 ·rintro i hi _ inv again ha
  rw[cnd_lt hi]
  refine join_g λk hk=>?_
  have kt:k (true,())=some false:=by subst hk; rfl
  have kf:k (false,())=again (((i+1:Nat):Int),()):=by rw[←i64_s i (by omega)]; subst hk; rfl
  clear hk
  have hli:=(hb.1 _ (List.getElem_mem hi)).2
  rw[idx_w hi]
  by_cases h1:l[i].2.1=[]
  ·rw[cnd_y (by simp[h1]),both_w,kt,zzq hi (by simp[h1])]
  rw[cnd_n (by simpa using h1),idx_w hi,zaa (yiq (by omega))]
  by_cases hv:VInv l[i].2.1
  ·rw[show isV l[i].2.1=true from decide_eq_true hv,cnd_n (by decide)]
   by_cases h0:0<i
   ·rw[cnd_y (decide_eq_true (by omega)),zdz i h0 (by rw[zap]; omega),idx_w (by omega),idx_w hi,zaa (zpn _ _),both_w]
    by_cases h2:ltA (l[i - 1]'(by omega)).1 l[i].1
    ·rw[decide_eq_true h2]
     exact kf.trans (ha _ (zzp hi inv ⟨h1,hv⟩ λ_=>h2))
    ·rw[decide_eq_false h2,yta hi h0 h2]; exact kt
   ·rw[cnd_n (decide_eq_false (by omega)),both_w]
    exact kf.trans (ha _ (zzp hi inv ⟨h1,hv⟩ λh=>absurd h h0))
  ·rw[show isV l[i].2.1=false from decide_eq_false hv,cnd_y (by decide),both_w,kt,zzq hi λh=>hv h.2]
theorem r_few11(l:List Leg)(hl:l.length≤9223372036854775807):yct l=some (l.take 12):=by
 show zqj stdW l=_
 unfold zqj
 by_cases h:12<l.length
 ·rw[cnd_y (decide_eq_true (by omega)),bnd_w (by omega) (by omega)]; rfl
 ·rw[cnd_n (decide_eq_false (by omega)),List.take_of_length_le (by omega)]
def fewPos(p:APos'):APos':=(p.1,(p.2.1.take 12,()))
def few19(l:List APos'):List APos':=(l.take 12).map fewPos
theorem few19_ok{l:List APos'}(h:∀p∈l,okL p.2.1):okB (few19 l):=by
 unfold few19
 refine⟨λp hp=>?_,by rw[List.length_map,List.length_take]; omega⟩
 obtain⟨x,hx,rfl⟩:=List.mem_map.1 hp
 have hx:=h x (List.mem_of_mem_take hx)
 exact⟨λy hy=>hx y (List.mem_of_mem_take hy),by show (x.2.1.take 12).length≤100; rw[List.length_take]; omega⟩
theorem r_few19(l:List APos')(hl:l.length≤9223372036854775807)(hm:∀p∈l,p.2.1.length≤9223372036854775807):znt l=some (few19 l):=by
 show zqf stdW l=_
 unfold zqf
 rw[join_w]
 refine zly (N:=min l.length 12) (by omega) (λi=>((i:Int),((l.take i).map fewPos,()))) _ rfl ?_ ?_
 ·intro again
  have e:(l.take (min l.length 12)).map fewPos=few19 l:=by
   unfold few19; rw[Nat.min_comm,←List.take_take,List.take_length]
  have g:(some ((l.take (min l.length 12)).map fewPos):Option (List APos'))=some (few19 l):=by rw[e]
  show stdW.cnd (decide (((min l.length 12:Nat):Int)<(l.length:Int))) (stdW.cnd (decide (((min l.length 12:Nat):Int)<12)) _ (some ((l.take (min l.length 12)).map fewPos))) (some ((l.take (min l.length 12)).map fewPos))=_
  by_cases h:(min l.length 12:Nat)<l.length
  ·rw[cnd_lt h,cnd_n (decide_eq_false (by omega))]; exact g
  ·rw[cnd_n (decide_eq_false (by omega))]; exact g
 ·intro i hi again ha
  have hi1:i<l.length:=by omega
  show stdW.cnd (decide ((i:Int)<(l.length:Int))) (stdW.cnd (decide ((i:Int)<12)) (stdW.idx l (i:Int) _) _) _=_
  rw[cnd_lt hi1,cnd_y (decide_eq_true (by omega)),idx_w hi1,idx_w hi1,zaa (r_few11 _ (hm _ (List.getElem_mem hi1)))]
  show stdW.room (((l.take i).map fewPos).length+1) 40 (again (IntKind.i64.wrap ((i:Int)+1),((l.take i).map fewPos++[fewPos l[i]],())))=_
  have:((l.take i).map fewPos).length≤12:=by rw[List.length_map,List.length_take]; omega
  rw[room_w (by omega) (by omega),i64_s i (by omega)]
  rw[List.take_succ_eq_append_getElem hi1,List.map_append]at ha
  exact ha
end Go.Proofs.YtllkmncnmlmefaaGreat
namespace Go.Proofs.YtllkmncnmlmefaaGreat
open Go Go.Vc Go.RowKit
end Go.Proofs.YtllkmncnmlmefaaGreat

namespace Go.Proofs.YtllkmncnmlmefaaGreat
open Go Go.Vc Go.RowKit
theorem okD_insts{l:DT.den (.slc tAInst)}(h:DT.okD (.slc tAInst) l):(∀i∈l,i.2.2.2.2.1.length≤9223372036854775807)∧l.length≤9223372036854775807:=by
 refine⟨λx hx=>?_,?_⟩
 ·have:=(h.1 x hx).2.2.2.2.1.2
  rwa [zap]at this
 ·have:=h.2
  rwa [zap]at this
theorem okD_legs{l:DT.den (.slc tAUnit)}(h:DT.okD (.slc tAUnit) l):okL l∧l.length≤9223372036854775807:=by
 refine⟨λx hx=>wf_i64 (h.1 x hx).2.1,?_⟩
 have:=h.2
 rwa [zap]at this
theorem ysd{l:DT.den (.slc tAPos)}(h:DT.okD (.slc tAPos) l):(∀p∈l,okL p.2.1∧p.2.1.length≤9223372036854775807)∧l.length≤9223372036854775807:=by
 refine⟨λx hx=>okD_legs (h.1 x hx).2.1,?_⟩
 have:=h.2
 rwa [zap]at this
end Go.Proofs.YtllkmncnmlmefaaGreat
namespace Go.Proofs.YtllkmncnmlmefaaGreat
open Go Go.Vc Go.RowKit
end Go.Proofs.YtllkmncnmlmefaaGreat

namespace Go.Proofs.YtllkmncnmlmefaaGreat
open Go Go.Vc Go.RowKit
def getV:List Leg→Int→Int
 |[],_=>0
 |x::l,k=>if x.1=k then x.2.1 else getV l k
theorem r_vget{l:List Leg}{k:Int}(hl:l.length≤1000000):ygz l k=some (getV l k):=by
 show zyz stdW l k=_
 unfold zyz
 refine zbp (l:=l) (by omega) (s0:=()) (λ_ _=>True) (λl' _=>some (getV l' k)) trivial ?_ ?_
 ·rintro _ again _
  rw[zah]; rfl
 ·rintro i hi _ _ again ha
  rw[cnd_lt hi,idx_w hi]
  show _=some (getV (l[i]::l.drop (i+1)) k)
  rw[getV]
  by_cases h:l[i].1=k
  ·rw[cnd_y (by simpa using h),if_pos h]
  ·rw[cnd_n (by simpa using h),if_neg h]
   show again (IntKind.i64.wrap ((i:Int)+1),())=_
   rw[i64_s i (by omega)]
   exact ha _ trivial
theorem zxf{l:List Leg}(h:okL l)(k:Int):I64 (getV l k):=by
 induction l with
 |nil=>show I64 0; unfold I64; omega
 |cons x l ih=>
  rw[getV]
  split
  ·exact h x (by simp)
  ·exact ih λy hy=>h y (by simp[hy])
def opnZ(l:List APos')(k:Int):Int:=sumBy (λp=>getV p.2.1 k) l
def ks:List Int:=[1,2,3,4,5,6,7,8]
theorem ks_mem(k:Int):k∈ks↔1≤k∧k≤8:=by unfold ks; simp; omega
theorem V_nd{l:List Leg}(h:VInv l):(l.map (·.1)).Nodup:=h.2.imp λ{a b} (hab:a<b) e=>by omega
theorem r_none{l:List Leg}(hl:l.length≤1000000):zsr l=some (!isV l):=by
 show zsq stdW l=_
 unfold zsq
 rw[zaa (r_isV hl)]
theorem r_ix{s:List (List Leg)}(hs:s.length≤1000000)(hl:∀l∈s,l.length≤1000000):∃i:Int,zbm s=some (i,())∧decide (0≤i)=!(s.all isV):=by
 show ∃i,zax stdW s=_∧_
 unfold zax
 refine loop_P (λo=>∃i:Int,o=some (i,())∧decide (0≤i)=!(s.all isV)) (λz=>s.length+1 - z.1.toNat) (λz=>∃j:Nat,j≤s.length∧z=((j:Int),())∧(s.take j).all isV=true) ⟨0,Nat.zero_le _,rfl,by simp⟩ (by show _ - (0:Int).toNat<_; omega) ?_
 rintro _ ⟨j,hj,rfl,hp⟩ again ha
 show ∃i,stdW.cnd (decide ((j:Int)<(s.length:Int))) _ _=_∧_
 by_cases h:j<s.length
 ·rw[cnd_lt h]
  show ∃i,stdW.idx s (j:Int) _=_∧_
  rw[idx_w h,zaa (r_none (hl _ (List.getElem_mem h)))]
  by_cases hv:isV s[j]=true
  ·rw[hv,cnd_n (by decide)]
   show ∃i,again (IntKind.i64.wrap ((j:Int)+1),())=_∧_
   rw[i64_s j (by omega)]
   refine ha _ ⟨j+1,by omega,rfl,?_⟩ (by show _ - ((j+1:Nat):Int).toNat<_ - ((j:Nat):Int).toNat; omega)
   rw[List.take_succ_eq_append_getElem h,List.all_append,hp]; simp[hv]
  ·have hv:isV s[j]=false:=by simpa using hv
   rw[hv,cnd_y (by decide)]
   refine⟨(j:Int),rfl,?_⟩
   have:s.all isV=false:=by
    rw[List.all_eq_false]
    exact⟨s[j],List.getElem_mem h,by simp[hv]⟩
   rw[this,decide_eq_true (by omega)]; rfl
 ·have:j=s.length:=by omega
  subst this
  rw[zah]
  rw[List.take_length]at hp
  exact⟨-1,rfl,by rw[hp]; rfl⟩
theorem r_cf{s:List (List Leg)}(hs:s.length≤1000000)(hl:∀l∈s,l.length≤1000000):zbh s=some (!(s.all isV),()):=by
 show zat stdW s=_
 unfold zat
 obtain⟨i,e,h⟩:=r_ix hs hl
 rw[zaa e]
 show some (decide (0≤i),())=_
 rw[h]
def sumV(l:List (List Leg))(k:Int):Int:=(l.map λv=>getV v k).sum
def addGo(l:List (List Leg)):List Int→List Leg→List Leg×Int×Unit
 |[],acc=>(acc,0,())
 |k::ks,acc=>if I64 (sumV l k) then (if sumV l k=0 then addGo l ks acc else addGo l ks (acc++[(k,sumV l k,())])) else ([],7,())
def addV(l:List (List Leg)):List Leg×Int×Unit:=if l.all isV=true then addGo l ks [] else ([],3,())
theorem ks_drop{j:Nat}(h:j<8):ks.drop j=((j:Int)+1)::ks.drop (j+1):=by
 have:j=0∨j=1∨j=2∨j=3∨j=4∨j=5∨j=6∨j=7:=by omega
 rcases this with rfl|rfl|rfl|rfl|rfl|rfl|rfl|rfl<;>rfl
theorem r_vadd{l:List (List Leg)}(hs:l.length≤1000)(hl:∀v∈l,v.length≤1000)(ho:∀v∈l,okL v):yha l=some (addV l):=by
 show zza stdW l=_
 unfold zza addV
 rw[zaa (r_cf (by omega) λv hv=>by have:=hl v hv; omega)]
 by_cases hv:l.all isV=true
 ·rw[hv,cnd_n (by decide),if_pos rfl]
  refine(zdm (λz=>10 - z.1.toNat) (λz=>∃(j:Nat) (acc:List Leg),j≤8∧acc.length≤j∧z=((j:Int)+1,(acc,()))) (λz=>some (addGo l (ks.drop (z.1.toNat - 1)) z.2.1)) ⟨0,[],by omega,Nat.le_refl _,rfl⟩ (by show 10 - (1:Int).toNat<_; omega) ?_)
  rintro _ ⟨j,acc,hj,hacc,rfl⟩ again ha
  have ej:(((j:Int)+1).toNat - 1)=j:=by omega
  show stdW.cnd (decide ((j:Int)+1≤8)) _ _=some (addGo l (ks.drop ((((j:Int)+1)).toNat - 1)) acc)
  rw[ej]
  by_cases h8:j<8
  ·rw[cnd_y (decide_eq_true (by omega)),ks_drop h8]
   refine join_g λk5 hk=>?_
   have kk:∀v:List Leg,v.length≤j+1→k5 (v,())=some (addGo l (ks.drop (j+1)) v):=by
    intro v hv
    subst hk
    show again (IntKind.i64.wrap ((j:Int)+1+1),(v,()))=_
    have e1:IntKind.i64.wrap ((j:Int)+1+1)=((j+1:Nat):Int)+1:=by rw[IntWalk.i64_in _ (by omega)]; omega
    rw[e1,ha _ ⟨j+1,v,by omega,hv,rfl⟩ (by show 10 - (((j+1:Nat):Int)+1).toNat<10 - ((j:Int)+1).toNat; omega)]
    show some (addGo l (ks.drop ((((j+1:Nat):Int)+1).toNat - 1)) v)=_
    rw[show (((j+1:Nat):Int)+1).toNat - 1=j+1 by omega]
   clear hk ha
   rw[addGo]
   have hall:∀x∈l.map (λv=>getV v ((j:Int)+1)),I64 x:=by
    intro x hx
    obtain⟨v,hv,rfl⟩:=List.mem_map.1 hx
    exact zxf (ho v hv) _
   refine zly (N:=l.length) (by omega) (λi=>((i:Int),(acc,((l.take i).map (λv=>getV v ((j:Int)+1)),())))) _ rfl ?_ ?_
   ·intro again2
    show stdW.cnd (decide ((l.length:Int)<(l.length:Int))) _ (stdW.call (zme ((l.take l.length).map λv=>getV v ((j:Int)+1))) _)=_
    rw[zah,List.take_length,zaa (r_fSum hall (by rw[List.length_map]; omega))]
    show stdW.cnd ((fits64 (sumV l ((j:Int)+1))).2.1 != 0) (some ([],(fits64 (sumV l ((j:Int)+1))).2)) (stdW.cnd ((fits64 (sumV l ((j:Int)+1))).1 != 0) (stdW.room (acc.length+1) 16 (k5 (acc++[((j:Int)+1,((fits64 (sumV l ((j:Int)+1))).1,()))],()))) (k5 (acc,())))=_
    unfold fits64
    by_cases hI:I64 (sumV l ((j:Int)+1))
    ·rw[if_pos hI,if_pos hI]
     show stdW.cnd ((0:Int) != 0) _ (stdW.cnd (sumV l ((j:Int)+1) != 0) (stdW.room (acc.length+1) 16 (k5 (acc++[((j:Int)+1,(sumV l ((j:Int)+1),()))],()))) (k5 (acc,())))=_
     rw[cnd_n (by decide)]
     by_cases h0:sumV l ((j:Int)+1)=0
     ·rw[cnd_n (by simp[h0]),if_pos h0]; exact kk acc (by omega)
     ·rw[cnd_y (by simp[h0]),if_neg h0,room_w (by omega) (by omega)]
      exact kk _ (by simp; omega)
    ·rw[if_neg hI,if_neg hI]
     show stdW.cnd ((7:Int) != 0) _ _=_
     rw[cnd_y (by decide)]
   ·intro i hi again2 ha2
    show stdW.cnd (decide ((i:Int)<(l.length:Int))) (stdW.idx l (i:Int) λx8=>stdW.call (ygz x8 ((j:Int)+1)) λv9=>stdW.room (((l.take i).map λv=>getV v ((j:Int)+1)).length+1) 8 (again2 (IntKind.i64.wrap ((i:Int)+1),(acc,(((l.take i).map λv=>getV v ((j:Int)+1))++[v9],()))))) _=_
    have h2:=hl _ (List.getElem_mem hi)
    rw[cnd_lt hi,idx_w hi,zaa (r_vget (by omega))]
    have:((l.take i).map λv=>getV v ((j:Int)+1)).length≤1000:=by rw[List.length_map,List.length_take]; omega
    rw[room_w (by omega) (by omega),i64_s i (by omega)]
    rw[List.take_succ_eq_append_getElem hi,List.map_append]at ha2
    exact ha2
  ·have:j=8:=by omega
   subst this
   rw[cnd_n (decide_eq_false (by omega))]
   rfl
 ·have hv:l.all isV=false:=by simpa using hv
  rw[hv,cnd_y (by decide),if_neg (by simp)]
theorem ykz(l:List (List Leg)):∀(us:List Int) (acc:List Leg),(addGo l us acc).2.1=0→
  (addGo l us acc).1=acc++(us.filter λu=>decide (sumV l u≠0)).map (λu=>((u,(sumV l u,())):Leg))∧∀u∈us,I64 (sumV l u)
 |[],acc,_=>by simp[addGo]
 |u::us,acc,h=>by
  unfold addGo at h ⊢
  by_cases hI:I64 (sumV l u)
  ·rw[if_pos hI]at h ⊢
   by_cases h0:sumV l u=0
   ·rw[if_pos h0]at h ⊢
    obtain⟨h1,h2⟩:=ykz l us _ h
    refine⟨?_,λx hx=>?_⟩
    ·rw[h1,List.filter_cons,if_neg (by simp[h0])]
    ·rcases List.mem_cons.1 hx with rfl|hx
     ·exact hI
     ·exact h2 x hx
   ·rw[if_neg h0]at h ⊢
    obtain⟨h1,h2⟩:=ykz l us _ h
    refine⟨?_,λx hx=>?_⟩
    ·rw[h1,List.filter_cons,if_pos (by simp[h0])]; simp
    ·rcases List.mem_cons.1 hx with rfl|hx
     ·exact hI
     ·exact h2 x hx
  ·rw[if_neg hI]at h; simp at h
def resV(f:Int→Int):List Leg:=(ks.filter λu=>decide (f u≠0)).map λu=>((u,(f u,())):Leg)
theorem yrn(f:Int→Int):(resV f).length≤8:=by
 unfold resV; rw[List.length_map]; exact Nat.le_trans (List.length_filter_le _ _) (by decide)
theorem ks_sorted:ks.Pairwise (· < ·):=by decide
theorem resV_V(f:Int→Int):VInv (resV f):=by
 refine⟨λx hx=>?_,?_⟩
 ·obtain⟨u,hu,rfl⟩:=List.mem_map.1 hx
  obtain⟨h1,h2⟩:=List.mem_filter.1 hu
  simp only[decide_eq_true_eq]at h2
  exact⟨(ks_mem u).1 h1,h2⟩
 ·unfold resV
  rw[List.map_map]
  have:((λx:Leg=>x.1) ∘ λu=>((u,(f u,())):Leg))=id:=rfl
  rw[this,List.map_id]
  exact ks_sorted.filter _
theorem ycz{l:List Leg}{k:Int}(h:∀x∈l,x.1≠k):getV l k=0:=by
 induction l with
 |nil=>rfl
 |cons x l ih=>rw[getV,if_neg (h x (by simp)),ih λy hy=>h y (by simp[hy])]
theorem ykc{l:List Leg}(h:VInv l){k:Int}(hk:k∉ks):getV l k=0:=by
 refine ycz λx hx e=>hk ?_
 rw[←e,ks_mem]; exact(h.1 x hx).1
theorem getV_map(f:Int→Int)(us:List Int)(k:Int):getV (us.map λu=>((u,(f u,())):Leg)) k=if k∈us then f k else 0:=by
 induction us with
 |nil=>rfl
 |cons u us ih=>
  rw[List.map_cons,getV,ih]
  by_cases h:u=k
  ·subst h; simp
  ·rw[if_neg h]
   by_cases hm:k∈us
   ·rw[if_pos hm,if_pos (by simp[hm])]
   ·rw[if_neg hm,if_neg (by simp[hm,Ne.symm h])]
theorem yhp(f:Int→Int)(k:Int)(hf:k∉ks→f k=0):getV (resV f) k=f k:=by
 unfold resV
 rw[getV_map]
 by_cases h:k∈ks
 ·by_cases h0:f k=0
  ·rw[if_neg (by simp[h0]),h0]
  ·rw[if_pos (by simp[h,h0])]
 ·rw[if_neg (by simp[h]),hf h]
theorem yrf{α:Type}{lt:α→α→Prop}(irr:∀a,¬lt a a)(tr:∀a b c,lt a b→lt b c→lt a c):∀{l m:List α},l.Pairwise lt→m.Pairwise lt→(∀x,x∈l↔x∈m)→l=m
 |[],[],_,_,_=>rfl
 |[],b::m,_,_,h=>absurd ((h b).2 (by simp)) (by simp)
 |a::l,[],_,_,h=>absurd ((h a).1 (by simp)) (by simp)
 |a::l,b::m,hl,hm,h=>by
  obtain⟨h1,h2⟩:=List.pairwise_cons.1 hl
  obtain⟨h3,h4⟩:=List.pairwise_cons.1 hm
  have hab:a=b:=by
   rcases List.mem_cons.1 ((h a).1 (by simp)) with e|e
   ·exact e
   ·rcases List.mem_cons.1 ((h b).2 (by simp)) with e'|e'
    ·exact e'.symm
    ·exact absurd (tr _ _ _ (h3 a e) (h1 b e')) (irr b)
  subst hab
  congr 1
  refine yrf irr tr h2 h4 λx=>?_
  constructor
  ·intro hx
   rcases List.mem_cons.1 ((h x).1 (by simp[hx])) with e|e
   ·subst e; exact absurd (h1 x hx) (irr x)
   ·exact e
  ·intro hx
   rcases List.mem_cons.1 ((h x).2 (by simp[hx])) with e|e
   ·subst e; exact absurd (h3 x hx) (irr x)
   ·exact e
theorem V_keys{l:List Leg}(hn:(l.map (·.1)).Nodup):l=(l.map (·.1)).map λu=>((u,(getV l u,())):Leg):=by
 induction l with
 |nil=>rfl
 |cons x l ih=>
  obtain⟨h1,h2⟩:=List.nodup_cons.1 hn
  rw[List.map_cons,List.map_cons,getV,if_pos rfl]
  congr 1
  have:(l.map (·.1)).map (λu=>((u,(getV (x::l) u,())):Leg))=(l.map (·.1)).map λu=>((u,(getV l u,())):Leg):=by
   refine List.map_congr_left λu hu=>?_
   rw[getV,if_neg λe=>h1 (by show x.1∈_; rw[e]; exact hu)]
  rw[this]; exact ih h2
theorem V_mem{l:List Leg}(h:VInv l)(u:Int):u∈l.map (·.1)↔getV l u≠0:=by
 constructor
 ·intro hu e
  obtain⟨x,hx,rfl⟩:=List.mem_map.1 hu
  have h2:=V_keys (V_nd h)
  have h3:=(h.1 x hx).2
  rw[h2]at hx
  obtain⟨v,hv,hvx⟩:=List.mem_map.1 hx
  rw[←hvx]at h3 e
  exact h3 e
 ·intro hu
  refine Classical.byContradiction λhn=>hu (ycz λx hx e=>hn (List.mem_map.2 ⟨x,hx,e⟩))
theorem V_ext{a b:List Leg}(ha:VInv a)(hb:VInv b)(h:∀u,getV a u=getV b u):a=b:=by
 have e:a.map (·.1)=b.map (·.1):=yrf (lt:=λx y:Int=>x<y) (λa=>Int.lt_irrefl a) (λa b c=>Int.lt_trans) ha.2 hb.2 λu=>by rw[V_mem ha,V_mem hb,h]
 rw[V_keys (V_nd ha),V_keys (V_nd hb),e]
 exact List.map_congr_left λu _=>by rw[h]
theorem addV_ok{l:List (List Leg)}(h:(addV l).2.1=0):l.all isV=true∧(addV l).1=resV (sumV l)∧(∀k∈ks,I64 (sumV l k))∧∀k,getV (addV l).1 k=sumV l k:=by
 unfold addV at h ⊢
 by_cases hv:l.all isV=true
 ·rw[if_pos hv]at h ⊢
  obtain⟨h1,h2⟩:=ykz l ks [] h
  rw[List.nil_append]at h1
  refine⟨hv,h1,h2,λk=>?_⟩
  rw[h1]
  refine yhp _ k λhk=>?_
  unfold sumV
  have:∀x∈l.map (λv=>getV v k),x=0:=by
   intro x hx
   obtain⟨v,hv',rfl⟩:=List.mem_map.1 hx
   exact ykc (of_decide_eq_true (List.all_eq_true.1 hv v hv')) hk
  clear h h1 h2
  generalize l.map (λv=>getV v k)=m at this
  induction m with
  |nil=>rfl
  |cons x m ih=>rw[List.sum_cons,this x (by simp),ih λy hy=>this y (by simp[hy])]; rfl
 ·rw[if_neg hv]at h; simp at h
def ofB:List APos'→AUnit'→List Leg
 |[],_=>[]
 |p::l,u=>if p.1=u then p.2.1 else ofB l u
theorem yrt{s:List Leg}(h:s.length≤1000000):zbn s=some s:=by
 show zbw stdW s=_
 unfold zbw
 rw[nilq_w]
 refine yjn ?_ λhe=>?_
 ·show stdW.cnd (notIf false false) _ _=_
  rw[cnd_n (by decide),room_w (by omega) (by omega)]; rfl
 ·have:s=[]:=by simpa using he
  subst this; rfl
theorem r_bof{l:List APos'}{u:AUnit'}(hb:okB l):zod l u=some (ofB l u):=by
 have hl:=hb.2
 show yak stdW l u=_
 unfold yak
 refine zbp (l:=l) (by omega) (s0:=()) (λ_ _=>True) (λl' _=>some (ofB l' u)) trivial ?_ ?_
 ·rintro _ again _
  rw[zah]; rfl
 ·rintro i hi _ _ again ha
  have h2:=(hb.1 _ (List.getElem_mem hi)).2
  rw[cnd_lt hi,idx_w hi,nif_f,eqA]
  show _=some (ofB (l[i]::l.drop (i+1)) u)
  rw[ofB]
  by_cases h:l[i].1=u
  ·rw[cnd_y (decide_eq_true h),if_pos h,zaa (yrt (by omega))]
  ·rw[cnd_n (decide_eq_false h),if_neg h]
   show again (IntKind.i64.wrap ((i:Int)+1),())=_
   rw[i64_s i (by omega)]
   exact ha _ trivial
theorem r_copied{l:List APos'}(hb:okB l):zsi l=some l:=by
 have hl:=hb.2
 show zig stdW l=_
 unfold zig
 refine zly (N:=l.length) (by omega) (λi=>((i:Int),(l.take i,()))) _ rfl ?_ ?_
 ·intro again
  show stdW.cnd (decide ((l.length:Int)<(l.length:Int))) _ (some (l.take l.length))=_
  rw[zah,List.take_length]
 ·intro i hi again ha
  have h2:=(hb.1 _ (List.getElem_mem hi)).2
  show stdW.cnd (decide ((i:Int)<(l.length:Int))) (stdW.idx l (i:Int) λx3=>stdW.call (zbn x3.2.1) λv4=>stdW.room ((l.take i).length+1) 40 (again (IntKind.i64.wrap ((i:Int)+1),(l.take i++[(x3.1,(v4,()))],())))) _=_
  have:(l.take i).length≤100:=by rw[List.length_take]; omega
  rw[cnd_lt hi,idx_w hi,zaa (yrt (by omega)),room_w (by omega) (by omega),i64_s i (by omega)]
  rw[List.take_succ_eq_append_getElem hi]at ha
  exact ha
def lowB(u:AUnit')(l:List APos'):List APos':=l.filter λp=>decide (ltA p.1 u)
def midB(u:AUnit')(l:List APos'):List APos':=l.filter λp=>decide (p.1=u)
def highB(u:AUnit')(l:List APos'):List APos':=l.filter λp=>decide (ltA u p.1)
theorem zdn{α:Type}{f:α→Bool}{l:List α}(h:∀x∈l,f x=false):l.filter f=[]:=List.filter_eq_nil_iff.2 λx hx=>by simp[h x hx]
theorem zin{α:Type}{f:α→Bool}{l:List α}(h:∀x∈l,f x=true):l.filter f=l:=List.filter_eq_self.2 h
theorem cutB(u:AUnit'):∀{l:List APos'},SrtA (l.map (·.1))→l=lowB u l++(midB u l++highB u l)
 |[],_=>rfl
 |p::l,h=>by
  obtain⟨h1,h2⟩:=List.pairwise_cons.1 h
  have h1:∀x∈l,ltA p.1 x.1:=λx hx=>h1 _ (List.mem_map_of_mem hx)
  have ih:=cutB u (l:=l) h2
  unfold lowB midB highB at ih ⊢
  rw[List.filter_cons,List.filter_cons,List.filter_cons]
  by_cases hp:ltA p.1 u
  ·have e1:¬p.1=u:=λe=>zcd u (by rw[e]at hp; exact hp)
   have e2:¬ltA u p.1:=λe=>ltA_as hp e
   rw[if_pos (by simpa using hp),if_neg (by simpa using e1),if_neg (by simpa using e2),List.cons_append,←ih]
  ·by_cases hu:p.1=u
   ·have e2:¬ltA u p.1:=by rw[hu]; exact zcd u
    have a1:∀x∈l,decide (ltA x.1 u)=false:=λx hx=>decide_eq_false λe=>ltA_as e (by rw[←hu]; exact h1 x hx)
    have a2:∀x∈l,decide (x.1=u)=false:=λx hx=>decide_eq_false λe=>zcd u (by have:=h1 x hx; rw[hu,e]at this; exact this)
    have a3:∀x∈l,decide (ltA u x.1)=true:=λx hx=>decide_eq_true (by rw[←hu]; exact h1 x hx)
    rw[if_neg (by simpa using hp),if_pos (by simpa using hu),if_neg (by simpa using e2),zdn a1,zdn a2,zin a3]; rfl
   ·have e2:ltA u p.1:=Classical.byContradiction λhn=>hu (znq hp hn)
    have a1:∀x∈l,decide (ltA x.1 u)=false:=λx hx=>decide_eq_false λe=>ltA_as (ltA_tr e2 (h1 x hx)) e
    have a2:∀x∈l,decide (x.1=u)=false:=λx hx=>decide_eq_false λe=>zcd u (by have:=ltA_tr e2 (h1 x hx); rw[e]at this; exact this)
    have a3:∀x∈l,decide (ltA u x.1)=true:=λx hx=>decide_eq_true (ltA_tr e2 (h1 x hx))
    rw[if_neg (by simpa using hp),if_neg (by simpa using hu),if_pos (by simpa using e2),zdn a1,zdn a2,zin a3]; rfl
theorem B_nd{l:List APos'}(h:SrtA (l.map (·.1))):(l.map (·.1)).Nodup:=srt_nd h
theorem yjj{l:List APos'}(h:(l.map (·.1)).Nodup){p:APos'}(hp:p∈l):ofB l p.1=p.2.1:=by
 induction l with
 |nil=>cases hp
 |cons x l ih=>
  obtain⟨h1,h2⟩:=List.nodup_cons.1 h
  rw[ofB]
  rcases List.mem_cons.1 hp with rfl|hp
  ·rw[if_pos rfl]
  ·rw[if_neg λe=>h1 (by show x.1∈_; rw[e]; exact List.mem_map_of_mem hp),ih h2 hp]
theorem zzk{l:List APos'}{u:AUnit'}(h:∀p∈l,p.1≠u):ofB l u=[]:=by
 induction l with
 |nil=>rfl
 |cons x l ih=>rw[ofB,if_neg (h x (by simp)),ih λy hy=>h y (by simp[hy])]
theorem ycg{l:List APos'}(h:SrtA (l.map (·.1)))(u:AUnit'):(midB u l=[]∧(∀p∈l,p.1≠u)∧ofB l u=[])∨(midB u l=[(u,(ofB l u,()))]∧(u,(ofB l u,()))∈l):=by
 by_cases hex:∃p∈l,p.1=u
 ·right
  obtain⟨p,hp,rfl⟩:=hex
  have e:=yjj (B_nd h) hp
  have ep:((p.1,(ofB l p.1,())):APos')=p:=by rw[e]
  rw[ep]
  refine⟨?_,hp⟩
  have hn:=B_nd h
  clear h e ep
  induction l with
  |nil=>cases hp
  |cons x l ih=>
   obtain⟨h1,h2⟩:=List.nodup_cons.1 hn
   unfold midB at ih ⊢
   rw[List.filter_cons]
   rcases List.mem_cons.1 hp with rfl|hp
   ·rw[if_pos (by simp),zdn λy hy=>decide_eq_false λe=>h1 (by show p.1∈_; rw[←e]; exact List.mem_map_of_mem hy)]
   ·rw[if_neg (by simpa using λe=>h1 (by show x.1∈_; rw[e]; exact List.mem_map_of_mem hp)),ih hp h2]
 ·left
  have hne:∀p∈l,p.1≠u:=λp hp e=>hex ⟨p,hp,e⟩
  exact⟨zdn λp hp=>decide_eq_false (hne p hp),hne,zzk hne⟩
def hasU(l:List APos')(u:AUnit'):Bool:=!(midB u l).isEmpty
theorem r_place{l:List APos'}{u:AUnit'}(hb:okB l)(h:SrtA (l.map (·.1))):zxr l u=some (((lowB u l).length:Int),(hasU l u,())):=by
 have hl:=hb.2
 have hc:=cutB u h
 show zmu stdW l u=_
 unfold zmu
 have hlow:∀p∈lowB u l,ltA p.1 u:=λp hp=>by simpa using(List.mem_filter.1 hp).2
 have hrest:∀p∈midB u l++highB u l,¬ltA p.1 u:=λp hp=>by
  rcases List.mem_append.1 hp with hp|hp
  ·have:p.1=u:=by simpa using(List.mem_filter.1 hp).2
   rw[this]; exact zcd u
  ·have:ltA u p.1:=by simpa using(List.mem_filter.1 hp).2
   exact λe=>ltA_as this e
 have hll:(lowB u l).length+(midB u l++highB u l).length=l.length:=by rw[←List.length_append,←hc]
 have hget1:∀i (hi:i<l.length),i<(lowB u l).length→ltA l[i].1 u:=λi hi hlt=>by
  refine hlow _ ?_
  have:l[i]?=(lowB u l++(midB u l++highB u l))[i]?:=by rw[←hc]
  rw[List.getElem?_append_left hlt,List.getElem?_eq_getElem hi,List.getElem?_eq_getElem hlt]at this
  rw[Option.some.inj this]; exact List.getElem_mem hlt
 have hget2:∀(hi:(lowB u l).length<l.length),(midB u l++highB u l)[0]?=some l[(lowB u l).length]:=λhi=>by
  have:l[(lowB u l).length]?=(lowB u l++(midB u l++highB u l))[(lowB u l).length]?:=by rw[←hc]
  rw[List.getElem?_append_right (Nat.le_refl _),Nat.sub_self,List.getElem?_eq_getElem hi]at this
  exact this.symm
 refine(zdm (λz=>l.length+1 - z.1.toNat) (λz=>∃i:Nat,i≤(lowB u l).length∧z=((i:Int),())) (λ_=>some (((lowB u l).length:Int),(hasU l u,()))) ⟨0,Nat.zero_le _,rfl⟩ (by show _ - (0:Int).toNat<_; omega) ?_)
 rintro _ ⟨i,hi,rfl⟩ again ha
 show stdW.cnd (decide ((i:Int)<(l.length:Int))) (stdW.idx l (i:Int) _) (some ((l.length:Int),(false,())))=_
 by_cases hlt:i<(lowB u l).length
 ·have hil:i<l.length:=by omega
  rw[cnd_lt hil,idx_w hil,zaa (zwj _ _),decide_eq_true (hget1 i hil hlt),cnd_n (by decide)]
  show again (IntKind.i64.wrap ((i:Int)+1),())=_
  rw[i64_s i (by omega)]
  exact ha _ ⟨i+1,by omega,rfl⟩ (by show _ - ((i+1:Nat):Int).toNat<_ - ((i:Nat):Int).toNat; omega)
 ·have hie:i=(lowB u l).length:=by omega
  by_cases hil:i<l.length
  ·subst hie
   have h0:=hget2 hil
   have hm:=hrest l[(lowB u l).length] (List.mem_of_getElem? h0)
   rw[cnd_lt hil,idx_w hil,zaa (zwj _ _),decide_eq_false hm,cnd_y (by decide),nif_f,eqA]
   congr 3
   unfold hasU
   cases hmid:midB u l with
   |nil=>
    rw[hmid,List.nil_append]at h0
    have:=List.mem_of_getElem? h0
    have:ltA u l[(lowB u l).length].1:=by simpa using(List.mem_filter.1 this).2
    rw[decide_eq_false λe=>zcd u (by rw[e]at this; exact this)]; rfl
   |cons p m=>
    rw[hmid]at h0
    have e:p=l[(lowB u l).length]:=by simpa using h0
    have hp:p∈midB u l:=by rw[hmid]; simp
    have:p.1=u:=by simpa using(List.mem_filter.1 hp).2
    rw[←e,decide_eq_true this]; rfl
  ·have hil':i=l.length:=by omega
   have:midB u l++highB u l=[]:=List.eq_nil_of_length_eq_zero (by omega)
   have hm:midB u l=[]:=(List.append_eq_nil_iff.1 this).1
   rw[cnd_n (decide_eq_false (by omega))]
   unfold hasU
   rw[hm,←hie,hil']; rfl
def putB(l:List APos')(u:AUnit')(now:List Leg):List APos':=lowB u l++((if now=[] then [] else [(u,(now,()))])++highB u l)
theorem ysc{l:List APos'}(h:SrtA (l.map (·.1)))(u:AUnit')(now:List Leg):(putB l u now).length≤l.length+1:=by
 have hc:=congrArg List.length (cutB u h)
 unfold putB
 rw[List.length_append,List.length_append]at hc
 rw[List.length_append,List.length_append]
 split<;>simp<;>omega
theorem zpo{l:List APos'}{u:AUnit'}{now:List Leg}{p:APos'}:p∈putB l u now↔(p∈l∧p.1≠u)∨(now≠[]∧p=(u,(now,()))):=by
 unfold putB lowB highB
 rw[List.mem_append,List.mem_append,List.mem_filter,List.mem_filter]
 constructor
 ·rintro(⟨h1,h2⟩|h|⟨h1,h2⟩)
  ·exact .inl ⟨h1,λe=>zcd u (by simp only[decide_eq_true_eq]at h2; rw[e]at h2; exact h2)⟩
  ·split at h
   ·cases h
   ·rename_i hn; exact .inr ⟨hn,by simpa using h⟩
  ·exact .inl ⟨h1,λe=>zcd u (by simp only[decide_eq_true_eq]at h2; rw[e]at h2; exact h2)⟩
 ·rintro(⟨h1,h2⟩|⟨hn,rfl⟩)
  ·by_cases hlt:ltA p.1 u
   ·exact .inl ⟨h1,by simpa using hlt⟩
   ·by_cases hgt:ltA u p.1
    ·exact .inr (.inr ⟨h1,by simpa using hgt⟩)
    ·exact absurd (znq hlt hgt) h2
  ·rw[if_neg hn]; exact .inr (.inl (by simp))
theorem ysb{l:List APos'}(h:SrtA (l.map (·.1)))(u:AUnit')(now:List Leg):SrtA ((putB l u now).map (·.1)):=by
 unfold putB
 rw[List.map_append,List.map_append]
 have hlow:∀x∈(lowB u l).map (·.1),ltA x u:=λx hx=>by
  obtain⟨p,hp,rfl⟩:=List.mem_map.1 hx
  simpa using(List.mem_filter.1 hp).2
 have hhigh:∀x∈(highB u l).map (·.1),ltA u x:=λx hx=>by
  obtain⟨p,hp,rfl⟩:=List.mem_map.1 hx
  simpa using(List.mem_filter.1 hp).2
 have s1:SrtA ((lowB u l).map (·.1)):=List.Pairwise.sublist ((List.filter_sublist).map _) h
 have s2:SrtA ((highB u l).map (·.1)):=List.Pairwise.sublist ((List.filter_sublist).map _) h
 have hmid:∀x∈(if now=[] then ([]:List APos') else [(u,(now,()))]).map (·.1),x=u:=λx hx=>by
  split at hx
  ·cases hx
  ·simpa using hx
 refine List.pairwise_append.2 ⟨s1,List.pairwise_append.2 ⟨?_,s2,λa ha b hb=>?_⟩,λa ha b hb=>?_⟩
 ·split<;>simp
 ·rw[hmid a ha]; exact hhigh b hb
 ·rcases List.mem_append.1 hb with hb|hb
  ·rw[hmid b hb]; exact hlow a ha
  ·exact ltA_tr (hlow a ha) (hhigh b hb)
theorem putB_B{l:List APos'}(h:BInv l)(u:AUnit'){now:List Leg}(hv:VInv now):BInv (putB l u now):=
 ⟨λp hp=>by
  rcases zpo.1 hp with ⟨h1,_⟩|⟨hn,rfl⟩
  ·exact h.1 p h1
  ·exact⟨hn,hv⟩,ysb h.2 u now⟩
theorem putB_of{l:List APos'}(h:SrtA (l.map (·.1)))(u:AUnit')(now:List Leg)(x:AUnit'):ofB (putB l u now) x=if x=u then now else ofB l x:=by
 have hn:=B_nd (ysb h u now)
 by_cases hx:x=u
 ·subst hx
  rw[if_pos rfl]
  by_cases h0:now=[]
  ·rw[h0]
   refine zzk λp hp=>?_
   rcases zpo.1 hp with ⟨_,h2⟩|⟨h2,_⟩
   ·exact h2
   ·exact absurd rfl h2
  ·exact yjj hn (p:=(x,(now,()))) (zpo.2 (.inr ⟨h0,rfl⟩))
 ·rw[if_neg hx]
  by_cases hex:∃p∈l,p.1=x
  ·obtain⟨p,hp,rfl⟩:=hex
   rw[yjj (B_nd h) hp,yjj hn (zpo.2 (.inl ⟨hp,hx⟩))]
  ·have hne:∀p∈l,p.1≠x:=λp hp e=>hex ⟨p,hp,e⟩
   rw[zzk hne]
   refine zzk λp hp=>?_
   rcases zpo.1 hp with ⟨h1,_⟩|⟨_,rfl⟩
   ·exact hne p h1
   ·exact Ne.symm hx
theorem opn_put{l:List APos'}(h:SrtA (l.map (·.1)))(u:AUnit')(now:List Leg)(k:Int):opnZ (putB l u now) k=opnZ l k - getV (ofB l u) k+getV now k:=by
 have e:opnZ l k=opnZ (lowB u l) k+(opnZ (midB u l) k+opnZ (highB u l) k):=by
  have:=congrArg (λm=>opnZ m k) (cutB u h)
  unfold opnZ at this ⊢
  rw[zsu,zsu]at this
  exact this
 have e2:opnZ (midB u l) k=getV (ofB l u) k:=by
  rcases ycg h u with ⟨h1,_,h3⟩|⟨h1,_⟩
  ·rw[h1,h3]; rfl
  ·rw[h1]; show getV (ofB l u) k+0=_; omega
 have e3:opnZ (putB l u now) k=opnZ (lowB u l) k+(getV now k+opnZ (highB u l) k):=by
  unfold putB opnZ
  rw[zsu,zsu]
  by_cases h0:now=[]
  ·rw[if_pos h0,h0]; rfl
  ·rw[if_neg h0]
   show _+((getV now k+0)+_)=_; omega
 rw[e3,e,e2]; omega
def shiftP(l:List APos')(u:AUnit')(legs:List Leg):List APos'×Int×Unit:=
 if isB l=true then (if (addV [ofB l u,legs]).2.1=0 then (putB l u (addV [ofB l u,legs]).1,(0,())) else ([],(addV [ofB l u,legs]).2)) else ([],(3,()))
theorem ofB_ok{l:List APos'}(hb:okB l)(u:AUnit'):okL (ofB l u)∧(ofB l u).length≤100:=by
 have:∀l:List APos',(∀p∈l,okL p.2.1∧p.2.1.length≤100)→okL (ofB l u)∧(ofB l u).length≤100:=by
  intro l
  induction l with
  |nil=>intro _; exact⟨(λx hx=>by cases hx),by simp[ofB]⟩
  |cons p l ih=>
   intro h
   rw[ofB]
   split
   ·exact h p (by simp)
   ·exact ih λq hq=>h q (by simp[hq])
 exact this l hb.1
theorem r_shift{l:List APos'}{u:AUnit'}{legs:List Leg}(hb:okB l)(hl:l.length≤90)(ho:okL legs)(hg:legs.length≤100):zqt l u legs=some (shiftP l u legs):=by
 show zmv stdW l u legs=_
 unfold zmv shiftP
 rw[zaa (r_isB hb)]
 by_cases hp:isB l=true
 ·have hB:BInv l:=of_decide_eq_true hp
  obtain⟨h1,h2⟩:=ofB_ok hb u
  rw[hp,cnd_n (by decide),if_pos rfl,zaa (r_bof hb),zaa (r_vadd (l:=[ofB l u,legs]) (by simp) (λv hv=>by
   simp only[List.mem_cons,List.not_mem_nil,or_false]at hv
   rcases hv with rfl|rfl<;>omega) (λv hv=>by
   simp only[List.mem_cons,List.not_mem_nil,or_false]at hv
   rcases hv with rfl|rfl
   ·exact h1
   ·exact ho))]
  by_cases he:(addV [ofB l u,legs]).2.1=0
  ·have hnow:=(addV_ok he).2.1
   have hnl:=yrn (sumV [ofB l u,legs])
   rw[←hnow]at hnl
   rw[cnd_n (by simp[he]),if_pos he,zaa (r_place hb hB.2),zaa (r_copied hb)]
   have hc:=cutB u hB.2
   have hcl:=congrArg List.length hc
   rw[List.length_append,List.length_append]at hcl
   refine join_g λk10 hk=>?_
   have kk:∀o:List APos',o=lowB u l++highB u l→k10 ((addV [ofB l u,legs]).1,(o,()))=some (putB l u (addV [ofB l u,legs]).1,(0,())):=by
    intro o ho'
    subst hk
    refine join_g λk8 hk8=>?_
    have k8':∀o',k8 (o',())=some (o',(0,())):=by intro o'; subst hk8; rfl
    clear hk8
    show stdW.cnd (decide ((0:Int)<((addV [ofB l u,legs]).1.length:Int))) (stdW.call (insO o ((lowB u l).length:Int) [(u,((addV [ofB l u,legs]).1,()))]) λv9=>k8 (v9.1,())) (k8 (o,()))=_
    unfold putB
    by_cases h0:(addV [ofB l u,legs]).1=[]
    ·rw[cnd_n (decide_eq_false (by rw[h0]; simp)),k8',if_pos h0,ho']; rfl
    ·have hpos:0<(addV [ofB l u,legs]).1.length:=List.length_pos_iff.2 h0
     have e:insO o ((lowB u l).length:Int) [(u,((addV [ofB l u,legs]).1,()))]=some (lowB u l++(u,((addV [ofB l u,legs]).1,()))::highB u l,()):=by
      unfold insO
      rw[ho',if_pos ⟨by omega,by rw[List.length_append]; omega,by rw[List.length_append]; omega⟩]
      show some ((lowB u l++highB u l).take ((lowB u l).length:Int).toNat++_::(lowB u l++highB u l).drop ((lowB u l).length:Int).toNat,())=_
      rw[Int.toNat_natCast,List.take_left,List.drop_left]
     rw[cnd_y (decide_eq_true (by omega)),zaa e,if_neg h0]
     exact k8' _
   clear hk
   show stdW.cnd (hasU l u) (stdW.call (delO l ((lowB u l).length:Int) (IntKind.i64.wrap (((lowB u l).length:Int)+1))) λv11=>k10 ((addV [ofB l u,legs]).1,(v11.1,()))) (k10 ((addV [ofB l u,legs]).1,(l,())))=_
   rcases ycg hB.2 u with ⟨h3,_,_⟩|⟨h3,_⟩
   ·rw[cnd_n (by unfold hasU; rw[h3]; rfl)]
    rw[h3,List.nil_append]at hc
    exact kk l hc
   ·rw[h3]at hc hcl
    rw[cnd_y (by unfold hasU; rw[h3]; rfl),i64_s _ (by simp at hcl; omega)]
    have e:delO l ((lowB u l).length:Int) (((lowB u l).length+1:Nat):Int)=some (lowB u l++highB u l,()):=by
     unfold delO
     rw[if_pos ⟨by omega,by omega,by simp at hcl; omega⟩,Int.toNat_natCast,Int.toNat_natCast]
     congr 2
     have e1:l.take (lowB u l).length=lowB u l:=by
      have:=congrArg (List.take (lowB u l).length) hc
      rwa [List.take_left]at this
     have e2:l.drop ((lowB u l).length+1)=highB u l:=by
      have:=congrArg (List.drop ((lowB u l).length+1)) hc
      rw[List.drop_append,List.drop_eq_nil_of_le (Nat.le_succ _),Nat.add_sub_cancel_left]at this
      exact this
     rw[e1,e2]
    rw[zaa e]
    exact kk _ rfl
  ·rw[cnd_y (by simp[he]),if_neg he]
 ·have hp:isB l=false:=by simpa using hp
  rw[hp,cnd_y (by decide),if_neg (by simp)]
structure ShOk(l l':List APos')(u:AUnit')(legs:List Leg):Prop where
 inv:BInv l
 inv':BInv l'
 other:∀x,x≠u→ofB l' x=ofB l x
 own:∀j,getV (ofB l' u) j=getV (ofB l u) j+getV legs j
 opn:∀j,opnZ l' j=opnZ l j+getV legs j
 len:l'.length≤l.length+1
 ok:okB l→l.length≤99→okB l'
theorem sumV2(a b:List Leg)(k:Int):sumV [a,b] k=getV a k+getV b k:=by
 show getV a k+(getV b k+0)=_; omega
theorem zzb{l:List APos'}{u:AUnit'}{legs:List Leg}(h:(shiftP l u legs).2.1=0):ShOk l (shiftP l u legs).1 u legs:=by
 unfold shiftP at h ⊢
 by_cases hp:isB l=true
 ·have hB:BInv l:=of_decide_eq_true hp
  rw[if_pos hp]at h ⊢
  by_cases he:(addV [ofB l u,legs]).2.1=0
  ·rw[if_pos he]at h ⊢
   obtain⟨h1,h2,h3,h4⟩:=addV_ok he
   have hV:VInv (addV [ofB l u,legs]).1:=by rw[h2]; exact resV_V _
   refine⟨hB,putB_B hB u hV,λx hx=>by rw[putB_of hB.2,if_neg hx],λj=>by rw[putB_of hB.2,if_pos rfl,h4,sumV2],λj=>by rw[opn_put hB.2,h4,sumV2]; omega,ysc hB.2 u _,λhb hl=>⟨λp hp=>?_,by show (putB l u (addV [ofB l u,legs]).1).length≤100; have:=ysc hB.2 u (addV [ofB l u,legs]).1; omega⟩⟩
   rcases zpo.1 hp with ⟨h5,_⟩|⟨_,rfl⟩
   ·exact hb.1 p h5
   ·refine⟨λx hx=>?_,?_⟩
    ·show I64 x.2.1
     have hx:x∈(addV [ofB l u,legs]).1:=hx
     rw[h2]at hx
     obtain⟨v,hv,rfl⟩:=List.mem_map.1 hx
     exact h3 v (List.mem_filter.1 hv).1
    ·show (addV [ofB l u,legs]).1.length≤100
     rw[h2]; exact Nat.le_trans (yrn _) (by decide)
  ·rw[if_neg he]at h; exact absurd h he
 ·rw[if_neg hp]at h; simp at h
theorem r_same11{a:List Leg}(hl:a.length≤1000000):zwh a a=some true:=by
 show zld stdW a a=_
 unfold zld
 rw[cnd_n (by simp)]
 refine zbp (l:=a) (by omega) (s0:=()) (λ_ _=>True) (λ_ _=>some true) trivial ?_ ?_
 ·rintro _ again _
  rw[zah]
 ·rintro i hi _ _ again ha
  rw[cnd_lt hi,idx_w hi,idx_w hi,nif_t,cnd_n (by simp)]
  show again (IntKind.i64.wrap ((i:Int)+1),())=_
  rw[i64_s i (by omega)]
  exact ha _ trivial
theorem r_same19{a:List APos'}(hb:okB a):zoq a a=some true:=by
 have hl:=hb.2
 show zkj stdW a a=_
 unfold zkj
 rw[cnd_n (by simp)]
 refine zbp (l:=a) (by omega) (s0:=()) (λ_ _=>True) (λ_ _=>some true) trivial ?_ ?_
 ·rintro _ again _
  rw[zah]
 ·rintro i hi _ _ again ha
  have h2:=(hb.1 _ (List.getElem_mem hi)).2
  rw[cnd_lt hi]
  refine join_g λk hk=>?_
  have kf:k (false,())=some true:=by
   subst hk
   show stdW.cnd false _ (again (IntKind.i64.wrap ((i:Int)+1),()))=_
   rw[cnd_n rfl,i64_s i (by omega)]
   exact ha _ trivial
  clear hk
  show stdW.idx a (i:Int) _=_
  rw[idx_w hi,idx_w hi,nif_t,cnd_n (by simp),idx_w hi,idx_w hi,zaa (r_same11 (by omega))]
  exact kf
theorem ofB_V{l:List APos'}(h:BInv l)(u:AUnit'):VInv (ofB l u):=by
 rcases ycg h.2 u with ⟨_,_,h3⟩|⟨_,h3⟩
 ·rw[h3]; exact⟨λx hx=>(by cases hx),by simp⟩
 ·exact(h.1 _ h3).2
theorem ykd{p:List AFlow'}(h:okF p)(u:AUnit'):I64 (getP p u):=by
 induction p with
 |nil=>show I64 0; unfold I64; omega
 |cons x p ih=>
  rw[getP]
  split
  ·exact h x (by simp)
  ·exact ih λy hy=>h y (by simp[hy])
def goV(f:Int→Int):List Int→List Leg→List Leg×Int×Unit
 |[],acc=>(acc,0,())
 |k::us,acc=>if I64 (f k) then (if f k=0 then goV f us acc else goV f us (acc++[(k,f k,())])) else ([],7,())
theorem ykb(l:List (List Leg)):∀(us:List Int) (acc:List Leg),goV (sumV l) us acc=addGo l us acc
 |[],_=>rfl
 |k::us,acc=>by
  rw[goV,addGo,ykb l us,ykb l us]
def shGo(u:AUnit')(now:List Leg):List APos'→Bool→List APos'→List APos'
 |[],d,out=>if d=true then out else out++[(u,(now,()))]
 |p::l,d,out=>
  if d=true∨ltA p.1 u then (if p.1=u then shGo u now l d out else shGo u now l d (out++[p]))
  else (if p.1=u then shGo u now l true (out++[(u,(now,()))]) else shGo u now l true (out++[(u,(now,()))]++[p]))
theorem shGo_t(u:AUnit')(now:List Leg):∀(l out:List APos'),shGo u now l true out=out++l.filter λp=>decide (p.1≠u)
 |[],out=>by rw[shGo,if_pos rfl,List.filter_nil,List.append_nil]
 |p::l,out=>by
  rw[shGo,if_pos (.inl rfl),List.filter_cons]
  by_cases h:p.1=u
  ·rw[if_pos h,shGo_t u now l,if_neg (by simpa using h)]
  ·rw[if_neg h,shGo_t u now l,if_pos (by simpa using h),List.append_assoc]; rfl
theorem ne_cut{u:AUnit'}{l:List APos'}(h:SrtA (l.map (·.1))):(l.filter λp=>decide (p.1≠u))=lowB u l++highB u l:=by
 have e:=cutB u h
 have a1:(lowB u l).filter (λp=>decide (p.1≠u))=lowB u l:=zin λx hx=>decide_eq_true λe=>by
  have:=(List.mem_filter.1 hx).2
  simp only[decide_eq_true_eq]at this
  rw[e]at this; exact zcd u this
 have a2:(midB u l).filter (λp=>decide (p.1≠u))=[]:=zdn λx hx=>decide_eq_false λhn=>by
  have:=(List.mem_filter.1 hx).2
  simp only[decide_eq_true_eq]at this
  exact hn this
 have a3:(highB u l).filter (λp=>decide (p.1≠u))=highB u l:=zin λx hx=>decide_eq_true λe=>by
  have:=(List.mem_filter.1 hx).2
  simp only[decide_eq_true_eq]at this
  rw[e]at this; exact zcd u this
 calc (l.filter λp=>decide (p.1≠u))=(lowB u l++(midB u l++highB u l)).filter (λp=>decide (p.1≠u)):=by rw[←e]
  _=lowB u l++highB u l:=by rw[List.filter_append,List.filter_append,a1,a2,a3]; rfl
theorem shGo_f(u:AUnit')(now:List Leg):∀(l out:List APos'),SrtA (l.map (·.1))→shGo u now l false out=out++(lowB u l++([(u,(now,()))]++highB u l))
 |[],out,_=>by rw[shGo,if_neg (by simp)]; rfl
 |p::l,out,h=>by
  obtain⟨h1,h2⟩:=List.pairwise_cons.1 h
  have h1:∀x∈l,ltA p.1 x.1:=λx hx=>h1 _ (List.mem_map_of_mem hx)
  rw[shGo]
  by_cases hp:ltA p.1 u
  ·have hu:¬p.1=u:=λe=>zcd u (by rw[e]at hp; exact hp)
   rw[if_pos (.inr hp),if_neg hu,shGo_f u now l _ h2]
   have e1:lowB u (p::l)=p::lowB u l:=by unfold lowB; rw[List.filter_cons,if_pos (by simpa using hp)]
   have e2:highB u (p::l)=highB u l:=by unfold highB; rw[List.filter_cons,if_neg (by simpa using λe=>ltA_as hp e)]
   rw[e1,e2,List.append_assoc]; rfl
  ·rw[if_neg (by simpa using hp)]
   have hge:∀x∈p::l,¬ltA x.1 u:=by
    intro x hx hxu
    rcases List.mem_cons.1 hx with rfl|hx
    ·exact hp hxu
    ·exact hp (ltA_tr (h1 x hx) hxu)
   have e1:lowB u (p::l)=[]:=zdn λx hx=>decide_eq_false (hge x hx)
   have e2:=ne_cut (u:=u) h
   rw[e1,List.nil_append]at e2
   rw[e1,←e2,List.filter_cons]
   by_cases hu:p.1=u
   ·rw[if_pos hu,if_neg (by simpa using hu),shGo_t,List.append_assoc]; rfl
   ·rw[if_neg hu,if_pos (by simpa using hu),shGo_t]
    simp only[List.append_assoc,List.nil_append,List.cons_append]
theorem shGo_put{l:List APos'}(h:SrtA (l.map (·.1)))(u:AUnit')(now:List Leg):shGo u now l (decide (now=[])) []=putB l u now:=by
 unfold putB
 by_cases h0:now=[]
 ·rw[decide_eq_true h0,shGo_t,if_pos h0,ne_cut h]; rfl
 ·rw[decide_eq_false h0,shGo_f u now l [] h,if_neg h0]; rfl
end Go.Proofs.YtllkmncnmlmefaaGreat
namespace Go.Proofs.YtllkmncnmlmefaaGreat
open Go Go.Vc Go.RowKit
end Go.Proofs.YtllkmncnmlmefaaGreat

namespace Go.Proofs.YtllkmncnmlmefaaGreat
open Go Go.Vc Go.RowKit
def bigs(f:Int→Int):List BigT:=ks.map λk=>big (f k)
theorem zqx(f:Int→Int):(bigs f).length=8:=by unfold bigs; rw[List.length_map]; rfl
theorem ks_at{j:Nat}(h:j<ks.length):ks[j]=(j:Int)+1:=by
 have h8:j<8:=h
 have:j=0∨j=1∨j=2∨j=3∨j=4∨j=5∨j=6∨j=7:=by omega
 rcases this with rfl|rfl|rfl|rfl|rfl|rfl|rfl|rfl<;>rfl
theorem zxt{f:Int→Int}{j:Nat}(h:j<(bigs f).length):(bigs f)[j]=big (f ((j:Int)+1)):=by
 have h':j<(ks.map λk=>big (f k)).length:=h
 have e:(ks.map λk=>big (f k))[j]=big (f ((j:Int)+1)):=by
  rw[List.getElem_map,ks_at]
 exact e
def mix(f g:Int→Int)(j:Nat)(u:Int):Int:=if u≤(j:Int) then f u else g u
theorem ytn{f g:Int→Int}{j:Nat}(h:j<8):(bigs (mix f g j)).set j (big (f ((j:Int)+1)))=bigs (mix f g (j+1)):=by
 apply List.ext_getElem (by rw[List.length_set,zqx,zqx])
 intro n h1 h2
 rw[List.getElem_set]
 by_cases hn:j=n
 ·subst hn
  rw[if_pos rfl,zxt,mix,if_pos (by omega)]
 ·rw[if_neg hn,zxt,zxt]
  congr 1
  unfold mix
  by_cases h3:(n:Int)+1≤(j:Int)
  ·rw[if_pos h3,if_pos (by omega)]
  ·rw[if_neg h3,if_neg (by omega)]
theorem ygm{f g:Int→Int}(h:∀u∈ks,f u=g u):bigs f=bigs g:=by
 unfold bigs; exact List.map_congr_left λu hu=>by rw[h u hu]
theorem bigs_0(f g:Int→Int):bigs (mix f g 0)=bigs g:=ygm λu hu=>by
 have:=(ks_mem u).1 hu
 unfold mix; rw[if_neg (by omega)]
theorem bigs_8(f g:Int→Int):bigs (mix f g 8)=bigs f:=ygm λu hu=>by
 have:=(ks_mem u).1 hu
 unfold mix; rw[if_pos (by omega)]
theorem yrp:List.replicate 8 ((false,([],())):BigT)=bigs λ_=>0:=by
 unfold bigs
 show _=ks.map λ_=>big 0
 rw[big0]; rfl
theorem r_ofV{f:Int→Int}(hf:∀k∈ks,sml (f k)):zpd (bigs f)=some (goV f ks []):=by
 show ztw stdW (bigs f)=_
 unfold ztw
 refine(zdm (λz=>9 - z.1.toNat) (λz=>∃(j:Nat) (acc:List Leg),j≤8∧acc.length≤j∧z=((j:Int),(acc,()))) (λz=>some (goV f (ks.drop z.1.toNat) z.2.1)) ⟨0,[],by omega,Nat.le_refl _,rfl⟩ (by show 9 - (0:Int).toNat<_; omega) ?_)
 rintro _ ⟨j,acc,hj,hacc,rfl⟩ again ha
 show stdW.cnd (decide ((j:Int)<((bigs f).length:Int))) _ _=some (goV f (ks.drop ((j:Int)).toNat) acc)
 rw[Int.toNat_natCast]
 by_cases h8:j<8
 ·have hjl:j<(bigs f).length:=by rw[zqx]; exact h8
  rw[cnd_lt hjl,ks_drop h8,goV]
  refine join_g λk5 hk5=>?_
  have kk:∀v:List Leg,v.length≤j+1→k5 (v,())=some (goV f (ks.drop (j+1)) v):=by
   intro v hv
   subst hk5
   show again (IntKind.i64.wrap ((j:Int)+1),(v,()))=_
   rw[i64_s j (by omega),ha _ ⟨j+1,v,by omega,hv,rfl⟩ (by show 9 - ((j+1:Nat):Int).toNat<9 - ((j:Nat):Int).toNat; omega)]
   show some (goV f (ks.drop (((j+1:Nat):Int).toNat)) v)=_
   rw[Int.toNat_natCast]
  clear hk5 ha
  have hs:=hf ((j:Int)+1) ((ks_mem _).2 (by omega))
  show stdW.idx (bigs f) (j:Int) _=_
  rw[idx_w hjl,zxt hjl]
  show stdW.call (zcz (big (f ((j:Int)+1)))) _=_
  rw[zaa (r_fits hs)]
  by_cases hI:I64 (f ((j:Int)+1))
  ·rw[decide_eq_true hI,cnd_n (by decide),if_pos hI,idx_w hjl,zxt hjl]
   show stdW.call (zds (big (f ((j:Int)+1)))) _=_
   rw[zaa (r_int hI)]
   by_cases h0:f ((j:Int)+1)=0
   ·rw[cnd_n (by simp[h0]),if_pos h0]; exact kk acc (by omega)
   ·rw[cnd_y (by simp[h0]),if_neg h0]
    show stdW.room (acc.length+1) 16 (k5 (acc++[(IntKind.i64.wrap ((j:Int)+1),(f ((j:Int)+1),()))],()))=_
    have e1:IntKind.i64.wrap ((j:Int)+1)=(j:Int)+1:=by rw[i64_s j (by omega)]; omega
    rw[room_w (by omega) (by omega),e1]
    exact kk _ (by simp; omega)
  ·rw[decide_eq_false hI,cnd_y (by decide),if_neg hI]
 ·have:j=8:=by omega
  subst this
  have:(bigs f).length=8:=zqx f
  rw[cnd_n (decide_eq_false (by omega))]
  rfl
theorem r_get11{l:List Leg}{k:Int}(hl:l.length≤1000000):zfz l k=some (getV l k):=by
 show zpg stdW l k=_
 unfold zpg
 refine zbp (l:=l) (by omega) (s0:=()) (λ_ _=>True) (λl' _=>some (getV l' k)) trivial ?_ ?_
 ·rintro _ again _
  rw[zah]; rfl
 ·rintro i hi _ _ again ha
  rw[cnd_lt hi,idx_w hi]
  show _=some (getV (l[i]::l.drop (i+1)) k)
  rw[getV]
  by_cases h:l[i].1=k
  ·rw[cnd_y (by simpa using h),if_pos h,idx_w hi]
  ·rw[cnd_n (by simpa using h),if_neg h]
   show again (IntKind.i64.wrap ((i:Int)+1),())=_
   rw[i64_s i (by omega)]
   exact ha _ trivial
theorem r_negB{a:Int}(ha:sml a):ziz (big a)=some (big (-a)):=by
 unfold sml at ha
 have:=r_neg (nb_big a) (Nat.le_trans (zlz ha) (by decide))
 rwa [bv_big]at this
theorem sumV_take{l:List (List Leg)}{i:Nat}(h:i<l.length)(u:Int):sumV (l.take (i+1)) u=sumV (l.take i) u+getV l[i] u:=by
 unfold sumV
 rw[List.take_succ_eq_append_getElem h,List.map_append,List.sum_append]
 simp
theorem yqz{l:List (List Leg)}(ho:∀v∈l,okL v)(hl:l.length≤1000)(u:Int):sml (sumV l u):=by
 have h1:=sum_in (l:=l.map λv=>getV v u) λx hx=>by
  obtain⟨v,hv,rfl⟩:=List.mem_map.1 hx
  exact zxf (ho v hv) u
 rw[List.length_map]at h1
 unfold sumV sml
 omega
theorem r_add11{l:List (List Leg)}(hs:l.length≤1000)(hl:∀v∈l,v.length≤1000)(ho:∀v∈l,okL v):znh l=some (addV l):=by
 show zph stdW l=_
 unfold zph
 rw[nn_w (by omega),room_w (by decide) (by decide),bnd_w (by omega) (by decide)]
 have h0:(0,(List.replicate (Int.toNat 8) ((false,([],())):BigT),()))=((((0:Nat):Int)),(bigs (sumV (l.take 0)),())):=by
  rw[show bigs (sumV (l.take 0))=bigs λ_=>0 from rfl,←yrp]; rfl
 have htk:∀i,∀v∈l.take i,okL v:=λi v hv=>ho v (List.mem_of_mem_take hv)
 have htl:∀i,(l.take i).length≤1000:=λi=>by rw[List.length_take]; omega
 refine loop_ai (N:=l.length) (by omega) (λi=>((i:Int),(bigs (sumV (l.take i)),()))) (λi=>(l.take i).all isV=true) _ h0 rfl ?_ ?_
 ·intro hall again
  rw[List.take_length]at hall
  show stdW.cnd (decide ((l.length:Int)<(l.length:Int))) _ (stdW.call (zpd (bigs (sumV (l.take l.length)))) _)=_
  rw[zah,List.take_length,zaa (r_ofV λk _=>yqz ho hs k)]
  unfold addV
  rw[if_pos hall,ykb]
 ·intro i hi hall again ha
  have hil:=hl _ (List.getElem_mem hi)
  have hio:=ho _ (List.getElem_mem hi)
  show stdW.cnd (decide ((i:Int)<(l.length:Int))) (stdW.idx l (i:Int) _) _=_
  rw[cnd_lt hi,idx_w hi,zaa (yiq (by omega))]
  by_cases hv:isV l[i]=true
  ·rw[hv,cnd_n (by decide)]
   have ha:=ha (by rw[List.take_succ_eq_append_getElem hi,List.all_append,hall]; simp[hv])
   let f:Int→Int:=sumV (l.take (i+1))
   let g:Int→Int:=sumV (l.take i)
   have hz:(0,(bigs (sumV (l.take i)),()))=((((0:Nat):Int)),(bigs (mix f g 0),())):=by rw[bigs_0]; rfl
   refine zly (N:=8) (by omega) (λj=>((j:Int),(bigs (mix f g j),()))) _ hz ?_ ?_
   ·intro again2
    show stdW.cnd (decide ((8:Int)<8)) _ (again (IntKind.i64.wrap ((i:Int)+1),(bigs (mix f g 8),())))=_
    rw[cnd_n (by decide),bigs_8,i64_s i (by omega)]
    exact ha
   ·intro j hj again2 ha2
    have hb:j<(bigs (mix f g j)).length:=by rw[zqx]; exact hj
    have e1:IntKind.i64.wrap ((j:Int)+1)=(j:Int)+1:=by rw[i64_s j (by omega)]; omega
    show stdW.cnd (decide ((j:Int)<8)) _ _=_
    rw[cnd_y (decide_eq_true (by omega))]
    refine join_g λk9 hk9=>?_
    have kk:k9 (bigs (mix f g (j+1)),())=some (addV l):=by
     subst hk9
     show again2 (IntKind.i64.wrap ((j:Int)+1),(bigs (mix f g (j+1)),()))=_
     rw[i64_s j (by omega)]; exact ha2
    clear hk9 ha2
    have hg:=zxf hio ((j:Int)+1)
    have hx:(bigs (mix f g j))[j]=big (g ((j:Int)+1)):=by rw[zxt hb,mix,if_neg (by omega)]
    have e2:zfz l[i] ((j:Int)+1)=some (getV l[i] ((j:Int)+1)):=r_get11 (by omega)
    have e3:zcx (getV l[i] ((j:Int)+1))=some (big (getV l[i] ((j:Int)+1))):=r_of hg
    have e4:zbt ((big (g ((j:Int)+1))).1,((big (g ((j:Int)+1))).2.1,())) ((big (getV l[i] ((j:Int)+1))).1,((big (getV l[i] ((j:Int)+1))).2.1,()))=some (big (f ((j:Int)+1))):=by
     have:=r_addB (yqz (htk i) (htl i) ((j:Int)+1)) (zsc hg)
     rw[←sumV_take hi]at this
     exact this
    show stdW.idx (bigs (mix f g j)) (j:Int) _=_
    rw[idx_w hb]
    show stdW.idx l (i:Int) _=_
    rw[idx_w hi]
    have fin:stdW.idx (bigs (mix f g j)) (j:Int) (λ_=>stdW.nth (bigs (mix f g j)) (Int.toNat (j:Int)) λ_=>k9 ((bigs (mix f g j)).set (Int.toNat (j:Int)) ((big (f ((j:Int)+1))).1,((big (f ((j:Int)+1))).2.1,())),()))=some (addV l):=by
     rw[idx_w hb,nth_w hb,Int.toNat_natCast]
     show k9 ((bigs (mix f g j)).set j (big (f ((j:Int)+1))),())=_
     rw[ytn hj]; exact kk
    show stdW.both (stdW.nth (bigs (mix f g j)) (Int.toNat (j:Int)) λx12=>stdW.call (zfz l[i] (IntKind.i64.wrap ((j:Int)+1))) _) _=_
    rw[e1]
    repeat' (first|exact fin|refine ydr ?_ ?_|rw[nth_w hb,hx]|rw[zaa e2]|rw[zaa e3]|rw[zaa e4])
  ·have hv:isV l[i]=false:=by simpa using hv
   have:l.all isV=false:=by rw[List.all_eq_false]; exact⟨l[i],List.getElem_mem hi,by simp[hv]⟩
   rw[hv,cnd_y (by decide)]
   unfold addV
   rw[this,if_neg (by simp)]
theorem r_of19{l:List APos'}{u:AUnit'}(hl:l.length≤1000000):zhl l u=some (ofB l u):=by
 show zth stdW l u=_
 unfold zth
 refine zbp (l:=l) (by omega) (s0:=()) (λ_ _=>True) (λl' _=>some (ofB l' u)) trivial ?_ ?_
 ·rintro _ again _
  rw[zah]; rfl
 ·rintro i hi _ _ again ha
  rw[cnd_lt hi,idx_w hi,nif_f,eqA]
  show _=some (ofB (l[i]::l.drop (i+1)) u)
  rw[ofB]
  by_cases h:l[i].1=u
  ·rw[cnd_y (decide_eq_true h),if_pos h,idx_w hi]
  ·rw[cnd_n (decide_eq_false h),if_neg h]
   show again (IntKind.i64.wrap ((i:Int)+1),())=_
   rw[i64_s i (by omega)]
   exact ha _ trivial
theorem yme{l:List APos'}{u:AUnit'}{legs:List Leg}(hb:okB l)(ho:okL legs)(hg:legs.length≤100):zki l u legs=some (shiftP l u legs):=by
 have hl:=hb.2
 show zhk stdW l u legs=_
 unfold zhk shiftP
 rw[zaa (ypb hb)]
 by_cases hp:isB l=true
 ·have hB:BInv l:=of_decide_eq_true hp
  obtain⟨h1,h2⟩:=ofB_ok hb u
  have hadd:znh [ofB l u,legs]=some (addV [ofB l u,legs]):=r_add11 (by simp) (λv hv=>by
   simp only[List.mem_cons,List.not_mem_nil,or_false]at hv
   rcases hv with rfl|rfl<;>omega) (λv hv=>by
   simp only[List.mem_cons,List.not_mem_nil,or_false]at hv
   rcases hv with rfl|rfl
   ·exact h1
   ·exact ho)
  rw[hp,cnd_n (by decide),if_pos rfl,zaa (r_of19 (by omega))]
  show stdW.call (znh [ofB l u,legs]) _=_
  rw[zaa hadd]
  by_cases he:(addV [ofB l u,legs]).2.1=0
  ·rw[cnd_n (by simp[he]),if_pos he]
   generalize (addV [ofB l u,legs]).1=now
   rw[←shGo_put hB.2]
   have hz:((now.length:Int)==0)=decide (now=[]):=by
    cases now with
    |nil=>rfl
    |cons x xs=>rw[decide_eq_false (by simp)]; simp; omega
   rw[hz]
   refine(zdm (λz=>l.length+1 - z.2.2.1.toNat) (λz=>∃(j:Nat) (d:Bool) (out:List APos'),j≤l.length∧out.length≤2*j∧z=(now,(d,((j:Int),(out,()))))) (λz=>some (shGo u now (l.drop z.2.2.1.toNat) z.2.1 z.2.2.2.1,(0,()))) ⟨0,decide (now=[]),[],Nat.zero_le _,Nat.le_refl _,rfl⟩ (by show l.length+1 - (0:Int).toNat<_; omega) ?_)
   rintro _ ⟨j,d,out,hj,hol,rfl⟩ again ha
   show stdW.cnd (decide ((j:Int)<(l.length:Int))) _ _=some (shGo u now (l.drop ((j:Int)).toNat) d out,(0,()))
   rw[Int.toNat_natCast]
   by_cases h:j<l.length
   ·rw[cnd_lt h,zjk l j h,shGo]
    refine join_g λk7 hk7=>?_
    have kk7:∀(d:Bool) (o:List APos'),o.length≤2*(j+1)→k7 (d,(o,()))=some (shGo u now (l.drop (j+1)) d o,(0,())):=by
     intro d o hlo
     subst hk7
     show again (now,(d,(IntKind.i64.wrap ((j:Int)+1),(o,()))))=_
     rw[i64_s j (by omega),ha _ ⟨j+1,d,o,by omega,hlo,rfl⟩ (by show l.length+1 - ((j+1:Nat):Int).toNat<l.length+1 - ((j:Nat):Int).toNat; omega)]
     show some (shGo u now (l.drop (((j+1:Nat):Int).toNat)) d o,(0,()))=_
     rw[Int.toNat_natCast]
    clear hk7 ha
    refine join_g λk11 hk11=>?_
    have kk11:∀(d:Bool) (o:List APos'),o.length≤2*j+1→k11 (d,(o,()))=some (if l[j].1=u then shGo u now (l.drop (j+1)) d o else shGo u now (l.drop (j+1)) d (o++[l[j]]),(0,())):=by
     intro d o hlo
     subst hk11
     show stdW.idx l (j:Int) _=_
     rw[idx_w h,nif_t,eqA]
     by_cases hu:l[j].1=u
     ·rw[cnd_n (by simp[hu]),if_pos hu]; exact kk7 d o (by omega)
     ·rw[cnd_y (by simp[hu]),if_neg hu,idx_w h]
      show stdW.room (o.length+1) 40 (k7 (d,(o++[l[j]],())))=_
      rw[room_w (by omega) (by omega)]
      exact kk7 d _ (by simp; omega)
    clear hk11
    refine join_g λk13 hk13=>?_
    have kk13t:k13 (true,(out,()))=some (if l[j].1=u then shGo u now (l.drop (j+1)) true (out++[(u,(now,()))]) else shGo u now (l.drop (j+1)) true (out++[(u,(now,()))]++[l[j]]),(0,())):=by
     subst hk13
     show stdW.cnd true (stdW.room (out.length+1) 40 (k11 (true,(out++[(u,(now,()))],())))) _=_
     rw[cnd_y rfl,room_w (by omega) (by omega)]
     exact kk11 true _ (by simp; omega)
    have kk13f:k13 (false,(out,()))=some (if l[j].1=u then shGo u now (l.drop (j+1)) d out else shGo u now (l.drop (j+1)) d (out++[l[j]]),(0,())):=by
     subst hk13
     show stdW.cnd false _ (k11 (d,(out,())))=_
     rw[cnd_n rfl]
     exact kk11 d _ (by omega)
    clear hk13
    show stdW.cnd (!d) (stdW.idx l (j:Int) _) (k13 (false,(out,())))=_
    cases d with
    |true=>rw[cnd_n (by decide),kk13f,if_pos (show true=true∨ltA l[j].1 u from .inl rfl)]
    |false=>
     rw[cnd_y (by decide),idx_w h]
     show stdW.call (zdh l[j].1 u) _=_
     rw[zaa (zpn _ _)]
     by_cases hlt:ltA l[j].1 u
     ·rw[decide_eq_true hlt]
      show k13 (false,(out,()))=_
      rw[kk13f,if_pos (show false=true∨ltA l[j].1 u from .inr hlt)]
     ·rw[decide_eq_false hlt]
      show k13 (true,(out,()))=_
      rw[kk13t,if_neg (show ¬(false=true∨ltA l[j].1 u) by simpa using hlt)]
   ·have:j=l.length:=by omega
    subst this
    rw[zah,List.drop_length,shGo]
    refine join_g λk17 hk17=>?_
    have kk:∀o:List APos',k17 (o,())=some (o,(0,())):=by intro o; subst hk17; rfl
    clear hk17 ha
    show stdW.cnd (!d) (stdW.room (out.length+1) 40 (k17 (out++[(u,(now,()))],()))) (k17 (out,()))=_
    cases d with
    |true=>rw[cnd_n (by decide),kk,if_pos rfl]
    |false=>rw[cnd_y (by decide),room_w (by omega) (by omega),kk,if_neg (by simp)]
  ·rw[cnd_y (by simp[he]),if_neg he]
 ·have hp:isB l=false:=by simpa using hp
  rw[hp,cnd_y (by decide),if_neg (by simp)]
abbrev ALot' := zcc
def ltL (a b : ALot') : Prop := a.1 < b.1 ∨ (a.1 = b.1 ∧ a.2.1 < b.2.1)
instance (a b : ALot') : Decidable (ltL a b) := by unfold ltL; infer_instance
def rightL (x : ALot') : Prop := (1 ≤ x.1 ∧ x.1 ≤ 4) ∧ (0 ≤ x.2.1 ∧ x.2.1 ≤ 255) ∧ 0 < x.2.2.1
instance (x : ALot') : Decidable (rightL x) := by unfold rightL; infer_instance
def LInv (l : List ALot') : Prop := (∀ x ∈ l, rightL x) ∧ l.Pairwise ltL ∧ l.length ≤ 16
instance (l : List ALot') : Decidable (LInv l) := by unfold LInv; infer_instance
def isL (l : List ALot') : Bool := decide (LInv l)
def HInv (l : List AHold') : Prop := (∀ h ∈ l, h.2.1 ≠ [] ∧ LInv h.2.1) ∧ SrtA (l.map (·.1))
instance (l : List AHold') : Decidable (HInv l) := by unfold HInv SrtA; infer_instance
def isH (l : List AHold') : Bool := decide (HInv l)
def okT (l : List ALot') : Prop := l.length ≤ 20 ∧ ∀ x ∈ l, I64 x.2.2.1
def lotsH : List AHold' → AUnit' → List ALot'
  | [], _ => []
  | h :: l, u => if h.1 = u then h.2.1 else lotsH l u
theorem ysk {l : List AHold'} (h : ∀ x ∈ l, okT x.2.1) (u : AUnit') : okT (lotsH l u) := by
  induction l with
  | nil => exact ⟨by simp [lotsH], λx hx => by cases hx⟩
  | cons x l ih =>
    rw [lotsH]
    split
    · exact h x (by simp)
    · exact ih λy hy => h y (by simp [hy])
theorem zwn {all : List AFlow'} : ∀ {us : List AUnit'} (acc : List AFlow'), (∀ u ∈ us, I64 (sumU all u)) → (payGo all us acc).2.1 = 0
  | [], _, _ => rfl
  | u :: us, acc, h => by
    unfold payGo
    rw [if_pos (h u (by simp))]
    split
    · exact zwn _ λx hx => h x (by simp [hx])
    · exact zwn _ λx hx => h x (by simp [hx])
theorem yis{s:List ALot'}(h:s.length≤1000000):zaw s=some s:=by
 show zbv stdW s=_
 unfold zbv
 rw[nilq_w]
 refine yjn ?_ λhe=>?_
 ·show stdW.cnd (notIf false false) _ _=_
  rw[cnd_n (by decide),room_w (by omega) (by omega)]; rfl
 ·have:s=[]:=by simpa using he
  subst this; rfl
theorem yru{s:List Int}(h:s.length≤1000000):zel s=some s:=by
 show zdf stdW s=_
 unfold zdf
 rw[nilq_w]
 refine yjn ?_ λhe=>?_
 ·show stdW.cnd (notIf false false) _ _=_
  rw[cnd_n (by decide),room_w (by omega) (by omega)]; rfl
 ·have:s=[]:=by simpa using he
  subst this; rfl
def okAs(l:List zab):Prop:=(∀a∈l,a.2.2.2.1.length≤1000)∧l.length≤1000
theorem r_copiedA{l:List zab}(h:okAs l):zsk l=some l:=by
 have hl:=h.2
 show zih stdW l=_
 unfold zih
 refine zly (N:=l.length) (by omega) (λi=>((i:Int),(l.take i,()))) _ rfl ?_ ?_
 ·intro again
  show stdW.cnd (decide ((l.length:Int)<(l.length:Int))) _ (some (l.take l.length))=_
  rw[zah,List.take_length]
 ·intro i hi again ha
  have h2:=h.1 _ (List.getElem_mem hi)
  have e:zra (l[i].1,(l[i].2.1,(l[i].2.2.1,(l[i].2.2.2.1,()))))=some l[i]:=by
   show zjp stdW l[i]=_
   unfold zjp
   rw[zaa (yru (by omega))]
  show stdW.cnd (decide ((i:Int)<(l.length:Int))) (stdW.idx l (i:Int) λx3=>stdW.call (zra (x3.1,(x3.2.1,(x3.2.2.1,(x3.2.2.2.1,()))))) λv4=>stdW.room ((l.take i).length+1) 48 (again (IntKind.i64.wrap ((i:Int)+1),(l.take i++[(v4.1,(v4.2.1,(v4.2.2.1,(v4.2.2.2.1,()))))],())))) _=_
  have:(l.take i).length≤1000:=by rw[List.length_take]; omega
  rw[cnd_lt hi,idx_w hi,zaa e,room_w (by omega) (by omega),i64_s i (by omega)]
  rw[List.take_succ_eq_append_getElem hi]at ha
  exact ha
def isM(id:Int)(a:zab):Bool:=decide (a.2.1=id)
theorem r_of1(a:zab)(id:Int):zvl (a.1,(a.2.1,(a.2.2.1,(a.2.2.2.1,())))) id=some (!(isM id a),(id,())):=by
 show some ((a.2.1 != id),(id,()))=_
 unfold isM
 by_cases h:a.2.1=id<;>simp[h]
theorem r_ixM{l:List zab}{id:Int}(hl:l.length≤1000000):
  (zar l id=some (-1,(id,()))∧∀a∈l,isM id a=true)∨
  ∃i:Nat,i<l.length∧zar l id=some ((i:Int),(id,()))∧(∀a∈l.take i,isM id a=true)∧∀h:i<l.length,isM id l[i]=false:=by
 show (zak stdW l id=_∧_)∨∃i:Nat,_∧zak stdW l id=_∧_
 unfold zak
 refine loop_P (λo=>(o=some ((-1:Int),(id,()))∧∀a∈l,isM id a=true)∨∃i:Nat,i<l.length∧o=some ((i:Int),(id,()))∧(∀a∈l.take i,isM id a=true)∧∀h:i<l.length,isM id l[i]=false) (λz=>l.length+1 - z.1.toNat)
  (λz=>∃j:Nat,j≤l.length∧z=((j:Int),(id,()))∧∀a∈l.take j,isM id a=true) ⟨0,Nat.zero_le _,rfl,by simp⟩ (by show _ - (0:Int).toNat<_; omega) ?_
 rintro _ ⟨j,hj,rfl,hp⟩ again ha
 show (stdW.cnd (decide ((j:Int)<(l.length:Int))) _ _=_∧_)∨∃i:Nat,_∧stdW.cnd (decide ((j:Int)<(l.length:Int))) _ _=_∧_
 by_cases h:j<l.length
 ·rw[cnd_lt h]
  show (stdW.idx l (j:Int) _=_∧_)∨∃i:Nat,_∧stdW.idx l (j:Int) _=_∧_
  rw[idx_w h,zaa (r_of1 _ _)]
  by_cases hv:isM id l[j]=true
  ·rw[hv,cnd_n (by rfl)]
   show (again (IntKind.i64.wrap ((j:Int)+1),(id,()))=_∧_)∨∃i:Nat,_∧again (IntKind.i64.wrap ((j:Int)+1),(id,()))=_∧_
   rw[i64_s j (by omega)]
   refine ha _ ⟨j+1,by omega,rfl,λa hm=>?_⟩ (by show _ - ((j+1:Nat):Int).toNat<_ - ((j:Nat):Int).toNat; omega)
   rw[List.take_succ_eq_append_getElem h]at hm
   rcases List.mem_append.1 hm with hm|hm
   ·exact hp a hm
   ·simp only[List.mem_singleton]at hm; subst hm; exact hv
  ·have hv:isM id l[j]=false:=by simpa using hv
   rw[hv,cnd_y (by rfl)]
   exact .inr ⟨j,h,rfl,hp,λ_=>hv⟩
 ·have:j=l.length:=by omega
  subst this
  rw[zah]
  rw[List.take_length]at hp
  exact .inl ⟨rfl,hp⟩
theorem r_delM{l:List zab}{id:Int}(hl:l.length≤1000000):zay id l=some (l.filter (isM id),(id,())):=by
 show zan stdW id l=_
 unfold zan
 rcases r_ixM (id:=id) hl with ⟨e,hall⟩|⟨i0,hi0,e,hp,hn⟩
 ·rw[zaa e,cnd_y (by rfl),List.filter_eq_self.2 hall]
 ·rw[zaa e,cnd_n (show ((i0:Int) == -1)=false by simp)]
  have hi0':i0+1≤l.length:=hi0
  have hf0:(l.take (i0+1)).filter (isM id)=l.take i0:=by
   rw[List.take_succ_eq_append_getElem hi0,List.filter_append,List.filter_eq_self.2 hp,List.filter_cons,hn hi0]; simp
  have hz:((i0:Int),((IntKind.i64.wrap ((i0:Int)+1)),(id,(l,()))))=(((i0:Nat):Int),(((i0+1:Nat):Int),(id,(l,())))):=by rw[i64_s i0 (by omega)]
  show stdW.loop _ ((i0:Int),((IntKind.i64.wrap ((i0:Int)+1)),(id,(l,()))))=_
  rw[hz]
  refine(zdm (λz=>l.length+1 - z.2.1.toNat) (λz=>∃(i j:Nat) (s:List zab),i<j∧j≤l.length∧s.length=l.length∧s.take i=(l.take j).filter (isM id)∧s.drop j=l.drop j∧z=((i:Int),((j:Int),(id,(s,()))))) (λ_=>some (l.filter (isM id),(id,()))) ⟨i0,i0+1,l,by omega,hi0',rfl,hf0.symm,rfl,rfl⟩ (by show l.length+1 - (((i0+1:Nat):Int)).toNat<_; omega) ?_)
  rintro _ ⟨i,j,s,hij,hj,hs,ht,hd,rfl⟩ again ha
  show stdW.cnd (decide ((j:Int)<(s.length:Int))) _ _=_
  by_cases h:j<s.length
  ·have hjl:j<l.length:=by omega
   have hx:s[j]=l[j]:=by
    have h1:(s.drop j)[0]?=(l.drop j)[0]?:=by rw[hd]
    rw[List.getElem?_drop,List.getElem?_drop,Nat.add_zero,List.getElem?_eq_getElem h,List.getElem?_eq_getElem hjl]at h1
    exact Option.some.inj h1
   rw[cnd_lt h]
   refine join_g λk5 hk5=>?_
   have kk:∀(i':Nat) (s':List zab),i'<j+1→s'.length=l.length→s'.take i'=(l.take (j+1)).filter (isM id)→s'.drop (j+1)=l.drop (j+1)→k5 ((i':Int),(id,(s',())))=some (l.filter (isM id),(id,())):=by
    intro i' s' g1 g2 g3 g4
    subst hk5
    show again ((i':Int),(IntKind.i64.wrap ((j:Int)+1),(id,(s',()))))=_
    rw[i64_s j (by omega)]
    exact ha _ ⟨i',j+1,s',by omega,by omega,g2,g3,g4,rfl⟩ (by show l.length+1 - (((j+1:Nat):Int)).toNat<l.length+1 - (((j:Nat):Int)).toNat; omega)
   clear hk5 ha
   have hd1:s.drop (j+1)=l.drop (j+1):=by
    have:=congrArg (List.drop 1) hd
    rwa [List.drop_drop,List.drop_drop]at this
   have il:i<s.length:=by omega
   show stdW.idx s (j:Int) _=_
   rw[idx_w h]
   show stdW.nth s (Int.toNat (j:Int)) _=_
   rw[nth_w h,hx,zaa (r_of1 _ _)]
   by_cases hv:isM id l[j]=true
   ·rw[hv,cnd_y (by rfl)]
    show stdW.idx s (i:Int) _=_
    rw[idx_w il]
    show stdW.nth s (Int.toNat (i:Int)) _=_
    rw[nth_w il]
    show k5 (IntKind.i64.wrap ((i:Int)+1),(id,(s.set (Int.toNat (i:Int)) l[j],())))=_
    rw[Int.toNat_natCast,i64_s i (by omega)]
    refine kk (i+1) (s.set i l[j]) (by omega) (by rw[List.length_set]; exact hs) ?_ ?_
    ·rw[List.take_succ_eq_append_getElem hjl,List.filter_append,←ht,List.filter_cons,hv,List.filter_nil,if_pos rfl]
     have h1:i<(s.set i l[j]).length:=by rw[List.length_set]; exact il
     rw[List.take_succ_eq_append_getElem h1,List.getElem_set_self]
     congr 1
     rw[List.take_set_of_le (Nat.le_refl _)]
    ·rw[List.drop_set_of_lt (by omega)]; exact hd1
   ·have hv:isM id l[j]=false:=by simpa using hv
    rw[hv,cnd_n (by rfl)]
    refine kk i s (by omega) hs ?_ hd1
    rw[List.take_succ_eq_append_getElem hjl,List.filter_append,List.filter_cons,hv,ht]; simp
  ·have:j=s.length:=by omega
   subst this
   have hll:s.length=l.length:=hs
   rw[zah]
   show stdW.bnd (i:Int) s.length _=_
   rw[bnd_w (by omega) (by omega),Int.toNat_natCast]
   show stdW.bnd (i:Int) s.length _=_
   rw[bnd_w (by omega) (by omega),Int.toNat_natCast]
   show stdW.bnd (i:Int) (s.take i++List.replicate (s.length - i) (0,(0,(0,([],()))))).length _=_
   have hlt:(s.take i).length=i:=by rw[List.length_take]; omega
   rw[bnd_w (by omega) (by rw[List.length_append,hlt]; omega),Int.toNat_natCast]
   show some ((s.take i++List.replicate (s.length - i) (0,(0,(0,([],()))))).take i,(id,()))=_
   rw[List.take_append_of_le_length (by omega),List.take_take,Nat.min_self,ht,hll,List.take_length]
theorem r_aof{l:List zab}{id:Int}(h:okAs l):yqp l id=some (l.filter (isM id)):=by
 show yao stdW l id=_
 unfold yao
 have hl:=h.2
 rw[zaa (r_copiedA h),zaa (r_delM (by omega))]
def unitsA(a:zab):List AUnit':=if a.2.2.1=1 then [(a.1,(0,()))] else a.2.2.2.1.map λc=>(a.1,(c,()))
theorem yrw{a:zab}(h:a.2.2.2.1.length≤1000):zrb (a.1,(a.2.1,(a.2.2.1,(a.2.2.2.1,()))))=some (unitsA a):=by
 show zmw stdW a=_
 unfold zmw unitsA
 by_cases hk:a.2.2.1=1
 ·rw[cnd_y (by simpa using hk),if_pos hk]
 ·rw[cnd_n (by simpa using hk),if_neg hk]
  refine zly (N:=a.2.2.2.1.length) (by omega) (λi=>((i:Int),((a.2.2.2.1.take i).map (λc=>((a.1,(c,())):AUnit')),()))) _ rfl ?_ ?_
  ·intro again
   show stdW.cnd (decide ((a.2.2.2.1.length:Int)<(a.2.2.2.1.length:Int))) _ (some _)=_
   rw[zah,List.take_length]
  ·intro i hi again ha
   show stdW.cnd (decide ((i:Int)<(a.2.2.2.1.length:Int))) (stdW.idx a.2.2.2.1 (i:Int) λx3=>stdW.room (((a.2.2.2.1.take i).map (λc=>((a.1,(c,())):AUnit'))).length+1) 16 (again (IntKind.i64.wrap ((i:Int)+1),((a.2.2.2.1.take i).map (λc=>((a.1,(c,())):AUnit'))++[(a.1,(x3,()))],())))) _=_
   have:((a.2.2.2.1.take i).map (λc=>((a.1,(c,())):AUnit'))).length≤1000:=by rw[List.length_map,List.length_take]; omega
   rw[cnd_lt hi,idx_w hi,room_w (by omega) (by omega),i64_s i (by omega)]
   rw[List.take_succ_eq_append_getElem hi,List.map_append]at ha
   exact ha
theorem ymd{a:zab}(h:a.2.2.2.1.length≤1000):zku (a.1,(a.2.1,(a.2.2.1,(a.2.2.2.1,()))))=some (unitsA a):=by
 show zho stdW a=_
 unfold zho unitsA
 by_cases hk:a.2.2.1=1
 ·rw[cnd_y (by simpa using hk),if_pos hk,room_w (by simp) (by simp)]
 ·rw[cnd_n (by simpa using hk),if_neg hk]
  refine zly (N:=a.2.2.2.1.length) (by omega) (λi=>((i:Int),((a.2.2.2.1.take i).map (λc=>((a.1,(c,())):AUnit')),()))) _ rfl ?_ ?_
  ·intro again
   show stdW.cnd (decide ((a.2.2.2.1.length:Int)<(a.2.2.2.1.length:Int))) _ (some _)=_
   rw[zah,List.take_length]
  ·intro i hi again ha
   show stdW.cnd (decide ((i:Int)<(a.2.2.2.1.length:Int))) (stdW.idx a.2.2.2.1 (i:Int) λx3=>stdW.room (((a.2.2.2.1.take i).map (λc=>((a.1,(c,())):AUnit'))).length+1) 16 (again (IntKind.i64.wrap ((i:Int)+1),((a.2.2.2.1.take i).map (λc=>((a.1,(c,())):AUnit'))++[(a.1,(x3,()))],())))) _=_
   have:((a.2.2.2.1.take i).map (λc=>((a.1,(c,())):AUnit'))).length≤1000:=by rw[List.length_map,List.length_take]; omega
   rw[cnd_lt hi,idx_w hi,room_w (by omega) (by omega),i64_s i (by omega)]
   rw[List.take_succ_eq_append_getElem hi,List.map_append]at ha
   exact ha
theorem ziq{a:zab}(h:a.2.2.2.1.length≤1000):(unitsA a).length≤1000:=by
 unfold unitsA
 split
 ·simp
 ·rw[List.length_map]; exact h
theorem srt_next{α:Type}{f:α→AUnit'}{l:List α}{i:Nat}(hi:i<l.length)(inv:SrtA ((l.take i).map f))(h2:∀h0:0<i,ltA (f (l[i - 1]'(by omega))) (f l[i])):SrtA ((l.take (i+1)).map f):=by
 rw[List.take_succ_eq_append_getElem hi,List.map_append]
 refine List.pairwise_append.2 ⟨inv,by simp,λa ha b hb=>?_⟩
 simp only[List.map_cons,List.map_nil,List.mem_singleton]at hb
 subst hb
 obtain⟨k,hk,hka⟩:=List.mem_iff_getElem.1 ha
 have hk':k<i:=by simp at hk; omega
 have h3:=h2 (by omega)
 by_cases hki:k=i - 1
 ·subst hki; rw[←hka]; simpa using h3
 ·have h4:=List.pairwise_iff_getElem.1 inv k (i - 1) (by simpa using hk) (by simp; omega) (by omega)
  rw[hka]at h4
  refine ltA_tr h4 ?_
  simpa using h3
def okHs(l:List AHold'):Prop:=(∀h∈l,okT h.2.1)∧l.length≤1000
theorem ypc{l:List AHold'}{u:AUnit'}(h:okHs l):zjf l u=some (lotsH l u):=by
 have hl:=h.2
 show zqm stdW l u=_
 unfold zqm
 refine zbp (l:=l) (by omega) (s0:=()) (λ_ _=>True) (λl' _=>some (lotsH l' u)) trivial ?_ ?_
 ·rintro _ again _
  rw[zah]; rfl
 ·rintro i hi _ _ again ha
  have h2:=(h.1 _ (List.getElem_mem hi)).1
  rw[cnd_lt hi,idx_w hi,nif_f,eqA]
  show _=some (lotsH (l[i]::l.drop (i+1)) u)
  rw[lotsH]
  by_cases h:l[i].1=u
  ·rw[cnd_y (decide_eq_true h),if_pos h,zaa (yis (by omega))]
  ·rw[cnd_n (decide_eq_false h),if_neg h]
   show again (IntKind.i64.wrap ((i:Int)+1),())=_
   rw[i64_s i (by omega)]
   exact ha _ trivial
theorem yio{l:List AHold'}{u:AUnit'}(hl:l.length≤1000):zgo l u=some (lotsH l u):=by
 show zkh stdW l u=_
 unfold zkh
 refine zbp (l:=l) (by omega) (s0:=()) (λ_ _=>True) (λl' _=>some (lotsH l' u)) trivial ?_ ?_
 ·rintro _ again _
  rw[zah]; rfl
 ·rintro i hi _ _ again ha
  rw[cnd_lt hi,idx_w hi,nif_f,eqA]
  show _=some (lotsH (l[i]::l.drop (i+1)) u)
  rw[lotsH]
  by_cases h:l[i].1=u
  ·rw[cnd_y (decide_eq_true h),if_pos h,idx_w hi]
  ·rw[cnd_n (decide_eq_false h),if_neg h]
   show again (IntKind.i64.wrap ((i:Int)+1),())=_
   rw[i64_s i (by omega)]
   exact ha _ trivial
def pu(s:zae):List AFlow':=s.2.2.2.2.2.2.2.2.2.2.1
def ho(s:zae):List AHold':=s.2.2.2.2.2.2.2.2.2.2.2.1
theorem ex_cnd{β:Type}{c:Bool}{a b:Option β}(ha:∃r,a=some r)(hb:∃r,b=some r):∃r,stdW.cnd c a b=some r:=by
 cases c
 ·exact hb
 ·exact ha
theorem r_is15{a:zab}(hm:a.2.2.2.1.length≤1000000):∃b,yii a=some b:=by
 show ∃b,ztq stdW a=some b
 unfold ztq
 refine ypr (Q:=λo=>∃b,o=some b) λk12 hk12=>?_
 have kb12:∀c,∃b,k12 (c,())=some b:=by
  intro c
  subst hk12
  show ∃b,stdW.cnd c (some false) _=some b
  refine ex_cnd ⟨_,rfl⟩ ?_
  refine ypr (Q:=λo=>∃b,o=some b) λk11 hk11=>?_
  have kb11:∀c,∃b,k11 (c,())=some b:=by
   intro c
   subst hk11
   show ∃b,stdW.cnd c (some false) _=some b
   refine ex_cnd ⟨_,rfl⟩ ?_
   refine loop_P (λo=>∃b,o=some b) (λz=>a.2.2.2.1.length+1 - z.1.toNat) (λz=>∃j:Nat,j≤a.2.2.2.1.length∧z=((j:Int),())) ⟨0,Nat.zero_le _,rfl⟩ (by show _ - (0:Int).toNat<_; omega) ?_
   rintro _ ⟨j,hj,rfl⟩ again ha
   show ∃b,stdW.cnd (decide ((j:Int)<(a.2.2.2.1.length:Int))) _ _=some b
   by_cases h:j<a.2.2.2.1.length
   ·rw[cnd_lt h]
    refine ypr (Q:=λo=>∃b,o=some b) λk6 hk6=>?_
    have kb6:∀c,∃b,k6 (c,())=some b:=by
     intro c
     subst hk6
     show ∃b,stdW.cnd c (some false) (again (IntKind.i64.wrap ((j:Int)+1),()))=some b
     refine ex_cnd ⟨_,rfl⟩ ?_
     rw[i64_s j (by omega)]
     exact ha _ ⟨j+1,by omega,rfl⟩ (by show _ - ((j+1:Nat):Int).toNat<_ - ((j:Nat):Int).toNat; omega)
    clear hk6 ha
    show ∃b,stdW.idx a.2.2.2.1 (j:Int) _=some b
    rw[idx_w h]
    refine ex_cnd (kb6 _) ?_
    show ∃b,stdW.idx a.2.2.2.1 (j:Int) _=some b
    rw[idx_w h]
    refine ex_cnd (kb6 _) ?_
    show ∃b,stdW.cnd (decide (0<(j:Int))) (stdW.idx a.2.2.2.1 (j:Int) λx9=>stdW.idx a.2.2.2.1 (IntKind.i64.wrap ((j:Int) - 1)) _) _=some b
    by_cases h0:0<j
    ·rw[cnd_y (decide_eq_true (by omega)),idx_w h,zdz j h0 (by rw[zap]; omega),idx_w (by omega)]
     exact kb6 _
    ·rw[cnd_n (decide_eq_false (by omega))]; exact kb6 _
   ·have:j=a.2.2.2.1.length:=by omega
    subst this
    rw[zah]; exact⟨_,rfl⟩
  clear hk11
  repeat' (first|exact kb11 _|refine ex_cnd ?_ ?_)
 clear hk12
 repeat' (first|exact kb12 _|refine ex_cnd ?_ ?_)
theorem r_find15{l:List zab}{id:Int}(hl:l.length≤1000000):∃x b,zix l id=some (x,(b,()))∧(b=false→∀a∈l,a.1≠id):=by
 show ∃x b,zfi stdW l id=some (x,(b,()))∧_
 unfold zfi
 refine loop_P (λo=>∃(x:zab) (b:Bool),o=some (x,(b,()))∧(b=false→∀a∈l,a.1≠id)) (λz=>l.length+1 - z.1.toNat) (λz=>∃j:Nat,j≤l.length∧z=((j:Int),())∧∀a∈l.take j,a.1≠id) ⟨0,Nat.zero_le _,rfl,by simp⟩ (by show _ - (0:Int).toNat<_; omega) ?_
 rintro _ ⟨j,hj,rfl,hp⟩ again ha
 show ∃x b,stdW.cnd (decide ((j:Int)<(l.length:Int))) _ _=some (x,(b,()))∧_
 by_cases h:j<l.length
 ·rw[cnd_lt h]
  show ∃x b,stdW.idx l (j:Int) _=some (x,(b,()))∧_
  rw[idx_w h]
  by_cases hi:l[j].1=id
  ·rw[cnd_y (by simpa using hi)]
   show ∃x b,stdW.idx l (j:Int) _=some (x,(b,()))∧_
   rw[idx_w h]
   exact⟨_,true,rfl,λh=>by cases h⟩
  ·rw[cnd_n (by simpa using hi)]
   show ∃x b,again (IntKind.i64.wrap ((j:Int)+1),())=some (x,(b,()))∧_
   rw[i64_s j (by omega)]
   refine ha _ ⟨j+1,by omega,rfl,λa hm=>?_⟩ (by show _ - ((j+1:Nat):Int).toNat<_ - ((j:Nat):Int).toNat; omega)
   rw[List.take_succ_eq_append_getElem h]at hm
   rcases List.mem_append.1 hm with hm|hm
   ·exact hp a hm
   ·simp only[List.mem_singleton]at hm; subst hm; exact hi
 ·have:j=l.length:=by omega
  subst this
  rw[List.take_length]at hp
  rw[zah]; exact⟨_,false,rfl,λ_=>hp⟩
def few26(l:List AHold'):List AHold':=(l.take 10).map λh=>((h.1,(h.2.1.take 20,())):AHold')
theorem r_few18{l:List ALot'}(hl:l.length≤9223372036854775807):ycs l=some (l.take 20):=by
 show zqg stdW l=_
 unfold zqg
 by_cases h:20<l.length
 ·rw[cnd_y (decide_eq_true (by omega)),bnd_w (by omega) (by omega)]; rfl
 ·rw[cnd_n (decide_eq_false (by omega)),List.take_of_length_le (by omega)]
theorem r_few26{l:List AHold'}(hl:l.length≤9223372036854775807)(hm:∀h∈l,h.2.1.length≤9223372036854775807):zns l=some (few26 l):=by
 show zqe stdW l=_
 unfold zqe
 rw[join_w]
 have hm':∀i (h:i<l.length),l[i].2.1.length≤9223372036854775807:=λi h=>hm _ (List.getElem_mem h)
 refine(zdm (λz=>l.length+1 - z.1.toNat) (λz=>∃j:Nat,j≤l.length∧j≤10∧z=((j:Int),(few26 (l.take j),()))) (λ_=>some (few26 l)) ⟨0,Nat.zero_le _,Nat.zero_le _,rfl⟩ (by show _ - (0:Int).toNat<_; omega) ?_)
 rintro _ ⟨j,hj,hj10,rfl⟩ again ha
 have ft:few26 (l.take j)=(l.take j).map λh=>((h.1,(h.2.1.take 20,())):AHold'):=by
  unfold few26; rw[List.take_take,Nat.min_eq_right hj10]
 show stdW.cnd (decide ((j:Int)<(l.length:Int))) (stdW.cnd (decide ((j:Int)<10)) _ _) _=_
 by_cases h:j<l.length
 ·rw[cnd_lt h]
  by_cases h10:j<10
  ·have ft1:few26 (l.take (j+1))=few26 (l.take j)++[(l[j].1,(l[j].2.1.take 20,()))]:=by
    unfold few26; rw[List.take_take,List.take_take,Nat.min_eq_right hj10,Nat.min_eq_right (by omega),List.take_succ_eq_append_getElem h,List.map_append]; rfl
   have hlen:(few26 (l.take j)).length≤10:=by rw[ft,List.length_map,List.length_take]; omega
   rw[cnd_y (decide_eq_true (by omega))]
   show stdW.idx l (j:Int) _=_
   rw[idx_w h,idx_w h,zaa (r_few18 (hm' j h))]
   show stdW.room ((few26 (l.take j)).length+1) 40 (again (IntKind.i64.wrap ((j:Int)+1),(few26 (l.take j)++[(l[j].1,(l[j].2.1.take 20,()))],())))=_
   rw[room_w (by omega) (by omega),←ft1,i64_s j (by omega)]
   exact ha _ ⟨j+1,by omega,by omega,rfl⟩ (by show _ - ((j+1:Nat):Int).toNat<_ - ((j:Nat):Int).toNat; omega)
  ·rw[cnd_n (decide_eq_false (by omega))]
   show some (few26 (l.take j))=_
   have:j=10:=by omega
   subst this
   unfold few26; rw[List.take_take,Nat.min_self]
 ·have:j=l.length:=by omega
  subst this
  rw[zah,List.take_length]
def yhl(a:zab):zab:=(a.1,(a.2.1,(a.2.2.1,(a.2.2.2.1.take 20,()))))
theorem r_short{a:zab}(hl:a.2.2.2.1.length≤9223372036854775807):zsb (a.1,(a.2.1,(a.2.2.1,(a.2.2.2.1,()))))=some (yhl a):=by
 show zib stdW a=_
 unfold zib
 refine join_g λk hk=>?_
 have kk:∀x:zab,k x=some x:=by intro x; subst hk; rfl
 clear hk
 by_cases h:20<a.2.2.2.1.length
 ·rw[cnd_y (decide_eq_true (by omega)),bnd_w (by omega) (by omega),kk]; rfl
 ·rw[cnd_n (decide_eq_false (by omega)),kk]
  unfold yhl
  rw[List.take_of_length_le (by omega)]
end Go.Proofs.YtllkmncnmlmefaaGreat
namespace Go.Vc
open Go
theorem zen{α X S β:Type}{l:List α}(hN:l.length<9223372036854775808){f:X→(X→Option β)→Option β}(st:Nat→S→X)(Inv:Nat→S→Prop)(G:List α→S→Option β){z0:X}{s0:S}(hz:z0=st 0 s0)(h0:Inv 0 s0)
  (hend:∀s,Inv l.length s→∀again:X→Option β,f (st l.length s) again=G [] s)
  (hstep:∀(i:Nat) (hi:i<l.length) (s:S),Inv i s→∀again:X→Option β,(∀s',Inv (i+1) s'→again (st (i+1) s')=G (l.drop (i+1)) s')→f (st i s) again=G (l[i]::l.drop (i+1)) s):stdW.loop f z0=G l s0:=by
 subst hz
 have key:∀n i s,i≤l.length→l.length - i<n→Inv i s→loopF n f (st i s)=G (l.drop i) s:=by
  intro n
  induction n with
  |zero=>intro i s _ h; omega
  |succ n ih=>
   intro i s hi hn hv
   show f (st i s) (loopF n f)=_
   by_cases h:i<l.length
   ·rw[List.drop_eq_getElem_cons h]
    exact hstep i h s hv _ λs' hv'=>ih (i+1) s' (by omega) (by omega) hv'
   ·have:i=l.length:=by omega
    subst this; rw[List.drop_length]; exact hend s hv _
 show loopF FU f (st 0 s0)=_
 have:=key FU 0 s0 (Nat.zero_le _) (by rw[FU_eq]; omega) h0
 rwa [List.drop_zero]at this
end Go.Vc
namespace Go.Proofs.YtllkmncnmlmefaaGreat
open Go Go.Vc Go.RowKit
def bk(s:zae):List APos':=s.2.2.2.2.2.2.2.2.1
def sa(s:zae):List APos':=s.2.2.2.2.2.2.2.2.2.1
def noS:zae:=(0,([],([],([],([],([],([],([],([],([],([],([],()))))))))))))
def hasA(a:zab)(u:AUnit'):Bool:=decide (u∈unitsA a)
end Go.Proofs.YtllkmncnmlmefaaGreat
namespace Go.Vc
open Go
variable {β:Type}
def ixP{α:Type}(p:α→Bool)(s:List α):Int:=match s.findIdx? p with|some k=>((k:Nat):Int)|none => -1
theorem ypn{α C:Type}{s:List α}(hl:s.length≤1000000)(p:α→Bool)(fn:α→C→Option (Bool×C))(c:C)(h:∀x∈s,fn x c=some (p x,c)):
  stdW.loop (λ(z:Int×C) (again:Int×C→Option (Int×C))=>stdW.cnd (decide (z.1<(s.length:Int))) (stdW.idx s z.1 λx=>stdW.call (fn x z.2) λv=>stdW.cnd v.1 (some (z.1,v.2)) (again (IntKind.i64.wrap (z.1+1),v.2))) (some ((-1:Int),z.2))) (0,c)=some (ixP p s,c):=by
 refine zen (l:=s) (s0:=()) (by omega) (λi (_:Unit)=>((i:Int),c)) (λi _=>∀j,∀h:j<s.length,j<i→p s[j]=false) (λ_ _=>some (ixP p s,c)) rfl (λj _ h=>by omega) ?_ ?_
 ·intro _ hno again
  show stdW.cnd (decide ((s.length:Int)<(s.length:Int))) _ _=_
  rw[zah]
  have:s.findIdx? p=none:=by
   rw[List.findIdx?_eq_none_iff]
   intro x hx
   obtain⟨j,hj,rfl⟩:=List.mem_iff_getElem.1 hx
   exact hno j hj hj
  unfold ixP; rw[this]
 ·intro i hi _ hno again ha
  show stdW.cnd (decide ((i:Int)<(s.length:Int))) (stdW.idx s (i:Int) _) _=_
  rw[cnd_lt hi,idx_w hi,call_w (h _ (List.getElem_mem hi))]
  by_cases hp:p s[i]=true
  ·rw[hp,cnd_y rfl]
   have:s.findIdx? p=some i:=by
    rw[List.findIdx?_eq_some_iff_getElem]
    exact⟨hi,hp,λj hj=>by rw[hno j (by omega) hj]; simp⟩
   unfold ixP; rw[this]
  ·have hp:p s[i]=false:=by simpa using hp
   rw[hp,cnd_n rfl]
   show again (IntKind.i64.wrap ((i:Int)+1),c)=_
   rw[i64_s i (by omega)]
   exact ha () λj hj hji=>by
    by_cases hji2:j=i
    ·subst hji2; exact hp
    ·exact hno j hj (by omega)
theorem ixP_any{α:Type}(p:α→Bool)(s:List α):decide (0≤ixP p s)=s.any p:=by
 unfold ixP
 cases h:s.findIdx? p with
 |none=>
  rw[List.findIdx?_eq_none_iff]at h
  have:s.any p=false:=by rw[List.any_eq_false]; intro x hx; simp[h x hx]
  rw[this]; rfl
 |some k=>
  obtain⟨h1,h2,_⟩:=List.findIdx?_eq_some_iff_getElem.1 h
  have:s.any p=true:=List.any_eq_true.2 ⟨_,List.getElem_mem h1,h2⟩
  rw[this]; simp
theorem ysr{α:Type}(p:α→Bool)(s:List α):(ixP p s = -1∧s.find? p=none)∨∃k:Nat,∃h:k<s.length,ixP p s=(k:Int)∧s.find? p=some s[k]∧p s[k]=true:=by
 unfold ixP
 cases h:s.findIdx? p with
 |none=>
  refine .inl ⟨rfl,?_⟩
  rw[List.findIdx?_eq_none_iff]at h
  rw[List.find?_eq_none]
  intro x hx; simp[h x hx]
 |some k=>
  obtain⟨h1,h2,h3⟩:=List.findIdx?_eq_some_iff_getElem.1 h
  refine .inr ⟨k,h1,rfl,?_,h2⟩
  rw[List.find?_eq_some_iff_getElem]
  exact⟨h2,k,h1,rfl,λj hj=>by simpa using h3 j hj⟩
theorem join_b{k0:Bool×Unit→Option β}{f:(Bool×Unit→Option β)→Option β}{r:Option β}(c:Bool)(h:∀k:Bool×Unit→Option β,f k=k (c,()))(hr:k0 (c,())=r):stdW.join k0 f=r:=by
 show f k0=r
 rw[h]; exact hr
end Go.Vc

namespace Go.Proofs.YtllkmncnmlmefaaGreat
open Go Go.Vc Go.RowKit
theorem unitEq(v x:AUnit'):notIf false ((v.1==x.1)&&(v.2.1==x.2.1))=decide (v=x):=by rw[nif_f]; exact eqA v x
theorem r_ixU{s:List AUnit'}{u:AUnit'}(hl:s.length≤1000000):zcj s u=some (ixP (λx=>decide (u=x)) s):=by
 show zbr stdW s u=_
 unfold zbr
 refine zen (l:=s) (s0:=()) (by omega) (λi (_:Unit)=>((i:Int),())) (λi _=>∀j,∀h:j<s.length,j<i→decide (u=s[j])=false) (λ_ _=>some (ixP (λx=>decide (u=x)) s)) rfl (λj _ h=>by omega) ?_ ?_
 ·intro _ hno again
  show stdW.cnd (decide ((s.length:Int)<(s.length:Int))) _ _=_
  rw[zah]
  have:s.findIdx? (λx=>decide (u=x))=none:=by
   rw[List.findIdx?_eq_none_iff]
   intro x hx
   obtain⟨j,hj,rfl⟩:=List.mem_iff_getElem.1 hx
   exact hno j hj hj
  unfold ixP; rw[this]
 ·intro i hi _ hno again ha
  show stdW.cnd (decide ((i:Int)<(s.length:Int))) (stdW.idx s (i:Int) _) _=_
  rw[cnd_lt hi,idx_w hi,unitEq]
  by_cases hp:u=s[i]
  ·rw[cnd_y (decide_eq_true hp)]
   have:s.findIdx? (λx=>decide (u=x))=some i:=by
    rw[List.findIdx?_eq_some_iff_getElem]
    exact⟨hi,decide_eq_true hp,λj hj=>by rw[hno j (by omega) hj]; simp⟩
   unfold ixP; rw[this]
  ·rw[cnd_n (decide_eq_false hp)]
   show again (IntKind.i64.wrap ((i:Int)+1),())=_
   rw[i64_s i (by omega)]
   exact ha () λj hj hji=>by
    by_cases hji2:j=i
    ·subst hji2; exact decide_eq_false hp
    ·exact hno j hj (by omega)
theorem any_mem(u:AUnit')(s:List AUnit'):s.any (λx=>decide (u=x))=decide (u∈s):=by
 by_cases h:u∈s
 ·rw[decide_eq_true h]; exact List.any_eq_true.2 ⟨u,h,by simp⟩
 ·rw[decide_eq_false h,List.any_eq_false]
  intro x hx; simp; rintro rfl; exact h hx
theorem r_hasA{a:zab}{u:AUnit'}(h:a.2.2.2.1.length≤1000):yap a u=some (hasA a u):=by
 show zvm stdW a u=_
 unfold zvm
 have hl:=ziq h
 have e:zcb (unitsA a) u=some (hasA a u):=by
  show zbl stdW (unitsA a) u=_
  unfold zbl
  rw[zaa (r_ixU (by omega)),ixP_any,any_mem]; rfl
 rw[zaa (yrw h),zaa e]
theorem r_has15{a:zab}{u:AUnit'}(h:a.2.2.2.1.length≤1000):ztr a u=some (hasA a u):=by
 show zpa stdW a u=_
 unfold zpa
 have hl:=ziq h
 rw[zaa (ymd h)]
 refine(zen (l:=unitsA a) (s0:=()) (by omega) (λi (_:Unit)=>((i:Int),(unitsA a,()))) (λ_ _=>True) (λl _=>some (decide (u∈l))) rfl trivial ?_ ?_).trans rfl
 ·intro _ _ again
  show stdW.cnd (decide (((unitsA a).length:Int)<((unitsA a).length:Int))) _ _=_
  rw[zah]; rfl
 ·intro i hi _ _ again ha
  show stdW.cnd (decide ((i:Int)<((unitsA a).length:Int))) (stdW.idx (unitsA a) (i:Int) λx4=>stdW.nth (unitsA a) (Int.toNat (i:Int)) _) _=_
  rw[cnd_lt hi,idx_w hi,nth_w hi,unitEq]
  by_cases hp:(unitsA a)[i]=u
  ·rw[cnd_y (decide_eq_true hp)]
   congr 1; exact(decide_eq_true (by rw[hp]; simp)).symm
  ·rw[cnd_n (decide_eq_false hp)]
   show again (IntKind.i64.wrap ((i:Int)+1),(unitsA a,()))=_
   rw[i64_s i (by omega),ha () trivial]
   congr 1
   exact decide_eq_decide.2 ⟨λh=>List.mem_cons_of_mem _ h,λh=>(List.mem_cons.1 h).resolve_left λe=>hp e.symm⟩
theorem r_is14(m:zaf):∃b,yil m=some b:=by
 show ∃b,ztu stdW m=some b
 unfold ztu
 repeat' (first|exact⟨_,rfl⟩|refine ex_cnd ?_ ?_)
theorem yny{α:Type}(f:α→Int)(x:α)(t:List α)(id:Int):(x::t).find? (λa=>f a==id)=if f x=id then some x else t.find? (λa=>f a==id):=by
 rw[List.find?_cons]
 by_cases h:f x=id
 ·simp[h]
 ·rw[if_neg h,show (f x==id)=false by simpa using h]
def findM(t:List zaf)(id:Int):Option zaf:=t.find? λa=>a.1==id
def zeroM:zaf:=(0,(0,(0,(0,()))))
theorem findM_cons(x:zaf)(t:List zaf)(id:Int):findM (x::t) id=if x.1=id then some x else findM t id:=yny (λa:zaf=>a.1) x t id
theorem yir{t:List zaf}{id:Int}(hl:t.length≤1000000):zfj t id=some (match findM t id with|some i=>(i,(true,()))|none=>(zeroM,(false,()))):=by
 show zlc stdW t id=_
 unfold zlc
 refine zbp (l:=t) (by omega) (λ_ _=>True) (λt _=>some (match findM t id with|some i=>(i,(true,()))|none=>(zeroM,(false,())))) trivial ?_ ?_
 ·rintro _ again _
  rw[zah]; rfl
 ·rintro i hi _ _ again ha
  rw[cnd_lt hi,idx_w hi,findM_cons]
  by_cases h:t[i].1=id
  ·rw[cnd_y (by simpa using h),if_pos h]
   show stdW.idx t (i:Int) _=_
   rw[idx_w hi]
  ·rw[cnd_n (by simpa using h),if_neg h]
   show again (IntKind.i64.wrap ((i:Int)+1),())=_
   rw[i64_s i (by omega)]
   exact ha _ trivial
theorem ymg{t:List zaf}{id:Int}(hl:t.length≤1000000):zfl t id=some (match findM t id with|some i=>(i,(true,()))|none=>(zeroM,(false,()))):=by
 show zhz stdW t id=_
 unfold zhz
 have e1:zaz t id=some (ixP (λm=>m.1==id) t,(id,())):=by
  show zao stdW t id=_
  unfold zao
  exact ypn hl (λm=>m.1==id) (λ(m:zaf) (c:Int×Unit)=>zry m c.1) (id,()) λx _=>rfl
 have e0:ych t id=some (ixP (λm=>m.1==id) t):=by
  show zpv stdW t id=_
  unfold zpv
  rw[zaa e1]
 rw[zaa e0]
 unfold findM
 rcases ysr (λm:zaf=>m.1==id) t with ⟨h1,h2⟩|⟨k,hk,h1,h2,_⟩
 ·rw[h1,h2,cnd_y (by decide)]; rfl
 ·rw[h1,h2,cnd_n (decide_eq_false (by omega)),idx_w hk]
theorem srtI_ins{α:Type}(f:α→Int){l:List α}{i:α}{j:Nat}(hs:(l.map f).Pairwise (· < ·))(h1:∀x∈l.take j,f x<f i)(h2:∀h:j<l.length,¬f l[j]<f i)(hno:∀x∈l,f x≠f i):((l.take j++[i]++l.drop j).map f).Pairwise (· < ·):=by
 have hs':((l.take j).map f++(l.drop j).map f).Pairwise (· < ·):=by rw[←List.map_append,List.take_append_drop]; exact hs
 obtain⟨a,b,c⟩:=List.pairwise_append.1 hs'
 have hd:∀x∈l.drop j,f i<f x:=by
  intro x hx
  have hne:=hno x (List.mem_of_mem_drop hx)
  by_cases hj:j<l.length
  ·have hij:=h2 hj
   rw[List.drop_eq_getElem_cons hj]at hx b
   rw[List.map_cons]at b
   rcases List.mem_cons.1 hx with rfl|hx
   ·omega
   ·have:=(List.pairwise_cons.1 b).1 (f x) (List.mem_map_of_mem hx)
    omega
  ·rw[List.drop_eq_nil_of_le (by omega)]at hx; cases hx
 rw[List.map_append,List.map_append,List.append_assoc]
 refine List.pairwise_append.2 ⟨a,List.pairwise_cons.2 ⟨λy hy=>?_,b⟩,λx hx y hy=>?_⟩
 ·obtain⟨x,hx,rfl⟩:=List.mem_map.1 hy; exact hd x hx
 ·rcases List.mem_cons.1 hy with rfl|hy
  ·obtain⟨z,hz,rfl⟩:=List.mem_map.1 hx; exact h1 z hz
  ·exact c x hx y hy
def SrtI(l:List zab):Prop:=(l.map (·.1)).Pairwise (· < ·)
theorem r_put15s{l:List zab}{i:zab}(hl:l.length≤1000)(hm:i.2.2.2.1.length≤1000000):∃r e,ztp l i=some (r,(e,()))∧(e=0→(∀x∈r,x∈l∨x=i)∧r.length≤l.length+1∧(SrtI l→SrtI r)):=by
 show ∃r e,zoz stdW l i=some (r,(e,()))∧_
 unfold zoz
 obtain⟨b,hb⟩:=r_is15 hm
 rw[zaa hb]
 cases b with
 |false=>rw[cnd_y (by decide)]; exact⟨[],2,rfl,by simp⟩
 |true=>
  obtain⟨x,bf,hf,hno⟩:=r_find15 (l:=l) (id:=i.1) (by omega)
  rw[cnd_n (by decide),zaa hf]
  cases bf with
  |true=>
   rw[cnd_y (by rfl)]; exact⟨[],12,rfl,by simp⟩
  |false=>
   have hno:=hno rfl
   rw[cnd_n (by rfl),join_w]
   refine loop_P (λo=>∃(r:List zab) (e:Int),o=some (r,(e,()))∧(e=0→(∀x∈r,x∈l∨x=i)∧r.length≤l.length+1∧(SrtI l→SrtI r))) (λz=>l.length+1 - z.1.toNat) (λz=>∃j:Nat,j≤l.length∧z=((j:Int),())∧∀x∈l.take j,x.1<i.1) ⟨0,Nat.zero_le _,rfl,by simp⟩ (by show _ - (0:Int).toNat<_; omega) ?_
   rintro _ ⟨j,hj,rfl,hlo⟩ again ha
   have fin:(∀h:j<l.length,¬l[j].1<i.1)→∃(r:List zab) (e:Int),stdW.bnd (j:Int) l.length (λh4=>stdW.room (l.take h4).length 48 (stdW.room ((l.take h4).length+(i::([]:List zab)).length) 48 (stdW.bnd (j:Int) l.length λh5=>stdW.room (((l.take h4)++(i::([]:List zab))).length+((l.take l.length).drop h5).length) 48 (some (((l.take h4)++(i::([]:List zab))++((l.take l.length).drop h5)),(0,()))))))=some (r,(e,()))∧(e=0→(∀x∈r,x∈l∨x=i)∧r.length≤l.length+1∧(SrtI l→SrtI r)):=by
    intro hhi
    rw[bnd_w (by omega) (by omega),Int.toNat_natCast]
    have l1:(l.take j).length≤1000:=by rw[List.length_take]; omega
    rw[room_w (by omega) (by omega),room_w (by simp only[List.length_cons,List.length_nil]; omega) (by simp only[List.length_cons,List.length_nil]; omega),bnd_w (by omega) (by omega),Int.toNat_natCast,List.take_length,
     room_w (by simp only[List.length_append,List.length_drop,List.length_cons,List.length_nil]; omega) (by simp only[List.length_append,List.length_drop,List.length_cons,List.length_nil]; omega)]
    refine⟨_,_,rfl,λ_=>⟨λx hx=>?_,by simp only[List.length_append,List.length_drop,List.length_cons,List.length_nil,List.length_take]; omega,λhs=>srtI_ins (λa:zab=>a.1) hs hlo hhi hno⟩⟩
    rcases List.mem_append.1 hx with hx|hx
    ·rcases List.mem_append.1 hx with hx|hx
     ·exact .inl (List.mem_of_mem_take hx)
     ·simp only[List.mem_singleton]at hx
      exact .inr hx
    ·exact .inl (List.mem_of_mem_drop hx)
   show ∃r e,stdW.cnd (decide ((j:Int)<(l.length:Int))) _ _=_∧_
   by_cases h:j<l.length
   ·rw[cnd_lt h]
    show ∃r e,stdW.idx l (j:Int) _=_∧_
    rw[idx_w h]
    by_cases h1:l[j].1<i.1
    ·rw[cnd_y (decide_eq_true h1)]
     show ∃r e,again (IntKind.i64.wrap ((j:Int)+1),())=_∧_
     rw[i64_s j (by omega)]
     refine ha _ ⟨j+1,by omega,rfl,λx hx=>?_⟩ (by show _ - ((j+1:Nat):Int).toNat<_ - ((j:Nat):Int).toNat; omega)
     rw[List.take_succ_eq_append_getElem h]at hx
     rcases List.mem_append.1 hx with hx|hx
     ·exact hlo x hx
     ·simp only[List.mem_singleton]at hx; subst hx; exact h1
    ·rw[cnd_n (decide_eq_false h1)]; exact fin λ_=>h1
   ·have:j=l.length:=by omega
    subst this
    rw[zah]; exact fin λh=>absurd h (Nat.lt_irrefl _)
def okTS(l t:List zab):Prop:=(∀x∈t,x∈l)∧t.length≤20∧SrtI t
theorem r_table15s{l:List zab}(hm:∀i∈l,i.2.2.2.1.length≤1000000)(hl:l.length≤1000):∃t,zkv l=some t∧okTS l t:=by
 show ∃t,zhp stdW l=some t∧okTS l t
 unfold zhp
 rw[join_w]
 refine loop_P (λo=>∃t,o=some t∧okTS l t) (λz=>l.length+1 - z.2.1.toNat) (λz=>∃(j:Nat) (acc:List zab),j≤l.length∧j≤20∧acc.length≤j∧(∀x∈acc,x∈l)∧SrtI acc∧z=(acc,((j:Int),()))) ⟨0,[],Nat.zero_le _,Nat.zero_le _,Nat.le_refl _,by simp,List.Pairwise.nil,rfl⟩ (by show _ - (0:Int).toNat<_; omega) ?_
 rintro _ ⟨j,acc,hj,hj10,hacc,hok,hnd,rfl⟩ again ha
 have fin:∃t,(some acc:Option (List zab))=some t∧okTS l t:=⟨acc,rfl,hok,by omega,hnd⟩
 show ∃t,stdW.cnd (decide ((j:Int)<(l.length:Int))) (stdW.cnd (decide ((j:Int)<20)) _ _) _=some t∧okTS l t
 by_cases h:j<l.length
 ·rw[cnd_lt h]
  by_cases h10:j<20
  ·rw[cnd_y (decide_eq_true (by omega)),join_w]
   show ∃t,stdW.idx l (j:Int) _=some t∧okTS l t
   rw[idx_w h]
   obtain⟨r,e,hp,hr⟩:=r_put15s (l:=acc) (i:=l[j]) (by omega) (hm _ (List.getElem_mem h))
   have nxt:∀a:List zab,a.length≤j+1→(∀x∈a,x∈l)→SrtI a→∃t,again (a,(IntKind.i64.wrap ((j:Int)+1),()))=some t∧okTS l t:=by
    intro a h1 h2 h3
    rw[i64_s j (by omega)]
    exact ha _ ⟨j+1,a,by omega,by omega,h1,h2,h3,rfl⟩ (by show _ - ((j+1:Nat):Int).toNat<_ - ((j:Nat):Int).toNat; omega)
   show ∃t,stdW.call (ztp acc l[j]) _=some t∧okTS l t
   rw[zaa hp]
   by_cases he:e=0
   ·obtain⟨h1,h2,h3⟩:=hr he
    rw[cnd_y (by simpa using he)]
    exact nxt r (by omega) (λx hx=>(h1 x hx).elim (hok x) λh3=>h3▸List.getElem_mem h) (h3 hnd)
   ·rw[cnd_n (by simpa using he)]
    exact nxt acc (by omega) hok hnd
  ·rw[cnd_n (decide_eq_false (by omega))]; exact fin
 ·have:j=l.length:=by omega
  subst this
  rw[zah]; exact fin
def findC(t:List zab)(id:Int):Option zab:=t.find? λa=>a.1==id
def zeroA:zab:=(0,(0,(0,([],()))))
theorem zxk(x:zab)(t:List zab)(id:Int):findC (x::t) id=if x.1=id then some x else findC t id:=yny (λa:zab=>a.1) x t id
theorem r_find15c{t:List zab}{id:Int}(hl:t.length≤1000000):zix t id=some (match findC t id with|some i=>(i,(true,()))|none=>(zeroA,(false,()))):=by
 show zfi stdW t id=_
 unfold zfi
 refine zbp (l:=t) (by omega) (λ_ _=>True) (λt _=>some (match findC t id with|some i=>(i,(true,()))|none=>(zeroA,(false,())))) trivial ?_ ?_
 ·rintro _ again _
  rw[zah]; rfl
 ·rintro i hi _ _ again ha
  rw[cnd_lt hi,idx_w hi,zxk]
  by_cases h:t[i].1=id
  ·rw[cnd_y (by simpa using h),if_pos h]
   show stdW.idx t (i:Int) _=_
   rw[idx_w hi]
  ·rw[cnd_n (by simpa using h),if_neg h]
   show again (IntKind.i64.wrap ((i:Int)+1),())=_
   rw[i64_s i (by omega)]
   exact ha _ trivial
theorem yga{id:Int}:∀{t:List zab},(∀a∈t,id<a.1)→findC t id=none
 |[],_=>rfl
 |x::t,h=>by
  have:=h x (by simp)
  rw[zxk,if_neg (by omega),yga λa ha=>h a (by simp[ha])]
theorem r_placeC{t:List zab}{id:Int}(hl:t.length≤1000000)(hs:SrtI t):
  (∃k:Nat,∃h:k<t.length,zqz t id=some ((k:Int),(true,()))∧findC t id=some t[k])∨(∃z,zqz t id=some (z,(false,()))∧findC t id=none):=by
 show (∃k:Nat,∃h:k<t.length,zhe stdW t id=_∧_)∨(∃z,zhe stdW t id=_∧_)
 unfold zhe
 refine loop_P (λo=>(∃k:Nat,∃h:k<t.length,o=some ((k:Int),(true,()))∧findC t id=some t[k])∨(∃z,o=some (z,(false,()))∧findC t id=none)) (λz=>t.length+1 - z.1.toNat) (λz=>∃j:Nat,j≤t.length∧z=((j:Int),())∧findC t id=findC (t.drop j) id) ⟨0,Nat.zero_le _,rfl,rfl⟩ (by show _ - (0:Int).toNat<_; omega) ?_
 rintro _ ⟨j,hj,rfl,hlo⟩ again ha
 show (∃k:Nat,∃h:k<t.length,stdW.cnd (decide ((j:Int)<(t.length:Int))) _ _=_∧_)∨(∃z,stdW.cnd (decide ((j:Int)<(t.length:Int))) _ _=_∧_)
 by_cases h:j<t.length
 ·have hd:=List.drop_eq_getElem_cons h
  rw[hd,zxk]at hlo
  rw[cnd_lt h]
  show (∃k:Nat,∃h:k<t.length,stdW.idx t (j:Int) _=_∧_)∨(∃z,stdW.idx t (j:Int) _=_∧_)
  rw[idx_w h]
  by_cases h1:id≤t[j].1
  ·rw[cnd_y (decide_eq_true h1)]
   by_cases h2:t[j].1=id
   ·rw[if_pos h2]at hlo
    refine .inl ⟨j,h,?_,hlo⟩
    rw[show (t[j].1==id)=true by simpa using h2]
   ·rw[if_neg h2]at hlo
    refine .inr ⟨(j:Int),?_,hlo.trans (yga λa ham=>?_)⟩
    ·rw[show (t[j].1==id)=false by simpa using h2]
    ·have hs':((t.drop j).map (·.1)).Pairwise (· < ·):=by
      rw[List.map_drop]; exact List.Pairwise.sublist (List.drop_sublist _ _) hs
     rw[hd,List.map_cons]at hs'
     have:=(List.pairwise_cons.1 hs').1 a.1 (List.mem_map_of_mem ham)
     omega
  ·rw[cnd_n (decide_eq_false h1)]
   rw[if_neg (by omega)]at hlo
   show (∃k:Nat,∃h:k<t.length,again (IntKind.i64.wrap ((j:Int)+1),())=_∧_)∨(∃z,again (IntKind.i64.wrap ((j:Int)+1),())=_∧_)
   rw[i64_s j (by omega)]
   exact ha _ ⟨j+1,by omega,rfl,hlo⟩ (by show _ - ((j+1:Nat):Int).toNat<_ - ((j:Nat):Int).toNat; omega)
 ·have:j=t.length:=by omega
  subst this
  rw[List.drop_length]at hlo
  rw[zah]
  exact .inr ⟨_,rfl,hlo⟩
theorem r_findC{t:List zab}{id:Int}(ht:okAs t)(hs:SrtI t):ydy t id=some (match findC t id with|some i=>(i,(true,()))|none=>(zeroA,(false,()))):=by
 show zrd stdW t id=_
 unfold zrd
 have hl:=ht.2
 rcases r_placeC (id:=id) (by omega) hs with ⟨k,hk,h1,h2⟩|⟨z,h1,h2⟩
 ·rw[zaa h1,h2,cnd_n (by rfl)]
  show stdW.idx t (k:Int) _=_
  have e1:zra t[k]=some t[k]:=by
   show zjp stdW t[k]=_
   unfold zjp
   rw[zaa (yru (by have:=ht.1 _ (List.getElem_mem hk); omega))]
  rw[idx_w hk,zaa e1]
 ·rw[zaa h1,h2,cnd_y (by rfl)]; rfl
def cmpI(x y:Int):Int:=if x<y then -1 else if y<x then 1 else 0
theorem r_cmp1I(x y:Int):zml x y=some (cmpI x y):=by
 show zie stdW x y=_
 unfold zie cmpI
 have e:∀x:Int,zvd x=some false:=λx=>by
  show some (x != x)=_
  simp
 rw[zaa (e x),zaa (e y),cnd_n rfl,cnd_n rfl]
 by_cases h:x<y
 ·rw[cnd_y (decide_eq_true h),if_pos h]
 ·rw[cnd_n (decide_eq_false h),if_neg h]
  by_cases h2:y<x
  ·rw[cnd_y (decide_eq_true h2),if_pos h2]
  ·rw[cnd_n (decide_eq_false h2),if_neg h2]
def orI:List Int→Int
 |[]=>0
 |x::l=>if x=0 then orI l else x
theorem r_or1(l:List Int)(hl:l.length≤1000000):cmp_Or l=some (orI l):=by
 show ykp stdW l=_
 unfold ykp
 refine zbp (l:=l) (by omega) (s0:=()) (λ_ _=>True) (λl' _=>some (orI l')) trivial ?_ ?_
 ·rintro _ again _
  rw[zah]; rfl
 ·rintro i hi _ _ again ha
  rw[cnd_lt hi,idx_w hi]
  show _=some (orI (l[i]::l.drop (i+1)))
  rw[orI]
  by_cases h0:l[i]=0
  ·rw[cnd_n (by simp[h0]),if_pos h0]
   show again (IntKind.i64.wrap ((i:Int)+1),())=_
   rw[i64_s i (by omega)]
   exact ha _ trivial
  ·rw[cnd_y (by simp[h0]),if_neg h0]
theorem r_lorder1(a b:ALot'):zpz a b=some (orI [cmpI a.1 b.1,cmpI a.2.1 b.2.1]):=by
 show zlx stdW a b=_
 unfold zlx
 rw[zaa (r_cmp1I _ _),zaa (r_cmp1I _ _),zaa (r_or1 _ (by simp))]
theorem lorder_lt(a b:ALot'):decide (0≤orI [cmpI a.1 b.1,cmpI a.2.1 b.2.1])=!decide (ltL a b):=by
 unfold ltL
 simp only[orI,cmpI]
 by_cases h1:a.1<b.1
 ·simp[h1]
 ·by_cases h2:b.1<a.1
  ·have h3:¬a.1=b.1:=by omega
   simp[h1,h2,h3]
  ·have h3:a.1=b.1:=by omega
   by_cases h4:a.2.1<b.2.1
   ·simp[h3,h4]
   ·by_cases h5:b.2.1<a.2.1<;>simp[h3,h4,h5]
theorem r_lright1(x:ALot'):zws x=some (decide (rightL x)):=by
 show zlw stdW x=_
 unfold zlw rightL
 by_cases h1:1≤x.1
 ·rw[cnd_y (decide_eq_true h1)]
  by_cases h2:x.1≤4
  ·rw[cnd_y (decide_eq_true h2)]
   by_cases h3:0≤x.2.1
   ·rw[cnd_y (decide_eq_true h3)]
    by_cases h4:x.2.1≤255
    ·rw[cnd_y (decide_eq_true h4)]; simp[h1,h2,h3,h4]
    ·rw[cnd_n (decide_eq_false h4)]; simp[h4]
   ·rw[cnd_n (decide_eq_false h3)]; simp[h3]
  ·rw[cnd_n (decide_eq_false h2)]; simp[h2]
 ·rw[cnd_n (decide_eq_false h1)]; simp[h1]
theorem r_one18(x:ALot'):ybl x=some (decide (rightL x)):=by
 show zos stdW x=_
 unfold zos rightL
 by_cases h1:1≤x.1
 ·rw[cnd_y (decide_eq_true (by omega))]
  by_cases h2:x.1≤4
  ·rw[cnd_y (decide_eq_true (by omega))]
   by_cases h3:0≤x.2.1
   ·rw[cnd_y (decide_eq_true h3)]
    by_cases h4:x.2.1≤255
    ·rw[cnd_y (decide_eq_true (by omega))]; simp[h1,h2,h3,h4]
    ·rw[cnd_n (decide_eq_false (by omega))]; simp[h4]
   ·rw[cnd_n (decide_eq_false h3)]; simp[h3]
  ·rw[cnd_n (decide_eq_false (by omega))]; simp[h2]
 ·rw[cnd_n (decide_eq_false (by omega))]; simp[h1]
theorem r_less18(a b:ALot'):zot a b=some (decide (ltL a b)):=by
 show zkn stdW a b=_
 unfold zkn ltL
 by_cases h1:a.1<b.1
 ·rw[cnd_y (decide_eq_true h1)]; simp[h1]
 ·rw[cnd_n (decide_eq_false h1)]
  by_cases h2:a.1=b.1
  ·rw[cnd_y (by simpa using h2)]; simp[h2]
  ·rw[cnd_n (by simpa using h2)]; simp[h1,h2]
def LP(l:List ALot'):Prop:=(∀x∈l,rightL x)∧l.Pairwise ltL
theorem ltL_tr{a b c:ALot'}(h1:ltL a b)(h2:ltL b c):ltL a c:=by unfold ltL at *; omega
theorem ylc{l:List ALot'}{i:Nat}(hi:i<l.length)(inv:LP (l.take i))(h1:rightL l[i])(h2:∀h0:0<i,ltL (l[i - 1]'(by omega)) l[i]):LP (l.take (i+1)):=by
 rw[List.take_succ_eq_append_getElem hi]
 refine⟨λx hx=>?_,?_⟩
 ·rcases List.mem_append.1 hx with hx|hx
  ·exact inv.1 x hx
  ·simp at hx; rw[hx]; exact h1
 ·refine List.pairwise_append.2 ⟨inv.2,by simp,λa ha b hb=>?_⟩
  simp only[List.mem_singleton]at hb
  subst hb
  obtain⟨k,hk,hka⟩:=List.mem_iff_getElem.1 ha
  have hk':k<i:=by simp at hk; omega
  have h3:=h2 (by omega)
  by_cases hki:k=i - 1
  ·subst hki; rw[←hka]; simpa using h3
  ·have h4:=List.pairwise_iff_getElem.1 inv.2 k (i - 1) (by simpa using hk) (by simp; omega) (by omega)
   rw[hka]at h4
   refine ltL_tr h4 ?_
   simpa using h3
theorem isL_end{l:List ALot'}(h:LP (l.take l.length)):isL l=decide ((l.length:Int)≤16):=by
 rw[List.take_length]at h
 unfold isL LInv
 refine decide_eq_decide.2 ⟨λh=>by omega,λh3=>⟨h.1,h.2,by omega⟩⟩
theorem ysw{l:List ALot'}{i:Nat}(hi:i<l.length)(h:¬rightL l[i]):isL l=false:=
 decide_eq_false λhp=>h (hp.1 _ (List.getElem_mem hi))
theorem ysv{l:List ALot'}{i:Nat}(hi:i<l.length)(h0:0<i)(h:¬ltL (l[i - 1]'(by omega)) l[i]):isL l=false:=
 decide_eq_false λhp=>h (List.pairwise_iff_getElem.1 hp.2.1 (i - 1) i (by omega) hi (by omega))
theorem r_lis1{l:List ALot'}(hl:l.length≤1000000):ypm l=some (isL l):=by
 show zzm stdW l=_
 unfold zzm
 refine loop_n (N:=l.length) (by omega) (λi _=>LP (l.take i)) (some (isL l)) (by simp[LP]) ?_ ?_
 ·rintro _ again h
  rw[zah,isL_end h]
 ·rintro i hi _ inv again ha
  rw[cnd_lt hi,idx_w hi]
  refine join_g λk hk=>?_
  have kt:k (true,())=some false:=by subst hk; rfl
  have kf:k (false,())=again (((i+1:Nat):Int),()):=by rw[←i64_s i (by omega)]; subst hk; rfl
  clear hk
  rw[zaa (r_lright1 _)]
  by_cases h1:rightL l[i]
  ·rw[cnd_n (by simp[h1])]
   by_cases h0:0<i
   ·rw[cnd_y (decide_eq_true (by omega)),zdz i h0 (by rw[zap]; omega),idx_w (by omega),zaa (r_lorder1 _ _),both_w,lorder_lt]
    by_cases h2:ltL (l[i - 1]'(by omega)) l[i]
    ·rw[decide_eq_true h2]
     exact kf.trans (ha _ (ylc hi inv h1 λ_=>h2))
    ·rw[decide_eq_false h2,ysv hi h0 h2]; exact kt
   ·rw[cnd_n (decide_eq_false (by omega)),both_w]
    exact kf.trans (ha _ (ylc hi inv h1 λh=>absurd h h0))
  ·rw[cnd_y (by simp[h1]),both_w,kt,ysw hi h1]
theorem r_is18{l:List ALot'}(hl:l.length≤1000000):yic l=some (isL l):=by
 show ztl stdW l=_
 unfold ztl
 refine loop_n (N:=l.length) (by omega) (λi _=>LP (l.take i)) (some (isL l)) (by simp[LP]) ?_ ?_
 ·rintro _ again h
  rw[zah,isL_end h]
 ·rintro i hi _ inv again ha
  rw[cnd_lt hi]
  refine join_g λk hk=>?_
  have kt:k (true,())=some false:=by subst hk; rfl
  have kf:k (false,())=again (((i+1:Nat):Int),()):=by rw[←i64_s i (by omega)]; subst hk; rfl
  clear hk
  rw[idx_w hi,zaa (r_one18 _)]
  by_cases h1:rightL l[i]
  ·rw[cnd_n (by simp[h1])]
   by_cases h0:0<i
   ·rw[cnd_y (decide_eq_true (by omega)),zdz i h0 (by rw[zap]; omega),idx_w (by omega),idx_w hi,zaa (r_less18 _ _),both_w]
    by_cases h2:ltL (l[i - 1]'(by omega)) l[i]
    ·rw[decide_eq_true h2]
     exact kf.trans (ha _ (ylc hi inv h1 λ_=>h2))
    ·rw[decide_eq_false h2,ysv hi h0 h2]; exact kt
   ·rw[cnd_n (decide_eq_false (by omega)),both_w]
    exact kf.trans (ha _ (ylc hi inv h1 λh=>absurd h h0))
  ·rw[cnd_y (by simp[h1]),both_w,kt,ysw hi h1]
def HP(l:List AHold'):Prop:=(∀h∈l,h.2.1≠[]∧LInv h.2.1)∧SrtA (l.map (·.1))
theorem yld{l:List AHold'}{i:Nat}(hi:i<l.length)(inv:HP (l.take i))(h1:l[i].2.1≠[]∧LInv l[i].2.1)(h2:∀h0:0<i,ltA (l[i - 1]'(by omega)).1 l[i].1):HP (l.take (i+1)):=by
 refine⟨λx hx=>?_,srt_next hi inv.2 h2⟩
 rw[List.take_succ_eq_append_getElem hi]at hx
 rcases List.mem_append.1 hx with hx|hx
 ·exact inv.1 x hx
 ·simp at hx; rw[hx]; exact h1
theorem isH_end{l:List AHold'}(h:HP (l.take l.length)):isH l=true:=by rw[List.take_length]at h; exact decide_eq_true h
theorem ysz{l:List AHold'}{i:Nat}(hi:i<l.length)(h:l[i].2.1=[]):isH l=false:=decide_eq_false λhp=>(hp.1 _ (List.getElem_mem hi)).1 h
theorem ysy{l:List AHold'}{i:Nat}(hi:i<l.length)(h:isL l[i].2.1=false):isH l=false:=decide_eq_false λhp=>of_decide_eq_false h (hp.1 _ (List.getElem_mem hi)).2
theorem ysx{l:List AHold'}{i:Nat}(hi:i<l.length)(h0:0<i)(h:¬ltA (l[i - 1]'(by omega)).1 l[i].1):isH l=false:=
 decide_eq_false λhp=>h (by
  have:=List.pairwise_iff_getElem.1 hp.2 (i - 1) i (by simp; omega) (by simpa using hi) (by omega)
  simpa using this)
theorem r_his1{l:List AHold'}(h:okHs l):yqa l=some (isH l):=by
 have hl:=h.2
 show zzs stdW l=_
 unfold zzs
 refine loop_n (N:=l.length) (by omega) (λi _=>HP (l.take i)) (some (isH l)) (by simp[HP,SrtA]) ?_ ?_
 ·rintro _ again h
  rw[zah,isH_end h]
 ·rintro i hi _ inv again ha
  rw[cnd_lt hi,idx_w hi]
  refine join_g λk hk=>?_
  have kt:k (true,())=some false:=by subst hk; rfl
  have kf:k (false,())=again (((i+1:Nat):Int),()):=by rw[←i64_s i (by omega)]; subst hk; rfl
  clear hk
  by_cases h1:l[i].2.1=[]
  ·rw[cnd_y (by rw[h1]; rfl),both_w,kt,ysz hi h1]
  ·have hne:((l[i].2.1.length:Int)==0)=false:=by
    cases hc:l[i].2.1 with
    |nil=>exact absurd hc h1
    |cons x xs=>simp; omega
   rw[cnd_n hne,zaa (r_lis1 (by have:=(h.1 _ (List.getElem_mem hi)).1; omega))]
   cases hL:isL l[i].2.1 with
   |false=>rw[cnd_y (by rfl),both_w,kt,ysy hi hL]
   |true=>
    rw[cnd_n (by rfl)]
    by_cases h0:0<i
    ·rw[cnd_y (decide_eq_true (by omega)),zdz i h0 (by rw[zap]; omega),idx_w (by omega),zaa (zwj _ _),both_w]
     by_cases h2:ltA (l[i - 1]'(by omega)).1 l[i].1
     ·rw[decide_eq_true h2]
      exact kf.trans (ha _ (yld hi inv ⟨h1,of_decide_eq_true hL⟩ λ_=>h2))
     ·rw[decide_eq_false h2,ysx hi h0 h2]; exact kt
    ·rw[cnd_n (decide_eq_false (by omega)),both_w]
     exact kf.trans (ha _ (yld hi inv ⟨h1,of_decide_eq_true hL⟩ λh=>absurd h h0))
theorem r_is26{l:List AHold'}(h:okHs l):yhx l=some (isH l):=by
 have hl:=h.2
 show ztg stdW l=_
 unfold ztg
 refine loop_n (N:=l.length) (by omega) (λi _=>HP (l.take i)) (some (isH l)) (by simp[HP,SrtA]) ?_ ?_
 ·rintro _ again h
  rw[zah,isH_end h]
 ·rintro i hi _ inv again ha
  rw[cnd_lt hi]
  refine join_g λk hk=>?_
  have kt:k (true,())=some false:=by subst hk; rfl
  have kf:k (false,())=again (((i+1:Nat):Int),()):=by rw[←i64_s i (by omega)]; subst hk; rfl
  clear hk
  rw[idx_w hi]
  by_cases h1:l[i].2.1=[]
  ·rw[cnd_y (by rw[h1]; rfl),both_w,kt,ysz hi h1]
  ·have hne:((l[i].2.1.length:Int)==0)=false:=by
    cases hc:l[i].2.1 with
    |nil=>exact absurd hc h1
    |cons x xs=>simp; omega
   rw[cnd_n hne,idx_w hi,zaa (r_is18 (by have:=(h.1 _ (List.getElem_mem hi)).1; omega))]
   cases hL:isL l[i].2.1 with
   |false=>rw[cnd_y (by rfl),both_w,kt,ysy hi hL]
   |true=>
    rw[cnd_n (by rfl)]
    by_cases h0:0<i
    ·rw[cnd_y (decide_eq_true (by omega)),zdz i h0 (by rw[zap]; omega),idx_w (by omega),idx_w hi,zaa (zpn _ _),both_w]
     by_cases h2:ltA (l[i - 1]'(by omega)).1 l[i].1
     ·rw[decide_eq_true h2]
      exact kf.trans (ha _ (yld hi inv ⟨h1,of_decide_eq_true hL⟩ λ_=>h2))
     ·rw[decide_eq_false h2,ysx hi h0 h2]; exact kt
    ·rw[cnd_n (decide_eq_false (by omega)),both_w]
     exact kf.trans (ha _ (yld hi inv ⟨h1,of_decide_eq_true hL⟩ λh=>absurd h h0))
theorem big_abs(z:Int):(false,(big z).2)=big (absI z):=by
 unfold big absI
 have h1:¬(if z<0 then -z else z)<0:=by split<;>omega
 have h2:(if z<0 then -z else z).natAbs=z.natAbs:=by split<;>omega
 rw[h2,decide_eq_false h1]
theorem yqr(z:Int):0≤absI z:=by unfold absI; split<;>omega
theorem zha{z:Int}(h:¬I64 z):fits64 z=(0,(7,())):=by unfold fits64; rw[if_neg h]
theorem zmf{z:Int}(h:I64 z):fits64 z=(z,(0,())):=by unfold fits64; rw[if_pos h]
theorem r_abs{a:Int}(h:I64 a):ykf a=some (fits64 (absI a)):=by
 show yab stdW a=_
 unfold yab absI
 by_cases h0:a<0
 ·have e:=r_fSub (a:=0) (b:=a) (by unfold I64; omega) h
  rw[Int.zero_sub]at e
  rw[cnd_y (decide_eq_true h0),if_pos h0,zaa e]
 ·rw[cnd_n (decide_eq_false h0),if_neg h0,zmf h]
def grossZ(l:List Leg):Int:=sumBy (λx=>absI x.2.1) l
theorem yhi{α:Type}{f:α→Int}:∀{l:List α},(∀x∈l,0≤f x)→0≤sumBy f l
 |[],_=>by rw[sumBy_nil]; omega
 |x::l,h=>by
  have:=h x (by simp)
  have:=yhi (l:=l) λy hy=>h y (by simp[hy])
  rw[yfe]; omega
theorem zus(l:List Leg):0≤grossZ l:=yhi λx _=>yqr _
def grossP(l:List Leg):Int×Int×Unit:=if isV l=true then fits64 (grossZ l) else (0,(3,()))
theorem yjm{z:Int}(h:9223372036854775807<z):¬I64 z:=by unfold I64; omega
theorem r_gross{l:List Leg}(ho:okL l)(hl:l.length≤1000):yat l=some (grossP l):=by
 show zoi stdW l=_
 unfold zoi grossP
 rw[zaa (r_none (l:=l) (by omega))]
 cases hv:isV l with
 |false=>rw[cnd_y (by rfl)]; rfl
 |true=>
  rw[cnd_n (by rfl),if_pos rfl]
  refine(zen (l:=l) (s0:=[]) (by omega) (λi (z:List Int)=>((i:Int),(z,()))) (λi z=>z.length≤i∧(∀x∈z,I64 x)∧0≤z.sum) (λl' z=>some (fits64 (z.sum+grossZ l'))) rfl ⟨Nat.le_refl _,by simp,by simp⟩ ?_ ?_).trans ?_
  ·rintro z ⟨h1,h2,h3⟩ again
   show stdW.cnd (decide ((l.length:Int)<(l.length:Int))) _ _=_
   rw[zah,zaa (r_fSum h2 (by omega))]
   show some (fits64 z.sum)=some (fits64 (z.sum+0))
   rw[Int.add_zero]
  ·rintro i hi z ⟨h1,h2,h3⟩ again ha
   show stdW.cnd (decide ((i:Int)<(l.length:Int))) (stdW.idx l (i:Int) _) _=_
   have hx:=ho _ (List.getElem_mem hi)
   have hn:=yqr l[i].2.1
   have hg:=zus (l.drop (i+1))
   rw[cnd_lt hi,idx_w hi]
   show stdW.call (ykf l[i].2.1) _=some (fits64 (z.sum+(absI l[i].2.1+grossZ (l.drop (i+1)))))
   rw[zaa (r_abs hx)]
   by_cases hI:I64 (absI l[i].2.1)
   ·rw[zmf hI,cnd_n (by rfl)]
    show stdW.room (z.length+1) 8 (again (IntKind.i64.wrap ((i:Int)+1),(z++[absI l[i].2.1],())))=_
    rw[room_w (by omega) (by omega),i64_s i (by omega)]
    refine(ha (z++[absI l[i].2.1]) ⟨by simp; omega,λx hx=>?_,by simp; omega⟩).trans ?_
    ·rcases List.mem_append.1 hx with hx|hx
     ·exact h2 x hx
     ·simp only[List.mem_singleton]at hx; subst hx; exact hI
    ·rw[List.sum_append,List.sum_cons,List.sum_nil]
     congr 2; omega
   ·rw[zha hI,cnd_y (by rfl),zha (yjm (by unfold I64 at hI; omega))]
  ·rw[List.sum_nil,Int.zero_add]
theorem absI_bd{z:Int}(h:I64 z):absI z≤9223372036854775808:=(abs_bd h).2
theorem r_gross11{l:List Leg}(ho:okL l)(hl:l.length≤1000):zrt l=some (grossP l):=by
 show zhr stdW l=_
 unfold zhr grossP
 rw[zaa (yiq (l:=l) (by omega))]
 cases hv:isV l with
 |false=>rw[cnd_y (by rfl)]; rfl
 |true=>
  rw[cnd_n (by rfl),if_pos rfl]
  refine(zen (l:=l) (s0:=(0:Int)) (by omega) (λi (z:Int)=>((i:Int),big z)) (λi z=>0≤z∧z≤9223372036854775808*(i:Int)) (λl' z=>some (fits64 (z+grossZ l'))) (by show _=(_,big 0); rw[big0]; rfl) ⟨by omega,by omega⟩ ?_ ?_).trans ?_
  ·rintro z ⟨h1,h2⟩ again
   show stdW.cnd (decide ((l.length:Int)<(l.length:Int))) _ _=_
   rw[zah]
   show stdW.call (zcz (big z)) _=some (fits64 (z+0))
   rw[zaa (r_fits (by unfold sml; omega)),Int.add_zero]
   by_cases hI:I64 z
   ·rw[decide_eq_true hI,cnd_n (by rfl),zmf hI]
    show stdW.call (zds (big z)) _=_
    rw[zaa (r_int hI)]
   ·rw[decide_eq_false hI,cnd_y (by rfl),zha hI]
  ·rintro i hi z ⟨h1,h2⟩ again ha
   show stdW.cnd (decide ((i:Int)<(l.length:Int))) (stdW.idx l (i:Int) _) _=_
   have hx:=ho _ (List.getElem_mem hi)
   have hn:=yqr l[i].2.1
   have hb:=absI_bd hx
   have hg:=zus (l.drop (i+1))
   rw[cnd_lt hi,idx_w hi,zaa (r_of hx)]
   show stdW.call (zcz (false,(big l[i].2.1).2)) _=some (fits64 (z+(absI l[i].2.1+grossZ (l.drop (i+1)))))
   rw[big_abs,zaa (r_fits (by unfold sml; omega))]
   by_cases hI:I64 (absI l[i].2.1)
   ·rw[decide_eq_true hI,cnd_n (by rfl)]
    show stdW.call (zbt (big z) (big (absI l[i].2.1))) _=_
    rw[zaa (r_addB (by unfold sml; omega) (by unfold sml; omega)),i64_s i (by omega)]
    refine(ha (z+absI l[i].2.1) ⟨by omega,by omega⟩).trans ?_
    congr 2; omega
   ·rw[decide_eq_false hI,cnd_y (by rfl),zha (yjm (by unfold I64 at hI; omega))]
  ·rw[Int.zero_add]
def heldZ(l:List APos')(us:List AUnit'):Int:=sumBy (λu=>grossZ (ofB l u)) us
def heldP(l:List APos')(us:List AUnit'):Int×Int×Unit:=if isB l=true then fits64 (heldZ l us) else (0,(3,()))
theorem ypj{l:List APos'}(h:isB l=true)(u:AUnit'):isV (ofB l u)=true:=decide_eq_true (ofB_V (of_decide_eq_true h) u)
theorem held_nn(l:List APos')(us:List AUnit'):0≤heldZ l us:=yhi λu _=>zus _
theorem r_held{l:List APos'}{us:List AUnit'}(hb:okB l)(hl:us.length≤100000):zjo l us=some (heldP l us):=by
 show zqw stdW l us=_
 unfold zqw heldP
 rw[zaa (r_isB hb)]
 cases hv:isB l with
 |false=>rw[cnd_y (by rfl)]; rfl
 |true=>
  rw[cnd_n (by rfl),if_pos rfl]
  refine(zen (l:=us) (s0:=[]) (by omega) (λi (z:List Int)=>((i:Int),(z,()))) (λi z=>z.length≤i∧(∀x∈z,I64 x)∧0≤z.sum) (λl' z=>some (fits64 (z.sum+heldZ l l'))) rfl ⟨Nat.le_refl _,by simp,by simp⟩ ?_ ?_).trans ?_
  ·rintro z ⟨h1,h2,h3⟩ again
   show stdW.cnd (decide ((us.length:Int)<(us.length:Int))) _ _=_
   rw[zah,zaa (r_fSum h2 (by omega))]
   show some (fits64 z.sum)=some (fits64 (z.sum+0))
   rw[Int.add_zero]
  ·rintro i hi z ⟨h1,h2,h3⟩ again ha
   show stdW.cnd (decide ((i:Int)<(us.length:Int))) (stdW.idx us (i:Int) _) _=_
   obtain⟨o1,o2⟩:=ofB_ok hb us[i]
   have hn:=zus (ofB l us[i])
   have hg:=held_nn l (us.drop (i+1))
   rw[cnd_lt hi,idx_w hi,zaa (r_bof hb),zaa (r_gross o1 (by omega))]
   show _=some (fits64 (z.sum+(grossZ (ofB l us[i])+heldZ l (us.drop (i+1)))))
   unfold grossP
   rw[if_pos (ypj hv _)]
   by_cases hI:I64 (grossZ (ofB l us[i]))
   ·rw[zmf hI,cnd_n (by rfl)]
    show stdW.room (z.length+1) 8 (again (IntKind.i64.wrap ((i:Int)+1),(z++[grossZ (ofB l us[i])],())))=_
    rw[room_w (by omega) (by omega),i64_s i (by omega)]
    refine(ha (z++[grossZ (ofB l us[i])]) ⟨by simp; omega,λx hx=>?_,by simp; omega⟩).trans ?_
    ·rcases List.mem_append.1 hx with hx|hx
     ·exact h2 x hx
     ·simp only[List.mem_singleton]at hx; subst hx; exact hI
    ·rw[List.sum_append,List.sum_cons,List.sum_nil]
     congr 2; omega
   ·rw[zha hI,cnd_y (by rfl),zha (yjm (by unfold I64 at hI; omega))]
  ·rw[List.sum_nil,Int.zero_add]
theorem yrs{l:List APos'}{us:List AUnit'}(hb:okB l)(hl:us.length≤100000):zgp l us=some (heldP l us):=by
 show zkm stdW l us=_
 unfold zkm heldP
 rw[zaa (ypb hb)]
 cases hv:isB l with
 |false=>rw[cnd_y (by rfl)]; rfl
 |true=>
  rw[cnd_n (by rfl),if_pos rfl]
  refine(zen (l:=us) (s0:=(0:Int)) (by omega) (λi (z:Int)=>((i:Int),big z)) (λi z=>0≤z∧z≤9223372036854775808*(i:Int)) (λl' z=>some (fits64 (z+heldZ l l'))) (by show _=(_,big 0); rw[big0]; rfl) ⟨by omega,by omega⟩ ?_ ?_).trans ?_
  ·rintro z ⟨h1,h2⟩ again
   show stdW.cnd (decide ((us.length:Int)<(us.length:Int))) _ _=_
   rw[zah]
   show stdW.call (zcz (big z)) _=some (fits64 (z+0))
   rw[zaa (r_fits (by unfold sml; omega)),Int.add_zero]
   by_cases hI:I64 z
   ·rw[decide_eq_true hI,cnd_n (by rfl),zmf hI]
    show stdW.call (zds (big z)) _=_
    rw[zaa (r_int hI)]
   ·rw[decide_eq_false hI,cnd_y (by rfl),zha hI]
  ·rintro i hi z ⟨h1,h2⟩ again ha
   show stdW.cnd (decide ((i:Int)<(us.length:Int))) _ _=_
   obtain⟨o1,o2⟩:=ofB_ok hb us[i]
   have hn:=zus (ofB l us[i])
   have hg:=held_nn l (us.drop (i+1))
   rw[cnd_lt hi]
   refine join_g λk hk=>?_
   have kk:∀v:BigT,k v=again (((i+1:Nat):Int),v):=by intro v; rw[←i64_s i (by omega)]; subst hk; rfl
   clear hk
   show stdW.idx us (i:Int) _=_
   rw[idx_w hi,zaa (r_of19 (by have:=hb.2; omega)),zaa (r_gross11 o1 (by omega))]
   show _=some (fits64 (z+(grossZ (ofB l us[i])+heldZ l (us.drop (i+1)))))
   unfold grossP
   rw[if_pos (ypj hv _)]
   by_cases hI:I64 (grossZ (ofB l us[i]))
   ·rw[zmf hI,cnd_n (by rfl)]
    have fin:(stdW.call (zcx (grossZ (ofB l us[i]))) λv9=>stdW.call (zbt (big z) v9) λv10=>k v10)=some (fits64 (z+(grossZ (ofB l us[i])+heldZ l (us.drop (i+1))))):=by
     have hI':=hI
     unfold I64 at hI'
     rw[zaa (r_of hI),zaa (r_addB (by unfold sml; omega) (zsc hI)),kk]
     refine(ha (z+grossZ (ofB l us[i])) ⟨by omega,by omega⟩).trans ?_
     congr 2; omega
    exact ydr fin fin
   ·rw[zha hI,cnd_y (by rfl),zha (yjm (by unfold I64 at hI; omega))]
  ·rw[Int.zero_add]
def unitsM(id:Int)(l:List zab):List AUnit':=(l.filter (isM id)).flatMap unitsA
theorem zgm{l:List zab}(h:∀a∈l,a.2.2.2.1.length≤1000):(l.flatMap unitsA).length≤1000*l.length:=by
 induction l with
 |nil=>simp
 |cons a l ih=>
  have h1:=ih λx hx=>h x (by simp[hx])
  have h2:=ziq (h a (by simp))
  rw[List.flatMap_cons,List.length_append,List.length_cons]; omega
theorem yfd{id:Int}{l:List zab}(h:∀a∈l,a.2.2.2.1.length≤1000)(hl:l.length≤20):(unitsM id l).length≤20000:=by
 have h1:=zgm (l:=l.filter (isM id)) λa ha=>h a (List.mem_filter.1 ha).1
 have h2:=List.length_filter_le (isM id) l
 unfold unitsM; omega
theorem r_punits{s:zae}{id:Int}(hA:okAs s.2.2.2.2.1)(hl:s.2.2.2.2.1.length≤20):zwk s id=some (unitsM id s.2.2.2.2.1):=by
 show zlk stdW s id=_
 unfold zlk
 have hm:∀a∈s.2.2.2.2.1.filter (isM id),a.2.2.2.1.length≤1000:=λa ha=>hA.1 a (List.mem_filter.1 ha).1
 have hfl:(s.2.2.2.2.1.filter (isM id)).length≤20:=Nat.le_trans (List.length_filter_le _ _) hl
 rw[zaa (r_aof hA)]
 unfold unitsM
 generalize s.2.2.2.2.1.filter (isM id)=l at*
 refine(zen (l:=l) (s0:=[]) (by omega) (λi (z:List AUnit')=>((i:Int),(z,()))) (λi z=>z.length≤1000*i) (λl' z=>some (z++l'.flatMap unitsA)) rfl (Nat.le_refl _) ?_ ?_).trans (by rw[List.nil_append])
 ·intro z _ again
  show stdW.cnd (decide ((l.length:Int)<(l.length:Int))) _ _=_
  rw[zah,List.flatMap_nil,List.append_nil]
 ·intro i hi z hz again ha
  show stdW.cnd (decide ((i:Int)<(l.length:Int))) (stdW.idx l (i:Int) _) _=_
  have hc:=hm _ (List.getElem_mem hi)
  have hul:=ziq hc
  rw[cnd_lt hi,idx_w hi,zaa (yrw hc)]
  show stdW.room (z.length+(unitsA l[i]).length) 16 (again (IntKind.i64.wrap ((i:Int)+1),(z++unitsA l[i],())))=_
  rw[room_w (by omega) (by omega),i64_s i (by omega),ha _ (by rw[List.length_append]; omega),List.flatMap_cons,List.append_assoc]
theorem r_units29{s:zae}{id:Int}(hA:okAs s.2.2.2.2.1)(hl:s.2.2.2.2.1.length≤20):zrq s id=some (unitsM id s.2.2.2.2.1):=by
 show zhj stdW s id=_
 unfold zhj
 have hm:=hA.1
 unfold unitsM
 generalize s.2.2.2.2.1=l at*
 refine(zen (l:=l) (s0:=[]) (by omega) (λi (z:List AUnit')=>((i:Int),(z,()))) (λi z=>z.length≤1000*i) (λl' z=>some (z++(l'.filter (isM id)).flatMap unitsA)) rfl (Nat.le_refl _) ?_ ?_).trans (by rw[List.nil_append])
 ·intro z _ again
  show stdW.cnd (decide ((l.length:Int)<(l.length:Int))) _ _=_
  rw[zah,List.filter_nil,List.flatMap_nil,List.append_nil]
 ·intro i hi z hz again ha
  show stdW.cnd (decide ((i:Int)<(l.length:Int))) _ _=_
  have hc:=hm _ (List.getElem_mem hi)
  have hul:=ziq hc
  rw[cnd_lt hi]
  refine join_g λk hk=>?_
  have kk:∀z':List AUnit',k (z',())=again (((i+1:Nat):Int),(z',())):=by intro z'; rw[←i64_s i (by omega)]; subst hk; rfl
  clear hk
  show stdW.idx l (i:Int) _=_
  rw[idx_w hi,List.filter_cons]
  by_cases hv:l[i].2.1=id
  ·have hv':isM id l[i]=true:=decide_eq_true hv
   rw[cnd_y (by simpa using hv),if_pos hv']
   show stdW.idx l (i:Int) _=_
   rw[idx_w hi,zaa (ymd hc)]
   show stdW.room (z.length+(unitsA l[i]).length) 16 (k (z++unitsA l[i],()))=_
   rw[room_w (by omega) (by omega),kk,ha _ (by rw[List.length_append]; omega),List.flatMap_cons,List.append_assoc]
  ·have hv':¬isM id l[i]=true:=by simpa[isM]using hv
   rw[cnd_n (by simpa using hv),if_neg hv']
   exact(kk z).trans (ha z (by omega))
def usedP(s:zae)(id:Int):Int×Int×Unit:=heldP (bk s) (unitsM id s.2.2.2.2.1)
theorem r_used{s:zae}{id:Int}(hA:okAs s.2.2.2.2.1)(hl:s.2.2.2.2.1.length≤20)(hb:okB (bk s)):zuf s id=some (usedP s id):=by
 show zps stdW s id=_
 unfold zps
 have:=yfd (id:=id) hA.1 hl
 have e:zjo s.2.2.2.2.2.2.2.2.1 (unitsM id s.2.2.2.2.1)=some (usedP s id):=r_held hb (by omega)
 rw[zaa (r_punits hA hl),zaa e]
theorem r_used29{s:zae}{id:Int}(hA:okAs s.2.2.2.2.1)(hl:s.2.2.2.2.1.length≤20)(hb:okB (bk s)):zok s id=some (usedP s id):=by
 show zka stdW s id=_
 unfold zka
 have:=yfd (id:=id) hA.1 hl
 have e:zgp s.2.2.2.2.2.2.2.2.1 (unitsM id s.2.2.2.2.1)=some (usedP s id):=yrs hb (by omega)
 rw[zaa (r_units29 hA hl),zaa e]
def ch(s:zae):List zag:=s.2.2.2.2.2.1
def findH(l:List zag)(u:AUnit'):Option zag:=l.find? λc=>decide (c.1=u)
def zeroH:zag:=((0,(0,())),((0,(0,())),(false,())))
theorem findH_cons(c:zag)(l:List zag)(u:AUnit'):findH (c::l) u=if c.1=u then some c else findH l u:=by
 unfold findH
 rw[List.find?_cons]
 by_cases h:c.1=u
 ·simp[h]
 ·rw[if_neg h,decide_eq_false h]
theorem r_find16{l:List zag}{u:AUnit'}(hl:l.length≤1000000):zwe l u=some (match findH l u with|some i=>(i,(true,()))|none=>(zeroH,(false,()))):=by
 show zks stdW l u=_
 unfold zks
 refine zbp (l:=l) (by omega) (λ_ _=>True) (λt _=>some (match findH t u with|some i=>(i,(true,()))|none=>(zeroH,(false,())))) trivial ?_ ?_
 ·rintro _ again _
  rw[zah]; rfl
 ·rintro i hi _ _ again ha
  rw[cnd_lt hi,idx_w hi,findH_cons,unitEq]
  by_cases h:l[i].1=u
  ·rw[cnd_y (decide_eq_true h),if_pos h]
   show stdW.idx l (i:Int) _=_
   rw[idx_w hi]
  ·rw[cnd_n (decide_eq_false h),if_neg h]
   show again (IntKind.i64.wrap ((i:Int)+1),())=_
   rw[i64_s i (by omega)]
   exact ha _ trivial
theorem r_findE{l:List zag}{u:AUnit'}(hl:l.length≤1000000):zxm l u=some (match findH l u with|some i=>(i,(true,()))|none=>(zeroH,(false,()))):=by
 show zmh stdW l u=_
 unfold zmh
 have e1:zbc l u.1 u.2.1=some (ixP (λc=>decide (c.1=u)) l,u):=by
  show zaq stdW l u.1 u.2.1=_
  unfold zaq
  refine ypn hl (λc=>decide (c.1=u)) (λ(m:zag) (c:AUnit')=>zxl m c.1 c.2.1) u λx _=>?_
  show some (notIf false ((x.1.1==u.1)&&(x.1.2.1==u.2.1)),u)=_
  rw[unitEq]
 have e0:ykj l u=some (ixP (λc=>decide (c.1=u)) l):=by
  show zva stdW l u=_
  unfold zva
  rw[zaa e1]
 rw[zaa e0]
 unfold findH
 rcases ysr (λc:zag=>decide (c.1=u)) l with ⟨h1,h2⟩|⟨k,hk,h1,h2,_⟩
 ·rw[h1,h2,cnd_y (by decide)]; rfl
 ·rw[h1,h2,cnd_n (decide_eq_false (by omega)),idx_w hk]
def readyP(l:List zag)(u:AUnit'):AUnit'×Int×Unit:=
 match findH l u with
 |none=>((0,(0,())),(19,()))
 |some c=>if c.2.2.1=true then (c.2.1,(0,())) else ((0,(0,())),(20,()))
theorem r_ready{l:List zag}{u:AUnit'}(hl:l.length≤1000000):zmg l u=some (readyP l u):=by
 show zic stdW l u=_
 unfold zic readyP
 rw[zaa (r_findE hl)]
 cases findH l u with
 |none=>rfl
 |some c=>
  show stdW.cnd (!true) _ (stdW.cnd (!c.2.2.1) _ _)=_
  rw[cnd_n (by rfl)]
  cases h:c.2.2.1<;>simp only[h]<;>rfl
theorem r_ready16{l:List zag}{u:AUnit'}(hl:l.length≤1000000):zkr l u=some (readyP l u):=by
 show zhn stdW l u=_
 unfold zhn readyP
 rw[zaa (r_find16 hl)]
 cases findH l u with
 |none=>rfl
 |some c=>
  show stdW.cnd (!true) _ (stdW.cnd (!c.2.2.1) _ _)=_
  rw[cnd_n (by rfl)]
  cases h:c.2.2.1<;>simp only[h]<;>rfl
def openE(m:zaf)(day:Int):Int:=if m.2.2.1=1∧day≤m.2.2.2.1 then 0 else 18
theorem r_popen(m:zaf)(day:Int):zpu m day=some (openE m day):=by
 show zlq stdW m day=_
 unfold zlq openE
 have e:∃n,zwm m day=some n∧(n=0↔¬(m.2.2.1=1∧day≤m.2.2.2.1)):=by
  show ∃n,zlp stdW m day=some n∧_
  unfold zlp
  by_cases h1:m.2.2.1=1
  ·by_cases h2:m.2.2.2.1<day
   ·refine⟨0,join_b true (λk=>?_) rfl,by omega⟩
    rw[cnd_n (by simpa using h1),decide_eq_true h2]
   ·refine⟨_,join_b false (λk=>?_) rfl,?_⟩
    ·rw[cnd_n (by simpa using h1),decide_eq_false h2]
    ·split<;>omega
  ·refine⟨0,join_b true (λk=>cnd_y (by simpa using h1) _ _) rfl,by omega⟩
 obtain⟨n,e1,e2⟩:=e
 rw[zaa e1]
 by_cases h:n=0
 ·rw[cnd_y (by simpa using h),if_neg (e2.1 h)]
 ·rw[cnd_n (by simpa using h),if_pos (Decidable.not_not.1 λhh=>h (e2.2 hh))]
theorem r_open28(m:zaf)(day:Int):zom m day=some (openE m day):=by
 show zkd stdW m day=_
 unfold zkd openE
 refine join_b (decide (m.2.2.1=1∧day≤m.2.2.2.1)) (λk=>?_) ?_
 ·by_cases h1:m.2.2.1=1
  ·rw[cnd_y (by simpa using h1)]
   congr 2
   exact decide_eq_decide.2 ⟨λh=>⟨h1,h⟩,λh=>h.2⟩
  ·rw[cnd_n (by simpa using h1),decide_eq_false (λh=>h1 h.1)]
 ·show stdW.cnd (decide (m.2.2.1=1∧day≤m.2.2.2.1)) (some 0) (some 18)=_
  rw[cnd_p]; split<;>rfl
def roomE(cap used more:Int):Int:=if used<0∨more<0 then 2 else if cap<used+more then 16 else 0
theorem r_room{m:zaf}{used more:Int}(hu:I64 used)(hm:I64 more)(hc:I64 m.2.1):zlt m used more=some (roomE m.2.1 used more):=by
 show zhy stdW m used more=_
 unfold zhy roomE
 have e:ydh used [more]=some (if more<used then more else used):=by
  show zqq stdW used [more]=_
  unfold zqq
  refine zen (l:=[more]) (s0:=()) (by simp) (λi (_:Unit)=>((if i=0 then used else if more<used then more else used),((i:Int),()))) (λ_ _=>True) (λ_ _=>some (if more<used then more else used)) rfl trivial ?_ ?_
  ·intro _ _ again; rfl
  ·intro i hi _ _ again ha
   have:i=0:=by simp at hi; exact hi
   subst this
   exact ha () trivial
 rw[zaa e]
 by_cases h1:used<0∨more<0
 ·rw[cnd_y (decide_eq_true (by split<;>omega)),if_pos h1]
 ·have e2:=r_fSum (l:=[used,more]) (λx hx=>by
   simp only[List.mem_cons,List.not_mem_nil,or_false]at hx
   rcases hx with rfl|rfl
   ·exact hu
   ·exact hm) (by simp)
  have es:[used,more].sum=used+more:=by simp
  rw[es]at e2
  rw[cnd_n (decide_eq_false (by split<;>omega)),if_neg h1,zaa e2]
  refine join_b (decide (m.2.1<used+more)) (λk=>?_) ?_
  ·by_cases hI:I64 (used+more)
   ·rw[zmf hI]; rfl
   ·rw[zha hI,cnd_y (by rfl),decide_eq_true (by unfold I64 at *; omega)]
  ·show stdW.cnd (decide (m.2.1<used+more)) (some 16) (some 0)=_
   rw[cnd_p]; split<;>rfl
theorem r_room14{cap used more:Int}(hu:I64 used)(hm:I64 more)(hc:I64 cap):zpb cap used more=some (roomE cap used more):=by
 show zlb stdW cap used more=_
 unfold zlb roomE
 refine join_b (decide (used<0∨more<0)) (λk=>?_) ?_
 ·by_cases h1:used<0
  ·rw[cnd_y (decide_eq_true h1),decide_eq_true (.inl h1)]
  ·rw[cnd_n (decide_eq_false h1)]
   congr 2
   exact decide_eq_decide.2 (by omega)
 ·show stdW.cnd (decide (used<0∨more<0)) (some 2) (stdW.call (zcx used) _)=_
  by_cases h1:used<0∨more<0
  ·rw[cnd_y (decide_eq_true h1),if_pos h1]
  ·have s1:sml (used+more):=by unfold I64 at hu hm; unfold sml; omega
   rw[cnd_n (decide_eq_false h1),if_neg h1,zaa (r_of hu),zaa (r_of hm),zaa (r_addB (zsc hu) (zsc hm)),zaa (r_of hc),zaa (r_cmpB s1 (zsc hc))]
   by_cases h2:cap<used+more
   ·rw[if_neg (by omega),if_neg (by omega),cnd_y (by rfl),if_pos h2]
   ·rw[if_neg h2]
    by_cases h3:used+more - cap=0
    ·rw[if_pos h3,cnd_n (by rfl)]
    ·rw[if_neg h3,if_pos (by omega),cnd_n (by rfl)]
def lowH(u:AUnit')(l:List AHold'):List AHold':=l.filter λp=>decide (ltA p.1 u)
def midH(u:AUnit')(l:List AHold'):List AHold':=l.filter λp=>decide (p.1=u)
def highH(u:AUnit')(l:List AHold'):List AHold':=l.filter λp=>decide (ltA u p.1)
theorem cutH(u:AUnit'):∀{l:List AHold'},SrtA (l.map (·.1))→l=lowH u l++(midH u l++highH u l)
 |[],_=>rfl
 |p::l,h=>by
  obtain⟨h1,h2⟩:=List.pairwise_cons.1 h
  have h1:∀x∈l,ltA p.1 x.1:=λx hx=>h1 _ (List.mem_map_of_mem hx)
  have ih:=cutH u (l:=l) h2
  unfold lowH midH highH at ih ⊢
  rw[List.filter_cons,List.filter_cons,List.filter_cons]
  by_cases hp:ltA p.1 u
  ·have e1:¬p.1=u:=λe=>zcd u (by rw[e]at hp; exact hp)
   have e2:¬ltA u p.1:=λe=>ltA_as hp e
   rw[if_pos (by simpa using hp),if_neg (by simpa using e1),if_neg (by simpa using e2),List.cons_append,←ih]
  ·by_cases hu:p.1=u
   ·have e2:¬ltA u p.1:=by rw[hu]; exact zcd u
    have a1:∀x∈l,decide (ltA x.1 u)=false:=λx hx=>decide_eq_false λe=>ltA_as e (by rw[←hu]; exact h1 x hx)
    have a2:∀x∈l,decide (x.1=u)=false:=λx hx=>decide_eq_false λe=>zcd u (by have:=h1 x hx; rw[hu,e]at this; exact this)
    have a3:∀x∈l,decide (ltA u x.1)=true:=λx hx=>decide_eq_true (by rw[←hu]; exact h1 x hx)
    rw[if_neg (by simpa using hp),if_pos (by simpa using hu),if_neg (by simpa using e2),zdn a1,zdn a2,zin a3]; rfl
   ·have e2:ltA u p.1:=Classical.byContradiction λhn=>hu (znq hp hn)
    have a1:∀x∈l,decide (ltA x.1 u)=false:=λx hx=>decide_eq_false λe=>ltA_as (ltA_tr e2 (h1 x hx)) e
    have a2:∀x∈l,decide (x.1=u)=false:=λx hx=>decide_eq_false λe=>zcd u (by have:=ltA_tr e2 (h1 x hx); rw[e]at this; exact this)
    have a3:∀x∈l,decide (ltA u x.1)=true:=λx hx=>decide_eq_true (ltA_tr e2 (h1 x hx))
    rw[if_neg (by simpa using hp),if_neg (by simpa using hu),if_pos (by simpa using e2),zdn a1,zdn a2,zin a3]; rfl
theorem H_nd{l:List AHold'}(h:SrtA (l.map (·.1))):(l.map (·.1)).Nodup:=srt_nd h
theorem yck{l:List AHold'}(h:(l.map (·.1)).Nodup){p:AHold'}(hp:p∈l):lotsH l p.1=p.2.1:=by
 induction l with
 |nil=>cases hp
 |cons x l ih=>
  obtain⟨h1,h2⟩:=List.nodup_cons.1 h
  rw[lotsH]
  rcases List.mem_cons.1 hp with rfl|hp
  ·rw[if_pos rfl]
  ·rw[if_neg λe=>h1 (by show x.1∈_; rw[e]; exact List.mem_map_of_mem hp),ih h2 hp]
theorem zwt{l:List AHold'}{u:AUnit'}(h:∀p∈l,p.1≠u):lotsH l u=[]:=by
 induction l with
 |nil=>rfl
 |cons x l ih=>rw[lotsH,if_neg (h x (by simp)),ih λy hy=>h y (by simp[hy])]
def setH(l:List AHold')(u:AUnit')(now:List ALot'):List AHold':=lowH u l++((if now=[] then [] else [(u,(now,()))])++highH u l)
theorem yhn{l:List AHold'}(h:SrtA (l.map (·.1)))(u:AUnit')(now:List ALot'):(setH l u now).length≤l.length+1:=by
 have hc:=congrArg List.length (cutH u h)
 unfold setH
 rw[List.length_append,List.length_append]at hc
 rw[List.length_append,List.length_append]
 split<;>simp<;>omega
theorem ztb{l:List AHold'}{u:AUnit'}{now:List ALot'}{p:AHold'}:p∈setH l u now↔(p∈l∧p.1≠u)∨(now≠[]∧p=(u,(now,()))):=by
 unfold setH lowH highH
 rw[List.mem_append,List.mem_append,List.mem_filter,List.mem_filter]
 constructor
 ·rintro(⟨h1,h2⟩|h|⟨h1,h2⟩)
  ·exact .inl ⟨h1,λe=>zcd u (by simp only[decide_eq_true_eq]at h2; rw[e]at h2; exact h2)⟩
  ·split at h
   ·cases h
   ·rename_i hn; exact .inr ⟨hn,by simpa using h⟩
  ·exact .inl ⟨h1,λe=>zcd u (by simp only[decide_eq_true_eq]at h2; rw[e]at h2; exact h2)⟩
 ·rintro(⟨h1,h2⟩|⟨hn,rfl⟩)
  ·by_cases hlt:ltA p.1 u
   ·exact .inl ⟨h1,by simpa using hlt⟩
   ·by_cases hgt:ltA u p.1
    ·exact .inr (.inr ⟨h1,by simpa using hgt⟩)
    ·exact absurd (znq hlt hgt) h2
  ·rw[if_neg hn]; exact .inr (.inl (by simp))
theorem zta{l:List AHold'}(h:SrtA (l.map (·.1)))(u:AUnit')(now:List ALot'):SrtA ((setH l u now).map (·.1)):=by
 unfold setH
 rw[List.map_append,List.map_append]
 have hlow:∀x∈(lowH u l).map (·.1),ltA x u:=λx hx=>by
  obtain⟨p,hp,rfl⟩:=List.mem_map.1 hx
  simpa using(List.mem_filter.1 hp).2
 have hhigh:∀x∈(highH u l).map (·.1),ltA u x:=λx hx=>by
  obtain⟨p,hp,rfl⟩:=List.mem_map.1 hx
  simpa using(List.mem_filter.1 hp).2
 have s1:SrtA ((lowH u l).map (·.1)):=List.Pairwise.sublist ((List.filter_sublist).map _) h
 have s2:SrtA ((highH u l).map (·.1)):=List.Pairwise.sublist ((List.filter_sublist).map _) h
 have hmid:∀x∈(if now=[] then ([]:List AHold') else [(u,(now,()))]).map (·.1),x=u:=λx hx=>by
  split at hx
  ·cases hx
  ·simpa using hx
 refine List.pairwise_append.2 ⟨s1,List.pairwise_append.2 ⟨?_,s2,λa ha b hb=>?_⟩,λa ha b hb=>?_⟩
 ·split<;>simp
 ·rw[hmid a ha]; exact hhigh b hb
 ·rcases List.mem_append.1 hb with hb|hb
  ·rw[hmid b hb]; exact hlow a ha
  ·exact ltA_tr (hlow a ha) (hhigh b hb)
theorem setH_of{l:List AHold'}(h:SrtA (l.map (·.1)))(u:AUnit')(now:List ALot')(x:AUnit'):lotsH (setH l u now) x=if x=u then now else lotsH l x:=by
 have hn:=H_nd (zta h u now)
 by_cases hx:x=u
 ·subst hx
  rw[if_pos rfl]
  by_cases h0:now=[]
  ·rw[h0]
   refine zwt λp hp=>?_
   rcases ztb.1 hp with ⟨_,h2⟩|⟨h2,_⟩
   ·exact h2
   ·exact absurd rfl h2
  ·exact yck hn (p:=(x,(now,()))) (ztb.2 (.inr ⟨h0,rfl⟩))
 ·rw[if_neg hx]
  by_cases hex:∃p∈l,p.1=x
  ·obtain⟨p,hp,rfl⟩:=hex
   rw[yck (H_nd h) hp,yck hn (ztb.2 (.inl ⟨hp,hx⟩))]
  ·have hne:∀p∈l,p.1≠x:=λp hp e=>hex ⟨p,hp,e⟩
   rw[zwt hne]
   refine zwt λp hp=>?_
   rcases ztb.1 hp with ⟨h1,_⟩|⟨_,rfl⟩
   ·exact hne p h1
   ·exact Ne.symm hx
def shGoH(u:AUnit')(now:List ALot'):List AHold'→Bool→List AHold'→List AHold'
 |[],d,out=>if d=true then out else out++[(u,(now,()))]
 |p::l,d,out=>
  if d=true∨ltA p.1 u then (if p.1=u then shGoH u now l d out else shGoH u now l d (out++[p]))
  else (if p.1=u then shGoH u now l true (out++[(u,(now,()))]) else shGoH u now l true (out++[(u,(now,()))]++[p]))
theorem yaz(u:AUnit')(now:List ALot'):∀(l out:List AHold'),shGoH u now l true out=out++l.filter λp=>decide (p.1≠u)
 |[],out=>by rw[shGoH,if_pos rfl,List.filter_nil,List.append_nil]
 |p::l,out=>by
  rw[shGoH,if_pos (.inl rfl),List.filter_cons]
  by_cases h:p.1=u
  ·rw[if_pos h,yaz u now l,if_neg (by simpa using h)]
  ·rw[if_neg h,yaz u now l,if_pos (by simpa using h),List.append_assoc]; rfl
theorem neH_cut{u:AUnit'}{l:List AHold'}(h:SrtA (l.map (·.1))):(l.filter λp=>decide (p.1≠u))=lowH u l++highH u l:=by
 have e:=cutH u h
 have a1:(lowH u l).filter (λp=>decide (p.1≠u))=lowH u l:=zin λx hx=>decide_eq_true λe=>by
  have:=(List.mem_filter.1 hx).2
  simp only[decide_eq_true_eq]at this
  rw[e]at this; exact zcd u this
 have a2:(midH u l).filter (λp=>decide (p.1≠u))=[]:=zdn λx hx=>decide_eq_false λhn=>by
  have:=(List.mem_filter.1 hx).2
  simp only[decide_eq_true_eq]at this
  exact hn this
 have a3:(highH u l).filter (λp=>decide (p.1≠u))=highH u l:=zin λx hx=>decide_eq_true λe=>by
  have:=(List.mem_filter.1 hx).2
  simp only[decide_eq_true_eq]at this
  rw[e]at this; exact zcd u this
 calc (l.filter λp=>decide (p.1≠u))=(lowH u l++(midH u l++highH u l)).filter (λp=>decide (p.1≠u)):=by rw[←e]
  _=lowH u l++highH u l:=by rw[List.filter_append,List.filter_append,a1,a2,a3]; rfl
theorem shGoH_f(u:AUnit')(now:List ALot'):∀(l out:List AHold'),SrtA (l.map (·.1))→shGoH u now l false out=out++(lowH u l++([(u,(now,()))]++highH u l))
 |[],out,_=>by rw[shGoH,if_neg (by simp)]; rfl
 |p::l,out,h=>by
  obtain⟨h1,h2⟩:=List.pairwise_cons.1 h
  have h1:∀x∈l,ltA p.1 x.1:=λx hx=>h1 _ (List.mem_map_of_mem hx)
  rw[shGoH]
  by_cases hp:ltA p.1 u
  ·have hu:¬p.1=u:=λe=>zcd u (by rw[e]at hp; exact hp)
   rw[if_pos (.inr hp),if_neg hu,shGoH_f u now l _ h2]
   have e1:lowH u (p::l)=p::lowH u l:=by unfold lowH; rw[List.filter_cons,if_pos (by simpa using hp)]
   have e2:highH u (p::l)=highH u l:=by unfold highH; rw[List.filter_cons,if_neg (by simpa using λe=>ltA_as hp e)]
   rw[e1,e2,List.append_assoc]; rfl
  ·rw[if_neg (by simpa using hp)]
   have hge:∀x∈p::l,¬ltA x.1 u:=by
    intro x hx hxu
    rcases List.mem_cons.1 hx with rfl|hx
    ·exact hp hxu
    ·exact hp (ltA_tr (h1 x hx) hxu)
   have e1:lowH u (p::l)=[]:=zdn λx hx=>decide_eq_false (hge x hx)
   have e2:=neH_cut (u:=u) h
   rw[e1,List.nil_append]at e2
   rw[e1,←e2,List.filter_cons]
   by_cases hu:p.1=u
   ·rw[if_pos hu,if_neg (by simpa using hu),yaz,List.append_assoc]; rfl
   ·rw[if_neg hu,if_pos (by simpa using hu),yaz]
    simp only[List.append_assoc,List.nil_append,List.cons_append]
theorem shGoH_put{l:List AHold'}(h:SrtA (l.map (·.1)))(u:AUnit')(now:List ALot'):shGoH u now l (decide (now=[])) []=setH l u now:=by
 unfold setH
 by_cases h0:now=[]
 ·rw[decide_eq_true h0,yaz,if_pos h0,neH_cut h]; rfl
 ·rw[decide_eq_false h0,shGoH_f u now l [] h,if_neg h0]; rfl
theorem r_hsetG{l:List AHold'}{u:AUnit'}{all:List ALot'}(h:okHs l)(hs:SrtA (l.map (·.1)))(hal:all.length≤1000):zzr l u all=some (setH l u all):=by
 have hl:=h.2
 show zur stdW l u all=_
 unfold zur
 rw[←shGoH_put hs]
 refine ydr ?_ ?_<;>
 ·rw[zaa (yis (s:=all) (by omega))]
  have hz:((all.length:Int)==0)=decide (all=[]):=by
   cases all with
   |nil=>rfl
   |cons x xs=>simp; omega
  rw[hz]
  refine zen (l:=l) (s0:=(decide (all=[]),[])) (by omega) (λi (z:Bool×List AHold')=>(z.1,((i:Int),(u.1,(u.2.1,(all,(z.2,()))))))) (λi z=>z.2.length≤2*i) (λl' z=>some (shGoH u all l' z.1 z.2)) rfl (by simp) ?_ ?_
  ·rintro⟨d,out⟩ ho again
   show stdW.cnd (decide ((l.length:Int)<(l.length:Int))) _ _=_
   rw[zah]
   refine join_g λk hk=>?_
   have kk:∀x,k (x,())=some x:=by intro x; subst hk; rfl
   clear hk
   simp only at ho
   show stdW.cnd (!d) (stdW.room (out.length+1) 40 (k (out++[(u,(all,()))],()))) (k (out,()))=some (shGoH u all [] d out)
   cases d with
   |true=>rw[cnd_n (by rfl),kk,shGoH,if_pos rfl]
   |false=>rw[cnd_y (by rfl),room_w (by omega) (by omega),kk,shGoH,if_neg (by decide)]
  ·rintro i hi ⟨d,out⟩ ho again ha
   simp only at ho
   have h2:=(h.1 _ (List.getElem_mem hi)).1
   show stdW.cnd (decide ((i:Int)<(l.length:Int))) _ _=_
   rw[cnd_lt hi]
   refine join_g λk5 hk5=>?_
   have k5':∀(d':Bool) (out':List AHold'),out'.length≤2*(i+1)→k5 (d',(out',()))=some (shGoH u all (l.drop (i+1)) d' out'):=by
    intro d' out' ho'
    rw[←ha (d',out') ho']
    subst hk5
    show again (d',(IntKind.i64.wrap ((i:Int)+1),(u.1,(u.2.1,(all,(out',()))))))=_
    rw[i64_s i (by omega)]
   clear hk5 ha
   show stdW.idx l (i:Int) _=some (shGoH u all (l[i]::l.drop (i+1)) d out)
   rw[idx_w hi,shGoH]
   refine join_g λk9 hk9=>?_
   have k9u:l[i].1=u→∀(d':Bool) (out':List AHold'),out'.length≤2*i+1→k9 (d',(out',()))=some (shGoH u all (l.drop (i+1)) true (if d'=true then out' else out'++[(u,(all,()))])):=by
    intro hu d' out' ho'
    subst hk9
    show stdW.cnd (notIf true ((l[i].1.1==u.1)&&(l[i].1.2.1==u.2.1))) _ _=_
    rw[nif_t,eqA,cnd_n (by simp[hu])]
    show stdW.cnd (!d') (stdW.room (out'.length+1) 40 (k5 (true,(out'++[(u,(all,()))],())))) (k5 (d',(out',())))=_
    cases d' with
    |true=>rw[cnd_n (by rfl),if_pos rfl,k5' true out' (by omega)]
    |false=>rw[cnd_y (by rfl),if_neg (by decide),room_w (by omega) (by omega),k5' true _ (by rw[List.length_append]; simp; omega)]
   have k9n:¬l[i].1=u→∀(d':Bool) (out':List AHold'),out'.length≤2*i+1→k9 (d',(out',()))=some (shGoH u all (l.drop (i+1)) d' (out'++[l[i]])):=by
    intro hu d' out' ho'
    subst hk9
    show stdW.cnd (notIf true ((l[i].1.1==u.1)&&(l[i].1.2.1==u.2.1))) _ _=_
    rw[nif_t,eqA,cnd_y (by simp[hu]),zaa (yis (by omega))]
    show stdW.room (out'.length+1) 40 (k5 (d',(out'++[l[i]],())))=_
    rw[room_w (by omega) (by omega),k5' d' _ (by rw[List.length_append]; simp; omega)]
   clear hk9
   refine join_g λk11 hk11=>?_
   have k11t:k11 (true,(out,()))=k9 (true,(out++[(u,(all,()))],())):=by
    subst hk11
    show stdW.cnd true (stdW.room (out.length+1) 40 (k9 (true,(out++[(u,(all,()))],())))) _=_
    rw[cnd_y rfl,room_w (by omega) (by omega)]
   have k11f:k11 (false,(out,()))=k9 (d,(out,())):=by
    subst hk11
    show stdW.cnd false _ (k9 (d,(out,())))=_
    rw[cnd_n rfl]
   clear hk11
   show stdW.cnd (!d) (stdW.call (zdw u l[i].1) λv=>k11 (v,(out,()))) (k11 (false,(out,())))=_
   cases d with
   |true=>
    rw[cnd_n (by rfl),k11f,if_pos (.inl rfl)]
    by_cases hu:l[i].1=u
    ·rw[if_pos hu,k9u hu true out (by omega),if_pos rfl]
    ·rw[if_neg hu,k9n hu true out (by omega)]
   |false=>
    rw[cnd_y (by rfl),zaa (zwj _ _)]
    by_cases hlt:ltA u l[i].1
    ·have hn:¬ltA l[i].1 u:=λe=>ltA_as hlt e
     have hu:¬l[i].1=u:=λe=>zcd u (by rw[e]at hlt; exact hlt)
     rw[decide_eq_true hlt,k11t,k9n hu true _ (by rw[List.length_append]; simp; omega),if_neg (by simpa using hn),if_neg hu]
    ·rw[decide_eq_false hlt,k11f]
     by_cases hu:l[i].1=u
     ·have hn:¬ltA l[i].1 u:=by rw[hu]; exact zcd u
      rw[k9u hu false out (by omega),if_neg (by decide),if_neg (by simpa using hn),if_pos hu]
     ·have hn:ltA l[i].1 u:=Classical.byContradiction λhn=>hu (znq hn hlt)
      rw[k9n hu false out (by omega),if_pos (.inr hn),if_neg hu]
def restH(u:AUnit'):List AHold'→List AHold'
 |[]=>[]
 |p::t=>if p.1=u then t else p::t
def midL(u:AUnit')(all:List ALot'):List AHold':=if all=[] then [] else [(u,(all,()))]
theorem setH_lt{u:AUnit'}{p:AHold'}{l:List AHold'}{all:List ALot'}(h:ltA p.1 u):setH (p::l) u all=p::setH l u all:=by
 unfold setH
 have e1:lowH u (p::l)=p::lowH u l:=by unfold lowH; rw[List.filter_cons,if_pos (by simpa using h)]
 have e2:highH u (p::l)=highH u l:=by unfold highH; rw[List.filter_cons,if_neg (by simpa using λe=>ltA_as h e)]
 rw[e1,e2]; rfl
theorem setH_ge{u:AUnit'}{l:List AHold'}{all:List ALot'}(hs:SrtA (l.map (·.1)))(h:∀p,l.head?=some p→¬ltA p.1 u):setH l u all=midL u all++restH u l:=by
 unfold setH midL
 cases l with
 |nil=>rfl
 |cons p t=>
  have hp:=h p rfl
  obtain⟨h1,_⟩:=List.pairwise_cons.1 hs
  have h1:∀x∈t,ltA p.1 x.1:=λx hx=>h1 _ (List.mem_map_of_mem hx)
  have hge:∀x∈p::t,¬ltA x.1 u:=by
   intro x hx hxu
   rcases List.mem_cons.1 hx with rfl|hx
   ·exact hp hxu
   ·exact hp (ltA_tr (h1 x hx) hxu)
  have e1:lowH u (p::t)=[]:=zdn λx hx=>decide_eq_false (hge x hx)
  rw[e1,List.nil_append]
  congr 1
  show highH u (p::t)=if p.1=u then t else p::t
  by_cases hu:p.1=u
  ·rw[if_pos hu]
   unfold highH
   rw[List.filter_cons,if_neg (by rw[hu]; simpa using zcd u)]
   exact zin λx hx=>decide_eq_true (by rw[←hu]; exact h1 x hx)
  ·rw[if_neg hu]
   have hgt:ltA u p.1:=Classical.byContradiction λhn=>hu (znq hp hn)
   exact zin λx hx=>decide_eq_true (by
    rcases List.mem_cons.1 hx with rfl|hx
    ·exact hgt
    ·exact ltA_tr hgt (h1 x hx))
theorem ymc{l:List AHold'}{u:AUnit'}{all:List ALot'}(hs:SrtA (l.map (·.1)))(hl:l.length≤1000):zon l u all=some (setH l u all):=by
 show zke stdW l u all=_
 unfold zke
 refine join_g λk10 h10=>?_
 have K10:∀(i:Nat) (out:List AHold'),i≤l.length→out.length≤1000→k10 ((i:Int),(out,()))=some (out++(midL u all++restH u (l.drop i))):=by
  intro i out hi ho
  subst h10
  refine join_g λk9 h9=>?_
  have K9:∀out':List AHold',out'.length≤1001→k9 (out',())=some (out'++restH u (l.drop i)):=by
   intro out' ho'
   subst h9
   refine join_g λk5 h5=>?_
   have K5:∀j:Nat,j≤l.length→k5 ((j:Int),(out',()))=some (out'++l.drop j):=by
    intro j hj
    subst h5
    show stdW.bnd (j:Int) l.length (λh4=>stdW.room (out'.length+((l.take l.length).drop h4).length) 40 (some (out'++((l.take l.length).drop h4))))=_
    rw[bnd_w (by omega) (by omega),Int.toNat_natCast,List.take_length,room_w (by rw[List.length_drop]; omega) (by rw[List.length_drop]; omega)]
   clear h5
   refine join_g λk7 h7=>?_
   have K7:∀b:Bool,k7 (b,(out',()))=stdW.cnd b (k5 (IntKind.i64.wrap ((i:Int)+1),(out',()))) (k5 ((i:Int),(out',()))):=by intro b; subst h7; rfl
   clear h7
   by_cases h:i<l.length
   ·rw[cnd_lt h]
    show stdW.idx l (i:Int) (λx8=>k7 (notIf false ((x8.1.1==u.1)&&(x8.1.2.1==u.2.1)),(out',())))=_
    rw[idx_w h,unitEq,K7,List.drop_eq_getElem_cons h]
    show _=some (out'++if l[i].1=u then l.drop (i+1) else l[i]::l.drop (i+1))
    by_cases hu:l[i].1=u
    ·rw[decide_eq_true hu,cnd_y rfl,if_pos hu,i64_s i (by omega),K5 (i+1) (by omega)]
    ·rw[decide_eq_false hu,cnd_n rfl,if_neg hu,K5 i hi,←List.drop_eq_getElem_cons h]
   ·have:i=l.length:=by omega
    subst this
    rw[zah]
    show k7 (false,(out',()))=_
    rw[K7,cnd_n rfl,K5 _ (Nat.le_refl _),List.drop_length]; rfl
  clear h9
  show stdW.cnd (decide (0<(all.length:Int))) (stdW.room (out.length+1) 40 (k9 (out++[(u,(all,()))],()))) (k9 (out,()))=_
  unfold midL
  cases all with
  |nil=>rw[cnd_n (by rfl),if_pos rfl,K9 out (by omega),List.nil_append]
  |cons x xs=>rw[cnd_y (decide_eq_true (by simp<;>omega)),if_neg (by simp),room_w (by omega) (by omega),K9 _ (by rw[List.length_append]; simp; omega),List.append_assoc]
 clear h10
 refine(zen (l:=l) (s0:=[]) (by omega) (λi (z:List AHold')=>((i:Int),(z,()))) (λi z=>z.length≤i∧SrtA ((l.drop i).map (·.1))) (λl' z=>some (z++setH l' u all)) rfl ⟨Nat.le_refl _,hs⟩ ?_ ?_).trans (by rw[List.nil_append])
 ·rintro z ⟨hz,_⟩ again
  show stdW.cnd (decide ((l.length:Int)<(l.length:Int))) _ (k10 ((l.length:Int),(z,())))=_
  rw[zah,K10 _ z (Nat.le_refl _) (by omega),List.drop_length]
  rw[setH_ge (l:=[]) List.Pairwise.nil (λp h=>by cases h)]
 ·rintro i hi z ⟨hz,hsd⟩ again ha
  have hd:=List.drop_eq_getElem_cons hi
  show stdW.cnd (decide ((i:Int)<(l.length:Int))) (stdW.idx l (i:Int) _) _=_
  rw[cnd_lt hi,idx_w hi,zaa (zpn _ _)]
  rw[hd]at hsd
  by_cases h:ltA l[i].1 u
  ·rw[decide_eq_true h,cnd_y rfl]
   show stdW.idx l (i:Int) _=_
   rw[idx_w hi]
   show stdW.room (z.length+1) 40 (again (IntKind.i64.wrap ((i:Int)+1),(z++[l[i]],())))=_
   rw[room_w (by omega) (by omega),i64_s i (by omega),ha (z++[l[i]]) ⟨by rw[List.length_append]; simp; omega,(List.pairwise_cons.1 hsd).2⟩,setH_lt h,List.append_assoc]; rfl
  ·rw[decide_eq_false h,cnd_n rfl]
   show k10 ((i:Int),(z,()))=_
   rw[K10 i z (by omega) (by omega),setH_ge hsd (λp hp=>by cases hp; exact h),hd]
def moveH(l:List AHold')(f t:AUnit'):List AHold'×Int×Unit:=
 if isH l=true then (if f=t then ([],(24,())) else if lotsH l t=[] then (setH (setH l f []) t (lotsH l f),(0,())) else ([],(21,()))) else ([],(3,()))
theorem ypt{l:List AHold'}(h:isH l=true):SrtA (l.map (·.1)):=(of_decide_eq_true h).2
theorem yjh{l:List AHold'}(h:okHs l)(hl:l.length≤900)(hs:SrtA (l.map (·.1)))(u:AUnit'){all:List ALot'}(ha:okT all):okHs (setH l u all):=
 ⟨λp hp=>by
  rcases ztb.1 hp with ⟨h1,_⟩|⟨_,rfl⟩
  ·exact h.1 p h1
  ·exact ha,by have:=yhn hs u all; omega⟩
theorem okT_nil:okT []:=⟨by simp,λx hx=>by cases hx⟩
theorem r_hmove{l:List AHold'}{f t:AUnit'}(h:okHs l)(hl:l.length≤900):znx l f t=some (moveH l f t):=by
 show zql stdW l f t=_
 unfold zql moveH
 have hf:=ysk h.1 f
 rw[zaa (r_his1 h)]
 by_cases hi:isH l=true
 ·have hs:=ypt hi
  rw[hi,cnd_n (by rfl),if_pos rfl,unitEq]
  by_cases hft:f=t
  ·rw[decide_eq_true hft,cnd_y rfl,if_pos hft]
  ·rw[decide_eq_false hft,cnd_n rfl,if_neg hft,zaa (ypc h)]
   by_cases h0:lotsH l t=[]
   ·rw[if_pos h0,cnd_n (by rw[h0]; rfl),zaa (ypc h),zaa (r_hsetG h hs (by simp)),zaa (r_hsetG (yjh h hl hs f okT_nil) (zta hs f []) (by have:=hf.1; omega))]
   ·rw[if_neg h0,cnd_y (decide_eq_true (by
     cases hh:lotsH l t with
     |nil=>exact absurd hh h0
     |cons x xs=>simp<;>omega))]
 ·have hi:isH l=false:=by simpa using hi
  rw[hi,cnd_y (by rfl),if_neg (by decide)]
theorem r_move26{l:List AHold'}{f t:AUnit'}(h:okHs l)(hl:l.length≤900):zop l f t=some (moveH l f t):=by
 show zkg stdW l f t=_
 unfold zkg moveH
 rw[zaa (r_is26 h)]
 by_cases hi:isH l=true
 ·have hs:=ypt hi
  rw[hi,cnd_n (by rfl),if_pos rfl,unitEq]
  by_cases hft:f=t
  ·rw[decide_eq_true hft,cnd_y rfl,if_pos hft]
  ·rw[decide_eq_false hft,cnd_n rfl,if_neg hft,zaa (yio (by omega))]
   by_cases h0:lotsH l t=[]
   ·rw[if_pos h0,cnd_n (by rw[h0]; rfl),zaa (ymc hs (by omega)),zaa (yio (by omega)),zaa (ymc (zta hs f []) (by have:=yhn hs f []; omega))]
   ·rw[if_neg h0,cnd_y (decide_eq_true (by
     cases hh:lotsH l t with
     |nil=>exact absurd hh h0
     |cons x xs=>simp<;>omega))]
 ·have hi:isH l=false:=by simpa using hi
  rw[hi,cnd_y (by rfl),if_neg (by decide)]
def dropH(l:List zag)(u:AUnit'):List zag:=l.filter λc=>decide (c.1≠u)
theorem r_drop16{l:List zag}{u:AUnit'}(hl:l.length≤1000000):zoy l u=some (dropH l u):=by
 show zkt stdW l u=_
 unfold zkt dropH
 refine(zen (l:=l) (s0:=[]) (by omega) (λi (z:List zag)=>((i:Int),(z,()))) (λi z=>z.length≤i) (λl' z=>some (z++l'.filter λc=>decide (c.1≠u))) rfl (Nat.le_refl _) ?_ ?_).trans (by rw[List.nil_append])
 ·intro z _ again
  show stdW.cnd (decide ((l.length:Int)<(l.length:Int))) _ _=_
  rw[zah,List.filter_nil,List.append_nil]
 ·intro i hi z hz again ha
  show stdW.cnd (decide ((i:Int)<(l.length:Int))) _ _=_
  rw[cnd_lt hi]
  refine join_g λk hk=>?_
  have kk:∀z':List zag,k (z',())=again (((i+1:Nat):Int),(z',())):=by intro z'; rw[←i64_s i (by omega)]; subst hk; rfl
  clear hk
  show stdW.idx l (i:Int) _=_
  rw[idx_w hi,List.filter_cons,nif_t,eqA]
  by_cases hu:l[i].1=u
  ·rw[cnd_n (by simp[hu]),if_neg (by simpa using hu)]
   exact(kk z).trans (ha z (by omega))
  ·rw[cnd_y (by simp[hu]),if_pos (by simpa using hu)]
   show stdW.idx l (i:Int) _=_
   rw[idx_w hi]
   show stdW.room (z.length+1) 40 (k (z++[l[i]],()))=_
   rw[room_w (by omega) (by omega),kk,ha _ (by rw[List.length_append]; simp; omega),List.append_assoc]; rfl
theorem r_put14m{l:List zaf}{i:zaf}(hl:l.length≤1000):∃r e,ztt l i=some (r,(e,()))∧r.length≤l.length+1∧∀x∈r,x∈l∨x=i:=by
 show ∃r e,zpc stdW l i=some (r,(e,()))∧_
 unfold zpc
 obtain⟨b,hb⟩:=r_is14 i
 rw[zaa hb]
 cases b with
 |false=>rw[cnd_y (by decide)]; exact⟨[],2,rfl,by simp,λx hx=>by cases hx⟩
 |true=>
  rw[cnd_n (by decide),zaa (yir (t:=l) (id:=i.1) (by omega))]
  cases hf:findM l i.1 with
  |some x=>
   show ∃r e,stdW.cnd true _ _=_∧_
   rw[cnd_y rfl]; exact⟨[],12,rfl,by simp,λx hx=>by cases hx⟩
  |none=>
   show ∃r e,stdW.cnd false _ _=_∧_
   rw[cnd_n rfl,join_w]
   refine loop_P (λo=>∃(r:List zaf) (e:Int),o=some (r,(e,()))∧r.length≤l.length+1∧∀x∈r,x∈l∨x=i) (λz=>l.length+1 - z.1.toNat) (λz=>∃j:Nat,j≤l.length∧z=((j:Int),())) ⟨0,Nat.zero_le _,rfl⟩ (by show _ - (0:Int).toNat<_; omega) ?_
   rintro _ ⟨j,hj,rfl⟩ again ha
   have fin:∃(r:List zaf) (e:Int),stdW.bnd (j:Int) l.length (λh4=>stdW.room (l.take h4).length 32 (stdW.room ((l.take h4).length+(i::([]:List zaf)).length) 32 (stdW.bnd (j:Int) l.length λh5=>stdW.room (((l.take h4)++(i::([]:List zaf))).length+((l.take l.length).drop h5).length) 32 (some (((l.take h4)++(i::([]:List zaf))++((l.take l.length).drop h5)),(0,()))))))=some (r,(e,()))∧r.length≤l.length+1∧∀x∈r,x∈l∨x=i:=by
    rw[bnd_w (by omega) (by omega),Int.toNat_natCast]
    have l1:(l.take j).length≤1000:=by rw[List.length_take]; omega
    rw[room_w (by omega) (by omega),room_w (by simp only[List.length_cons,List.length_nil]; omega) (by simp only[List.length_cons,List.length_nil]; omega),bnd_w (by omega) (by omega),Int.toNat_natCast,List.take_length,
     room_w (by simp only[List.length_append,List.length_drop,List.length_cons,List.length_nil]; omega) (by simp only[List.length_append,List.length_drop,List.length_cons,List.length_nil]; omega)]
    refine⟨_,_,rfl,by simp only[List.length_append,List.length_drop,List.length_cons,List.length_nil,List.length_take]; omega,λx hx=>?_⟩
    rcases List.mem_append.1 hx with hx|hx
    ·rcases List.mem_append.1 hx with hx|hx
     ·exact .inl (List.mem_of_mem_take hx)
     ·simp only[List.mem_singleton]at hx; exact .inr hx
    ·exact .inl (List.mem_of_mem_drop hx)
   show ∃r e,stdW.cnd (decide ((j:Int)<(l.length:Int))) _ _=_∧_
   by_cases h:j<l.length
   ·rw[cnd_lt h]
    show ∃r e,stdW.idx l (j:Int) _=_∧_
    rw[idx_w h]
    by_cases h1:l[j].1<i.1
    ·rw[cnd_y (decide_eq_true h1)]
     show ∃r e,again (IntKind.i64.wrap ((j:Int)+1),())=_∧_
     rw[i64_s j (by omega)]
     exact ha _ ⟨j+1,by omega,rfl⟩ (by show _ - ((j+1:Nat):Int).toNat<_ - ((j:Nat):Int).toNat; omega)
    ·rw[cnd_n (decide_eq_false h1)]; exact fin
   ·have:j=l.length:=by omega
    subst this
    rw[zah]; exact fin
theorem r_table14m{l:List zaf}(hl:l.length≤9223372036854775807):∃t,zkz l=some t∧(t.length≤10∧∀x∈t,x∈l):=by
 show ∃t:List zaf,zhq stdW l=some t∧(t.length≤10∧∀x∈t,x∈l)
 unfold zhq
 rw[join_w]
 refine loop_P (λo=>∃t:List zaf,o=some t∧(t.length≤10∧∀x∈t,x∈l)) (λz=>l.length+1 - z.2.1.toNat) (λz=>∃(j:Nat) (acc:List zaf),j≤l.length∧j≤10∧acc.length≤j∧(∀x∈acc,x∈l)∧z=(acc,((j:Int),()))) ⟨0,[],Nat.zero_le _,Nat.zero_le _,Nat.le_refl _,by simp,rfl⟩ (by show _ - (0:Int).toNat<_; omega) ?_
 rintro _ ⟨j,acc,hj,hj10,hacc,hin,rfl⟩ again ha
 have fin:∃t:List zaf,(some acc:Option (List zaf))=some t∧(t.length≤10∧∀x∈t,x∈l):=⟨acc,rfl,by omega,hin⟩
 show ∃t:List zaf,stdW.cnd (decide ((j:Int)<(l.length:Int))) (stdW.cnd (decide ((j:Int)<10)) _ _) _=some t∧(t.length≤10∧∀x∈t,x∈l)
 by_cases h:j<l.length
 ·rw[cnd_lt h]
  by_cases h10:j<10
  ·rw[cnd_y (decide_eq_true (by omega)),join_w]
   show ∃t:List zaf,stdW.idx l (j:Int) _=some t∧(t.length≤10∧∀x∈t,x∈l)
   rw[idx_w h]
   obtain⟨r,e,hp,hr,hri⟩:=r_put14m (l:=acc) (i:=l[j]) (by omega)
   have nxt:∀a:List zaf,a.length≤j+1→(∀x∈a,x∈l)→∃t:List zaf,again (a,(IntKind.i64.wrap ((j:Int)+1),()))=some t∧(t.length≤10∧∀x∈t,x∈l):=by
    intro a h1 h2
    rw[i64_s j (by omega)]
    exact ha _ ⟨j+1,a,by omega,by omega,h1,h2,rfl⟩ (by show _ - ((j+1:Nat):Int).toNat<_ - ((j:Nat):Int).toNat; omega)
   show ∃t:List zaf,stdW.call (ztt acc l[j]) _=some t∧(t.length≤10∧∀x∈t,x∈l)
   rw[zaa hp]
   by_cases he:e=0
   ·rw[cnd_y (by simpa using he)]
    exact nxt r (by omega) λx hx=>(hri x hx).elim (hin x) λh3=>h3▸List.getElem_mem h
   ·rw[cnd_n (by simpa using he)]
    exact nxt acc (by omega) hin
  ·rw[cnd_n (decide_eq_false (by omega))]; exact fin
 ·have:j=l.length:=by omega
  subst this
  rw[zah]; exact fin
def zeo(s:zae)(u:AUnit'):Int:=
 match findC s.2.2.2.2.1 u.1 with
 |none=>11
 |some a=>if hasA a u=true then (if a.2.2.1=1 then 17 else 0) else 11
def acctOf(s:zae)(u:AUnit'):zab:=(findC s.2.2.2.2.1 u.1).getD zeroA
structure OkP(s:zae):Prop where
 mL:s.2.1.length≤10
 mI:∀m∈s.2.1,I64 m.2.1
 aA:okAs s.2.2.2.2.1
 aL:s.2.2.2.2.1.length≤20
 aS:SrtI s.2.2.2.2.1
 cL:(ch s).length≤20
 hb:okB (bk s)
 bl:(bk s).length≤20
 pf:okF (pu s)
 pl:(pu s).length≤20
 hh:okHs (ho s)
 hl:(ho s).length≤20
theorem ytd{t:List zaf}{id:Int}{m:zaf}(h:findM t id=some m):m∈t:=List.mem_of_find?_eq_some h
theorem yte{t:List zab}{id:Int}{a:zab}(h:findC t id=some a):a∈t:=List.mem_of_find?_eq_some h
theorem yrv{s:zae}(O:OkP s)(u:AUnit'):zln s u=some (if zeo s u=0 then (acctOf s u,(0,())) else (zeroA,(zeo s u,()))):=by
 show zhu stdW s u=_
 unfold zhu zeo acctOf
 rw[zaa (r_findC O.aA O.aS)]
 cases hc:findC s.2.2.2.2.1 u.1 with
 |none=>exact join_b true (λk=>cnd_y (by rfl) _ _) rfl
 |some a=>
  have ha:=O.aA.1 _ (yte hc)
  refine join_b (!(hasA a u)) (λk=>?_) ?_
  ·show stdW.cnd (!true) _ (stdW.call (yap a u) _)=_
   rw[cnd_n (by rfl),zaa (r_hasA ha)]
  ·show stdW.cnd (!(hasA a u)) (some (zeroA,(11,()))) (stdW.cnd (a.2.2.1==1) (some (zeroA,(17,()))) (some (a,(0,()))))=some (if (if hasA a u=true then (if a.2.2.1=1 then (17:Int) else 0) else 11)=0 then (a,((0:Int),())) else (zeroA,((if hasA a u=true then (if a.2.2.1=1 then (17:Int) else 0) else 11),())))
   by_cases h1:hasA a u=true
   ·rw[h1,cnd_n (by rfl)]
    by_cases h2:a.2.2.1=1
    ·rw[cnd_y (by simpa using h2),if_pos rfl,if_pos h2,if_neg (by decide)]
    ·rw[cnd_n (by simpa using h2),if_pos rfl,if_neg h2,if_pos rfl]
   ·rw[if_neg h1,if_neg (by decide),cnd_y (by simpa using h1)]
theorem ymh{s:zae}(O:OkP s)(u:AUnit'):∃x,zey s u=some (x,(zeo s u,()))∧(zeo s u=0→x=acctOf s u):=by
 show ∃x,zfq stdW s u=_∧_
 unfold zfq zeo acctOf
 have hal:=O.aL
 rw[zaa (r_find15c (by omega))]
 cases hc:findC s.2.2.2.2.1 u.1 with
 |none=>exact⟨zeroA,join_b true (λk=>cnd_y (by rfl) _ _) rfl,λh=>by cases h⟩
 |some a=>
  have ha:=O.aA.1 _ (yte hc)
  refine⟨a,?_,λ_=>rfl⟩
  refine join_b (!(hasA a u)) (λk=>?_) ?_
  ·show stdW.cnd (!true) _ (stdW.call (ztr a u) _)=_
   rw[cnd_n (by rfl),zaa (r_has15 ha)]
  ·show stdW.cnd (!(hasA a u)) (some (a,(11,()))) (stdW.cnd (a.2.2.1==1) (some (a,(17,()))) (some (a,(0,()))))=some (a,((if hasA a u=true then (if a.2.2.1=1 then (17:Int) else 0) else 11),()))
   by_cases h1:hasA a u=true
   ·rw[h1,cnd_n (by rfl),if_pos rfl]
    by_cases h2:a.2.2.1=1
    ·rw[cnd_y (by simpa using h2),if_pos h2]
    ·rw[cnd_n (by simpa using h2),if_neg h2]
   ·rw[if_neg h1,cnd_y (by simpa using h1)]
def zfa(s:zae)(f:AUnit'):Int:=
 if zeo s f=0 then (match findM s.2.1 (acctOf s f).2.1 with|none=>18|some m=>openE m s.1) else zeo s f
theorem r_leaves{s:zae}(O:OkP s)(f:AUnit'):zru s f=some (zfa s f):=by
 show zht stdW s f=_
 unfold zht zfa
 have hml:=O.mL
 rw[zaa (yrv O f)]
 by_cases h:zeo s f=0
 ·rw[if_pos h,if_pos h,cnd_n (by rfl)]
  show stdW.call (zfl s.2.1 (acctOf s f).2.1) _=_
  rw[zaa (ymg (by omega))]
  cases findM s.2.1 (acctOf s f).2.1 with
  |none=>rfl
  |some m=>
   show stdW.cnd (!true) _ (stdW.call (zpu m s.1) _)=_
   rw[cnd_n (by rfl),zaa (r_popen m s.1)]
 ·rw[if_neg h,if_neg h,cnd_y (by simpa using h)]
def emptyU(s:zae)(u:AUnit'):Prop:=ofB (bk s) u=[]∧getP (pu s) u=0∧lotsH (ho s) u=[]
instance (s:zae) (u:AUnit'):Decidable (emptyU s u):=by unfold emptyU; infer_instance
theorem len0{α:Type}(l:List α):((l.length:Int)==0)=decide (l=[]):=by
 cases l with
 |nil=>rfl
 |cons x xs=>simp; omega
theorem len0'{α:Type}(l:List α):decide (0<(l.length:Int))=!decide (l=[]):=by
 cases l with
 |nil=>rfl
 |cons x xs=>simp
theorem r_empty{s:zae}(O:OkP s)(u:AUnit'):zpr s u=some (decide (emptyU s u)):=by
 show zll stdW s u=_
 unfold zll
 have hpl:=O.pl
 have e1:zod s.2.2.2.2.2.2.2.2.1 u=some (ofB (bk s) u):=r_bof O.hb
 have e2:zez s.2.2.2.2.2.2.2.2.2.2.1 u=some (getP (pu s) u):=r_get (by show (pu s).length≤_; omega)
 have e3:zjf s.2.2.2.2.2.2.2.2.2.2.2.1 u=some (lotsH (ho s) u):=ypc O.hh
 rw[zaa e1,len0]
 by_cases h1:ofB (bk s) u=[]
 ·rw[decide_eq_true h1,cnd_y rfl,zaa e2]
  by_cases h2:getP (pu s) u=0
  ·rw[cnd_y (by simpa using h2),zaa e3,len0]
   congr 1
   exact decide_eq_decide.2 ⟨λh=>⟨h1,h2,h⟩,λh=>h.2.2⟩
  ·rw[cnd_n (by simpa using h2),decide_eq_false (p:=emptyU s u) λh=>h2 h.2.1]
 ·rw[decide_eq_false h1,cnd_n rfl,decide_eq_false (p:=emptyU s u) λh=>h1 h.1]
def comesE(s:zae)(f t:AUnit'):Int:=
 if zeo s t=0 then (
  match findM s.2.1 (acctOf s t).2.1 with
  |none=>15
  |some m=>if m.2.2.1=0 then (if emptyU s t then (if (heldP (bk s) [f]).2.1=0 then (if (usedP s m.1).2.1=0 then roomE m.2.1 (usedP s m.1).1 (heldP (bk s) [f]).1 else (usedP s m.1).2.1) else (heldP (bk s) [f]).2.1) else 21) else 15)
 else zeo s t
theorem fitsI(z:Int):I64 (fits64 z).1:=by
 unfold fits64
 split
 ·assumption
 ·unfold I64; simp
theorem heldI(l:List APos')(us:List AUnit'):I64 (heldP l us).1:=by
 unfold heldP
 split
 ·exact fitsI _
 ·unfold I64; simp
theorem r_comes{s:zae}(O:OkP s)(f t:AUnit'):zwl s f t=some (comesE s f t):=by
 show zlm stdW s f t=_
 unfold zlm comesE
 have hml:=O.mL
 rw[zaa (yrv O t)]
 by_cases h:zeo s t=0
 case neg=>rw[if_neg h,if_neg h,cnd_y (by simpa using h)]
 rw[if_pos h,if_pos h,cnd_n (by rfl)]
 show stdW.call (zfl s.2.1 (acctOf s t).2.1) _=_
 rw[zaa (ymg (by omega))]
 cases hm:findM s.2.1 (acctOf s t).2.1 with
 |none=>exact join_b true (λk=>cnd_y (by rfl) _ _) rfl
 |some m=>
 have e:zpw m=some (if m.2.2.1=0 then 0 else 15):=by
  show zlu stdW m=_
  unfold zlu
  by_cases h3:m.2.2.1=0
  ·rw[cnd_n (by simpa using h3),if_pos h3]
  ·rw[cnd_y (by simpa using h3),if_neg h3]
 refine join_b (!decide (m.2.2.1=0)) (λk=>?_) ?_
 ·show stdW.cnd (!true) _ (stdW.call (zpw m) _)=_
  rw[cnd_n (by rfl),zaa e]
  by_cases h3:m.2.2.1=0
  ·rw[if_pos h3,decide_eq_true h3]; rfl
  ·rw[if_neg h3,decide_eq_false h3]; rfl
 show stdW.cnd (!decide (m.2.2.1=0)) (some (15:Int)) (stdW.call (zpr s t) _)=some (if m.2.2.1=0 then (if emptyU s t then (if (heldP (bk s) [f]).2.1=0 then (if (usedP s m.1).2.1=0 then roomE m.2.1 (usedP s m.1).1 (heldP (bk s) [f]).1 else (usedP s m.1).2.1) else (heldP (bk s) [f]).2.1) else 21) else 15)
 by_cases h3:m.2.2.1=0
 case neg=>rw[decide_eq_false h3,cnd_y (by rfl),if_neg h3]
 rw[decide_eq_true h3,cnd_n (by rfl),if_pos h3,zaa (r_empty O t)]
 by_cases h4:emptyU s t
 case neg=>rw[decide_eq_false h4,cnd_y (by rfl),if_neg h4]
 have e5:zjo s.2.2.2.2.2.2.2.2.1 [f]=some (heldP (bk s) [f]):=r_held O.hb (by simp)
 rw[decide_eq_true h4,cnd_n (by rfl),if_pos h4,zaa e5]
 by_cases h5:(heldP (bk s) [f]).2.1=0
 case neg=>rw[cnd_y (by simpa using h5),if_neg h5]
 rw[cnd_n (by simpa using h5),if_pos h5]
 show stdW.call (zuf s m.1) _=_
 rw[zaa (r_used O.aA O.aL O.hb)]
 by_cases h6:(usedP s m.1).2.1=0
 case neg=>rw[cnd_y (by simpa using h6),if_neg h6]
 rw[cnd_n (by simpa using h6),if_pos h6]
 show stdW.call (zlt m (usedP s m.1).1 (heldP (bk s) [f]).1) _=_
 rw[zaa (r_room (used:=(usedP s m.1).1) (more:=(heldP (bk s) [f]).1) (heldI _ _) (heldI _ _) (O.mI m (ytd hm)))]
def zU:AUnit':=(0,(0,()))
def mayP(s:zae)(f:AUnit'):AUnit'×Int×Unit:=
 if zfa s f=0 then (
  if (readyP (ch s) f).2.1=0 then (
   if comesE s f (readyP (ch s) f).1=0 then ((readyP (ch s) f).1,(0,())) else (zU,(comesE s f (readyP (ch s) f).1,())))
  else (zU,((readyP (ch s) f).2.1,())))
 else (zU,(zfa s f,()))
theorem r_may{s:zae}(O:OkP s)(f:AUnit'):yjb s f=some (mayP s f):=by
 show zug stdW s f=_
 unfold zug mayP
 have hcl:=O.cL
 rw[zaa (r_leaves O f)]
 by_cases h1:zfa s f=0
 case neg=>rw[cnd_y (by simpa using h1),if_neg h1]; rfl
 have e:zmg s.2.2.2.2.2.1 f=some (readyP (ch s) f):=r_ready (by show (ch s).length≤_; omega)
 rw[cnd_n (by simpa using h1),if_pos h1,zaa e]
 by_cases h2:(readyP (ch s) f).2.1=0
 case neg=>rw[cnd_y (by simpa using h2),if_neg h2]; rfl
 rw[cnd_n (by simpa using h2),if_pos h2,zaa (r_comes O f _)]
 by_cases h3:comesE s f (readyP (ch s) f).1=0
 case neg=>rw[cnd_y (by simpa using h3),if_neg h3]; rfl
 rw[cnd_n (by simpa using h3),if_pos h3]
theorem yci{s:zae}{f:AUnit'}{e:Int}(h:zfa s f=e)(he:e≠0):mayP s f=(zU,(e,())):=by
 unfold mayP; rw[h,if_neg he]
theorem may_ready{s:zae}{f:AUnit'}(h:zfa s f=0)(he:(readyP (ch s) f).2.1≠0):mayP s f=(zU,((readyP (ch s) f).2.1,())):=by
 unfold mayP; rw[if_pos h,if_neg he]
theorem may_come{s:zae}{f:AUnit'}{e:Int}(h:zfa s f=0)(hr:(readyP (ch s) f).2.1=0)(hc:comesE s f (readyP (ch s) f).1=e)(he:e≠0):mayP s f=(zU,(e,())):=by
 unfold mayP; rw[if_pos h,if_pos hr,hc,if_neg he]
theorem r_may29{s:zae}(O:OkP s)(f:AUnit'):ybk s f=some (mayP s f):=by
 show zol stdW s f=_
 unfold zol
 have hml:=O.mL
 have hcl:=O.cL
 have hpl:=O.pl
 have hbl:=O.bl
 have hhl:=O.hl
 obtain⟨x,ex,hx⟩:=ymh O f
 rw[zaa ex]
 by_cases h1:zeo s f=0
 case neg=>
  have hl:zfa s f=zeo s f:=by unfold zfa; rw[if_neg h1]
  rw[cnd_y (by simpa using h1),yci hl h1]; rfl
 obtain rfl:=hx h1
 have hl:zfa s f=match findM s.2.1 (acctOf s f).2.1 with|none=>18|some m=>openE m s.1:=by unfold zfa; rw[if_pos h1]<;>rfl
 rw[cnd_n (by simpa using h1)]
 show stdW.call (zfj s.2.1 (acctOf s f).2.1) _=_
 rw[zaa (yir (by omega))]
 cases hm:findM s.2.1 (acctOf s f).2.1 with
 |none=>
  rw[hm]at hl
  replace hl:zfa s f=18:=hl
  rw[yci hl (by decide)]
  exact join_b true (λk=>cnd_y (by rfl) _ _) rfl
 |some m=>
 rw[hm]at hl
 replace hl:zfa s f=openE m s.1:=hl
 refine join_b (openE m s.1 != 0) (λk=>?_) ?_
 ·show stdW.cnd (!true) _ (stdW.call (zom m s.1) _)=_
  rw[cnd_n (by rfl),zaa (r_open28 m s.1)]
 show stdW.cnd (openE m s.1 != 0) (some (zU,(18,()))) (stdW.call (zkr (ch s) f) _)=_
 by_cases h2:openE m s.1=0
 case neg=>
  have h18:openE m s.1=18:=by
   unfold openE at h2 ⊢
   split
   ·rename_i h; rw[if_pos h]at h2; exact absurd rfl h2
   ·rfl
  rw[cnd_y (by simpa using h2),yci (hl.trans h18) (by decide)]
 rw[h2]at hl
 rw[cnd_n (by simpa using h2),zaa (r_ready16 (by omega))]
 by_cases h3:(readyP (ch s) f).2.1=0
 case neg=>
  rw[cnd_y (by simpa using h3),may_ready hl h3]; rfl
 rw[cnd_n (by simpa using h3)]
 have hmay:=λ(e:Int)=>may_come (e:=e) hl h3
 have hok:comesE s f (readyP (ch s) f).1=0→mayP s f=((readyP (ch s) f).1,(0,())):=λh=>by unfold mayP; rw[if_pos hl,if_pos h3,if_pos h]
 generalize (readyP (ch s) f).1=t at*
 obtain⟨y,ey,hy⟩:=ymh O t
 show stdW.call (zey s t) _=_
 rw[zaa ey]
 unfold comesE at hmay hok
 by_cases h4:zeo s t=0
 case neg=>
  rw[if_neg h4]at hmay
  rw[cnd_y (by simpa using h4),hmay _ rfl h4]; rfl
 obtain rfl:=hy h4
 rw[if_pos h4]at hmay hok
 rw[cnd_n (by simpa using h4)]
 show stdW.call (zfj s.2.1 (acctOf s t).2.1) _=_
 rw[zaa (yir (by omega))]
 cases hn:findM s.2.1 (acctOf s t).2.1 with
 |none=>
  rw[hn]at hmay
  rw[hmay 15 rfl (by decide)]
  exact join_b true (λk=>cnd_y (by rfl) _ _) rfl
 |some n=>
 rw[hn]at hmay hok
 have hmay':∀e:Int,(if n.2.2.1=0 then (if emptyU s t then (if (heldP (bk s) [f]).2.1=0 then (if (usedP s n.1).2.1=0 then roomE n.2.1 (usedP s n.1).1 (heldP (bk s) [f]).1 else (usedP s n.1).2.1) else (heldP (bk s) [f]).2.1) else 21) else 15)=e→e≠0→mayP s f=(zU,(e,())):=hmay
 have hok':(if n.2.2.1=0 then (if emptyU s t then (if (heldP (bk s) [f]).2.1=0 then (if (usedP s n.1).2.1=0 then roomE n.2.1 (usedP s n.1).1 (heldP (bk s) [f]).1 else (usedP s n.1).2.1) else (heldP (bk s) [f]).2.1) else 21) else 15)=0→mayP s f=(t,(0,())):=hok
 clear hmay hok
 refine join_b (n.2.2.1 != 0) (λk=>?_) ?_
 ·show stdW.cnd (!true) _ _=_
  rw[cnd_n (by rfl)]
 show stdW.cnd (n.2.2.1 != 0) (some (zU,(15,()))) _=_
 by_cases h5:n.2.2.1=0
 case neg=>
  rw[if_neg h5]at hmay'
  rw[cnd_y (by simpa using h5),hmay' 15 rfl (by decide)]
 rw[if_pos h5]at hmay' hok'
 rw[cnd_n (by simpa using h5)]
 refine join_b (!decide (emptyU s t)) (λk=>?_) ?_
 ·have e1:zhl s.2.2.2.2.2.2.2.2.1 t=some (ofB (bk s) t):=r_of19 (by show (bk s).length≤_; omega)
  have e2:ziw s.2.2.2.2.2.2.2.2.2.2.1 t=some (getP (pu s) t):=r_get17 (by show (pu s).length≤_; omega)
  have e3:zgo s.2.2.2.2.2.2.2.2.2.2.2.1 t=some (lotsH (ho s) t):=yio (by show (ho s).length≤_; omega)
  rw[zaa e1,len0']
  by_cases b1:ofB (bk s) t=[]
  ·rw[decide_eq_true b1,cnd_n (by rfl),zaa e2]
   by_cases b2:getP (pu s) t=0
   ·rw[cnd_n (by simpa using b2),zaa e3,len0']
    congr 2
    congr 1
    exact decide_eq_decide.2 ⟨λh=>⟨b1,b2,h⟩,λh=>h.2.2⟩
   ·rw[cnd_y (by simpa using b2),decide_eq_false (p:=emptyU s t) λh=>b2 h.2.1]; rfl
  ·rw[decide_eq_false b1,cnd_y (by rfl),decide_eq_false (p:=emptyU s t) λh=>b1 h.1]; rfl
 show stdW.cnd (!decide (emptyU s t)) (some (zU,(21,()))) (stdW.call (zgp (bk s) [f]) _)=_
 by_cases h6:emptyU s t
 case neg=>
  rw[if_neg h6]at hmay'
  rw[decide_eq_false h6,cnd_y (by rfl),hmay' 21 rfl (by decide)]
 rw[if_pos h6]at hmay' hok'
 rw[decide_eq_true h6,cnd_n (by rfl),zaa (yrs O.hb (by simp))]
 by_cases h7:(heldP (bk s) [f]).2.1=0
 case neg=>
  rw[if_neg h7]at hmay'
  rw[cnd_y (by simpa using h7),hmay' _ rfl h7]; rfl
 rw[if_pos h7]at hmay' hok'
 rw[cnd_n (by simpa using h7)]
 show stdW.call (zok s n.1) _=_
 rw[zaa (r_used29 O.aA O.aL O.hb)]
 by_cases h8:(usedP s n.1).2.1=0
 case neg=>
  rw[if_neg h8]at hmay'
  rw[cnd_y (by simpa using h8),hmay' _ rfl h8]; rfl
 rw[if_pos h8]at hmay' hok'
 rw[cnd_n (by simpa using h8)]
 show stdW.call (zpb n.2.1 (usedP s n.1).1 (heldP (bk s) [f]).1) _=_
 rw[zaa (r_room14 (used:=(usedP s n.1).1) (more:=(heldP (bk s) [f]).1) (heldI _ _) (heldI _ _) (O.mI n (ytd hn)))]
 by_cases h9:roomE n.2.1 (usedP s n.1).1 (heldP (bk s) [f]).1=0
 case neg=>rw[cnd_y (by simpa using h9),hmay' _ rfl h9]; rfl
 rw[cnd_n (by simpa using h9),hok' h9]
end Go.Proofs.YtllkmncnmlmefaaGreat