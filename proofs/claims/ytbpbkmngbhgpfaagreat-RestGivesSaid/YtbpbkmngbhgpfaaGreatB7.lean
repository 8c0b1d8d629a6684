import Derived.Test.YtbpbkmngbhgpfaaGreatB6
namespace Go.Proofs.YtbpbkmngbhgpfaaGreat
open Go Go.Vc Go.RowKit
theorem join_g{X β:Type}{k0:X→Option β}{f:(X→Option β)→Option β}{r:Option β}(h:∀k,k=k0→f k=r):stdW.join k0 f=r:=h k0 rfl
theorem r_lessA(a b:AUnit'):zed a b=some (decide (ltA a b)):=by
 show zkb stdW a b=_
 unfold zkb
 by_cases h:a.1=b.1
 ·rw[cnd_n (by simp[h])]
  congr 1; refine decide_eq_decide.2 ?_; unfold ltA; omega
 ·rw[cnd_y (by simp[h])]
  congr 1; refine decide_eq_decide.2 ?_; unfold ltA; omega
theorem zzc(a b:AUnit'):zfg a b=some (decide (ltA a b)):=by
 show zky stdW a b=_
 unfold zky
 by_cases h1:a.1<b.1
 ·rw[cnd_y (decide_eq_true h1),decide_eq_true (by unfold ltA; omega)]
 ·rw[cnd_n (decide_eq_false h1)]
  by_cases h:a.1=b.1
  ·rw[cnd_y (by simp[h])]
   congr 1; refine decide_eq_decide.2 ?_; unfold ltA; omega
  ·rw[cnd_n (by simp[h]),decide_eq_false (by unfold ltA; omega)]
def PInv(l:List AFlow'):Prop:=(∀x∈l,x.2.1≠0)∧SrtA (l.map (·.1))
instance (l:List AFlow'):Decidable (PInv l):=by unfold PInv SrtA; infer_instance
def isP(l:List AFlow'):Bool:=decide (PInv l)
theorem yrc{l:List AFlow'}{i:Nat}(hi:i<l.length)(h:l[i].2.1=0):isP l=false:=
 decide_eq_false fun hp=>hp.1 _ (List.getElem_mem hi) h
theorem yrb{l:List AFlow'}{i:Nat}(hi:i<l.length)(h0:0<i)(h:¬ltA (l[i - 1]'(by omega)).1 l[i].1):isP l=false:=
 decide_eq_false fun hp=>h (by
  have:=List.pairwise_iff_getElem.1 hp.2 (i - 1) i (by simp; omega) (by simpa using hi) (by omega)
  simpa using this)
theorem zzj{l:List AFlow'}{i:Nat}(hi:i<l.length)(inv:PInv (l.take i))(h1:l[i].2.1≠0)(h2:∀h0:0<i,ltA (l[i - 1]'(by omega)).1 l[i].1):PInv (l.take (i+1)):=by
 rw[List.take_succ_eq_append_getElem hi]
 refine⟨fun x hx=>?_,?_⟩
 ·rcases List.mem_append.1 hx with hx|hx
  ·exact inv.1 x hx
  ·simp at hx; rw[hx]; exact h1
 ·show SrtA ((l.take i++[l[i]]).map (·.1))
  rw[List.map_append]
  refine List.pairwise_append.2 ⟨inv.2,by simp,fun a ha b hb=>?_⟩
  simp only[List.map_cons,List.map_nil,List.mem_singleton]at hb
  subst hb
  obtain⟨k,hk,hka⟩:=List.mem_iff_getElem.1 ha
  have hk':k<i:=by simp at hk; omega
  have h3:=h2 (by omega)
  by_cases hki:k=i - 1
  ·subst hki; rw[←hka]; simpa using h3
  ·have h4:=List.pairwise_iff_getElem.1 inv.2 k (i - 1) (by simpa using hk) (by simp; omega) (by omega)
   rw[hka]at h4
   refine ltA_tr h4 ?_
   simpa using h3
theorem isP_end{l:List AFlow'}(h:PInv (l.take l.length)):isP l=true:=by rw[List.take_length]at h; exact decide_eq_true h
theorem r_is{l:List AFlow'}(hl:l.length≤1000000):zlm l=some (isP l):=by
 show znp stdW l=_
 unfold znp
 refine loop_n (N:=l.length) (by omega) (fun i _=>PInv (l.take i)) (some (isP l)) (by simp[PInv]) ?_ ?_
 ·rintro _ again h
  rw[zas,isP_end h]
 ·rintro i hi _ inv again ha
  rw[cnd_lt hi,idx_w hi]
  refine join_g fun k hk=>?_
  have kt:k (true,())=some false:=by subst hk; rfl
  have kf:k (false,())=again (((i+1:Nat):Int),()):=by rw[←i64_s i (by omega)]; subst hk; rfl
  clear hk
  by_cases h1:l[i].2.1=0
  ·rw[cnd_y (by simpa using h1),kt,yrc hi h1]
  ·rw[cnd_n (by simpa using h1)]
   by_cases h0:0<i
   ·rw[cnd_y (decide_eq_true (by omega)),zfq i h0 (by rw[zay]; omega),idx_w (by omega),zaa (r_lessA _ _)]
    by_cases h2:ltA (l[i - 1]'(by omega)).1 l[i].1
    ·rw[decide_eq_true h2]
     exact kf.trans (ha _ (zzj hi inv h1 fun _=>h2))
    ·rw[decide_eq_false h2,yrb hi h0 h2]; exact kt
   ·rw[cnd_n (decide_eq_false (by omega))]
    exact kf.trans (ha _ (zzj hi inv h1 fun h=>absurd h h0))
theorem r_is17{l:List AFlow'}(hl:l.length≤1000000):zsl l=some (isP l):=by
 show zsk stdW l=_
 unfold zsk
 refine loop_n (N:=l.length) (by omega) (fun i _=>PInv (l.take i)) (some (isP l)) (by simp[PInv]) ?_ ?_
 ·rintro _ again h
  rw[zas,isP_end h]
 ·rintro i hi _ inv again ha
  rw[cnd_lt hi]
  refine join_g fun k hk=>?_
  have kt:k (true,())=some false:=by subst hk; rfl
  have kf:k (false,())=again (((i+1:Nat):Int),()):=by rw[←i64_s i (by omega)]; subst hk; rfl
  clear hk
  rw[idx_w hi]
  by_cases h1:l[i].2.1=0
  ·rw[cnd_y (by simpa using h1),kt,yrc hi h1]
  ·rw[cnd_n (by simpa using h1)]
   by_cases h0:0<i
   ·rw[cnd_y (decide_eq_true (by omega)),zfq i h0 (by rw[zay]; omega),idx_w (by omega),idx_w hi,zaa (zzc _ _)]
    by_cases h2:ltA (l[i - 1]'(by omega)).1 l[i].1
    ·rw[decide_eq_true h2]
     exact kf.trans (ha _ (zzj hi inv h1 fun _=>h2))
    ·rw[decide_eq_false h2,yrb hi h0 h2]; exact kt
   ·rw[cnd_n (decide_eq_false (by omega))]
    exact kf.trans (ha _ (zzj hi inv h1 fun h=>absurd h h0))
theorem eqA(a b:AUnit'):(a.1==b.1&&a.2.1==b.2.1)=decide (a=b):=by
 by_cases h:a=b
 ·subst h; simp
 ·rw[decide_eq_false h]
  cases hc:(a.1==b.1&&a.2.1==b.2.1) with
  |false=>rfl
  |true=>simp only[Bool.and_eq_true,beq_iff_eq]at hc; exact absurd (extA hc.1 hc.2) h
def getP:List AFlow'→AUnit'→Int
 |[],_=>0
 |x::l,u=>if x.1=u then x.2.1 else getP l u
theorem r_get{l:List AFlow'}{u:AUnit'}(hl:l.length≤1000000):zjj l u=some (getP l u):=by
 show zji stdW l u=_
 unfold zji
 refine zcp (l:=l) (by omega) (fun _ _=>True) (fun l _=>some (getP l u)) trivial ?_ ?_
 ·rintro _ again _
  rw[zas]; rfl
 ·rintro i hi _ _ again ha
  rw[cnd_lt hi,idx_w hi,nif_f,eqA]
  unfold getP
  by_cases h:l[i].1=u
  ·rw[cnd_y (decide_eq_true h),if_pos h]
  ·rw[cnd_n (decide_eq_false h),if_neg h,i64_s i (by omega)]
   exact ha _ trivial
theorem r_get17{l:List AFlow'}{u:AUnit'}(hl:l.length≤1000000):zng l u=some (getP l u):=by
 show zpe stdW l u=_
 unfold zpe
 refine zcp (l:=l) (by omega) (fun _ _=>True) (fun l _=>some (getP l u)) trivial ?_ ?_
 ·rintro _ again _
  rw[zas]; rfl
 ·rintro i hi _ _ again ha
  rw[cnd_lt hi,idx_w hi,nif_f,eqA]
  unfold getP
  by_cases h:l[i].1=u
  ·rw[cnd_y (decide_eq_true h),if_pos h,idx_w hi]
  ·rw[cnd_n (decide_eq_false h),if_neg h,i64_s i (by omega)]
   exact ha _ trivial
def amt(x:AFlow'):Int:=x.2.1
def okF(l:List AFlow'):Prop:=∀x∈l,I64 (amt x)
theorem okF.take{l:List AFlow'}(h:okF l)(i:Nat):okF (l.take i):=fun x hx=>h x (List.mem_of_mem_take hx)
theorem r_addB{a b:Int}(ha:sml a)(hb:sml b):zbq (big a) (big b)=some (big (a+b)):=by
 unfold sml at*
 have:=r_add (nb_big a) (nb_big b) (Nat.le_trans (ztj ha) (by decide)) (Nat.le_trans (ztj hb) (by decide))
 rwa [bv_big,bv_big]at this
theorem big0:big 0=(false,([],())):=by unfold big; simp[bits0]
theorem ycr{n:Int}(h:I64 n):sml n:=by unfold I64 at h; unfold sml; omega
end Go.Proofs.YtbpbkmngbhgpfaaGreat

namespace Go.Proofs.YtbpbkmngbhgpfaaGreat
open Go Go.Vc Go.RowKit
def ofFlow(u:AUnit')(x:AFlow'):Bool:=decide (x.1=u)
def amts(l:List AFlow')(u:AUnit'):List Int:=(l.filter (ofFlow u)).map amt
def sumU(l:List AFlow')(u:AUnit'):Int:=(amts l u).sum
theorem ykc(l:List AFlow')(u:AUnit'):(amts l u).length≤l.length:=by
 unfold amts; rw[List.length_map]; exact List.length_filter_le _ _
theorem amts_ok{l:List AFlow'}(h:okF l)(u:AUnit'):∀x∈amts l u,I64 x:=by
 intro x hx
 obtain⟨y,hy,rfl⟩:=List.mem_map.1 hx
 exact h y (List.mem_filter.1 hy).1
theorem ydt(l:List AFlow')(u:AUnit')(i:Nat)(h:i<l.length):amts (l.take (i+1)) u=amts (l.take i) u++(if l[i].1=u then [l[i].2.1] else []):=by
 unfold amts
 rw[ypd _ _ _ h,List.map_append]
 unfold ofFlow
 by_cases hu:l[i].1=u<;>simp[hu,amt]
theorem r_amounts{l:List AFlow'}{u:AUnit'}(hl:l.length≤1000000):zeu l u=some (amts l u):=by
 show zeb stdW l u=_
 unfold zeb
 refine loop_n (N:=l.length) (by omega) (fun i s=>s=(amts (l.take i) u,())) (some (amts l u)) rfl ?_ ?_
 ·rintro _ again rfl
  rw[zas,List.take_length]
 ·rintro i hi _ rfl again ha
  rw[cnd_lt hi]
  refine join_g fun k hk=>?_
  have kk:∀v:List Int,k (v,())=again (((i+1:Nat):Int),(v,())):=by intro v; rw[←i64_s i (by omega)]; subst hk; rfl
  clear hk
  have hlen:=ykc (l.take i) u
  rw[List.length_take]at hlen
  rw[idx_w hi,nif_f,eqA]
  by_cases h:l[i].1=u
  ·rw[cnd_y (decide_eq_true h),room_w (by simp; omega) (by simp; omega),kk]
   refine ha _ ?_
   rw[ydt _ _ _ hi,if_pos h]
  ·rw[cnd_n (decide_eq_false h),kk]
   refine ha _ ?_
   rw[ydt _ _ _ hi,if_neg h,List.append_nil]
def payGo(all:List AFlow'):List AUnit'→List AFlow'→List AFlow'×Int×Unit
 |[],acc=>(acc,0,())
 |u::us,acc=>if I64 (sumU all u) then (if sumU all u≠0 then payGo all us (acc++[(u,sumU all u,())]) else payGo all us acc) else ([],7,())
def payP(l fl:List AFlow'):List AFlow'×Int×Unit:=if isP l=true then payGo (l++fl) (zbx (l++fl)) [] else ([],3,())
theorem zrs(l:List AFlow'):(zbx l).length≤l.length:=by
 unfold zbx
 rw[List.length_map,ynv]
 exact Nat.le_trans (yps _) (by simp)
theorem r_pay{l fl:List AFlow'}(h:okF l)(hf:okF fl)(hl:l.length+fl.length≤1000000):zhg l fl=some (payP l fl):=by
 show zjh stdW l fl=_
 unfold zjh payP
 rw[zaa (r_is (by omega))]
 by_cases hp:isP l=true
 ·rw[hp,cnd_n (by decide),if_pos rfl]
  have hall:okF (l++fl):=fun x hx=>(List.mem_append.1 hx).elim (h x) (hf x)
  have e1:zra (l::(fl::[]))=some (l++fl):=by
   unfold zra
   rw[show (l::(fl::[])).flatten=l++fl by simp,if_pos (by rw[List.length_append]; omega)]
  have hlen:(l++fl).length≤1000000:=by rw[List.length_append]; exact hl
  have e2:namedO (l++fl)=some (zbx (l++fl)):=by unfold namedO; rw[if_pos (by omega)]
  rw[zaa e1,zaa e2]
  have hul:=zrs (l++fl)
  generalize l++fl=all at*
  generalize zbx all=us at*
  refine zcp (l:=us) (by omega) (fun i (s:List AUnit'×List AFlow'×Unit)=>s.1=us∧s.2.1.length≤i) (fun us' (s:List AUnit'×List AFlow'×Unit)=>some (payGo all us' s.2.1)) ⟨rfl,Nat.le_refl _⟩ ?_ ?_
  ·rintro⟨_,acc,⟨⟩⟩ again ⟨rfl,_⟩
   rw[zas]; rfl
  ·rintro i hi ⟨us',acc,⟨⟩⟩ ⟨hus,hacc⟩ again ha
   have hus:us=us':=hus.symm
   subst hus
   simp only at hacc
   rw[cnd_lt hi]
   refine join_g fun k hk=>?_
   have kk:∀v:List AFlow',k (us,(v,()))=again (((i+1:Nat):Int),(us,(v,()))):=by intro v; rw[←i64_s i (by omega)]; subst hk; rfl
   clear hk
   show stdW.idx us (i:Int) _=_
   rw[idx_w hi]
   show stdW.nth us (Int.toNat (i:Int)) _=_
   rw[nth_w hi,zaa (r_amounts hlen)]
   show _=some (payGo all (us[i]::us.drop (i+1)) acc)
   rw[payGo]
   have e3:=r_fSum (amts_ok hall us[i]) (Nat.le_trans (ykc _ _) hlen)
   change zog (amts all us[i])=some (if I64 (sumU all us[i]) then (sumU all us[i],0,()) else (0,7,())) at e3
   by_cases hI:I64 (sumU all us[i])
   ·rw[if_pos hI]at e3
    rw[if_pos hI,zaa e3]
    show stdW.cnd ((0:Int) != 0) _ (stdW.cnd (sumU all us[i] != 0) (stdW.room (acc.length+1) 24 (k (us,(acc++[(us[i],sumU all us[i],())],())))) (k (us,(acc,()))))=_
    rw[cnd_n (by decide)]
    by_cases h0:sumU all us[i]=0
    ·rw[if_neg (by simp[h0]),cnd_n (by simp[h0])]
     exact(kk acc).trans (ha _ ⟨rfl,by simp only; omega⟩)
    ·rw[if_pos h0,cnd_y (by simp[h0]),room_w (by omega) (by omega)]
     exact(kk (acc++[(us[i],sumU all us[i],())])).trans (ha _ ⟨rfl,by simp; omega⟩)
   ·rw[if_neg hI]at e3
    rw[if_neg hI,zaa e3]
    show stdW.cnd ((7:Int) != 0) (some ([],(7,()))) _=_
    rw[cnd_y (by decide)]
 ·have hp:isP l=false:=by simpa using hp
  rw[hp,cnd_y (by decide),if_neg (by simp)]
end Go.Proofs.YtbpbkmngbhgpfaaGreat

namespace Go.Proofs.YtbpbkmngbhgpfaaGreat
open Go Go.Vc Go.RowKit
theorem eqF(a b:AFlow'):(a.1.1==b.1.1&&(a.1.2.1==b.1.2.1&&a.2.1==b.2.1))=decide (a=b):=by
 by_cases h:a=b
 ·subst h; simp
 ·rw[decide_eq_false h]
  cases hc:(a.1.1==b.1.1&&(a.1.2.1==b.1.2.1&&a.2.1==b.2.1)) with
  |false=>rfl
  |true=>
   simp only[Bool.and_eq_true,beq_iff_eq]at hc
   exact absurd (Prod.ext (extA hc.1 hc.2.1) (Prod.ext hc.2.2 rfl)) h
theorem r_same{a:List AFlow'}(hl:a.length≤1000000):zpc a a=some true:=by
 show zkw stdW a a=_
 unfold zkw
 rw[cnd_n (by simp)]
 refine loop_n (N:=a.length) (by omega) (fun _ _=>True) (some true) trivial ?_ ?_
 ·rintro _ again _
  rw[zas]
 ·rintro i hi _ _ again ha
  rw[cnd_lt hi,idx_w hi,idx_w hi,nif_t,eqF,cnd_n (by simp),i64_s i (by omega)]
  exact ha _ trivial
theorem ybx(all:List AFlow'):∀(us:List AUnit') (acc:List AFlow'),(payGo all us acc).1.length≤acc.length+us.length
 |[],acc=>by simp[payGo]
 |u::us,acc=>by
  unfold payGo
  split
  ·split
   ·have:=ybx all us (acc++[(u,sumU all u,())]); simp at this ⊢; omega
   ·have:=ybx all us acc; simp at this ⊢; omega
  ·simp
theorem payP_len(l f:List AFlow'):(payP l f).1.length≤l.length+f.length:=by
 unfold payP
 split
 ·have:=ybx (l++f) (zbx (l++f)) []
  have h2:=zrs (l++f)
  simp at this h2 ⊢; omega
 ·simp
theorem r_few17(l:List AFlow')(hl:l.length≤9223372036854775807):zoa l=some (l.take 20):=by
 show zpt stdW l=_
 unfold zpt
 by_cases h:20<l.length
 ·rw[cnd_y (decide_eq_true (by omega)),bnd_w (by omega) (by omega)]; rfl
 ·rw[cnd_n (decide_eq_false (by omega)),List.take_of_length_le (by omega)]
end Go.Proofs.YtbpbkmngbhgpfaaGreat

namespace Go.Proofs.YtbpbkmngbhgpfaaGreat
open Go Go.Vc Go.RowKit
theorem yon{X β:Type}{N:Nat}(hN:N<9223372036854775808){f:X→(X→Option β)→Option β}(st:Nat→X)(r:Option β)
  (hend:∀again:X→Option β,f (st N) again=r) (hstep:∀i,i<N→∀again:X→Option β,again (st (i+1))=r→f (st i) again=r):stdW.loop f (st 0)=r:=by
 have key:∀n i,i≤N→N - i<n→loopF n f (st i)=r:=by
  intro n
  induction n with
  |zero=>intro i _ h; omega
  |succ n ih=>
   intro i hi hn
   show f (st i) (loopF n f)=r
   by_cases h:i<N
   ·exact hstep i h _ (ih (i+1) (by omega) (by omega))
   ·have:i=N:=by omega
    subst this; exact hend _
 show loopF FU f (st 0)=r
 exact key FU 0 (Nat.zero_le _) (by rw[FU_eq]; omega)
def insL(l:List AFlow'):List AUnit':=l.foldl (fun a x=>insA x.1 a) []
theorem insL_srt(l:List AFlow'):SrtA (insL l):=(yot l [] List.Pairwise.nil).1
theorem ygf(l:List AFlow'):insL l=zbx l:=ins_units l
theorem insL_len(l:List AFlow'):(insL l).length≤l.length:=by rw[ygf]; exact zrs l
theorem insL_step(l:List AFlow')(i:Nat)(h:i<l.length):insL (l.take (i+1))=insA l[i].1 (insL (l.take i)):=by
 unfold insL
 rw[List.take_succ_eq_append_getElem h,List.foldl_append]; rfl
theorem r_units{l:List AFlow'}(hl:l.length≤1000000):zqp l=some (zbx l):=by
 show zif stdW l=_
 unfold zif
 refine yon (N:=l.length) (by omega) (fun i=>(insL (l.take i),((i:Int),()))) (some (zbx l)) ?_ ?_
 ·intro again
  show stdW.cnd (decide ((l.length:Int)<(l.length:Int))) _ _=_
  rw[zas,List.take_length,ygf]
 ·intro i hi again ha
  show stdW.cnd (decide ((i:Int)<(l.length:Int))) _ _=_
  rw[cnd_lt hi]
  refine join_g fun k hk=>?_
  have kk:k (insL (l.take (i+1)),())=some (zbx l):=by
   subst hk
   show again (insL (l.take (i+1)),(IntKind.i64.wrap ((i:Int)+1),()))=_
   rw[i64_s i (by omega)]; exact ha
  clear hk ha
  show stdW.idx l (i:Int) _=_
  rw[idx_w hi]
  rw[insL_step l i hi]at kk
  have hs:=insL_srt (l.take i)
  have hlen:(insL (l.take i)).length≤1000000:=Nat.le_trans (insL_len _) (by rw[List.length_take]; omega)
  generalize insL (l.take i)=out at*
  generalize l[i].1=u at*
  refine yon (N:=out.length) (by omega) (fun j=>((((lowU u (out.take j)).length:Nat):Int),(decide (u∈out.take j),((j:Int),())))) (some (zbx l)) ?_ ?_
  ·intro again2
   show stdW.cnd (decide ((out.length:Int)<(out.length:Int))) _ (stdW.cnd (!decide (u∈out.take out.length)) (stdW.bnd (((lowU u (out.take out.length)).length:Nat):Int) out.length _) (k (out,())))=_
   rw[zas,List.take_length]
   obtain⟨e1,e2⟩:=yqs hs u
   have hle:(lowU u out).length≤out.length:=List.length_filter_le _ _
   by_cases hu:u∈out
   ·rw[cnd_n (by simp[hu])]
    rw[insA,if_pos hu]at kk; exact kk
   ·rw[cnd_y (by simp[hu]),bnd_w (by omega) (by omega)]
    have l1:(out.take (lowU u out).length).length≤1000000:=by rw[List.length_take]; omega
    show stdW.room (out.take (lowU u out).length).length 16 (stdW.room ((out.take (lowU u out).length).length+1) 16 (stdW.bnd (((lowU u out).length:Nat):Int) out.length _))=_
    rw[room_w (by omega) (by omega),room_w (by omega) (by omega),bnd_w (by omega) (by omega)]
    show stdW.room ((out.take (lowU u out).length++[u]).length+(out.drop (lowU u out).length).length) 16 (k ((out.take (lowU u out).length++[u])++out.drop (lowU u out).length,()))=_
    rw[room_w (by simp only[List.length_append,List.length_drop,List.length_cons,List.length_nil]; omega) (by simp only[List.length_append,List.length_drop,List.length_cons,List.length_nil]; omega),e1,e2]
    rw[insA,if_neg hu]at kk
    rw[List.append_assoc]; exact kk
  ·intro j hj again2 ha2
   show stdW.cnd (decide ((j:Int)<(out.length:Int))) _ _=_
   rw[cnd_lt hj]
   refine join_g fun k9 hk9=>?_
   have k9k:∀a b,k9 (a,(b,()))=again2 (a,(b,(((j+1:Nat):Int),()))):=by
    intro a b; rw[←i64_s j (by omega)]; subst hk9; rfl
   clear hk9
   refine join_g fun k13 hk13=>?_
   have mem:decide (u∈out.take (j+1))=(decide (u∈out.take j)||decide (out[j]=u)):=by
    rw[List.take_succ_eq_append_getElem hj]
    rw[Bool.eq_iff_iff]
    simp only[decide_eq_true_eq,Bool.or_eq_true,List.mem_append,List.mem_singleton]
    exact or_congr_right ⟨fun h=>h.symm,fun h=>h.symm⟩
   have fin:∀b,b=decide (u∈out.take (j+1))→k13 (b,())=some (zbx l):=by
    rintro _ rfl
    subst hk13
    show stdW.idx out (j:Int) _=_
    rw[idx_w hj,zaa (zzc _ _)]
    rw[low_step hs u j hj]at ha2
    by_cases hlt:ltA out[j] u
    ·rw[if_pos hlt]at ha2
     rw[decide_eq_true hlt,cnd_y rfl]
     show k9 (IntKind.i64.wrap ((j:Int)+1),_)=_
     rw[i64_s j (by omega)]
     exact(k9k _ _).trans ha2
    ·rw[if_neg hlt]at ha2
     rw[decide_eq_false hlt,cnd_n rfl]
     exact(k9k _ _).trans ha2
   clear hk13
   show stdW.cnd (decide (u∈out.take j)) (k13 (true,())) (stdW.idx out (j:Int) _)=_
   by_cases h1:u∈out.take j
   ·rw[cnd_y (decide_eq_true h1)]
    exact fin _ (by rw[mem]; simp[h1])
   ·rw[cnd_n (decide_eq_false h1),idx_w hj,nif_f,eqA]
    exact fin _ (by rw[mem]; simp[h1])
end Go.Proofs.YtbpbkmngbhgpfaaGreat

namespace Go.Proofs.YtbpbkmngbhgpfaaGreat
open Go Go.Vc Go.RowKit
theorem zlr{X β:Type}{N:Nat}(hN:N<9223372036854775808){f:X→(X→Option β)→Option β}(st:Nat→X)(r:Option β){z0:X}(hz:z0=st 0)
  (hend:∀again:X→Option β,f (st N) again=r) (hstep:∀i,i<N→∀again:X→Option β,again (st (i+1))=r→f (st i) again=r):stdW.loop f z0=r:=by
 subst hz; exact yon hN st r hend hstep
theorem sumU_take(l:List AFlow')(u:AUnit')(i:Nat)(h:i<l.length):sumU (l.take (i+1)) u=sumU (l.take i) u+(if l[i].1=u then l[i].2.1 else 0):=by
 unfold sumU
 rw[ydt _ _ _ h,List.sum_append]
 split<;>simp
theorem ypu{l:List AFlow'}(h:okF l)(u:AUnit')(hl:l.length≤1000000):sml (sumU l u):=by
 have h1:=sum_in (amts_ok h u)
 have h2:=ykc l u
 unfold sumU sml; omega
theorem r_pay17{l fl:List AFlow'}(h:okF l)(hf:okF fl)(hl:l.length+fl.length≤1000000):zfz l fl=some (payP l fl):=by
 show zpd stdW l fl=_
 unfold zpd payP
 rw[zaa (r_is17 (by omega))]
 by_cases hp:isP l=true
 ·rw[hp,cnd_n (by decide),if_pos rfl,room_w (by omega) (by omega),room_w (by omega) (by omega)]
  have hall:okF (l++fl):=fun x hx=>(List.mem_append.1 hx).elim (h x) (hf x)
  have hlen:(l++fl).length≤1000000:=by rw[List.length_append]; exact hl
  rw[zaa (r_units hlen)]
  have hul:=zrs (l++fl)
  generalize l++fl=all at*
  generalize zbx all=us at*
  refine zcp (l:=us) (by omega) (fun i (s:List AFlow'×Unit)=>s.1.length≤i) (fun us' (s:List AFlow'×Unit)=>some (payGo all us' s.1)) (Nat.le_refl _) ?_ ?_
  ·rintro⟨acc,⟨⟩⟩ again _
   rw[zas]; rfl
  ·rintro i hi ⟨acc,⟨⟩⟩ hacc again ha
   simp only at hacc
   rw[cnd_lt hi]
   refine join_g fun k hk=>?_
   have kk:∀v:List AFlow',v.length≤i+1→k (v,())=some (payGo all (us.drop (i+1)) v):=by
    intro v hv
    subst hk
    show again (IntKind.i64.wrap ((i:Int)+1),(v,()))=_
    rw[i64_s i (by omega)]
    exact ha (v,()) hv
   clear hk ha
   show _=some (payGo all (us[i]::us.drop (i+1)) acc)
   rw[payGo]
   refine zlr (N:=all.length) (by omega) (fun j=>(((j:Nat):Int),((big (sumU (all.take j) us[i])).1,((big (sumU (all.take j) us[i])).2.1,(acc,()))))) _ (by rw[List.take_zero,show sumU [] us[i]=0 from rfl,big0]; rfl) ?_ ?_
   ·intro again2
    show stdW.cnd (decide ((all.length:Int)<(all.length:Int))) _ (stdW.call (zca (big (sumU (all.take all.length) us[i]))) _)=_
    rw[zas,List.take_length,zaa (r_fits (ypu hall us[i] hlen))]
    by_cases hI:I64 (sumU all us[i])
    ·rw[decide_eq_true hI,cnd_n (by decide),if_pos hI]
     have e:=r_int hI
     show stdW.call (zdg (big (sumU all us[i]))) _=_
     rw[zaa e]
     by_cases h0:sumU all us[i]=0
     ·rw[cnd_n (by simp[h0]),if_neg (by simp[h0])]
      exact kk acc (by omega)
     ·rw[cnd_y (by simp[h0]),if_pos h0]
      show stdW.idx us (i:Int) _=_
      rw[idx_w hi,zaa e]
      show stdW.room (acc.length+1) 24 (k (acc++[(us[i],sumU all us[i],())],()))=_
      rw[room_w (by omega) (by omega)]
      exact kk _ (by simp; omega)
    ·rw[decide_eq_false hI,cnd_y (by decide),if_neg hI]
   ·intro j hj again2 ha2
    show stdW.cnd (decide ((j:Int)<(all.length:Int))) _ _=_
    rw[cnd_lt hj]
    refine join_g fun k2 hk2=>?_
    have kk2:k2 ((big (sumU (all.take (j+1)) us[i])).1,((big (sumU (all.take (j+1)) us[i])).2.1,(acc,())))=again2 (((j+1:Nat):Int),((big (sumU (all.take (j+1)) us[i])).1,((big (sumU (all.take (j+1)) us[i])).2.1,(acc,())))):=by
     rw[←i64_s j (by omega)]; subst hk2; rfl
    rw[ha2]at kk2
    clear hk2 ha2
    show stdW.idx all (j:Int) _=_
    rw[idx_w hj]
    show stdW.idx us (i:Int) _=_
    rw[idx_w hi,nif_f,eqA]
    rw[sumU_take _ _ _ hj]at kk2
    by_cases hu:all[j].1=us[i]
    ·rw[if_pos hu]at kk2
     rw[cnd_y (decide_eq_true hu)]
     show stdW.idx all (j:Int) _=_
     have h2:I64 all[j].2.1:=hall _ (List.getElem_mem hj)
     rw[idx_w hj,both_w,zaa (r_of h2)]
     show stdW.call (zbq (big (sumU (all.take j) us[i])) (big all[j].2.1)) _=_
     rw[zaa (r_addB (ypu (hall.take j) us[i] (by rw[List.length_take]; omega)) (ycr h2))]
     exact kk2
    ·rw[if_neg hu,Int.add_zero]at kk2
     rw[cnd_n (decide_eq_false hu)]
     exact kk2
 ·have hp:isP l=false:=by simpa using hp
  rw[hp,cnd_y (by decide),if_neg (by simp)]
end Go.Proofs.YtbpbkmngbhgpfaaGreat

namespace Go.Proofs.YtbpbkmngbhgpfaaGreat
open Go Go.Vc Go.RowKit
theorem yim(all:List AFlow'):∀(us:List AUnit') (acc:List AFlow'),(payGo all us acc).2.1=0→
  (payGo all us acc).1=acc++(us.filter fun u=>decide (sumU all u≠0)).map (fun u=>(u,sumU all u,()))∧∀u∈us,I64 (sumU all u)
 |[],acc,_=>by simp[payGo]
 |u::us,acc,h=>by
  unfold payGo at h ⊢
  by_cases hI:I64 (sumU all u)
  ·rw[if_pos hI]at h ⊢
   by_cases h0:sumU all u≠0
   ·rw[if_pos h0]at h ⊢
    obtain⟨h1,h2⟩:=yim all us _ h
    refine⟨?_,fun x hx=>?_⟩
    ·rw[h1,List.filter_cons,if_pos (by simpa using h0)]; simp
    ·rcases List.mem_cons.1 hx with rfl|hx
     ·exact hI
     ·exact h2 x hx
   ·rw[if_neg h0]at h ⊢
    obtain⟨h1,h2⟩:=yim all us _ h
    refine⟨?_,fun x hx=>?_⟩
    ·rw[h1,List.filter_cons,if_neg (by simpa using h0)]
    ·rcases List.mem_cons.1 hx with rfl|hx
     ·exact hI
     ·exact h2 x hx
  ·rw[if_neg hI]at h; simp at h
theorem ziz(x:AFlow')(l:List AFlow')(u:AUnit'):sumU (x::l) u=(if x.1=u then amt x else 0)+sumU l u:=by
 unfold sumU amts ofFlow
 rw[List.filter_cons]
 by_cases h:x.1=u<;>simp[h]
theorem sumU_app(a b:List AFlow')(u:AUnit'):sumU (a++b) u=sumU a u+sumU b u:=by
 unfold sumU amts; rw[List.filter_append,List.map_append,List.sum_append]
theorem yks{l:List AFlow'}{u:AUnit'}(h:∀x∈l,x.1≠u):sumU l u=0:=by
 induction l with
 |nil=>rfl
 |cons x l ih=>rw[ziz,if_neg (h x (by simp)),ih fun y hy=>h y (by simp[hy])]; rfl
theorem one_of{us:List AUnit'}(hn:us.Nodup){v:AUnit'}(z:Int):sumBy (fun u=>if v=u then z else 0) us=if v∈us then z else 0:=by
 induction us with
 |nil=>rfl
 |cons u us ih=>
  obtain⟨h1,h2⟩:=List.nodup_cons.1 hn
  rw[zbu,ih h2]
  by_cases hv:v=u
  ·subst hv; rw[if_pos rfl,if_neg h1,if_pos (by simp)]; omega
  ·rw[if_neg hv]
   by_cases hm:v∈us
   ·rw[if_pos hm,if_pos (by simp[hm])]; omega
   ·rw[if_neg hm,if_neg (by simp[hm,hv])]; rfl
theorem sumBy_add{α:Type}(f g:α→Int)(l:List α):sumBy (fun x=>f x+g x) l=sumBy f l+sumBy g l:=by
 induction l with
 |nil=>rfl
 |cons x l ih=>rw[zbu,zbu,zbu,ih]; omega
theorem ykr:∀(l:List AFlow') {us:List AUnit'},us.Nodup→(∀x∈l,x.1∈us)→sumBy (sumU l) us=sumBy amt l
 |[],us,_,_=>by
  have:∀us:List AUnit',sumBy (sumU []) us=0:=by
   intro us; induction us with
   |nil=>rfl
   |cons u us ih=>rw[zbu,ih]; rfl
  rw[this]; rfl
 |x::l,us,hn,h=>by
  have e:sumU (x::l)=fun u=>(if x.1=u then amt x else 0)+sumU l u:=funext (ziz x l)
  rw[e,sumBy_add,one_of hn,if_pos (h x (by simp)),ykr l hn fun y hy=>h y (by simp[hy]),zbu]
def resP(all:List AFlow')(us:List AUnit'):List AFlow':=(us.filter fun u=>decide (sumU all u≠0)).map fun u=>(u,sumU all u,())
theorem srt_nd{us:List AUnit'}(h:SrtA us):us.Nodup:=List.Pairwise.imp (fun {a b} (hab:ltA a b) (e:a=b)=>by subst e; exact znt _ hab) h
theorem resP_sum(all:List AFlow'):sumBy amt (resP all (zbx all))=sumBy amt all:=by
 have e:∀us:List AUnit',sumBy amt (resP all us)=sumBy (sumU all) us:=by
  intro us
  induction us with
  |nil=>rfl
  |cons u us ih=>
   unfold resP at ih ⊢
   rw[List.filter_cons,zbu,←ih]
   by_cases h:sumU all u=0
   ·rw[if_neg (by simp[h]),h]; omega
   ·rw[if_pos (by simp[h]),List.map_cons,zbu]; rfl
 rw[e,ykr all (srt_nd (zmz all)) fun x hx=>(yad all x.1).2 ⟨x,hx,rfl⟩]
theorem resP_is{all:List AFlow'}{us:List AUnit'}(h:SrtA us):isP (resP all us)=true:=by
 refine decide_eq_true ⟨fun x hx=>?_,?_⟩
 ·obtain⟨u,hu,rfl⟩:=List.mem_map.1 hx
  simpa using(List.mem_filter.1 hu).2
 ·unfold resP
  rw[List.map_map]
  have:((fun x:AFlow'=>x.1) ∘ fun u=>((u,sumU all u,()):AFlow'))=id:=rfl
  rw[this,List.map_id]
  exact h.filter _
theorem getP_none{l:List AFlow'}{u:AUnit'}(h:∀x∈l,x.1≠u):getP l u=0:=by
 induction l with
 |nil=>rfl
 |cons x l ih=>rw[getP,if_neg (h x (by simp)),ih fun y hy=>h y (by simp[hy])]
theorem yjf:∀{l:List AFlow'},(l.map (·.1)).Nodup→∀u,getP l u=sumU l u
 |[],_,u=>rfl
 |x::l,h,u=>by
  obtain⟨h1,h2⟩:=List.nodup_cons.1 h
  rw[getP,ziz]
  by_cases hu:x.1=u
  ·rw[if_pos hu,if_pos hu,yks fun y hy e=>h1 (List.mem_map.2 ⟨y,hy,e.trans hu.symm⟩)]
   show amt x=_; omega
  ·rw[if_neg hu,if_neg hu,yjf h2]; omega
theorem isP_nd{l:List AFlow'}(h:isP l=true):(l.map (·.1)).Nodup:=srt_nd (of_decide_eq_true h).2
theorem resP_get(all:List AFlow')(u:AUnit'):getP (resP all (zbx all)) u=sumU all u:=by
 by_cases h0:sumU all u=0
 ·rw[h0]
  refine getP_none fun x hx e=>?_
  obtain⟨v,hv,rfl⟩:=List.mem_map.1 hx
  have:=(List.mem_filter.1 hv).2
  simp only[decide_eq_true_eq]at this
  exact this (by rw[show v=u from e]; exact h0)
 ·rw[yjf (isP_nd (resP_is (zmz all)))]
  have hu:u∈zbx all:=by
   rw[yad]
   by_cases hx:∃x∈all,x.1=u
   ·exact hx
   ·exact absurd (yks fun x hx' e=>hx ⟨x,hx',e⟩) h0
  have key:∀us:List AUnit',us.Nodup→sumU (resP all us) u=if u∈us then sumU all u else 0:=by
   intro us
   induction us with
   |nil=>intro _; rfl
   |cons v us ih=>
    intro hn
    obtain⟨h1,h2⟩:=List.nodup_cons.1 hn
    have ih:=ih h2
    unfold resP at ih ⊢
    rw[List.filter_cons]
    by_cases hv:v=u
    ·subst hv
     rw[if_pos (by simpa using h0),List.map_cons,ziz,ih,if_neg h1,if_pos rfl,if_pos (by simp)]
     show sumU all v+0=_; omega
    ·have e:(if u∈v::us then sumU all u else 0)=if u∈us then sumU all u else 0:=by
      by_cases hm:u∈us
      ·rw[if_pos hm,if_pos (by simp[hm])]
      ·rw[if_neg hm,if_neg (by simp[hm,Ne.symm hv])]
     rw[e,←ih]
     by_cases hz:sumU all v=0
     ·rw[if_neg (by simp[hz])]
     ·rw[if_pos (by simp[hz]),List.map_cons,ziz,if_neg hv]; omega
  rw[key _ (srt_nd (zmz all)),if_pos hu]
end Go.Proofs.YtbpbkmngbhgpfaaGreat

namespace Go.Proofs.YtbpbkmngbhgpfaaGreat
open Go Go.Vc Go.RowKit
theorem payP_ok{l f:List AFlow'}(h:(payP l f).2.1=0):isP l=true∧(payP l f).1=resP (l++f) (zbx (l++f))∧∀u∈zbx (l++f),I64 (sumU (l++f) u):=by
 unfold payP at h ⊢
 by_cases hp:isP l=true
 ·rw[if_pos hp]at h ⊢
  obtain⟨h1,h2⟩:=yim _ _ _ h
  exact⟨hp,by rw[h1,List.nil_append]; rfl,h2⟩
 ·rw[if_neg hp]at h; simp at h
theorem resP_ok{all:List AFlow'}{us:List AUnit'}(h:∀u∈us,I64 (sumU all u)):okF (resP all us):=by
 intro x hx
 obtain⟨u,hu,rfl⟩:=List.mem_map.1 hx
 exact h u (List.mem_filter.1 hu).1
end Go.Proofs.YtbpbkmngbhgpfaaGreat

namespace Go.Proofs.YtbpbkmngbhgpfaaGreat
open Go Go.Vc Go.RowKit
def szOf(z:Int):zhz:=(z / 18446744073709551616,z % 18446744073709551616,())
def w128(z:Int):zaf:=(IntKind.i64.wrap (z / 18446744073709551616),z % 18446744073709551616,())
theorem w128_in(z:Int)(h:In128 z):w128 z=wide z:=by
 unfold In128 at h; unfold w128 wide; rw[IntWalk.i64_in _ (by omega)]
def absI(z:Int):Int:=if z<0 then -z else z
theorem zwd(w:zaf):zbn w=some (decide (w.1<0)):=rfl
theorem r_size(x:zaf)(hx:wOk x):zdi x=some (szOf (absI (wv x))):=by
 unfold wOk at hx
 show zdm stdW x=_
 unfold zdm
 rw[zaa (zwd _)]
 by_cases h:x.1<0
 ·rw[cnd_n (by simp[h]),zaa (zyu (by omega) (by omega) (by omega) (by omega) (by omega)),zaa (zyu (by omega) (by rw[IntKind.wrap_u64]; omega) (by rw[IntKind.wrap_u64]; omega) (by dsimp only; split<;>omega) (by dsimp only; split<;>omega))]
  unfold szOf absI wv
  refine congrArg some (Prod.ext ?_ (Prod.ext ?_ rfl))
  ·dsimp only; rw[IntKind.wrap_u64]; split<;>split<;>omega
  ·dsimp only; split<;>omega
 ·rw[cnd_y (by simp[h])]
  unfold szOf absI wv
  refine congrArg some (Prod.ext ?_ (Prod.ext ?_ rfl))
  ·dsimp only; rw[IntKind.wrap_u64]; split<;>omega
  ·dsimp only; split<;>omega
theorem lo_fits(z:Int)(hz:0≤z∧z<340282366920938463463374607431768211456)(h:z / 18446744073709551616=9223372036854775808):((z % 18446744073709551616)==0)=decide (In128 (-z)):=by
 by_cases h0:z % 18446744073709551616=0
 ·have:In128 (-z):=by unfold In128; omega
  rw[decide_eq_true this]; simp[h0]
 ·have:¬In128 (-z):=by unfold In128; omega
  rw[decide_eq_false this]; simp[h0]
theorem signed_raw(hi lo:Int)(m:Bool):zbh (hi,lo,()) m=(
  stdW.cnd (!m) (some (((IntKind.i64.wrap hi),lo,()),((decide (hi<9223372036854775808)),())))
  (stdW.call (sub64 0 lo 0) fun v1=>stdW.call (sub64 0 hi v1.2.1) fun v2=>
  stdW.cnd (decide (hi<9223372036854775808)) (some (((IntKind.i64.wrap v2.1),(v1.1,())),(true,())))
   (
   stdW.cnd (hi==9223372036854775808) (some (((IntKind.i64.wrap v2.1),(v1.1,())),((lo==0),())))
   (some (((IntKind.i64.wrap v2.1),(v1.1,())),(false,())))))):=rfl
theorem r_signed(z:Int)(m:Bool)(hz:0≤z∧z<340282366920938463463374607431768211456):zbh (szOf z) m=some (w128 (if m=true then -z else z),decide (In128 (if m=true then -z else z)),()):=by
 unfold szOf
 rw[signed_raw]
 cases m
 ·rw[cnd_y (by rfl)]
  simp only[Bool.false_eq_true,if_false]
  unfold w128
  congr 3
  unfold In128; apply decide_eq_decide.2; omega
 ·rw[cnd_n (by rfl),zaa (zyu (by omega) (by omega) (by omega) (by omega) (by omega)),zaa (zyu (by omega) (by omega) (by omega) (by dsimp only; split<;>omega) (by dsimp only; split<;>omega))]
  have e:((IntKind.i64.wrap ((0 - z / 18446744073709551616 - (if 0<z % 18446744073709551616+0 then 1 else 0)) % 18446744073709551616),((0 - z % 18446744073709551616 - 0) % 18446744073709551616,())):zaf)=w128 (-z):=by
   rw[zvd]; unfold w128
   refine Prod.ext ?_ (Prod.ext ?_ rfl)
   ·dsimp only; congr 1; split<;>omega
   ·dsimp only; omega
  show _=some (w128 (-z),decide (In128 (-z)),())
  rw[←e]
  by_cases h1:z / 18446744073709551616<9223372036854775808
  ·rw[cnd_y (decide_eq_true h1)]
   have:In128 (-z):=by unfold In128; omega
   rw[decide_eq_true this]
  ·rw[cnd_n (decide_eq_false h1)]
   by_cases h2:z / 18446744073709551616=9223372036854775808
   ·rw[cnd_y (by simp[h2]),lo_fits z hz h2]
   ·rw[cnd_n (by simp[h2])]
    have:¬In128 (-z):=by unfold In128; omega
    rw[decide_eq_false this]
theorem and32(a:Int)(h:0≤a∧a<18446744073709551616):bits .and .u64 a 4294967295=a % 4294967296:=by
 obtain⟨n,rfl⟩:=Int.eq_ofNat_of_zero_le h.1
 show IntKind.u64.wrap (((BitVec.ofInt 64 ((n:Nat):Int) &&& BitVec.ofInt 64 4294967295).toNat:Nat):Int)=_
 rw[BitVec.toNat_and,BitVec.toNat_ofInt,BitVec.toNat_ofInt]
 have e1:(((n:Nat):Int) % ((2 ^ 64:Nat):Int)).toNat=n:=by
  have:((2 ^ 64:Nat):Int)=18446744073709551616:=by decide
  omega
 have e2:((4294967295:Int) % ((2 ^ 64:Nat):Int)).toNat=2 ^ 32 - 1:=by decide
 rw[e1,e2,Nat.and_two_pow_sub_one_eq_mod,IntKind.wrap_u64]
 have:(2:Nat) ^ 32=4294967296:=by decide
 rw[this]; omega
theorem fdiv32(a:Int)(h:0≤a):Int.fdiv a (2 ^ (Min.min (Int.toNat 32) (IntKind.bits .u64)))=a / 4294967296:=by
 have e:(2:Int) ^ (Min.min (Int.toNat 32) (IntKind.bits .u64))=4294967296:=by decide +kernel
 rw[e,Int.fdiv_eq_ediv_of_nonneg _ (by omega)]
theorem mul_bd{a b:Int}(ha:0≤a∧a<4294967296)(hb:0≤b∧b<4294967296):0≤a*b∧a*b≤18446744065119617025:=by
 refine⟨Int.mul_nonneg ha.1 hb.1,?_⟩
 have h1:a*b≤4294967295*b:=Int.mul_le_mul_of_nonneg_right (by omega) hb.1
 omega
theorem r_mul64{x y:Int}(hx:0≤x∧x<18446744073709551616)(hy:0≤y∧y<18446744073709551616):zco x y=some (x*y / 18446744073709551616,x*y % 18446744073709551616,()):=by
 show zdh stdW x y=_
 unfold zdh
 rw[nn_w (by omega),nn_w (by omega),nn_w (by omega),nn_w (by omega),nn_w (by omega)]
 simp only[fdiv32 x hx.1,fdiv32 y hy.1,and32 x hx,and32 y hy]
 have hx1:0≤x / 4294967296∧x / 4294967296<4294967296:=by omega
 have hx0:0≤x % 4294967296∧x % 4294967296<4294967296:=by omega
 have hy1:0≤y / 4294967296∧y / 4294967296<4294967296:=by omega
 have hy0:0≤y % 4294967296∧y % 4294967296<4294967296:=by omega
 have ex:x=x / 4294967296*4294967296+x % 4294967296:=by omega
 have ey:y=y / 4294967296*4294967296+y % 4294967296:=by omega
 have exy:x*y=(x / 4294967296)*(y / 4294967296)*18446744073709551616+((x / 4294967296)*(y % 4294967296)+(x % 4294967296)*(y / 4294967296))*4294967296+(x % 4294967296)*(y % 4294967296):=by
  generalize x / 4294967296=x1 at*
  generalize x % 4294967296=x0 at*
  generalize y / 4294967296=y1 at*
  generalize y % 4294967296=y0 at*
  rw[ex,ey,Int.add_mul,Int.mul_add,Int.mul_add]
  have a1:x1*4294967296*(y1*4294967296)=x1*y1*18446744073709551616:=by
   rw[Int.mul_assoc,Int.mul_left_comm 4294967296,←Int.mul_assoc]; rfl
  have a2:x1*4294967296*y0=x1*y0*4294967296:=by rw[Int.mul_assoc,Int.mul_comm 4294967296,←Int.mul_assoc]
  have a3:x0*(y1*4294967296)=x0*y1*4294967296:=by rw[←Int.mul_assoc]
  rw[a1,a2,a3,Int.add_mul]; omega
 have hD:=mul_bd hx1 hy1
 have hB:=mul_bd hx1 hy0
 have hC:=mul_bd hx0 hy1
 have hA:=mul_bd hx0 hy0
 rw[exy]
 generalize (x / 4294967296)*(y / 4294967296)=D at*
 generalize (x / 4294967296)*(y % 4294967296)=B at*
 generalize (x % 4294967296)*(y / 4294967296)=C at*
 generalize (x % 4294967296)*(y % 4294967296)=A at*
 have w1:IntKind.u64.wrap A=A:=by rw[IntKind.wrap_u64]; omega
 have w2:IntKind.u64.wrap B=B:=by rw[IntKind.wrap_u64]; omega
 have w3:IntKind.u64.wrap C=C:=by rw[IntKind.wrap_u64]; omega
 have w4:IntKind.u64.wrap D=D:=by rw[IntKind.wrap_u64]; omega
 rw[w1,w2,w3,w4,fdiv32 A (by omega)]
 have w5:IntKind.u64.wrap (B+A / 4294967296)=B+A / 4294967296:=by rw[IntKind.wrap_u64]; omega
 rw[w5,fdiv32 _ (by omega),and32 _ (by omega)]
 have w6:IntKind.u64.wrap ((B+A / 4294967296) % 4294967296+C)=(B+A / 4294967296) % 4294967296+C:=by rw[IntKind.wrap_u64]; omega
 rw[w6,fdiv32 _ (by omega)]
 have w7:IntKind.u64.wrap (D+(B+A / 4294967296) / 4294967296)=D+(B+A / 4294967296) / 4294967296:=by rw[IntKind.wrap_u64]; omega
 rw[w7,IntKind.wrap_u64,IntKind.wrap_u64]
 congr 1
 refine Prod.ext ?_ (Prod.ext ?_ rfl)
 ·show (D+(B+A / 4294967296) / 4294967296+((B+A / 4294967296) % 4294967296+C) / 4294967296) % 18446744073709551616=_; omega
 ·first|rfl|(show _ % 18446744073709551616=_; omega)
end Go.Proofs.YtbpbkmngbhgpfaaGreat

namespace Go.Proofs.YtbpbkmngbhgpfaaGreat
open Go Go.Vc Go.RowKit
theorem ykf(a b:Int):(if (decide (a<0) != decide (b<0))=true then -(absI a*absI b) else absI a*absI b)=a*b:=by
 unfold absI
 by_cases ha:a<0<;>by_cases hb:b<0<;>simp[ha,hb,Int.neg_mul,Int.mul_neg]
theorem abs_bd{a:Int}(h:I64 a):0≤absI a∧absI a≤9223372036854775808:=by unfold I64 at h; unfold absI; split<;>omega
theorem prod_bd{a b A B:Int}(ha:0≤a∧a≤A)(hb:0≤b∧b≤B):0≤a*b∧a*b≤A*B:=
 ⟨Int.mul_nonneg ha.1 hb.1,Int.mul_le_mul ha.2 hb.2 hb.1 (by omega)⟩
theorem ypp(z:Int):decide ((wide z).1<0)=decide (z<0):=by
 refine decide_eq_decide.2 ?_
 show z / 18446744073709551616<0↔_; omega
theorem zmh{β:Type}{a b r:Option β}(ha:a=r)(hb:b=r):stdW.both a b=r:=by rw[ha,hb]; exact both_w r
theorem r_wMul{a b:Int}(ha:I64 a)(hb:I64 b):zke a b=some (wide (a*b)):=by
 show zmt stdW a b=_
 unfold zmt
 have xa:=abs_bd ha
 have xb:=abs_bd hb
 have s1:=r_size (wide a) (ynq a (yjc ha))
 have s2:=r_size (wide b) (ynq b (yjc hb))
 rw[yhf]at s1 s2
 have hp:=prod_bd xa xb
 have m1:zco (szOf (absI a)).2.1 (szOf (absI b)).2.1=some (szOf (absI a*absI b)):=by
  show zco (absI a % 18446744073709551616) (absI b % 18446744073709551616)=_
  rw[Int.emod_eq_of_lt xa.1 (by omega),Int.emod_eq_of_lt xb.1 (by omega),r_mul64 (by omega) (by omega)]; rfl
 rw[zaa (r_wOf a ha),zaa (r_wOf b hb),zaa s1,zaa s2,zaa m1]
 have hz:0≤absI a*absI b∧absI a*absI b<340282366920938463463374607431768211456:=by
  have:(9223372036854775808:Int)*9223372036854775808=85070591730234615865843651857942052864:=by decide
  omega
 have g:(stdW.call (zbh (szOf (absI a*absI b)) (notIf true (decide ((wide a).1<0)==decide ((wide b).1<0)))) fun v8=>some v8.1)=some (wide (a*b)):=by
  have e1:notIf true (decide (a<0)==decide (b<0))=(decide (a<0) != decide (b<0)):=by rw[nif_t]; rfl
  rw[ypp,ypp,e1,zaa (r_signed _ _ hz),ykf]
  show some (w128 (a*b))=_
  rw[w128_in]
  have:=ykf a b
  have h2:(9223372036854775808:Int)*9223372036854775808=85070591730234615865843651857942052864:=by decide
  unfold In128
  split at this<;>omega
 refine zmh ?_ ?_
 ·rw[zaa (zwd _)]
  refine zmh ?_ ?_
  ·rw[zaa (zwd _),both_w]; exact g
  ·rw[zaa (zwd _)]; exact g
 ·rw[zaa (zwd _),zaa (zwd _)]; exact g
theorem nilq_w{β:Type}(e:Bool)(f:Bool→Option β):stdW.nilq e f=nilF e f:=rfl
end Go.Proofs.YtbpbkmngbhgpfaaGreat

namespace Go.Proofs.YtbpbkmngbhgpfaaGreat
open Go Go.Vc Go.RowKit
end Go.Proofs.YtbpbkmngbhgpfaaGreat

namespace Go.Proofs.YtbpbkmngbhgpfaaGreat
open Go Go.Vc Go.RowKit
abbrev ALot':=zac
theorem loop_P{X β:Type}{f:X→(X→Option β)→Option β}(Q:Option β→Prop)(μ:X→Nat)(R:X→Prop){z:X}(hz:R z)(hm:μ z<18446744073709551616)
  (h:∀z,R z→∀again:X→Option β,(∀z',R z'→μ z'<μ z→Q (again z'))→Q (f z again)):Q (stdW.loop f z):=by
 have key:∀n z,R z→μ z<n→Q (loopF n f z):=by
  intro n
  induction n with
  |zero=>intro z _ h; omega
  |succ n ih=>intro z hz hm; exact h z hz _ fun z' hz' hm'=>ih z' hz' (by omega)
 exact key FU z hz (by rw[FU_eq]; exact hm)
theorem loop_ai{X β:Type}{N:Nat}(hN:N<9223372036854775808){f:X→(X→Option β)→Option β}(st:Nat→X)(Inv:Nat→Prop)(r:Option β){z0:X}(hz:z0=st 0)(h0:Inv 0)
  (hend:Inv N→∀again:X→Option β,f (st N) again=r) (hstep:∀i,i<N→Inv i→∀again:X→Option β,(Inv (i+1)→again (st (i+1))=r)→f (st i) again=r):stdW.loop f z0=r:=by
 subst hz
 have key:∀n i,i≤N→N - i<n→Inv i→loopF n f (st i)=r:=by
  intro n
  induction n with
  |zero=>intro i _ h; omega
  |succ n ih=>
   intro i hi hn hv
   show f (st i) (loopF n f)=r
   by_cases h:i<N
   ·exact hstep i h hv _ fun hv'=>ih (i+1) (by omega) (by omega) hv'
   ·have:i=N:=by omega
    subst this; exact hend hv _
 show loopF FU f (st 0)=r
 exact key FU 0 (Nat.zero_le _) (by rw[FU_eq]; omega) h0
theorem zwu{X β:Type}{Q:Option β→Prop}{k0:X→Option β}{f:(X→Option β)→Option β}(h:∀k,k=k0→Q (f k)):Q (stdW.join k0 f):=h k0 rfl
theorem yda{p:List AFlow'}(h:okF p)(u:AUnit'):I64 (getP p u):=by
 induction p with
 |nil=>show I64 0; unfold I64; omega
 |cons x p ih=>
  rw[getP]
  split
  ·exact h x (by simp)
  ·exact ih fun y hy=>h y (by simp[hy])
def ltL(a b:ALot'):Prop:=a.1<b.1∨(a.1=b.1∧a.2.1<b.2.1)
instance (a b:ALot'):Decidable (ltL a b):=by unfold ltL; infer_instance
def rightL(x:ALot'):Prop:=(1≤x.1∧x.1≤4)∧(0≤x.2.1∧x.2.1≤255)∧0<x.2.2.1
instance (x:ALot'):Decidable (rightL x):=by unfold rightL; infer_instance
def LInv(l:List ALot'):Prop:=(∀x∈l,rightL x)∧l.Pairwise ltL∧l.length≤16
instance (l:List ALot'):Decidable (LInv l):=by unfold LInv; infer_instance
def isL(l:List ALot'):Bool:=decide (LInv l)
def HInv(l:List AHold'):Prop:=(∀h∈l,h.2.1≠[]∧LInv h.2.1)∧SrtA (l.map (·.1))
instance (l:List AHold'):Decidable (HInv l):=by unfold HInv SrtA; infer_instance
def isH(l:List AHold'):Bool:=decide (HInv l)
def okT(l:List ALot'):Prop:=l.length≤20∧∀x∈l,I64 x.2.2.1
def HS(l:List AHold'):Prop:=SrtA (l.map (·.1))∧∀h∈l,okT h.2.1
def lotsH:List AHold'→AUnit'→List ALot'
 |[],_=>[]
 |h::l,u=>if h.1=u then h.2.1 else lotsH l u
def zai(l:List AHold')(u:AUnit'):List AHold':=l.filter fun h=>decide (h.1≠u)
theorem ynp{l:List AHold'}(h:HS l)(u:AUnit'):HS (zai l u):=by
 refine⟨?_,fun x hx=>h.2 x (List.mem_filter.1 hx).1⟩
 have:List.Sublist ((zai l u).map (·.1)) (l.map (·.1)):=List.Sublist.map _ (List.filter_sublist)
 exact List.Pairwise.sublist this h.1
theorem yqt{l:List AHold'}(h:∀x∈l,okT x.2.1)(u:AUnit'):okT (lotsH l u):=by
 induction l with
 |nil=>exact⟨by simp[lotsH],fun x hx=>by cases hx⟩
 |cons x l ih=>
  rw[lotsH]
  split
  ·exact h x (by simp)
  ·exact ih fun y hy=>h y (by simp[hy])
theorem yma(l:List AHold')(u x:AUnit'):lotsH (zai l u) x=if x=u then [] else lotsH l x:=by
 induction l with
 |nil=>simp[zai,lotsH]
 |cons h l ih=>
  unfold zai at ih ⊢
  rw[List.filter_cons]
  by_cases hu:h.1=u
  ·rw[if_neg (by simpa using hu),ih,lotsH]
   by_cases hx:x=u
   ·rw[if_pos hx,if_pos hx]
   ·rw[if_neg hx,if_neg hx,if_neg fun e=>hx (e.symm.trans hu)]
  ·rw[if_pos (by simpa using hu),lotsH,lotsH,ih]
   by_cases hx:h.1=x
   ·rw[if_pos hx,if_pos hx,if_neg fun e=>hu (hx.trans e)]
   ·rw[if_neg hx,if_neg hx]
def qtyL(k:Int)(l:List ALot'):Int:=sumBy (fun x=>if x.1=k then x.2.2.1 else 0) l
def qtyH(k:Int)(l:List AHold'):Int:=sumBy (fun h=>qtyL k h.2.1) l
theorem yod{l:List AHold'}(hs:SrtA (l.map (·.1)))(u:AUnit')(k:Int):qtyH k (zai l u)+qtyL k (lotsH l u)=qtyH k l:=by
 induction l with
 |nil=>rfl
 |cons h l ih=>
  obtain⟨h1,h2⟩:=List.pairwise_cons.1 hs
  have ih:=ih h2
  unfold zai at ih ⊢
  rw[List.filter_cons,lotsH]
  by_cases hu:h.1=u
  ·have e:l.filter (fun h=>decide (h.1≠u))=l:=List.filter_eq_self.2 fun x hx=>decide_eq_true fun e=>by
    have:ltA h.1 x.1:=h1 _ (List.mem_map_of_mem hx)
    rw[hu,e]at this; exact znt u this
   rw[if_neg (by simpa using hu),if_pos hu,e]
   unfold qtyH
   rw[zbu]; omega
  ·rw[if_pos (by simpa using hu),if_neg hu]
   unfold qtyH at ih ⊢
   rw[zbu,zbu]; omega
def backR(p:List AFlow')(h:List AHold')(u:AUnit'):zaq:=(u,(max 0 (getP p u),(lotsH h u,())))
abbrev PH:=List AFlow'×List AHold'×List zaq
def giveS(z:PH)(u:AUnit'):PH:=
 if max 0 (getP z.1 u)=0∧lotsH z.2.1 u=[] then z
 else ((payP z.1 [(u,(-(max 0 (getP z.1 u)),()))]).1,zai z.2.1 u,z.2.2++[backR z.1 z.2.1 u])
theorem zwg{all:List AFlow'}:∀{us:List AUnit'} (acc:List AFlow'),(∀u∈us,I64 (sumU all u))→(payGo all us acc).2.1=0
 |[],_,_=>rfl
 |u::us,acc,h=>by
  unfold payGo
  rw[if_pos (h u (by simp))]
  split
  ·exact zwg _ fun x hx=>h x (by simp[hx])
  ·exact zwg _ fun x hx=>h x (by simp[hx])
theorem yqo{p:List AFlow'}(hp:isP p=true)(hf:okF p)(u:AUnit')(c:Int)(hc:c=max 0 (getP p u)):
  (payP p [(u,(-c,()))]).2.1=0∧isP (payP p [(u,(-c,()))]).1=true∧okF (payP p [(u,(-c,()))]).1∧
  (payP p [(u,(-c,()))]).1.length≤p.length+1∧
  (∀x,getP (payP p [(u,(-c,()))]).1 x=if x=u then getP p u - c else getP p x)∧
  sumBy amt (payP p [(u,(-c,()))]).1+c=sumBy amt p:=by
 have hs:∀x,sumU (p++[(u,(-c,()))]) x=if x=u then getP p u - c else getP p x:=fun x=>by
  rw[sumU_app,ziz,←yjf (isP_nd hp)]
  show getP p x+((if u=x then -c else 0)+0)=_
  by_cases h:x=u
  ·subst h; rw[if_pos rfl,if_pos rfl]; omega
  ·rw[if_neg (Ne.symm h),if_neg h]; omega
 have hI:∀x,I64 (sumU (p++[(u,(-c,()))]) x):=fun x=>by
  have h1:=yda hf x
  have h2:=yda hf u
  rw[hs x]
  split
  ·unfold I64 at *; omega
  ·exact h1
 have h0:(payP p [(u,(-c,()))]).2.1=0:=by
  unfold payP
  rw[if_pos hp]
  exact zwg _ fun x _=>hI x
 obtain⟨_,h8,h9⟩:=payP_ok h0
 refine⟨h0,by rw[h8]; exact resP_is (zmz _),by rw[h8]; exact resP_ok h9,payP_len _ _,fun x=>by rw[h8,resP_get,hs x],?_⟩
 rw[h8,resP_sum,yah,zbu,yag]
 show sumBy amt p+(-c+0)+c=sumBy amt p
 omega
structure GOk(p0:List AFlow')(h0:List AHold')(z:PH)(us:List AUnit'):Prop where
 p:isP z.1=true
 f:okF z.1
 h:HS z.2.1
 lp:z.1.length≤p0.length+us.length
 lh:z.2.1.length≤h0.length
 cash:sumBy amt z.1+sumBy (fun r:zaq=>r.2.1) z.2.2=sumBy amt p0
 qty:∀k,qtyH k z.2.1+sumBy (fun r:zaq=>qtyL k r.2.2.1) z.2.2=qtyH k h0
 get:∀x,x∉us→getP z.1 x=getP p0 x∧lotsH z.2.1 x=lotsH h0 x
 len:z.2.2.length≤us.length
 ret:∀r∈z.2.2,0≤r.2.1∧r.2.1≤9223372036854775807∧okT r.2.2.1
theorem give_step{p0:List AFlow'}{h0:List AHold'}{z:PH}{us:List AUnit'}(G:GOk p0 h0 z us)(u:AUnit'):GOk p0 h0 (giveS z u) (us++[u]):=by
 have hap:(us++[u]).length=us.length+1:=by simp
 have lotsI:okT (lotsH z.2.1 u):=yqt G.h.2 u
 unfold giveS
 split
 ·exact⟨G.p,G.f,G.h,by have:=G.lp; omega,G.lh,G.cash,G.qty,fun x hx=>G.get x fun h=>hx (by simp[h]),by have:=G.len; omega,G.ret⟩
 ·obtain⟨_,b2,b3,b4,b5,b6⟩:=yqo G.p G.f u _ rfl
  have hg:=yda G.f u
  refine⟨b2,b3,ynp G.h u,by show (payP z.1 _).1.length≤_; have:=G.lp; omega,Nat.le_trans (List.length_filter_le _ _) G.lh,?_,fun k=>?_,fun x hx=>?_,by rw[List.length_append]; have:=G.len; simp; omega,fun r hr=>?_⟩
  ·show sumBy amt (payP z.1 _).1+sumBy (fun r:zaq=>r.2.1) (z.2.2++[backR z.1 z.2.1 u])=_
   rw[yah,zbu,yag]
   have:=G.cash
   show sumBy amt (payP z.1 _).1+(sumBy _ z.2.2+(max 0 (getP z.1 u)+0))=_
   omega
  ·show qtyH k (zai z.2.1 u)+sumBy (fun r:zaq=>qtyL k r.2.2.1) (z.2.2++[backR z.1 z.2.1 u])=_
   rw[yah,zbu,yag]
   have h1:=G.qty k
   have h2:=yod G.h.1 u k
   show qtyH k (zai z.2.1 u)+(sumBy _ z.2.2+(qtyL k (lotsH z.2.1 u)+0))=_
   omega
  ·have hxu:x≠u:=fun e=>hx (by simp[e])
   have:=G.get x fun h=>hx (by simp[h])
   refine⟨?_,?_⟩
   ·rw[←this.1]
    show getP (payP z.1 _).1 x=_
    rw[b5,if_neg hxu]
   ·rw[←this.2]
    show lotsH (zai z.2.1 u) x=_
    rw[yma,if_neg hxu]
  ·rcases List.mem_append.1 hr with hr|hr
   ·exact G.ret r hr
   ·simp only[List.mem_singleton]at hr
    subst hr
    refine⟨?_,?_,lotsI⟩
    ·show 0≤max 0 (getP z.1 u); omega
    ·show max 0 (getP z.1 u)≤_; unfold I64 at hg; omega
theorem ypa{p0:List AFlow'}{h0:List AHold'}:∀(vs us:List AUnit') {z:PH},GOk p0 h0 z us→GOk p0 h0 (vs.foldl giveS z) (us++vs)
 |[],us,z,G=>by rw[List.append_nil]; exact G
 |u::vs,us,z,G=>by
  have:=ypa vs (us++[u]) (give_step G u)
  rw[List.append_assoc]at this
  exact this
theorem ygl{p0:List AFlow'}{h0:List AHold'}(hp:isP p0=true)(hf:okF p0)(hh:HS h0):GOk p0 h0 (p0,h0,[]) []:=
 ⟨hp,hf,hh,by simp,Nat.le_refl _,by show sumBy amt p0+0=_; omega,fun k=>by show qtyH k h0+0=_; omega,fun x _=>⟨rfl,rfl⟩,Nat.le_refl _,fun r hr=>by cases hr⟩
end Go.Proofs.YtbpbkmngbhgpfaaGreat

namespace Go.Proofs.YtbpbkmngbhgpfaaGreat
open Go Go.Vc Go.RowKit
theorem yih{s:List ALot'}(h:s.length≤1000000):zal s=some s:=by
 show zba stdW s=_
 unfold zba
 rw[nilq_w]
 refine nilF_eq ?_ fun he=>?_
 ·show stdW.cnd (notIf false false) _ _=_
  rw[cnd_n (by decide),room_w (by omega) (by omega)]; rfl
 ·have:s=[]:=by simpa using he
  subst this; rfl
theorem r_cloneI{s:List Int}(h:s.length≤1000000):zcm s=some s:=by
 show zce stdW s=_
 unfold zce
 rw[nilq_w]
 refine nilF_eq ?_ fun he=>?_
 ·show stdW.cnd (notIf false false) _ _=_
  rw[cnd_n (by decide),room_w (by omega) (by omega)]; rfl
 ·have:s=[]:=by simpa using he
  subst this; rfl
def okAs(l:List zad):Prop:=(∀a∈l,a.2.2.2.1.length≤1000)∧l.length≤1000
theorem r_copiedA{l:List zad}(h:okAs l):zhx l=some l:=by
 have hl:=h.2
 show zgo stdW l=_
 unfold zgo
 refine zlr (N:=l.length) (by omega) (fun i=>((i:Int),(l.take i,()))) _ rfl ?_ ?_
 ·intro again
  show stdW.cnd (decide ((l.length:Int)<(l.length:Int))) _ (some (l.take l.length))=_
  rw[zas,List.take_length]
 ·intro i hi again ha
  have h2:=h.1 _ (List.getElem_mem hi)
  have e:zqb (l[i].1,(l[i].2.1,(l[i].2.2.1,(l[i].2.2.2.1,()))))=some l[i]:=by
   show zon stdW l[i]=_
   unfold zon
   rw[zaa (r_cloneI (by omega))]
  show stdW.cnd (decide ((i:Int)<(l.length:Int))) (stdW.idx l (i:Int) fun x3=>stdW.call (zqb (x3.1,(x3.2.1,(x3.2.2.1,(x3.2.2.2.1,()))))) fun v4=>stdW.room ((l.take i).length+1) 48 (again (IntKind.i64.wrap ((i:Int)+1),(l.take i++[(v4.1,(v4.2.1,(v4.2.2.1,(v4.2.2.2.1,()))))],())))) _=_
  have:(l.take i).length≤1000:=by rw[List.length_take]; omega
  rw[cnd_lt hi,idx_w hi,zaa e,room_w (by omega) (by omega),i64_s i (by omega)]
  rw[List.take_succ_eq_append_getElem hi]at ha
  exact ha
def isM(id:Int)(a:zad):Bool:=decide (a.2.1=id)
theorem r_of1(a:zad)(id:Int):zoo (a.1,(a.2.1,(a.2.2.1,(a.2.2.2.1,())))) id=some (!(isM id a),(id,())):=by
 show some ((a.2.1 != id),(id,()))=_
 unfold isM
 by_cases h:a.2.1=id<;>simp[h]
theorem r_ixM{l:List zad}{id:Int}(hl:l.length≤1000000):
  (zah l id=some (-1,(id,()))∧∀a∈l,isM id a=true)∨
  ∃i:Nat,i<l.length∧zah l id=some ((i:Int),(id,()))∧(∀a∈l.take i,isM id a=true)∧∀h:i<l.length,isM id l[i]=false:=by
 show (zag stdW l id=_∧_)∨∃i:Nat,_∧zag stdW l id=_∧_
 unfold zag
 refine loop_P (fun o=>(o=some ((-1:Int),(id,()))∧∀a∈l,isM id a=true)∨∃i:Nat,i<l.length∧o=some ((i:Int),(id,()))∧(∀a∈l.take i,isM id a=true)∧∀h:i<l.length,isM id l[i]=false) (fun z=>l.length+1 - z.1.toNat)
  (fun z=>∃j:Nat,j≤l.length∧z=((j:Int),(id,()))∧∀a∈l.take j,isM id a=true) ⟨0,Nat.zero_le _,rfl,by simp⟩ (by show _ - (0:Int).toNat<_; omega) ?_
 rintro _ ⟨j,hj,rfl,hp⟩ again ha
 show (stdW.cnd (decide ((j:Int)<(l.length:Int))) _ _=_∧_)∨∃i:Nat,_∧stdW.cnd (decide ((j:Int)<(l.length:Int))) _ _=_∧_
 by_cases h:j<l.length
 ·rw[cnd_lt h]
  show (stdW.idx l (j:Int) _=_∧_)∨∃i:Nat,_∧stdW.idx l (j:Int) _=_∧_
  rw[idx_w h,zaa (r_of1 _ _)]
  by_cases hv:isM id l[j]=true
  ·rw[hv,cnd_n (by rfl)]
   show (again (IntKind.i64.wrap ((j:Int)+1),(id,()))=_∧_)∨∃i:Nat,_∧again (IntKind.i64.wrap ((j:Int)+1),(id,()))=_∧_
   rw[i64_s j (by omega)]
   refine ha _ ⟨j+1,by omega,rfl,fun a hm=>?_⟩ (by show _ - ((j+1:Nat):Int).toNat<_ - ((j:Nat):Int).toNat; omega)
   rw[List.take_succ_eq_append_getElem h]at hm
   rcases List.mem_append.1 hm with hm|hm
   ·exact hp a hm
   ·simp only[List.mem_singleton]at hm; subst hm; exact hv
  ·have hv:isM id l[j]=false:=by simpa using hv
   rw[hv,cnd_y (by rfl)]
   exact .inr ⟨j,h,rfl,hp,fun _=>hv⟩
 ·have:j=l.length:=by omega
  subst this
  rw[zas]
  rw[List.take_length]at hp
  exact .inl ⟨rfl,hp⟩
theorem r_delM{l:List zad}{id:Int}(hl:l.length≤1000000):zam id l=some (l.filter (isM id),(id,())):=by
 show zak stdW id l=_
 unfold zak
 rcases r_ixM (id:=id) hl with ⟨e,hall⟩|⟨i0,hi0,e,hp,hn⟩
 ·rw[zaa e,cnd_y (by rfl),List.filter_eq_self.2 hall]
 ·rw[zaa e,cnd_n (show ((i0:Int) == -1)=false by simp)]
  have hi0':i0+1≤l.length:=hi0
  have hf0:(l.take (i0+1)).filter (isM id)=l.take i0:=by
   rw[List.take_succ_eq_append_getElem hi0,List.filter_append,List.filter_eq_self.2 hp,List.filter_cons,hn hi0]; simp
  have hz:((i0:Int),((IntKind.i64.wrap ((i0:Int)+1)),(id,(l,()))))=(((i0:Nat):Int),(((i0+1:Nat):Int),(id,(l,())))):=by rw[i64_s i0 (by omega)]
  show stdW.loop _ ((i0:Int),((IntKind.i64.wrap ((i0:Int)+1)),(id,(l,()))))=_
  rw[hz]
  refine(zev (fun z=>l.length+1 - z.2.1.toNat) (fun z=>∃(i j:Nat) (s:List zad),i<j∧j≤l.length∧s.length=l.length∧s.take i=(l.take j).filter (isM id)∧s.drop j=l.drop j∧z=((i:Int),((j:Int),(id,(s,()))))) (fun _=>some (l.filter (isM id),(id,()))) ⟨i0,i0+1,l,by omega,hi0',rfl,hf0.symm,rfl,rfl⟩ (by show l.length+1 - (((i0+1:Nat):Int)).toNat<_; omega) ?_)
  rintro _ ⟨i,j,s,hij,hj,hs,ht,hd,rfl⟩ again ha
  show stdW.cnd (decide ((j:Int)<(s.length:Int))) _ _=_
  by_cases h:j<s.length
  ·have hjl:j<l.length:=by omega
   have hx:s[j]=l[j]:=by
    have h1:(s.drop j)[0]?=(l.drop j)[0]?:=by rw[hd]
    rw[List.getElem?_drop,List.getElem?_drop,Nat.add_zero,List.getElem?_eq_getElem h,List.getElem?_eq_getElem hjl]at h1
    exact Option.some.inj h1
   rw[cnd_lt h]
   refine join_g fun k5 hk5=>?_
   have kk:∀(i':Nat) (s':List zad),i'<j+1→s'.length=l.length→s'.take i'=(l.take (j+1)).filter (isM id)→s'.drop (j+1)=l.drop (j+1)→k5 ((i':Int),(id,(s',())))=some (l.filter (isM id),(id,())):=by
    intro i' s' g1 g2 g3 g4
    subst hk5
    show again ((i':Int),(IntKind.i64.wrap ((j:Int)+1),(id,(s',()))))=_
    rw[i64_s j (by omega)]
    exact ha _ ⟨i',j+1,s',by omega,by omega,g2,g3,g4,rfl⟩ (by show l.length+1 - (((j+1:Nat):Int)).toNat<l.length+1 - (((j:Nat):Int)).toNat; omega)
   clear hk5 ha
   have hd1:s.drop (j+1)=l.drop (j+1):=by
    have:=congrArg (List.drop 1) hd
    rwa [List.drop_drop,List.drop_drop]at this
   have il:i<s.length:=by omega
   show stdW.idx s (j:Int) _=_
   rw[idx_w h]
   show stdW.nth s (Int.toNat (j:Int)) _=_
   rw[nth_w h,hx,zaa (r_of1 _ _)]
   by_cases hv:isM id l[j]=true
   ·rw[hv,cnd_y (by rfl)]
    show stdW.idx s (i:Int) _=_
    rw[idx_w il]
    show stdW.nth s (Int.toNat (i:Int)) _=_
    rw[nth_w il]
    show k5 (IntKind.i64.wrap ((i:Int)+1),(id,(s.set (Int.toNat (i:Int)) l[j],())))=_
    rw[Int.toNat_natCast,i64_s i (by omega)]
    refine kk (i+1) (s.set i l[j]) (by omega) (by rw[List.length_set]; exact hs) ?_ ?_
    ·rw[List.take_succ_eq_append_getElem hjl,List.filter_append,←ht,List.filter_cons,hv,List.filter_nil,if_pos rfl]
     have h1:i<(s.set i l[j]).length:=by rw[List.length_set]; exact il
     rw[List.take_succ_eq_append_getElem h1,List.getElem_set_self]
     congr 1
     rw[List.take_set_of_le (Nat.le_refl _)]
    ·rw[List.drop_set_of_lt (by omega)]; exact hd1
   ·have hv:isM id l[j]=false:=by simpa using hv
    rw[hv,cnd_n (by rfl)]
    refine kk i s (by omega) hs ?_ hd1
    rw[List.take_succ_eq_append_getElem hjl,List.filter_append,List.filter_cons,hv,ht]; simp
  ·have:j=s.length:=by omega
   subst this
   have hll:s.length=l.length:=hs
   rw[zas]
   show stdW.bnd (i:Int) s.length _=_
   rw[bnd_w (by omega) (by omega),Int.toNat_natCast]
   show stdW.bnd (i:Int) s.length _=_
   rw[bnd_w (by omega) (by omega),Int.toNat_natCast]
   show stdW.bnd (i:Int) (s.take i++List.replicate (s.length - i) (0,(0,(0,([],()))))).length _=_
   have hlt:(s.take i).length=i:=by rw[List.length_take]; omega
   rw[bnd_w (by omega) (by rw[List.length_append,hlt]; omega),Int.toNat_natCast]
   show some ((s.take i++List.replicate (s.length - i) (0,(0,(0,([],()))))).take i,(id,()))=_
   rw[List.take_append_of_le_length (by omega),List.take_take,Nat.min_self,ht,hll,List.take_length]
theorem r_aof{l:List zad}{id:Int}(h:okAs l):zxe l id=some (l.filter (isM id)):=by
 show zuz stdW l id=_
 unfold zuz
 have hl:=h.2
 rw[zaa (r_copiedA h),zaa (r_delM (by omega))]
def unitsA(a:zad):List AUnit':=if a.2.2.1=1 then [(a.1,(0,()))] else a.2.2.2.1.map fun c=>(a.1,(c,()))
theorem r_aunits{a:zad}(h:a.2.2.2.1.length≤1000):zka (a.1,(a.2.1,(a.2.2.1,(a.2.2.2.1,()))))=some (unitsA a):=by
 show zhy stdW a=_
 unfold zhy unitsA
 by_cases hk:a.2.2.1=1
 ·rw[cnd_y (by simpa using hk),if_pos hk]
 ·rw[cnd_n (by simpa using hk),if_neg hk]
  refine zlr (N:=a.2.2.2.1.length) (by omega) (fun i=>((i:Int),((a.2.2.2.1.take i).map (fun c=>((a.1,(c,())):AUnit')),()))) _ rfl ?_ ?_
  ·intro again
   show stdW.cnd (decide ((a.2.2.2.1.length:Int)<(a.2.2.2.1.length:Int))) _ (some _)=_
   rw[zas,List.take_length]
  ·intro i hi again ha
   show stdW.cnd (decide ((i:Int)<(a.2.2.2.1.length:Int))) (stdW.idx a.2.2.2.1 (i:Int) fun x3=>stdW.room (((a.2.2.2.1.take i).map (fun c=>((a.1,(c,())):AUnit'))).length+1) 16 (again (IntKind.i64.wrap ((i:Int)+1),((a.2.2.2.1.take i).map (fun c=>((a.1,(c,())):AUnit'))++[(a.1,(x3,()))],())))) _=_
   have:((a.2.2.2.1.take i).map (fun c=>((a.1,(c,())):AUnit'))).length≤1000:=by rw[List.length_map,List.length_take]; omega
   rw[cnd_lt hi,idx_w hi,room_w (by omega) (by omega),i64_s i (by omega)]
   rw[List.take_succ_eq_append_getElem hi,List.map_append]at ha
   exact ha
theorem r_units15{a:zad}(h:a.2.2.2.1.length≤1000):zqq (a.1,(a.2.1,(a.2.2.1,(a.2.2.2.1,()))))=some (unitsA a):=by
 show zig stdW a=_
 unfold zig unitsA
 by_cases hk:a.2.2.1=1
 ·rw[cnd_y (by simpa using hk),if_pos hk,room_w (by simp) (by simp)]
 ·rw[cnd_n (by simpa using hk),if_neg hk]
  refine zlr (N:=a.2.2.2.1.length) (by omega) (fun i=>((i:Int),((a.2.2.2.1.take i).map (fun c=>((a.1,(c,())):AUnit')),()))) _ rfl ?_ ?_
  ·intro again
   show stdW.cnd (decide ((a.2.2.2.1.length:Int)<(a.2.2.2.1.length:Int))) _ (some _)=_
   rw[zas,List.take_length]
  ·intro i hi again ha
   show stdW.cnd (decide ((i:Int)<(a.2.2.2.1.length:Int))) (stdW.idx a.2.2.2.1 (i:Int) fun x3=>stdW.room (((a.2.2.2.1.take i).map (fun c=>((a.1,(c,())):AUnit'))).length+1) 16 (again (IntKind.i64.wrap ((i:Int)+1),((a.2.2.2.1.take i).map (fun c=>((a.1,(c,())):AUnit'))++[(a.1,(x3,()))],())))) _=_
   have:((a.2.2.2.1.take i).map (fun c=>((a.1,(c,())):AUnit'))).length≤1000:=by rw[List.length_map,List.length_take]; omega
   rw[cnd_lt hi,idx_w hi,room_w (by omega) (by omega),i64_s i (by omega)]
   rw[List.take_succ_eq_append_getElem hi,List.map_append]at ha
   exact ha
end Go.Proofs.YtbpbkmngbhgpfaaGreat

namespace Go.Proofs.YtbpbkmngbhgpfaaGreat
open Go Go.Vc Go.RowKit
theorem srt_next{α:Type}{f:α→AUnit'}{l:List α}{i:Nat}(hi:i<l.length)(inv:SrtA ((l.take i).map f))(h2:∀h0:0<i,ltA (f (l[i - 1]'(by omega))) (f l[i])):SrtA ((l.take (i+1)).map f):=by
 rw[List.take_succ_eq_append_getElem hi,List.map_append]
 refine List.pairwise_append.2 ⟨inv,by simp,fun a ha b hb=>?_⟩
 simp only[List.map_cons,List.map_nil,List.mem_singleton]at hb
 subst hb
 obtain⟨k,hk,hka⟩:=List.mem_iff_getElem.1 ha
 have hk':k<i:=by simp at hk; omega
 have h3:=h2 (by omega)
 by_cases hki:k=i - 1
 ·subst hki; rw[←hka]; simpa using h3
 ·have h4:=List.pairwise_iff_getElem.1 inv k (i - 1) (by simpa using hk) (by simp; omega) (by omega)
  rw[hka]at h4
  refine ltA_tr h4 ?_
  simpa using h3
def okHs(l:List AHold'):Prop:=(∀h∈l,okT h.2.1)∧l.length≤1000
theorem r_hlots{l:List AHold'}{u:AUnit'}(h:okHs l):zjs l u=some (lotsH l u):=by
 have hl:=h.2
 show zjr stdW l u=_
 unfold zjr
 refine zcp (l:=l) (by omega) (s0:=()) (fun _ _=>True) (fun l' _=>some (lotsH l' u)) trivial ?_ ?_
 ·rintro _ again _
  rw[zas]; rfl
 ·rintro i hi _ _ again ha
  have h2:=(h.1 _ (List.getElem_mem hi)).1
  rw[cnd_lt hi,idx_w hi,nif_f,eqA]
  show _=some (lotsH (l[i]::l.drop (i+1)) u)
  rw[lotsH]
  by_cases h:l[i].1=u
  ·rw[cnd_y (decide_eq_true h),if_pos h,zaa (yih (by omega))]
  ·rw[cnd_n (decide_eq_false h),if_neg h]
   show again (IntKind.i64.wrap ((i:Int)+1),())=_
   rw[i64_s i (by omega)]
   exact ha _ trivial
theorem r_lots26{l:List AHold'}{u:AUnit'}(hl:l.length≤1000):zjf l u=some (lotsH l u):=by
 show zkt stdW l u=_
 unfold zkt
 refine zcp (l:=l) (by omega) (s0:=()) (fun _ _=>True) (fun l' _=>some (lotsH l' u)) trivial ?_ ?_
 ·rintro _ again _
  rw[zas]; rfl
 ·rintro i hi _ _ again ha
  rw[cnd_lt hi,idx_w hi,nif_f,eqA]
  show _=some (lotsH (l[i]::l.drop (i+1)) u)
  rw[lotsH]
  by_cases h:l[i].1=u
  ·rw[cnd_y (decide_eq_true h),if_pos h,idx_w hi]
  ·rw[cnd_n (decide_eq_false h),if_neg h]
   show again (IntKind.i64.wrap ((i:Int)+1),())=_
   rw[i64_s i (by omega)]
   exact ha _ trivial
theorem r_hset{l:List AHold'}{u:AUnit'}(h:okHs l):ztv l u []=some (zai l u):=by
 have hl:=h.2
 show zoc stdW l u []=_
 unfold zoc
 have one:(stdW.call (zal []) fun v1=>
 stdW.loop (fun (z2:Bool×Int×Int×Int×List (Int×Int×Int×Unit)×List ((Int×Int×Unit)×List (Int×Int×Int×Unit)×Unit)×Unit) again3=>
  stdW.cnd (decide (z2.2.1<(l.length:Int))) (
  stdW.join (fun (z4:Bool×List ((Int×Int×Unit)×List (Int×Int×Int×Unit)×Unit)×Unit)=>(again3 (z4.1,((IntKind.i64.wrap (z2.2.1+1)),(z2.2.2.1,(z2.2.2.2.1,(z2.2.2.2.2.1,(z4.2.1,()))))))))
   fun k5=>stdW.idx l z2.2.1 fun x6=>
   stdW.join (fun (z7:Bool×List ((Int×Int×Unit)×List (Int×Int×Int×Unit)×Unit)×Unit)=>
   stdW.cnd (Go.Vc.notIf true ((x6.1.1==u.1)&&(x6.1.2.1==u.2.1))) (stdW.call (zal x6.2.1) fun v8=>stdW.room (z7.2.1.length+((x6.1,(v8,()))::[]).length) 40 ((k5 (z7.1,((z7.2.1++((x6.1,(v8,()))::[])),())))))
    (
    stdW.cnd (!z7.1) (stdW.room (z7.2.1.length+(((z2.2.2.1,(z2.2.2.2.1,())),(z2.2.2.2.2.1,()))::[]).length) 40 ((k5 (true,((z7.2.1++(((z2.2.2.1,(z2.2.2.2.1,())),(z2.2.2.2.2.1,()))::[])),())))))
    ((k5 (z7.1,(z7.2.1,()))))))
   fun k9=>
   stdW.join (fun (z10:Bool×List ((Int×Int×Unit)×List (Int×Int×Int×Unit)×Unit)×Unit)=>
    stdW.cnd z10.1 (stdW.room (z10.2.1.length+(((z2.2.2.1,(z2.2.2.2.1,())),(z2.2.2.2.2.1,()))::[]).length) 40 ((k9 (true,((z10.2.1++(((z2.2.2.1,(z2.2.2.2.1,())),(z2.2.2.2.2.1,()))::[])),())))))
    ((k9 (z2.1,(z10.2.1,())))))
    fun k11=>
    stdW.cnd (!z2.1) (stdW.call (zed u x6.1) fun v12=>(k11 (v12,(z2.2.2.2.2.2.1,()))))
    ((k11 (false,(z2.2.2.2.2.2.1,())))))
  (
  stdW.join (fun (z13:List ((Int×Int×Unit)×List (Int×Int×Int×Unit)×Unit)×Unit)=>some z13.1)
   fun k14=>
   stdW.cnd (!z2.1) (stdW.room (z2.2.2.2.2.2.1.length+(((z2.2.2.1,(z2.2.2.2.1,())),(z2.2.2.2.2.1,()))::[]).length) 40 ((k14 ((z2.2.2.2.2.2.1++(((z2.2.2.1,(z2.2.2.2.1,())),(z2.2.2.2.2.1,()))::[])),()))))
   ((k14 (z2.2.2.2.2.2.1,())))))
  (((([]:List ALot').length:Int)==0),(0,(u.1,(u.2.1,(v1,([],())))))))=some (zai l u):=by
  rw[zaa (yih (s:=[]) (by simp))]
  refine zlr (N:=l.length) (by omega) (fun i=>(true,((i:Int),(u.1,(u.2.1,([],(zai (l.take i) u,()))))))) _ rfl ?_ ?_
  ·intro again
   show stdW.cnd (decide ((l.length:Int)<(l.length:Int))) _ _=_
   rw[zas]
   refine join_g fun k14 hk=>?_
   have kk:∀x,k14 (x,())=some x:=by intro x; subst hk; rfl
   clear hk
   show stdW.cnd (!true) _ (k14 (zai (l.take l.length) u,()))=_
   rw[cnd_n (by rfl),kk,List.take_length]
  ·intro i hi again ha
   have h2:=(h.1 _ (List.getElem_mem hi)).1
   have hwl:(zai (l.take i) u).length≤1000:=Nat.le_trans (List.length_filter_le _ _) (by rw[List.length_take]; omega)
   show stdW.cnd (decide ((i:Int)<(l.length:Int))) _ _=_
   rw[cnd_lt hi]
   refine join_g fun k5 hk5=>?_
   have k5':k5 (true,(zai (l.take (i+1)) u,()))=some (zai l u):=by
    subst hk5
    show again (true,(IntKind.i64.wrap ((i:Int)+1),_))=_
    rw[i64_s i (by omega)]; exact ha
   clear hk5 ha
   show stdW.idx l (i:Int) _=_
   rw[idx_w hi]
   have es:zai (l.take (i+1)) u=if l[i].1=u then zai (l.take i) u else zai (l.take i) u++[l[i]]:=by
    unfold zai
    rw[List.take_succ_eq_append_getElem hi,List.filter_append,List.filter_cons,List.filter_nil]
    by_cases hu:l[i].1=u
    ·rw[if_pos hu,if_neg (by simpa using hu),List.append_nil]
    ·rw[if_neg hu,if_pos (by simpa using hu)]
   rw[es]at k5'
   refine join_g fun k9 hk9=>?_
   have k9':k9 (true,(zai (l.take i) u,()))=some (zai l u):=by
    subst hk9
    show stdW.cnd (Go.Vc.notIf true ((l[i].1.1==u.1)&&(l[i].1.2.1==u.2.1))) _ _=_
    rw[nif_t,eqA]
    by_cases hu:l[i].1=u
    ·rw[if_pos hu]at k5'
     rw[cnd_n (by simp[hu])]
     show stdW.cnd (!true) _ (k5 (true,(zai (l.take i) u,())))=_
     rw[cnd_n (by rfl)]; exact k5'
    ·rw[if_neg hu]at k5'
     rw[cnd_y (by simp[hu]),zaa (yih (by omega))]
     show stdW.room ((zai (l.take i) u).length+1) 40 (k5 (true,(zai (l.take i) u++[l[i]],())))=_
     rw[room_w (by omega) (by omega)]; exact k5'
   clear hk9
   refine join_g fun k11 hk11=>?_
   have k11':k11 (false,(zai (l.take i) u,()))=some (zai l u):=by
    subst hk11
    show stdW.cnd false _ (k9 (true,(zai (l.take i) u,())))=_
    rw[cnd_n rfl]; exact k9'
   clear hk11
   show stdW.cnd (!true) _ (k11 (false,(zai (l.take i) u,())))=_
   rw[cnd_n (by rfl)]; exact k11'
 exact zmh one one
end Go.Proofs.YtbpbkmngbhgpfaaGreat

namespace Go.Proofs.YtbpbkmngbhgpfaaGreat
open Go Go.Vc Go.RowKit
def pu(s:zan):List AFlow':=s.2.2.2.2.2.2.2.2.2.2.1
def ho(s:zan):List AHold':=s.2.2.2.2.2.2.2.2.2.2.2.1
def updS(s:zan)(p:List AFlow')(h:List AHold'):zan:=(s.1,(s.2.1,(s.2.2.1,(s.2.2.2.1,(s.2.2.2.2.1,(s.2.2.2.2.2.1,(s.2.2.2.2.2.2.1,(s.2.2.2.2.2.2.2.1,(s.2.2.2.2.2.2.2.2.1,(s.2.2.2.2.2.2.2.2.2.1,(p,(h,()))))))))))))
theorem yqj{s:zan}{u:AUnit'}(hp:(pu s).length≤1000000)(hh:okHs (ho s)):zff s u=some (backR (pu s) (ho s) u):=by
 show zsd stdW s u=_
 unfold zsd
 have e1:zjj s.2.2.2.2.2.2.2.2.2.2.1 u=some (getP (pu s) u):=r_get hp
 have e2:zjs s.2.2.2.2.2.2.2.2.2.2.2.1 u=some (lotsH (ho s) u):=r_hlots hh
 rw[zaa e1,zaa e2]
 unfold backR
 have:(if getP (pu s) u>0 then getP (pu s) u else 0)=max 0 (getP (pu s) u):=by split<;>omega
 rw[this]
def zst(s:zan)(p:List AFlow')(h:List AHold')(out:List zaq):=(s.1,(s.2.1,(s.2.2.1,(s.2.2.2.1,(s.2.2.2.2.1,(s.2.2.2.2.2.1,(s.2.2.2.2.2.2.1,(s.2.2.2.2.2.2.2.1,(s.2.2.2.2.2.2.2.2.1,(s.2.2.2.2.2.2.2.2.2.1,(p,(h,(out,())))))))))))))
def zsu(s:zan)(p:List AFlow')(h:List AHold')(out:List zaq)(v:List AUnit'):=(s.1,(s.2.1,(s.2.2.1,(s.2.2.2.1,(s.2.2.2.2.1,(s.2.2.2.2.2.1,(s.2.2.2.2.2.2.1,(s.2.2.2.2.2.2.2.1,(s.2.2.2.2.2.2.2.2.1,(s.2.2.2.2.2.2.2.2.2.1,(p,(h,(out,(v,()))))))))))))))
end Go.Proofs.YtbpbkmngbhgpfaaGreat

namespace Go.Proofs.YtbpbkmngbhgpfaaGreat
open Go Go.Vc Go.RowKit
def cmpI(x y:Int):Int:=if x<y then -1 else if y<x then 1 else 0
theorem r_cmp1(x y:Int):zfk x y=some (cmpI x y):=by
 show zgk stdW x y=_
 unfold zgk cmpI
 have e:∀x:Int,zoi x=some false:=fun x=>by
  show some (x != x)=_
  simp
 rw[zaa (e x),zaa (e y),cnd_n rfl,cnd_n rfl]
 by_cases h:x<y
 ·rw[cnd_y (decide_eq_true h),if_pos h]
 ·rw[cnd_n (decide_eq_false h),if_neg h]
  by_cases h2:y<x
  ·rw[cnd_y (decide_eq_true h2),if_pos h2]
  ·rw[cnd_n (decide_eq_false h2),if_neg h2]
def orI:List Int→Int
 |[]=>0
 |x::l=>if x=0 then orI l else x
theorem r_or1(l:List Int)(hl:l.length≤1000000):cmp_Or l=some (orI l):=by
 show ydk stdW l=_
 unfold ydk
 refine zcp (l:=l) (by omega) (s0:=()) (fun _ _=>True) (fun l' _=>some (orI l')) trivial ?_ ?_
 ·rintro _ again _
  rw[zas]; rfl
 ·rintro i hi _ _ again ha
  rw[cnd_lt hi,idx_w hi]
  show _=some (orI (l[i]::l.drop (i+1)))
  rw[orI]
  by_cases h0:l[i]=0
  ·rw[cnd_n (by simp[h0]),if_pos h0]
   show again (IntKind.i64.wrap ((i:Int)+1),())=_
   rw[i64_s i (by omega)]
   exact ha _ trivial
  ·rw[cnd_y (by simp[h0]),if_neg h0]
theorem r_lorder1(a b:ALot'):zgy a b=some (orI [cmpI a.1 b.1,cmpI a.2.1 b.2.1]):=by
 show zhk stdW a b=_
 unfold zhk
 rw[zaa (r_cmp1 _ _),zaa (r_cmp1 _ _),zaa (r_or1 _ (by simp))]
theorem lorder_lt(a b:ALot'):decide (0≤orI [cmpI a.1 b.1,cmpI a.2.1 b.2.1])=!decide (ltL a b):=by
 unfold ltL
 simp only[orI,cmpI]
 by_cases h1:a.1<b.1
 ·simp[h1]
 ·by_cases h2:b.1<a.1
  ·have h3:¬a.1=b.1:=by omega
   simp[h1,h2,h3]
  ·have h3:a.1=b.1:=by omega
   by_cases h4:a.2.1<b.2.1
   ·simp[h3,h4]
   ·by_cases h5:b.2.1<a.2.1<;>simp[h3,h4,h5]
theorem r_lright1(x:ALot'):zjp x=some (decide (rightL x)):=by
 show zhj stdW x=_
 unfold zhj rightL
 by_cases h1:1≤x.1
 ·rw[cnd_y (decide_eq_true h1)]
  by_cases h2:x.1≤4
  ·rw[cnd_y (decide_eq_true h2)]
   by_cases h3:0≤x.2.1
   ·rw[cnd_y (decide_eq_true h3)]
    by_cases h4:x.2.1≤255
    ·rw[cnd_y (decide_eq_true h4)]; simp[h1,h2,h3,h4]
    ·rw[cnd_n (decide_eq_false h4)]; simp[h4]
   ·rw[cnd_n (decide_eq_false h3)]; simp[h3]
  ·rw[cnd_n (decide_eq_false h2)]; simp[h2]
 ·rw[cnd_n (decide_eq_false h1)]; simp[h1]
theorem r_one18(x:ALot'):yaz x=some (decide (rightL x)):=by
 show zoz stdW x=_
 unfold zoz rightL
 by_cases h1:1≤x.1
 ·rw[cnd_y (decide_eq_true (by omega))]
  by_cases h2:x.1≤4
  ·rw[cnd_y (decide_eq_true (by omega))]
   by_cases h3:0≤x.2.1
   ·rw[cnd_y (decide_eq_true h3)]
    by_cases h4:x.2.1≤255
    ·rw[cnd_y (decide_eq_true (by omega))]; simp[h1,h2,h3,h4]
    ·rw[cnd_n (decide_eq_false (by omega))]; simp[h4]
   ·rw[cnd_n (decide_eq_false h3)]; simp[h3]
  ·rw[cnd_n (decide_eq_false (by omega))]; simp[h2]
 ·rw[cnd_n (decide_eq_false (by omega))]; simp[h1]
theorem r_less18(a b:ALot'):zpa a b=some (decide (ltL a b)):=by
 show zku stdW a b=_
 unfold zku ltL
 by_cases h1:a.1<b.1
 ·rw[cnd_y (decide_eq_true h1)]; simp[h1]
 ·rw[cnd_n (decide_eq_false h1)]
  by_cases h2:a.1=b.1
  ·rw[cnd_y (by simpa using h2)]; simp[h2]
  ·rw[cnd_n (by simpa using h2)]; simp[h1,h2]
def LP(l:List ALot'):Prop:=(∀x∈l,rightL x)∧l.Pairwise ltL
theorem ltL_tr{a b c:ALot'}(h1:ltL a b)(h2:ltL b c):ltL a c:=by unfold ltL at *; omega
theorem ykh{l:List ALot'}{i:Nat}(hi:i<l.length)(inv:LP (l.take i))(h1:rightL l[i])(h2:∀h0:0<i,ltL (l[i - 1]'(by omega)) l[i]):LP (l.take (i+1)):=by
 rw[List.take_succ_eq_append_getElem hi]
 refine⟨fun x hx=>?_,?_⟩
 ·rcases List.mem_append.1 hx with hx|hx
  ·exact inv.1 x hx
  ·simp at hx; rw[hx]; exact h1
 ·refine List.pairwise_append.2 ⟨inv.2,by simp,fun a ha b hb=>?_⟩
  simp only[List.mem_singleton]at hb
  subst hb
  obtain⟨k,hk,hka⟩:=List.mem_iff_getElem.1 ha
  have hk':k<i:=by simp at hk; omega
  have h3:=h2 (by omega)
  by_cases hki:k=i - 1
  ·subst hki; rw[←hka]; simpa using h3
  ·have h4:=List.pairwise_iff_getElem.1 inv.2 k (i - 1) (by simpa using hk) (by simp; omega) (by omega)
   rw[hka]at h4
   refine ltL_tr h4 ?_
   simpa using h3
theorem isL_end{l:List ALot'}(h:LP (l.take l.length)):isL l=decide ((l.length:Int)≤16):=by
 rw[List.take_length]at h
 unfold isL LInv
 refine decide_eq_decide.2 ⟨fun h=>by omega,fun h3=>⟨h.1,h.2,by omega⟩⟩
theorem yre{l:List ALot'}{i:Nat}(hi:i<l.length)(h:¬rightL l[i]):isL l=false:=
 decide_eq_false fun hp=>h (hp.1 _ (List.getElem_mem hi))
theorem yrd{l:List ALot'}{i:Nat}(hi:i<l.length)(h0:0<i)(h:¬ltL (l[i - 1]'(by omega)) l[i]):isL l=false:=
 decide_eq_false fun hp=>h (List.pairwise_iff_getElem.1 hp.2.1 (i - 1) i (by omega) hi (by omega))
theorem r_lis1{l:List ALot'}(hl:l.length≤1000000):znw l=some (isL l):=by
 show ztg stdW l=_
 unfold ztg
 refine loop_n (N:=l.length) (by omega) (fun i _=>LP (l.take i)) (some (isL l)) (by simp[LP]) ?_ ?_
 ·rintro _ again h
  rw[zas,isL_end h]
 ·rintro i hi _ inv again ha
  rw[cnd_lt hi,idx_w hi]
  refine join_g fun k hk=>?_
  have kt:k (true,())=some false:=by subst hk; rfl
  have kf:k (false,())=again (((i+1:Nat):Int),()):=by rw[←i64_s i (by omega)]; subst hk; rfl
  clear hk
  rw[zaa (r_lright1 _)]
  by_cases h1:rightL l[i]
  ·rw[cnd_n (by simp[h1])]
   by_cases h0:0<i
   ·rw[cnd_y (decide_eq_true (by omega)),zfq i h0 (by rw[zay]; omega),idx_w (by omega),zaa (r_lorder1 _ _),both_w,lorder_lt]
    by_cases h2:ltL (l[i - 1]'(by omega)) l[i]
    ·rw[decide_eq_true h2]
     exact kf.trans (ha _ (ykh hi inv h1 fun _=>h2))
    ·rw[decide_eq_false h2,yrd hi h0 h2]; exact kt
   ·rw[cnd_n (decide_eq_false (by omega)),both_w]
    exact kf.trans (ha _ (ykh hi inv h1 fun h=>absurd h h0))
  ·rw[cnd_y (by simp[h1]),both_w,kt,yre hi h1]
theorem r_is18{l:List ALot'}(hl:l.length≤1000000):zza l=some (isL l):=by
 show zsi stdW l=_
 unfold zsi
 refine loop_n (N:=l.length) (by omega) (fun i _=>LP (l.take i)) (some (isL l)) (by simp[LP]) ?_ ?_
 ·rintro _ again h
  rw[zas,isL_end h]
 ·rintro i hi _ inv again ha
  rw[cnd_lt hi]
  refine join_g fun k hk=>?_
  have kt:k (true,())=some false:=by subst hk; rfl
  have kf:k (false,())=again (((i+1:Nat):Int),()):=by rw[←i64_s i (by omega)]; subst hk; rfl
  clear hk
  rw[idx_w hi,zaa (r_one18 _)]
  by_cases h1:rightL l[i]
  ·rw[cnd_n (by simp[h1])]
   by_cases h0:0<i
   ·rw[cnd_y (decide_eq_true (by omega)),zfq i h0 (by rw[zay]; omega),idx_w (by omega),idx_w hi,zaa (r_less18 _ _),both_w]
    by_cases h2:ltL (l[i - 1]'(by omega)) l[i]
    ·rw[decide_eq_true h2]
     exact kf.trans (ha _ (ykh hi inv h1 fun _=>h2))
    ·rw[decide_eq_false h2,yrd hi h0 h2]; exact kt
   ·rw[cnd_n (decide_eq_false (by omega)),both_w]
    exact kf.trans (ha _ (ykh hi inv h1 fun h=>absurd h h0))
  ·rw[cnd_y (by simp[h1]),both_w,kt,yre hi h1]
def HP(l:List AHold'):Prop:=(∀h∈l,h.2.1≠[]∧LInv h.2.1)∧SrtA (l.map (·.1))
theorem yki{l:List AHold'}{i:Nat}(hi:i<l.length)(inv:HP (l.take i))(h1:l[i].2.1≠[]∧LInv l[i].2.1)(h2:∀h0:0<i,ltA (l[i - 1]'(by omega)).1 l[i].1):HP (l.take (i+1)):=by
 refine⟨fun x hx=>?_,srt_next hi inv.2 h2⟩
 rw[List.take_succ_eq_append_getElem hi]at hx
 rcases List.mem_append.1 hx with hx|hx
 ·exact inv.1 x hx
 ·simp at hx; rw[hx]; exact h1
theorem isH_end{l:List AHold'}(h:HP (l.take l.length)):isH l=true:=by rw[List.take_length]at h; exact decide_eq_true h
theorem yrh{l:List AHold'}{i:Nat}(hi:i<l.length)(h:l[i].2.1=[]):isH l=false:=decide_eq_false fun hp=>(hp.1 _ (List.getElem_mem hi)).1 h
theorem yrg{l:List AHold'}{i:Nat}(hi:i<l.length)(h:isL l[i].2.1=false):isH l=false:=decide_eq_false fun hp=>of_decide_eq_false h (hp.1 _ (List.getElem_mem hi)).2
theorem yrf{l:List AHold'}{i:Nat}(hi:i<l.length)(h0:0<i)(h:¬ltA (l[i - 1]'(by omega)).1 l[i].1):isH l=false:=
 decide_eq_false fun hp=>h (by
  have:=List.pairwise_iff_getElem.1 hp.2 (i - 1) i (by simp; omega) (by simpa using hi) (by omega)
  simpa using this)
theorem r_his1{l:List AHold'}(h:okHs l):zoe l=some (isH l):=by
 have hl:=h.2
 show ztx stdW l=_
 unfold ztx
 refine loop_n (N:=l.length) (by omega) (fun i _=>HP (l.take i)) (some (isH l)) (by simp[HP,SrtA]) ?_ ?_
 ·rintro _ again h
  rw[zas,isH_end h]
 ·rintro i hi _ inv again ha
  rw[cnd_lt hi,idx_w hi]
  refine join_g fun k hk=>?_
  have kt:k (true,())=some false:=by subst hk; rfl
  have kf:k (false,())=again (((i+1:Nat):Int),()):=by rw[←i64_s i (by omega)]; subst hk; rfl
  clear hk
  by_cases h1:l[i].2.1=[]
  ·rw[cnd_y (by rw[h1]; rfl),both_w,kt,yrh hi h1]
  ·have hne:((l[i].2.1.length:Int)==0)=false:=by
    cases hc:l[i].2.1 with
    |nil=>exact absurd hc h1
    |cons x xs=>simp; omega
   rw[cnd_n hne,zaa (r_lis1 (by have:=(h.1 _ (List.getElem_mem hi)).1; omega))]
   cases hL:isL l[i].2.1 with
   |false=>rw[cnd_y (by rfl),both_w,kt,yrg hi hL]
   |true=>
    rw[cnd_n (by rfl)]
    by_cases h0:0<i
    ·rw[cnd_y (decide_eq_true (by omega)),zfq i h0 (by rw[zay]; omega),idx_w (by omega),zaa (r_lessA _ _),both_w]
     by_cases h2:ltA (l[i - 1]'(by omega)).1 l[i].1
     ·rw[decide_eq_true h2]
      exact kf.trans (ha _ (yki hi inv ⟨h1,of_decide_eq_true hL⟩ fun _=>h2))
     ·rw[decide_eq_false h2,yrf hi h0 h2]; exact kt
    ·rw[cnd_n (decide_eq_false (by omega)),both_w]
     exact kf.trans (ha _ (yki hi inv ⟨h1,of_decide_eq_true hL⟩ fun h=>absurd h h0))
theorem r_is26{l:List AHold'}(h:okHs l):zyz l=some (isH l):=by
 have hl:=h.2
 show zsg stdW l=_
 unfold zsg
 refine loop_n (N:=l.length) (by omega) (fun i _=>HP (l.take i)) (some (isH l)) (by simp[HP,SrtA]) ?_ ?_
 ·rintro _ again h
  rw[zas,isH_end h]
 ·rintro i hi _ inv again ha
  rw[cnd_lt hi]
  refine join_g fun k hk=>?_
  have kt:k (true,())=some false:=by subst hk; rfl
  have kf:k (false,())=again (((i+1:Nat):Int),()):=by rw[←i64_s i (by omega)]; subst hk; rfl
  clear hk
  rw[idx_w hi]
  by_cases h1:l[i].2.1=[]
  ·rw[cnd_y (by rw[h1]; rfl),both_w,kt,yrh hi h1]
  ·have hne:((l[i].2.1.length:Int)==0)=false:=by
    cases hc:l[i].2.1 with
    |nil=>exact absurd hc h1
    |cons x xs=>simp; omega
   rw[cnd_n hne,idx_w hi,zaa (r_is18 (by have:=(h.1 _ (List.getElem_mem hi)).1; omega))]
   cases hL:isL l[i].2.1 with
   |false=>rw[cnd_y (by rfl),both_w,kt,yrg hi hL]
   |true=>
    rw[cnd_n (by rfl)]
    by_cases h0:0<i
    ·rw[cnd_y (decide_eq_true (by omega)),zfq i h0 (by rw[zay]; omega),idx_w (by omega),idx_w hi,zaa (zzc _ _),both_w]
     by_cases h2:ltA (l[i - 1]'(by omega)).1 l[i].1
     ·rw[decide_eq_true h2]
      exact kf.trans (ha _ (yki hi inv ⟨h1,of_decide_eq_true hL⟩ fun _=>h2))
     ·rw[decide_eq_false h2,yrf hi h0 h2]; exact kt
    ·rw[cnd_n (decide_eq_false (by omega)),both_w]
     exact kf.trans (ha _ (yki hi inv ⟨h1,of_decide_eq_true hL⟩ fun h=>absurd h h0))
theorem without_H{l:List AHold'}(h:isH l=true)(u:AUnit'):isH (zai l u)=true:=by
 have h:=of_decide_eq_true h
 refine decide_eq_true ⟨fun x hx=>h.1 x (List.mem_filter.1 hx).1,?_⟩
 exact List.Pairwise.sublist ((List.filter_sublist).map _) h.2
theorem r_hSet1{l:List AHold'}{u:AUnit'}(h:okHs l)(hi:isH l=true):zlu l u []=some (zai l u,(0,())):=by
 show zod stdW l u []=_
 unfold zod
 have e1:zoe l=some true:=by rw[r_his1 h,hi]
 have e2:znw []=some true:=r_lis1 (by simp)
 refine join_g fun k hk=>?_
 have kk:k (0,())=some (zai l u,(0,())):=by
  subst hk
  show stdW.call (zfj l u [] 0) _=_
  have e3:zfj l u [] 0=some (zai l u,(0,())):=by
   show zgf stdW l u [] 0=_
   unfold zgf
   rw[zaa e1,cnd_n (by rfl),cnd_n (by rfl),zaa (r_hset h)]
  rw[zaa e3]
 clear hk
 rw[zaa e2,cnd_n (by rfl)]
 exact kk
end Go.Proofs.YtbpbkmngbhgpfaaGreat

namespace Go.Proofs.YtbpbkmngbhgpfaaGreat
open Go Go.Vc Go.RowKit
theorem zvf{l:List AHold'}{u:AUnit'}(hs:SrtA (l.map (·.1)))(h:∀x∈l,x.1≠u):zai l u=l:=
 List.filter_eq_self.2 fun x hx=>decide_eq_true (h x hx)
theorem without_at{l:List AHold'}{u:AUnit'}(hs:SrtA (l.map (·.1))){i:Nat}(hi:i≤l.length)(h1:∀x∈l.take i,ltA x.1 u)(h2:∀h:i<l.length,¬ltA l[i].1 u):
  zai l u=l.take i++l.drop (if (∃h:i<l.length,l[i].1=u) then i+1 else i):=by
 have hne:∀x∈l.take i,x.1≠u:=fun x hx e=>by have:=h1 x hx; rw[e]at this; exact znt u this
 have e1:zai l u=zai (l.take i) u++zai (l.drop i) u:=by
  unfold zai
  rw[←List.filter_append,List.take_append_drop]
 have hs':SrtA (l.take i |>.map (·.1)):=List.Pairwise.sublist ((List.take_sublist i l).map _) hs
 rw[e1,zvf hs' hne]
 by_cases hil:i<l.length
 ·have hd:l.drop i=l[i]::l.drop (i+1):=List.drop_eq_getElem_cons hil
  have hsd:SrtA ((l.drop i).map (·.1)):=List.Pairwise.sublist ((List.drop_sublist i l).map _) hs
  have hlater:∀x∈l.drop (i+1),ltA l[i].1 x.1:=fun x hx=>by
   rw[hd]at hsd
   exact(List.pairwise_cons.1 hsd).1 _ (List.mem_map_of_mem hx)
  have hsd1:SrtA ((l.drop (i+1)).map (·.1)):=List.Pairwise.sublist ((List.drop_sublist (i+1) l).map _) hs
  by_cases hu:l[i].1=u
  ·rw[if_pos ⟨hil,hu⟩,hd]
   unfold zai
   rw[List.filter_cons,if_neg (by simpa using hu)]
   have:zai (l.drop (i+1)) u=l.drop (i+1):=zvf hsd1 fun x hx e=>by
    have:=hlater x hx
    rw[hu,e]at this; exact znt u this
   unfold zai at this
   rw[this]
  ·rw[if_neg fun h=>hu h.2]
   have hgt:ltA u l[i].1:=by
    have h3:=h2 hil
    by_cases h4:ltA u l[i].1
    ·exact h4
    ·exact absurd (yom h3 h4) hu
   rw[zvf hsd fun x hx e=>?_]
   rw[hd]at hx
   rcases List.mem_cons.1 hx with rfl|hx
   ·exact hu e
   ·have:=ltA_tr hgt (hlater x hx)
    rw[e]at this; exact znt u this
 ·have:i=l.length:=by omega
  subst this
  rw[if_neg fun h=>by obtain⟨h,_⟩:=h; omega,List.drop_length]
  rfl
theorem r_with26{l:List AHold'}{u:AUnit'}(hs:SrtA (l.map (·.1)))(hl:l.length≤1000):zcj l u []=some (zai l u):=by
 show zkr stdW l u []=_
 unfold zkr
 refine join_g fun k10 hk10=>?_
 have kk10:∀i:Nat,i≤l.length→(∀x∈l.take i,ltA x.1 u)→(∀h:i<l.length,¬ltA l[i].1 u)→k10 ((i:Int),(l.take i,()))=some (zai l u):=by
  intro i hi h1 h2
  have hw:=without_at hs hi h1 h2
  subst hk10
  refine join_g fun k9 hk9=>?_
  have kk9:k9 (l.take i,())=some (zai l u):=by
   subst hk9
   refine join_g fun k5 hk5=>?_
   have kk5:∀j:Nat,j≤l.length→l.take i++l.drop j=zai l u→k5 ((j:Int),(l.take i,()))=some (zai l u):=by
    intro j hj e
    subst hk5
    show stdW.bnd (j:Int) l.length _=_
    have hlen:(l.take i).length≤1000:=by rw[List.length_take]; omega
    have hlen2:((l.take l.length).drop j).length≤1000:=by simp; omega
    rw[bnd_w (by omega) (by omega),room_w (by show (l.take i).length+_≤_; simp only[Int.toNat_natCast]; omega) (by show ((l.take i).length+_)*40≤_; simp only[Int.toNat_natCast]; omega)]
    show some (l.take i++(l.take l.length).drop (Int.toNat (j:Int)))=_
    rw[Int.toNat_natCast,List.take_length,e]
   clear hk5
   refine join_g fun k7 hk7=>?_
   have kk7t:(∃h:i<l.length,l[i].1=u)→k7 (true,(l.take i,()))=some (zai l u):=by
    intro hex
    subst hk7
    show stdW.cnd true (k5 (IntKind.i64.wrap ((i:Int)+1),(l.take i,()))) _=_
    rw[cnd_y rfl,i64_s i (by omega)]
    rw[if_pos hex]at hw
    exact kk5 (i+1) (by obtain⟨h,_⟩:=hex; omega) hw.symm
   have kk7f:¬(∃h:i<l.length,l[i].1=u)→k7 (false,(l.take i,()))=some (zai l u):=by
    intro hex
    subst hk7
    show stdW.cnd false _ (k5 ((i:Int),(l.take i,())))=_
    rw[cnd_n rfl]
    rw[if_neg hex]at hw
    exact kk5 i hi hw.symm
   clear hk7
   show stdW.cnd (decide ((i:Int)<(l.length:Int))) (stdW.idx l (i:Int) _) (k7 (false,(l.take i,())))=_
   by_cases hil:i<l.length
   ·rw[cnd_lt hil,idx_w hil,nif_f,eqA]
    by_cases hu:l[i].1=u
    ·rw[decide_eq_true hu]; exact kk7t ⟨hil,hu⟩
    ·rw[decide_eq_false hu]; exact kk7f fun h=>hu h.2
   ·have:i=l.length:=by omega
    subst this
    rw[zas]
    exact kk7f fun h=>by obtain⟨h,_⟩:=h; omega
  clear hk9
  show stdW.cnd (decide (0<(([]:List zac).length:Int))) _ (k9 (l.take i,()))=_
  rw[cnd_n (by rfl)]; exact kk9
 clear hk10
 refine loop_n (N:=l.length) (by omega) (fun i (z:List AHold'×Unit)=>z.1=l.take i∧∀x∈l.take i,ltA x.1 u) (some (zai l u)) (by simp) ?_ ?_
 ·rintro⟨o,_⟩ again ⟨ho,h⟩
  simp only at ho
  subst ho
  rw[zas]
  exact kk10 l.length (Nat.le_refl _) h fun h=>by omega
 ·rintro i hi ⟨o,_⟩ ⟨ho,h⟩ again ha
  simp only at ho
  subst ho
  rw[cnd_lt hi,idx_w hi,zaa (zzc _ _)]
  by_cases hlt:ltA l[i].1 u
  ·rw[cnd_y (decide_eq_true hlt),idx_w hi]
   have hlen:(l.take i).length≤1000:=by rw[List.length_take]; omega
   show stdW.room ((l.take i).length+1) 40 (again (IntKind.i64.wrap ((i:Int)+1),(l.take i++[l[i]],())))=_
   rw[room_w (by omega) (by omega),i64_s i (by omega)]
   refine ha _ ⟨(List.take_succ_eq_append_getElem hi).symm,fun x hx=>?_⟩
   rw[List.take_succ_eq_append_getElem hi]at hx
   rcases List.mem_append.1 hx with hx|hx
   ·exact h x hx
   ·simp at hx; rw[hx]; exact hlt
  ·rw[cnd_n (decide_eq_false hlt)]
   exact kk10 i (by omega) h fun _=>hlt
theorem r_of32{s:zan}{u:AUnit'}(hp:(pu s).length≤1000000)(hh:okHs (ho s)):zcg s u=some (backR (pu s) (ho s) u):=by
 show zsf stdW s u=_
 unfold zsf
 have e1:zng s.2.2.2.2.2.2.2.2.2.2.1 u=some (getP (pu s) u):=r_get17 hp
 have e2:zjf s.2.2.2.2.2.2.2.2.2.2.2.1 u=some (lotsH (ho s) u):=r_lots26 hh.2
 have hb:∀c,c=max 0 (getP (pu s) u)→some (((u.1,(u.2.1,())),(c,(lotsH (ho s) u,()))):zaq)=some (backR (pu s) (ho s) u):=fun c h=>by subst h; rfl
 refine zmh ?_ ?_<;>
 ·rw[zaa e2]
  refine join_g fun k hk=>?_
  rw[zaa e1]
  by_cases h:0<getP (pu s) u
  ·rw[cnd_y (decide_eq_true h)]; subst hk; exact hb (getP (pu s) u) (by omega)
  ·rw[cnd_n (decide_eq_false h)]; subst hk; exact hb 0 (by omega)
theorem r_without1{s:zan}{u:AUnit'}{c:Int}{lots:List ALot'}(hp:isP (pu s)=true)(hi:isH (ho s)=true)(hf:okF (pu s))(hl:(pu s).length≤900000)(hh:okHs (ho s))(hc:c=max 0 (getP (pu s) u)):
  zel s (u,(c,(lots,())))=some (updS s (payP (pu s) [(u,(-c,()))]).1 (zai (ho s) u),(0,())):=by
 show zes stdW s (u,(c,(lots,())))=_
 unfold zes
 have hg:=yda hf u
 have hcI:I64 (-c):=by unfold I64 at *; omega
 have ew:IntKind.i64.wrap (0 - c) = -c:=by rw[IntWalk.i64_in _ (by unfold I64 at hg; omega)]; omega
 have e1:zhg s.2.2.2.2.2.2.2.2.2.2.1 [(u,(-c,()))]=some (payP (pu s) [(u,(-c,()))]):=r_pay hf (fun x hx=>by simp only[List.mem_singleton]at hx; subst hx; exact hcI) (by show (pu s).length+1≤_; omega)
 obtain⟨b0,_⟩:=yqo hp hf u c hc
 have e2:zlu s.2.2.2.2.2.2.2.2.2.2.2.1 u []=some (zai (ho s) u,(0,())):=r_hSet1 (l:=ho s) (u:=u) hh hi
 show stdW.call (zhg s.2.2.2.2.2.2.2.2.2.2.1 [(u,((IntKind.i64.wrap (0 - c)),()))]) _=_
 rw[ew,zaa e1]
 refine join_g fun k hk=>?_
 rw[cnd_y (by rw[b0]; rfl)]
 show stdW.call (zlu s.2.2.2.2.2.2.2.2.2.2.2.1 u []) _=_
 rw[zaa e2]
 subst hk
 rfl
theorem giveS_H{z:PH}(h:isH z.2.1=true)(u:AUnit'):isH (giveS z u).2.1=true:=by
 unfold giveS
 split
 ·exact h
 ·exact without_H h u
theorem give_H:∀(vs:List AUnit') {z:PH},isH z.2.1=true→isH (vs.foldl giveS z).2.1=true
 |[],_,h=>h
 |u::vs,z,h=>give_H vs (giveS_H h u)
def unitsM(id:Int)(l:List zad):List AUnit':=(l.filter (isM id)).flatMap unitsA
def zeroS:zan:=(0,([],([],([],([],([],([],([],([],([],([],([],()))))))))))))
def giveZ(s:zan)(us:List AUnit'):PH:=us.foldl giveS (pu s,ho s,[])
def giveA(s:zan)(id:Int):zan×(List zaq)×Int×Unit:=
 if isP (pu s)=true∧isH (ho s)=true then
  (updS s (giveZ s (unitsM id s.2.2.2.2.1)).1 (giveZ s (unitsM id s.2.2.2.2.1)).2.1,(giveZ s (unitsM id s.2.2.2.2.1)).2.2,(0,()))
 else (zeroS,[],(3,()))
theorem ygm(s:zan)(us:List AUnit')(u:AUnit'):giveZ s (us++[u])=giveS (giveZ s us) u:=by
 unfold giveZ; rw[List.foldl_append]; rfl
end Go.Proofs.YtbpbkmngbhgpfaaGreat

namespace Go.Proofs.YtbpbkmngbhgpfaaGreat
open Go Go.Vc Go.RowKit
theorem units_take(l:List zad)(i:Nat)(hi:i<l.length):(l.take (i+1)).flatMap unitsA=(l.take i).flatMap unitsA++unitsA l[i]:=by
 rw[List.take_succ_eq_append_getElem hi,List.flatMap_append]; simp
theorem zql{l:List zad}(h:∀a∈l,a.2.2.2.1.length≤20)(hl:l.length≤20):(l.flatMap unitsA).length≤400:=by
 have key:∀(l:List zad),(∀a∈l,a.2.2.2.1.length≤20)→(l.flatMap unitsA).length≤20*l.length:=by
  intro l
  induction l with
  |nil=>intro _; simp
  |cons a l ih=>
   intro h
   have h1:=ih fun x hx=>h x (by simp[hx])
   have h2:(unitsA a).length≤20:=by
    unfold unitsA
    split
    ·simp
    ·rw[List.length_map]; exact h a (by simp)
   rw[List.flatMap_cons,List.length_append,List.length_cons]; omega
 have:=key l h
 omega
theorem ycy{s:zan}(hp:isP (pu s)=true)(hi:isH (ho s)=true)(hf:okF (pu s))(hl:(pu s).length≤1000)(hh:okHs (ho s)){us:List AUnit'}(hu:us.length≤1000):
  isP (giveZ s us).1=true∧isH (giveZ s us).2.1=true∧okF (giveZ s us).1∧(giveZ s us).1.length≤2000∧okHs (giveZ s us).2.1∧(giveZ s us).2.2.length≤1000∧SrtA ((giveZ s us).2.1.map (·.1)):=by
 have G:=ypa us [] (ygl hp hf ⟨(of_decide_eq_true hi).2,hh.1⟩)
 rw[List.nil_append]at G
 exact⟨G.p,give_H us hi,G.f,by have:=G.lp; show (us.foldl giveS _).1.length≤_; omega,⟨G.h.2,Nat.le_trans G.lh hh.2⟩,Nat.le_trans G.len hu,G.h.1⟩
theorem r_give1{s:zan}{id:Int}(hf:okF (pu s))(hl:(pu s).length≤1000)(hh:okHs (ho s))(hA:∀a∈s.2.2.2.2.1,a.2.2.2.1.length≤20)(hAl:s.2.2.2.2.1.length≤20):zfy s id=some (giveA s id):=by
 show zjd stdW s id=_
 unfold zjd
 have hAs:okAs s.2.2.2.2.1:=⟨fun a ha=>by have:=hA a ha; omega,by omega⟩
 have e1:zlm s.2.2.2.2.2.2.2.2.2.2.1=some (isP (pu s)):=r_is (by show (pu s).length≤_; omega)
 have e2':zoe s.2.2.2.2.2.2.2.2.2.2.2.1=some (isH (ho s)):=r_his1 hh
 refine join_g fun k17 hk=>?_
 have kt:¬(isP (pu s)=true∧isH (ho s)=true)→k17 (true,())=some (giveA s id):=by
  intro hn
  subst hk
  unfold giveA
  rw[if_neg hn]; rfl
 have kf:isP (pu s)=true→isH (ho s)=true→k17 (false,())=some (giveA s id):=by
  intro hp hi
  subst hk
  unfold giveA
  rw[if_pos ⟨hp,hi⟩]
  show stdW.cnd false _ (stdW.call (zxe s.2.2.2.2.1 id) _)=_
  rw[cnd_n rfl,zaa (r_aof hAs)]
  unfold unitsM
  have hv2:∀a∈s.2.2.2.2.1.filter (isM id),a.2.2.2.1.length≤20:=fun a ha=>hA a (List.mem_filter.1 ha).1
  have hv2l:(s.2.2.2.2.1.filter (isM id)).length≤20:=Nat.le_trans (List.length_filter_le _ _) hAl
  generalize s.2.2.2.2.1.filter (isM id)=v2 at*
  have hul:=zql hv2 hv2l
  refine zlr (N:=v2.length) (by omega) (fun i=>((i:Int),zst s (giveZ s ((v2.take i).flatMap unitsA)).1 (giveZ s ((v2.take i).flatMap unitsA)).2.1 (giveZ s ((v2.take i).flatMap unitsA)).2.2)) _ rfl ?_ ?_
  ·intro again
   show stdW.cnd (decide ((v2.length:Int)<(v2.length:Int))) _ _=_
   rw[zas,List.take_length]
   rfl
  ·intro i hi2 again ha
   show stdW.cnd (decide ((i:Int)<(v2.length:Int))) _ _=_
   rw[cnd_lt hi2]
   show stdW.idx v2 (i:Int) _=_
   have hac:=hv2 _ (List.getElem_mem hi2)
   rw[idx_w hi2,zaa (r_aunits (by omega))]
   have hlt:((v2.take i).flatMap unitsA).length≤400:=zql (fun a ha=>hv2 a (List.mem_of_mem_take ha)) (by rw[List.length_take]; omega)
   rw[units_take v2 i hi2]at ha
   have hvl:(unitsA v2[i]).length≤20:=by
    unfold unitsA
    split
    ·simp
    ·rw[List.length_map]; exact hac
   generalize unitsA v2[i]=v6 at*
   generalize (v2.take i).flatMap unitsA=us at*
   refine zlr (N:=v6.length) (by omega) (fun k=>((k:Int),zsu s (giveZ s (us++v6.take k)).1 (giveZ s (us++v6.take k)).2.1 (giveZ s (us++v6.take k)).2.2 v6)) _ (by rw[List.take_zero,List.append_nil]; rfl) ?_ ?_
   ·intro again2
    show stdW.cnd (decide ((v6.length:Int)<(v6.length:Int))) _ _=_
    rw[zas,List.take_length]
    show again (IntKind.i64.wrap ((i:Int)+1),zst s (giveZ s (us++v6)).1 (giveZ s (us++v6)).2.1 (giveZ s (us++v6)).2.2)=_
    rw[i64_s i (by omega)]; exact ha
   ·intro k hk2 again2 ha2
    show stdW.cnd (decide ((k:Int)<(v6.length:Int))) _ _=_
    rw[cnd_lt hk2]
    refine join_g fun k10 hk10=>?_
    have es:us++v6.take (k+1)=(us++v6.take k)++[v6[k]]:=by rw[List.take_succ_eq_append_getElem hk2,List.append_assoc]
    have kk10:k10 (zsu s (giveS (giveZ s (us++v6.take k)) v6[k]).1 (giveS (giveZ s (us++v6.take k)) v6[k]).2.1 (giveS (giveZ s (us++v6.take k)) v6[k]).2.2 v6)=some (updS s (giveZ s (v2.flatMap unitsA)).1 (giveZ s (v2.flatMap unitsA)).2.1,(giveZ s (v2.flatMap unitsA)).2.2,(0,())):=by
     subst hk10
     rw[es,ygm]at ha2
     show again2 (IntKind.i64.wrap ((k:Int)+1),zsu s _ _ _ v6)=_
     rw[i64_s k (by omega)]; exact ha2
    clear hk10 ha2 ha
    show stdW.idx v6 (k:Int) _=_
    rw[idx_w hk2]
    show stdW.nth v6 (Int.toNat (k:Int)) _=_
    rw[nth_w hk2]
    have hlen:(us++v6.take k).length≤1000:=by rw[List.length_append,List.length_take]; omega
    obtain⟨gp,gi,gf,gl,gh,go,_⟩:=ycy hp hi hf hl hh hlen
    generalize giveZ s (us++v6.take k)=Z at*
    obtain⟨p,h,out⟩:=Z
    generalize v6[k]=u at*
    simp only at gp gi gf gl gh go
    have e3:zff (updS s p h) u=some (backR p h u):=yqj (s:=updS s p h) (by show p.length≤_; omega) gh
    show stdW.call (zff (updS s p h) u) _=_
    rw[zaa e3]
    refine join_g fun k16 hk16=>?_
    have kk16:¬(max 0 (getP p u)=0∧lotsH h u=[])→k16 (out,(v6,()))=some (updS s (giveZ s (v2.flatMap unitsA)).1 (giveZ s (v2.flatMap unitsA)).2.1,(giveZ s (v2.flatMap unitsA)).2.2,(0,())):=by
     intro hne
     subst hk16
     show stdW.call (zel (updS s p h) (u,(max 0 (getP p u),(lotsH h u,())))) _=_
     have h2:=r_without1 (s:=updS s p h) (u:=u) (c:=max 0 (getP p u)) (lots:=lotsH h u) gp gi gf (by show p.length≤_; omega) gh (show max 0 (getP p u)=max 0 (getP (pu (updS s p h)) u) from rfl)
     rw[zaa h2,cnd_n (by rfl)]
     show stdW.room (out.length+1) 48 (k10 (zsu s (payP p [(u,(-(max 0 (getP p u)),()))]).1 (zai h u) (out++[backR p h u]) v6))=_
     rw[room_w (by omega) (by omega)]
     have:giveS (p,h,out) u=((payP p [(u,(-(max 0 (getP p u)),()))]).1,zai h u,out++[backR p h u]):=by
      unfold giveS; rw[if_neg hne]
     rw[this]at kk10
     exact kk10
    clear hk16
    have skip:(max 0 (getP p u)=0∧lotsH h u=[])→k10 (zsu s p h out v6)=some (updS s (giveZ s (v2.flatMap unitsA)).1 (giveZ s (v2.flatMap unitsA)).2.1,(giveZ s (v2.flatMap unitsA)).2.2,(0,())):=by
     intro hy
     have:giveS (p,h,out) u=(p,h,out):=by unfold giveS; rw[if_pos hy]
     rw[this]at kk10
     exact kk10
    show stdW.cnd (max 0 (getP p u)==0) (stdW.cnd (((lotsH h u).length:Int)==0) (k10 (zsu s p h out v6)) (k16 (out,(v6,())))) (k16 (out,(v6,())))=_
    by_cases h1:max 0 (getP p u)=0
    ·rw[cnd_y (by simpa using h1)]
     by_cases h2:lotsH h u=[]
     ·rw[cnd_y (by rw[h2]; rfl)]; exact skip ⟨h1,h2⟩
     ·rw[cnd_n (by
       cases hl:lotsH h u with
       |nil=>exact absurd hl h2
       |cons x xs=>simp; omega)]
      exact kk16 fun hh=>h2 hh.2
    ·rw[cnd_n (by simpa using h1)]; exact kk16 fun hh=>h1 hh.1
 clear hk
 rw[zaa e1]
 cases hp:isP (pu s) with
 |false=>rw[cnd_y (by rfl)]; exact kt fun h=>by rw[hp]at h; cases h.1
 |true=>
  rw[cnd_n (by rfl),zaa e2']
  cases hi:isH (ho s) with
  |false=>exact kt fun h=>by rw[hi]at h; cases h.2
  |true=>exact kf hp hi
theorem ynt(id:Int)(l:List zad)(i:Nat)(hi:i<l.length):unitsM id (l.take (i+1))=unitsM id (l.take i)++(if isM id l[i]=true then unitsA l[i] else []):=by
 unfold unitsM
 rw[List.take_succ_eq_append_getElem hi,List.filter_append,List.flatMap_append,List.filter_cons,List.filter_nil]
 split<;>simp
theorem zvq{id:Int}{l:List zad}(h:∀a∈l,a.2.2.2.1.length≤20)(hl:l.length≤20):(unitsM id l).length≤400:=
 zql (fun a ha=>h a (List.mem_filter.1 ha).1) (Nat.le_trans (List.length_filter_le _ _) hl)
theorem r_give32{s:zan}{id:Int}(hf:okF (pu s))(hl:(pu s).length≤1000)(hh:okHs (ho s))(hA:∀a∈s.2.2.2.2.1,a.2.2.2.1.length≤20)(hAl:s.2.2.2.2.1.length≤20):zow s id=some (giveA s id):=by
 show zkp stdW s id=_
 unfold zkp
 have e1:zsl s.2.2.2.2.2.2.2.2.2.2.1=some (isP (pu s)):=r_is17 (by show (pu s).length≤_; omega)
 have e2':zyz s.2.2.2.2.2.2.2.2.2.2.2.1=some (isH (ho s)):=r_is26 hh
 refine join_g fun k49 hk=>?_
 have kt:¬(isP (pu s)=true∧isH (ho s)=true)→k49 (true,())=some (giveA s id):=by
  intro hn
  subst hk
  unfold giveA
  rw[if_neg hn]; rfl
 have kf:isP (pu s)=true→isH (ho s)=true→k49 (false,())=some (giveA s id):=by
  intro hp hi
  subst hk
  unfold giveA
  rw[if_pos ⟨hp,hi⟩]
  show stdW.cnd false _ (stdW.loop _ _)=_
  rw[cnd_n rfl]
  have hul:=zvq (id:=id) hA hAl
  generalize hac:s.2.2.2.2.1=ac at*
  refine zlr (N:=ac.length) (by omega) (fun i=>((i:Int),zst s (giveZ s (unitsM id (ac.take i))).1 (giveZ s (unitsM id (ac.take i))).2.1 (giveZ s (unitsM id (ac.take i))).2.2)) _ (by rw[←hac]; rfl) ?_ ?_
  ·intro again
   show stdW.cnd (decide ((ac.length:Int)<(s.2.2.2.2.1.length:Int))) _ _=_
   rw[hac,zas,List.take_length]
   rfl
  ·intro i hi2 again ha
   show stdW.cnd (decide ((i:Int)<(s.2.2.2.2.1.length:Int))) _ _=_
   rw[hac,cnd_lt hi2]
   refine join_g fun k5 hk5=>?_
   have kk5:k5 (zst s (giveZ s (unitsM id (ac.take (i+1)))).1 (giveZ s (unitsM id (ac.take (i+1)))).2.1 (giveZ s (unitsM id (ac.take (i+1)))).2.2)=some (updS s (giveZ s (unitsM id ac)).1 (giveZ s (unitsM id ac)).2.1,(giveZ s (unitsM id ac)).2.2,(0,())):=by
    subst hk5
    show again (IntKind.i64.wrap ((i:Int)+1),zst s _ _ _)=_
    rw[i64_s i (by omega)]; exact ha
   clear hk5 ha
   show stdW.idx s.2.2.2.2.1 (i:Int) _=_
   rw[hac,idx_w hi2]
   rw[ynt id ac i hi2]at kk5
   have hlt:(unitsM id (ac.take i)).length≤400:=zvq (fun a ha=>hA a (List.mem_of_mem_take ha)) (by rw[List.length_take]; omega)
   have hac2:=hA _ (List.getElem_mem hi2)
   by_cases hM:ac[i].2.1=id
   ·rw[cnd_n (by simp[hM])]
    have hM':isM id ac[i]=true:=decide_eq_true hM
    rw[if_pos hM']at kk5
    show stdW.idx s.2.2.2.2.1 (i:Int) _=_
    rw[hac,idx_w hi2,zaa (r_units15 (by omega))]
    have hvl:(unitsA ac[i]).length≤20:=by
     unfold unitsA
     split
     ·simp
     ·rw[List.length_map]; exact hac2
    generalize unitsA ac[i]=v6 at*
    generalize unitsM id (ac.take i)=us at*
    refine zlr (N:=v6.length) (by omega) (fun k=>((k:Int),zsu s (giveZ s (us++v6.take k)).1 (giveZ s (us++v6.take k)).2.1 (giveZ s (us++v6.take k)).2.2 v6)) _ (by rw[List.take_zero,List.append_nil]; rfl) ?_ ?_
    ·intro again2
     show stdW.cnd (decide ((v6.length:Int)<(v6.length:Int))) _ _=_
     rw[zas,List.take_length]
     exact kk5
    ·intro k hk2 again2 ha2
     show stdW.cnd (decide ((k:Int)<(v6.length:Int))) _ _=_
     rw[cnd_lt hk2]
     refine join_g fun k12 hk12=>?_
     have es:us++v6.take (k+1)=(us++v6.take k)++[v6[k]]:=by rw[List.take_succ_eq_append_getElem hk2,List.append_assoc]
     have kk12:k12 (zsu s (giveS (giveZ s (us++v6.take k)) v6[k]).1 (giveS (giveZ s (us++v6.take k)) v6[k]).2.1 (giveS (giveZ s (us++v6.take k)) v6[k]).2.2 v6)=some (updS s (giveZ s (unitsM id ac)).1 (giveZ s (unitsM id ac)).2.1,(giveZ s (unitsM id ac)).2.2,(0,())):=by
      subst hk12
      rw[es,ygm]at ha2
      show again2 (IntKind.i64.wrap ((k:Int)+1),zsu s _ _ _ v6)=_
      rw[i64_s k (by omega)]; exact ha2
     clear hk12 ha2 kk5
     show stdW.idx v6 (k:Int) _=_
     rw[idx_w hk2]
     have hlen:(us++v6.take k).length≤1000:=by rw[List.length_append,List.length_take]; omega
     obtain⟨gp,gi,gf,gl,gh,go,gs⟩:=ycy hp hi hf hl hh hlen
     generalize giveZ s (us++v6.take k)=Z at*
     obtain⟨p,h,out⟩:=Z
     simp only at gp gi gf gl gh go gs
     have hg:=yda gf v6[k]
     have e3:zcg (updS s p h) v6[k]=some (backR p h v6[k]):=r_of32 (s:=updS s p h) (by show p.length≤_; omega) gh
     have ew:IntKind.i64.wrap (0 - max 0 (getP p v6[k])) = -max 0 (getP p v6[k]):=by rw[IntWalk.i64_in _ (by unfold I64 at hg; omega)]; omega
     have e4:zfz p [(v6[k],(-max 0 (getP p v6[k]),()))]=some (payP p [(v6[k],(-max 0 (getP p v6[k]),()))]):=r_pay17 gf (fun x hx=>by simp only[List.mem_singleton]at hx; subst hx; show I64 (-max 0 (getP p v6[k])); unfold I64 at *; omega) (by show p.length+1≤_; omega)
     have e5:zcj h v6[k] []=some (zai h v6[k]):=r_with26 gs gh.2
     have fin:∀c:Bool,(c=true↔¬(max 0 (getP p v6[k])=0∧lotsH h v6[k]=[]))→stdW.cnd c (stdW.room (out.length+1) 48 (stdW.idx v6 (k:Int) fun x=>stdW.nth v6 (Int.toNat (k:Int)) fun x17=>stdW.call (zfz p [(x17,((IntKind.i64.wrap (0 - max 0 (getP p v6[k]))),()))]) fun v19=>stdW.idx v6 (k:Int) fun x20=>stdW.both (stdW.nth v6 (Int.toNat (k:Int)) fun x21=>stdW.call (zcj h x21 []) fun v22=>k12 (zsu s v19.1 v22 (out++[backR p h v6[k]]) v6)) (stdW.nth v6 (Int.toNat (k:Int)) fun x21=>stdW.call (zcj h x21 []) fun v22=>k12 (zsu s v19.1 v22 (out++[backR p h v6[k]]) v6)))) (k12 (zsu s p h out v6))=some (updS s (giveZ s (unitsM id ac)).1 (giveZ s (unitsM id ac)).2.1,(giveZ s (unitsM id ac)).2.2,(0,())):=by
      intro c hc
      cases c with
      |true=>
       have hne:=hc.1 rfl
       have:giveS (p,h,out) v6[k]=((payP p [(v6[k],(-(max 0 (getP p v6[k])),()))]).1,zai h v6[k],out++[backR p h v6[k]]):=by
        unfold giveS; rw[if_neg hne]
       rw[this]at kk12
       rw[cnd_y rfl,room_w (by omega) (by omega),idx_w hk2,nth_w hk2,ew,zaa e4,idx_w hk2,both_w,nth_w hk2,zaa e5]
       exact kk12
      |false=>
       have hy:max 0 (getP p v6[k])=0∧lotsH h v6[k]=[]:=Classical.byContradiction fun hn=>by have:=hc.2 hn; cases this
       have:giveS (p,h,out) v6[k]=(p,h,out):=by unfold giveS; rw[if_pos hy]
       rw[this]at kk12
       rw[cnd_n rfl]
       exact kk12
     have one:stdW.call (zcg (updS s p h) v6[k]) (fun v15=>
       stdW.join (fun (z16:Bool×List zaq×List AUnit'×Unit)=>stdW.cnd z16.1 (stdW.room (z16.2.1.length+((v15.1,(v15.2.1,(v15.2.2.1,())))::[]).length) 48 (stdW.idx z16.2.2.1 (k:Int) fun x17=>stdW.nth z16.2.2.1 (Int.toNat (k:Int)) fun x18=>stdW.call (zfz p ((x18,((IntKind.i64.wrap (0 - v15.2.1)),()))::[])) fun v19=>stdW.idx z16.2.2.1 (k:Int) fun x20=>stdW.both (stdW.nth z16.2.2.1 (Int.toNat (k:Int)) fun x21=>stdW.call (zcj h x21 []) fun v22=>k12 (zsu s v19.1 v22 (z16.2.1++((v15.1,(v15.2.1,(v15.2.2.1,())))::[])) z16.2.2.1)) (stdW.nth z16.2.2.1 (Int.toNat (k:Int)) fun x23=>stdW.call (zcj h x23 []) fun v24=>k12 (zsu s v19.1 v24 (z16.2.1++((v15.1,(v15.2.1,(v15.2.2.1,())))::[])) z16.2.2.1))))
        (k12 (zsu s p h z16.2.1 z16.2.2.1)))
        fun k25=>stdW.cnd (decide (0<v15.2.1)) ((k25 (true,(out,(v6,())))))
        ((k25 ((decide (0<(v15.2.2.1.length:Int))),(out,(v6,()))))))=some (updS s (giveZ s (unitsM id ac)).1 (giveZ s (unitsM id ac)).2.1,(giveZ s (unitsM id ac)).2.2,(0,())):=by
      rw[zaa e3]
      refine join_g fun k25 hk25=>?_
      have kk25:∀c:Bool,(c=true↔¬(max 0 (getP p v6[k])=0∧lotsH h v6[k]=[]))→k25 (c,(out,(v6,())))=some (updS s (giveZ s (unitsM id ac)).1 (giveZ s (unitsM id ac)).2.1,(giveZ s (unitsM id ac)).2.2,(0,())):=by
       intro c hc
       subst hk25
       exact fin c hc
      clear hk25
      show stdW.cnd (decide (0<max 0 (getP p v6[k]))) (k25 (true,(out,(v6,())))) (k25 (decide (0<((lotsH h v6[k]).length:Int)),(out,(v6,()))))=_
      by_cases h1:0<max 0 (getP p v6[k])
      ·rw[cnd_y (decide_eq_true h1)]
       exact kk25 true ⟨fun _ hh=>by omega,fun _=>rfl⟩
      ·rw[cnd_n (decide_eq_false h1)]
       refine kk25 _ ⟨fun hd hh=>?_,fun hn=>decide_eq_true ?_⟩
       ·have:=of_decide_eq_true hd
        rw[hh.2]at this
        simp at this
       ·cases hl:lotsH h v6[k]with
        |nil=>exact absurd ⟨by omega,hl⟩ hn
        |cons x xs=>simp
     refine zmh ?_ ?_
     ·show stdW.nth v6 (Int.toNat (k:Int)) _=_
      rw[nth_w hk2]
      exact zmh one one
     ·show stdW.nth v6 (Int.toNat (k:Int)) _=_
      rw[nth_w hk2]
      exact one
   ·rw[cnd_y (by simpa using hM)]
    have hM':¬isM id ac[i]=true:=fun h=>hM (of_decide_eq_true h)
    rw[if_neg hM',List.append_nil]at kk5
    exact kk5
 clear hk
 rw[zaa e1]
 cases hp:isP (pu s) with
 |false=>rw[cnd_y (by rfl)]; exact kt fun h=>by rw[hp]at h; cases h.1
 |true=>
  rw[cnd_n (by rfl),zaa e2']
  cases hi:isH (ho s) with
  |false=>exact kt fun h=>by rw[hi]at h; cases h.2
  |true=>exact kf hp hi
end Go.Proofs.YtbpbkmngbhgpfaaGreat

namespace Go.Proofs.YtbpbkmngbhgpfaaGreat
open Go Go.Vc Go.RowKit
theorem nz_w{β:Type}{b:Int}(h:b≠0)(K:Option β):stdW.nz b K=K:=nz_eq h K
theorem ykn(xs:List Int)(i:Nat)(h:i<xs.length):valB (xs.drop i)=xs[i].toNat+2*valB (xs.drop (i+1)):=by
 rw[List.drop_eq_getElem_cons h]; rfl
theorem zot(xs:List Int)(i:Nat)(h:¬i<xs.length):xs.drop i=[]:=List.drop_eq_nil_of_le (by omega)
theorem yjv{a b:List Int}(ha:bitL a)(hb:bitL b):bitL (a++b):=fun x hx=>(List.mem_append.1 hx).elim (ha x) (hb x)
theorem bit_nat{xs:List Int}(h:bitL xs)(i:Nat)(hi:i<xs.length):∃u:Nat,u≤1∧xs[i]=(u:Int):=by
 rcases h _ (List.getElem_mem hi) with e|e
 ·exact⟨0,by omega,by rw[e]; rfl⟩
 ·exact⟨1,by omega,by rw[e]; rfl⟩
theorem plus_gen{xs ys:List Int}(hx:bitL xs)(hy:bitL ys)(lx:xs.length≤1000)(ly:ys.length≤1000):
  ∃r,zem xs ys=some r∧bitL r∧valB r=valB xs+valB ys∧r.length≤max xs.length ys.length+1:=by
 show ∃r,zlf stdW xs ys=some r∧_
 unfold zlf
 refine loop_P (fun o=>∃r,o=some r∧bitL r∧valB r=valB xs+valB ys∧r.length≤max xs.length ys.length+1) (fun z=>2001 - z.2.1.toNat)
  (fun z=>∃(i c:Nat) (s:List Int),z=((c:Int),((i:Int),(s,())))∧c≤1∧bitL s∧s.length=i∧i≤max xs.length ys.length∧valB s+2 ^ i*(valB (xs.drop i)+valB (ys.drop i)+c)=valB xs+valB ys)
  ⟨0,0,[],rfl,by omega,(by intro x hx; cases hx),rfl,by omega,by simp[valB]⟩ (by show 2001 - (0:Int).toNat<_; omega) ?_
 rintro _ ⟨i,c,s,rfl,hc,hs,hsl,hi,hv⟩ again ha
 generalize hQ:(fun o:Option (List Int)=>∃r,o=some r∧bitL r∧valB r=valB xs+valB ys∧r.length≤max xs.length ys.length+1)=Q
 have ha':∀z',(∃(i c:Nat) (s:List Int),z'=((c:Int),((i:Int),(s,())))∧c≤1∧bitL s∧s.length=i∧i≤max xs.length ys.length∧valB s+2 ^ i*(valB (xs.drop i)+valB (ys.drop i)+c)=valB xs+valB ys)→2001 - z'.2.1.toNat<2001 - (i:Int).toNat→Q (again z'):=by
  intro z' h1 h2; rw[←hQ]; exact ha z' h1 h2
 have hfin:∀r,bitL r→valB r=valB xs+valB ys→r.length≤max xs.length ys.length+1→Q (some r):=by
  intro r h1 h2 h3; rw[←hQ]; exact⟨r,rfl,h1,h2,h3⟩
 refine(congrFun hQ _).mpr ?_
 clear ha hQ
 have go:∀(u v:Nat),u≤1→v≤1→(i<xs.length∨i<ys.length)→valB (xs.drop i)=u+2*valB (xs.drop (i+1))→valB (ys.drop i)=v+2*valB (ys.drop (i+1))→
   Q (stdW.nz 2 (stdW.room (s.length+[Int.tmod ((c+u+v:Nat):Int) 2].length) 1 (stdW.nz 2 (again (IntKind.u8.wrap (Int.tdiv ((c+u+v:Nat):Int) 2),(IntKind.i64.wrap ((i:Int)+1),(s++[Int.tmod ((c+u+v:Nat):Int) 2],()))))))):=by
  intro u v hu hv' hlt ex ey
  rw[nz_w (by omega),room_w (by simp; omega) (by simp; omega),nz_w (by omega),u8_half _ (by omega),zzg,zzk i (by omega)]
  refine ha' _ ⟨i+1,(c+u+v) / 2,s++[(((c+u+v) % 2:Nat):Int)],rfl,by omega,yjv hs fun x hx=>?_,by simp[hsl],by omega,?_⟩ (by show 2001 - ((i+1:Nat):Int).toNat<2001 - ((i:Nat):Int).toNat; omega)
  ·simp only[List.mem_singleton]at hx; subst hx; omega
  ·rw[←hv,zou,hsl,ex,ey,Nat.pow_succ]
   have e1:valB [(((c+u+v) % 2:Nat):Int)]=(c+u+v) % 2:=by simp only[valB]; omega
   rw[e1,Nat.add_assoc,Nat.mul_assoc,←Nat.mul_add]
   congr 2; omega
 refine zwu (Q:=Q) fun k10 hk10=>?_
 have step10:(i<xs.length∨i<ys.length)→Q (k10 (s,())):=by
  intro hlt
  subst hk10
  refine zwu (Q:=Q) fun k8 hk8=>?_
  have step8:∀u:Nat,u≤1→valB (xs.drop i)=u+2*valB (xs.drop (i+1))→Q (k8 (((c+u:Nat):Int),(s,()))):=by
   intro u hu ex
   subst hk8
   refine zwu (Q:=Q) fun k6 hk6=>?_
   have step6:∀v:Nat,v≤1→valB (ys.drop i)=v+2*valB (ys.drop (i+1))→Q (k6 (((c+u+v:Nat):Int),(s,()))):=by
    intro v hv' ey
    subst hk6
    exact go u v hu hv' hlt ex ey
   clear hk6
   show Q (stdW.cnd (decide ((i:Int)<(ys.length:Int))) (stdW.idx ys (i:Int) fun x7=>k6 (IntKind.u8.wrap (((c+u:Nat):Int)+x7),(s,()))) (k6 (((c+u:Nat):Int),(s,()))))
   by_cases h2:i<ys.length
   ·obtain⟨v,hv',ev⟩:=bit_nat hy i h2
    have ey:=ykn ys i h2
    rw[ev,Int.toNat_natCast]at ey
    rw[cnd_lt h2,idx_w h2,ev,u8_add _ _ (by omega)]
    exact step6 v hv' ey
   ·rw[cnd_n (decide_eq_false (by omega))]
    exact step6 0 (by omega) (by rw[zot ys i h2,zot ys (i+1) (by omega)]; rfl)
  clear hk8
  show Q (stdW.cnd (decide ((i:Int)<(xs.length:Int))) (stdW.idx xs (i:Int) fun x9=>k8 (IntKind.u8.wrap ((c:Int)+x9),(s,()))) (k8 ((c:Int),(s,()))))
  by_cases h1:i<xs.length
  ·obtain⟨u,hu,eu⟩:=bit_nat hx i h1
   have ex:=ykn xs i h1
   rw[eu,Int.toNat_natCast]at ex
   rw[cnd_lt h1,idx_w h1,eu,u8_add _ _ (by omega)]
   exact step8 u hu ex
  ·rw[cnd_n (decide_eq_false (by omega))]
   exact step8 0 (by omega) (by rw[zot xs i h1,zot xs (i+1) (by omega)]; rfl)
 clear hk10
 show Q (stdW.cnd (decide ((i:Int)<(xs.length:Int))) (k10 (s,())) (stdW.cnd (decide ((i:Int)<(ys.length:Int))) (k10 (s,())) (stdW.join (fun (z11:List (Int)×Unit)=>some z11.1) fun k12=>stdW.cnd (decide (0<(c:Int))) (stdW.room (s.length+((c:Int)::[]).length) 1 ((k12 ((s++((c:Int)::[])),())))) (k12 (s,())))))
 by_cases h1:i<xs.length
 ·rw[cnd_lt h1]; exact step10 (.inl h1)
 rw[cnd_n (decide_eq_false (by omega))]
 by_cases h2:i<ys.length
 ·rw[cnd_lt h2]; exact step10 (.inr h2)
 rw[cnd_n (decide_eq_false (by omega)),join_w]
 rw[zot xs i h1,zot ys i h2]at hv
 by_cases h3:c=0
 ·subst h3
  rw[cnd_n (by decide)]
  exact hfin s hs (by rw[←hv]; simp[valB]) (by omega)
 ·have:c=1:=by omega
  subst this
  rw[cnd_y (by decide),room_w (by simp; omega) (by simp; omega)]
  refine hfin _ (yjv hs (by intro x hx; simp only[List.mem_singleton]at hx; subst hx; exact .inr rfl)) ?_ (by simp; omega)
  rw[←hv,zou,hsl]; simp[valB]
theorem valB_zeros(n:Nat)(a:List Int):valB (List.replicate n (0:Int)++a)=2 ^ n*valB a:=by
 have:∀n:Nat,valB (List.replicate n (0:Int))=0:=by
  intro n; induction n with
  |zero=>rfl
  |succ n ih=>rw[List.replicate_succ,valB,ih]; rfl
 rw[zou,this,List.length_replicate,Nat.zero_add]
theorem bit_eq{xs:List Int}(h:bitL xs)(i:Nat)(hi:i<xs.length):(xs[i]=1∧xs[i].toNat=1)∨(xs[i]=0∧xs[i].toNat=0):=by
 rcases h _ (List.getElem_mem hi) with e|e
 ·exact .inr ⟨e,by rw[e]; rfl⟩
 ·exact .inl ⟨e,by rw[e]; rfl⟩
theorem r_mul{x y:BigT}(hx:bitL x.2.1)(hy:bitL y.2.1)(lx:x.2.1.length≤300)(ly:y.2.1.length≤300):zgc x y=some (bigS (x.1 != y.1) (valB x.2.1*valB y.2.1)):=by
 show zpi stdW x y=_
 unfold zpi
 rw[room_w (by omega) (by omega)]
 refine(zev (fun z=>y.2.1.length+1 - z.2.2.1.toNat) (fun z=>∃(i:Nat) (s:List Int),z=(s,(List.replicate i (0:Int)++x.2.1,((i:Int),())))∧i≤y.2.1.length∧bitL s∧s.length≤x.2.1.length+i∧valB s=valB x.2.1*valB (y.2.1.take i))
  (fun _=>some (bigS (x.1 != y.1) (valB x.2.1*valB y.2.1))) ⟨0,[],rfl,by omega,(by intro x hx; cases hx),by simp,by simp[valB]⟩ (by show y.2.1.length+1 - (0:Int).toNat<_; omega) ?_)
 rintro _ ⟨i,s,rfl,hi,hs,hsl,hv⟩ again ha
 have hz:bitL (List.replicate i (0:Int)++x.2.1):=yjv (fun x hx=>.inl (List.mem_replicate.1 hx).2) hx
 have hzl:(List.replicate i (0:Int)++x.2.1).length=i+x.2.1.length:=by simp
 by_cases h:i<y.2.1.length
 ·show stdW.cnd (decide ((i:Int)<(y.2.1.length:Int))) (stdW.join (fun (z3:List (Int)×Unit)=>stdW.room [(0:Int)].length 1 (stdW.room ([(0:Int)].length+(List.replicate i (0:Int)++x.2.1).length) 1 (again (z3.1,([(0:Int)]++(List.replicate i (0:Int)++x.2.1),(IntKind.i64.wrap ((i:Int)+1),())))))) _) _=_
  rw[cnd_lt h]
  refine join_g fun k hk=>?_
  have kk:∀v:List Int,bitL v→v.length≤x.2.1.length+(i+1)→valB v=valB x.2.1*valB (y.2.1.take (i+1))→k (v,())=some (bigS (x.1 != y.1) (valB x.2.1*valB y.2.1)):=by
   intro v h1 h2 h3
   subst hk
   show stdW.room [(0:Int)].length 1 (stdW.room ([(0:Int)].length+(List.replicate i (0:Int)++x.2.1).length) 1 (again (v,([(0:Int)]++(List.replicate i (0:Int)++x.2.1),(IntKind.i64.wrap ((i:Int)+1),())))))=_
   rw[room_w (by simp) (by simp),room_w (by rw[hzl]; simp; omega) (by rw[hzl]; simp; omega),i64_s i (by omega)]
   exact ha _ ⟨i+1,v,rfl,by omega,h1,h2,h3⟩ (by show y.2.1.length+1 - ((i+1:Nat):Int).toNat<y.2.1.length+1 - ((i:Nat):Int).toNat; omega)
  clear hk ha
  show stdW.idx y.2.1 (i:Int) _=_
  rw[idx_w h]
  rw[zfo y.2.1 i h]at kk
  rcases bit_eq hy i h with ⟨e1,e2⟩|⟨e1,e2⟩
  ·rw[cnd_y (by rw[e1]; rfl)]
   obtain⟨r,hr,r1,r2,r3⟩:=plus_gen hs hz (by omega) (by rw[hzl]; omega)
   show stdW.call (zem s (List.replicate i (0:Int)++x.2.1)) _=_
   rw[zaa hr]
   refine kk r r1 (by rw[hzl]at r3; omega) ?_
   rw[r2,hv,valB_zeros,e2,Nat.mul_add,Nat.mul_one,Nat.mul_comm (valB x.2.1) (2 ^ i)]
  ·rw[cnd_n (by rw[e1]; rfl)]
   exact kk s hs (by omega) (by rw[hv,e2]; simp)
 ·have:i=y.2.1.length:=by omega
  subst this
  show stdW.cnd (decide ((y.2.1.length:Int)<(y.2.1.length:Int))) _ (stdW.call (zdt (notIf true (x.1==y.1)) s) fun v7=>some (v7.1,(v7.2.1,())))=_
  rw[zas,zaa (r_trim hs (by omega)),hv,List.take_length,nif_t]
  rfl
theorem len_of{z:Int}(h:sml z):(big z).2.1.length≤300:=Nat.le_trans (ztj h) (by decide)
theorem r_mulB{x y:Int}(hx:sml x)(hy:sml y):zgc (big x) (big y)=some (big (x*y)):=by
 rw[r_mul (zol _) (zol _) (len_of hx) (len_of hy)]
 have e:∀z:Int,valB (big z).2.1=z.natAbs:=fun z=>zha _
 rw[e,e,yjx]
 have:=ykf x y
 have e2:∀z:Int,((z.natAbs:Nat):Int)=absI z:=by intro z; unfold absI; split<;>omega
 rw[Int.natCast_mul,e2,e2]
 show some (big (if (decide (x<0) != decide (y<0))=true then _ else _))=_
 rw[this]
end Go.Proofs.YtbpbkmngbhgpfaaGreat

namespace Go.Proofs.YtbpbkmngbhgpfaaGreat
open Go Go.Vc Go.RowKit
theorem ex_cnd{β:Type}{c:Bool}{a b:Option β}(ha:∃r,a=some r)(hb:∃r,b=some r):∃r,stdW.cnd c a b=some r:=by
 cases c
 ·exact hb
 ·exact ha
theorem r_is15{a:zad}(hm:a.2.2.2.1.length≤1000000):∃b,zzb a=some b:=by
 show ∃b,zsp stdW a=some b
 unfold zsp
 refine zwu (Q:=fun o=>∃b,o=some b) fun k12 hk12=>?_
 have kb12:∀c,∃b,k12 (c,())=some b:=by
  intro c
  subst hk12
  show ∃b,stdW.cnd c (some false) _=some b
  refine ex_cnd ⟨_,rfl⟩ ?_
  refine zwu (Q:=fun o=>∃b,o=some b) fun k11 hk11=>?_
  have kb11:∀c,∃b,k11 (c,())=some b:=by
   intro c
   subst hk11
   show ∃b,stdW.cnd c (some false) _=some b
   refine ex_cnd ⟨_,rfl⟩ ?_
   refine loop_P (fun o=>∃b,o=some b) (fun z=>a.2.2.2.1.length+1 - z.1.toNat) (fun z=>∃j:Nat,j≤a.2.2.2.1.length∧z=((j:Int),())) ⟨0,Nat.zero_le _,rfl⟩ (by show _ - (0:Int).toNat<_; omega) ?_
   rintro _ ⟨j,hj,rfl⟩ again ha
   show ∃b,stdW.cnd (decide ((j:Int)<(a.2.2.2.1.length:Int))) _ _=some b
   by_cases h:j<a.2.2.2.1.length
   ·rw[cnd_lt h]
    refine zwu (Q:=fun o=>∃b,o=some b) fun k6 hk6=>?_
    have kb6:∀c,∃b,k6 (c,())=some b:=by
     intro c
     subst hk6
     show ∃b,stdW.cnd c (some false) (again (IntKind.i64.wrap ((j:Int)+1),()))=some b
     refine ex_cnd ⟨_,rfl⟩ ?_
     rw[i64_s j (by omega)]
     exact ha _ ⟨j+1,by omega,rfl⟩ (by show _ - ((j+1:Nat):Int).toNat<_ - ((j:Nat):Int).toNat; omega)
    clear hk6 ha
    show ∃b,stdW.idx a.2.2.2.1 (j:Int) _=some b
    rw[idx_w h]
    refine ex_cnd (kb6 _) ?_
    show ∃b,stdW.idx a.2.2.2.1 (j:Int) _=some b
    rw[idx_w h]
    refine ex_cnd (kb6 _) ?_
    show ∃b,stdW.cnd (decide (0<(j:Int))) (stdW.idx a.2.2.2.1 (j:Int) fun x9=>stdW.idx a.2.2.2.1 (IntKind.i64.wrap ((j:Int) - 1)) _) _=some b
    by_cases h0:0<j
    ·rw[cnd_y (decide_eq_true (by omega)),idx_w h,zfq j h0 (by rw[zay]; omega),idx_w (by omega)]
     exact kb6 _
    ·rw[cnd_n (decide_eq_false (by omega))]; exact kb6 _
   ·have:j=a.2.2.2.1.length:=by omega
    subst this
    rw[zas]; exact⟨_,rfl⟩
  clear hk11
  repeat' (first|exact kb11 _|refine ex_cnd ?_ ?_)
 clear hk12
 repeat' (first|exact kb12 _|refine ex_cnd ?_ ?_)
theorem r_find15{l:List zad}{id:Int}(hl:l.length≤1000000):∃x b,zwb l id=some (x,(b,()))∧(b=false→∀a∈l,a.1≠id):=by
 show ∃x b,zkz stdW l id=some (x,(b,()))∧_
 unfold zkz
 refine loop_P (fun o=>∃(x:zad) (b:Bool),o=some (x,(b,()))∧(b=false→∀a∈l,a.1≠id)) (fun z=>l.length+1 - z.1.toNat) (fun z=>∃j:Nat,j≤l.length∧z=((j:Int),())∧∀a∈l.take j,a.1≠id) ⟨0,Nat.zero_le _,rfl,by simp⟩ (by show _ - (0:Int).toNat<_; omega) ?_
 rintro _ ⟨j,hj,rfl,hp⟩ again ha
 show ∃x b,stdW.cnd (decide ((j:Int)<(l.length:Int))) _ _=some (x,(b,()))∧_
 by_cases h:j<l.length
 ·rw[cnd_lt h]
  show ∃x b,stdW.idx l (j:Int) _=some (x,(b,()))∧_
  rw[idx_w h]
  by_cases hi:l[j].1=id
  ·rw[cnd_y (by simpa using hi)]
   show ∃x b,stdW.idx l (j:Int) _=some (x,(b,()))∧_
   rw[idx_w h]
   exact⟨_,true,rfl,fun h=>by cases h⟩
  ·rw[cnd_n (by simpa using hi)]
   show ∃x b,again (IntKind.i64.wrap ((j:Int)+1),())=some (x,(b,()))∧_
   rw[i64_s j (by omega)]
   refine ha _ ⟨j+1,by omega,rfl,fun a hm=>?_⟩ (by show _ - ((j+1:Nat):Int).toNat<_ - ((j:Nat):Int).toNat; omega)
   rw[List.take_succ_eq_append_getElem h]at hm
   rcases List.mem_append.1 hm with hm|hm
   ·exact hp a hm
   ·simp only[List.mem_singleton]at hm; subst hm; exact hi
 ·have:j=l.length:=by omega
  subst this
  rw[List.take_length]at hp
  rw[zas]; exact⟨_,false,rfl,fun _=>hp⟩
theorem r_put15{l:List zad}{i:zad}(hl:l.length≤1000)(hm:i.2.2.2.1.length≤1000000):∃r e,zso l i=some (r,(e,()))∧(e=0→(∀x∈r,x∈l∨x=i)∧r.length≤l.length+1∧((l.map (·.1)).Nodup→(r.map (·.1)).Nodup)):=by
 show ∃r e,zpf stdW l i=some (r,(e,()))∧_
 unfold zpf
 obtain⟨b,hb⟩:=r_is15 hm
 have e0:zzb (i.1,(i.2.1,(i.2.2.1,(i.2.2.2.1,()))))=some b:=hb
 rw[zaa e0]
 cases b with
 |false=>rw[cnd_y (by decide)]; exact⟨[],2,rfl,by simp⟩
 |true=>
  obtain⟨x,bf,hf,hno⟩:=r_find15 (l:=l) (id:=i.1) (by omega)
  rw[cnd_n (by decide),zaa hf]
  cases bf with
  |true=>
   rw[cnd_y (by rfl)]; exact⟨[],12,rfl,by simp⟩
  |false=>
   have hno:=hno rfl
   rw[cnd_n (by rfl),join_w]
   refine loop_P (fun o=>∃(r:List zad) (e:Int),o=some (r,(e,()))∧(e=0→(∀x∈r,x∈l∨x=i)∧r.length≤l.length+1∧((l.map (·.1)).Nodup→(r.map (·.1)).Nodup))) (fun z=>l.length+1 - z.1.toNat) (fun z=>∃j:Nat,j≤l.length∧z=((j:Int),())) ⟨0,Nat.zero_le _,rfl⟩ (by show _ - (0:Int).toNat<_; omega) ?_
   rintro _ ⟨j,hj,rfl⟩ again ha
   have fin:∃(r:List zad) (e:Int),stdW.bnd (j:Int) l.length (fun h4=>stdW.room (l.take h4).length 48 (stdW.room ((l.take h4).length+((i.1,(i.2.1,(i.2.2.1,(i.2.2.2.1,()))))::([]:List zad)).length) 48 (stdW.bnd (j:Int) l.length fun h5=>stdW.room (((l.take h4)++((i.1,(i.2.1,(i.2.2.1,(i.2.2.2.1,()))))::([]:List zad))).length+((l.take l.length).drop h5).length) 48 (some (((l.take h4)++((i.1,(i.2.1,(i.2.2.1,(i.2.2.2.1,()))))::([]:List zad))++((l.take l.length).drop h5)),(0,()))))))=some (r,(e,()))∧(e=0→(∀x∈r,x∈l∨x=i)∧r.length≤l.length+1∧((l.map (·.1)).Nodup→(r.map (·.1)).Nodup)):=by
    rw[bnd_w (by omega) (by omega),Int.toNat_natCast]
    have l1:(l.take j).length≤1000:=by rw[List.length_take]; omega
    rw[room_w (by omega) (by omega),room_w (by simp only[List.length_cons,List.length_nil]; omega) (by simp only[List.length_cons,List.length_nil]; omega),bnd_w (by omega) (by omega),Int.toNat_natCast,List.take_length,
     room_w (by simp only[List.length_append,List.length_drop,List.length_cons,List.length_nil]; omega) (by simp only[List.length_append,List.length_drop,List.length_cons,List.length_nil]; omega)]
    refine⟨_,_,rfl,fun _=>⟨fun x hx=>?_,by simp only[List.length_append,List.length_drop,List.length_cons,List.length_nil,List.length_take]; omega,fun hnd=>?_⟩⟩
    ·rcases List.mem_append.1 hx with hx|hx
     ·rcases List.mem_append.1 hx with hx|hx
      ·exact .inl (List.mem_of_mem_take hx)
      ·simp only[List.mem_singleton]at hx
       exact .inr hx
     ·exact .inl (List.mem_of_mem_drop hx)
    ·have hp:(l.take j++[i]++l.drop j).Perm (i::l):=by
      have h1:(l.take j++[i]++l.drop j).Perm (i::(l.take j++l.drop j)):=by
       rw[List.append_assoc]; exact List.perm_middle
      rwa [List.take_append_drop]at h1
     have h2:=(hp.map (fun x:zad=>x.1)).nodup_iff.2 (List.nodup_cons.2 ⟨fun hm=>by
      obtain⟨a,ha,e⟩:=List.mem_map.1 hm
      exact hno a ha e,hnd⟩)
     exact h2
   show ∃r e,stdW.cnd (decide ((j:Int)<(l.length:Int))) _ _=_∧_
   by_cases h:j<l.length
   ·rw[cnd_lt h]
    show ∃r e,stdW.idx l (j:Int) _=_∧_
    rw[idx_w h]
    by_cases h1:l[j].1<i.1
    ·rw[cnd_y (decide_eq_true h1)]
     show ∃r e,again (IntKind.i64.wrap ((j:Int)+1),())=_∧_
     rw[i64_s j (by omega)]
     exact ha _ ⟨j+1,by omega,rfl⟩ (by show _ - ((j+1:Nat):Int).toNat<_ - ((j:Nat):Int).toNat; omega)
    ·rw[cnd_n (decide_eq_false h1)]; exact fin
   ·have:j=l.length:=by omega
    subst this
    rw[zas]; exact fin
def okTab(l t:List zad):Prop:=(∀x∈t,x∈l)∧t.length≤20∧(t.map (·.1)).Nodup
theorem r_table15{l:List zad}(hm:∀i∈l,i.2.2.2.1.length≤1000000)(hl:l.length≤1000):∃t,zkx l=some t∧okTab l t:=by
 show ∃t,zih stdW l=some t∧okTab l t
 unfold zih
 rw[join_w]
 refine loop_P (fun o=>∃t,o=some t∧okTab l t) (fun z=>l.length+1 - z.2.1.toNat) (fun z=>∃(j:Nat) (acc:List zad),j≤l.length∧j≤20∧acc.length≤j∧(∀x∈acc,x∈l)∧(acc.map (·.1)).Nodup∧z=(acc,((j:Int),()))) ⟨0,[],Nat.zero_le _,Nat.zero_le _,Nat.le_refl _,by simp,by simp,rfl⟩ (by show _ - (0:Int).toNat<_; omega) ?_
 rintro _ ⟨j,acc,hj,hj10,hacc,hok,hnd,rfl⟩ again ha
 have fin:∃t,(some acc:Option (List zad))=some t∧okTab l t:=⟨acc,rfl,hok,by omega,hnd⟩
 show ∃t,stdW.cnd (decide ((j:Int)<(l.length:Int))) (stdW.cnd (decide ((j:Int)<20)) _ _) _=some t∧okTab l t
 by_cases h:j<l.length
 ·rw[cnd_lt h]
  by_cases h10:j<20
  ·rw[cnd_y (decide_eq_true (by omega)),join_w]
   show ∃t,stdW.idx l (j:Int) _=some t∧okTab l t
   rw[idx_w h]
   obtain⟨r,e,hp,hr⟩:=r_put15 (l:=acc) (i:=l[j]) (by omega) (hm _ (List.getElem_mem h))
   have nxt:∀a:List zad,a.length≤j+1→(∀x∈a,x∈l)→(a.map (·.1)).Nodup→∃t,again (a,(IntKind.i64.wrap ((j:Int)+1),()))=some t∧okTab l t:=by
    intro a h1 h2 h3
    rw[i64_s j (by omega)]
    exact ha _ ⟨j+1,a,by omega,by omega,h1,h2,h3,rfl⟩ (by show _ - ((j+1:Nat):Int).toNat<_ - ((j:Nat):Int).toNat; omega)
   show ∃t,stdW.call (zso acc l[j]) _=some t∧okTab l t
   rw[zaa hp]
   by_cases he:e=0
   ·obtain⟨h1,h2,h3⟩:=hr he
    rw[cnd_y (by simpa using he)]
    exact nxt r (by omega) (fun x hx=>(h1 x hx).elim (hok x) fun h3=>h3▸List.getElem_mem h) (h3 hnd)
   ·rw[cnd_n (by simpa using he)]
    exact nxt acc (by omega) hok hnd
  ·rw[cnd_n (decide_eq_false (by omega))]; exact fin
 ·have:j=l.length:=by omega
  subst this
  rw[zas]; exact fin
def few26(l:List AHold'):List AHold':=(l.take 10).map fun h=>((h.1,(h.2.1.take 20,())):AHold')
theorem r_few18{l:List ALot'}(hl:l.length≤9223372036854775807):ztq l=some (l.take 20):=by
 show zps stdW l=_
 unfold zps
 by_cases h:20<l.length
 ·rw[cnd_y (decide_eq_true (by omega)),bnd_w (by omega) (by omega)]; rfl
 ·rw[cnd_n (decide_eq_false (by omega)),List.take_of_length_le (by omega)]
theorem r_few26{l:List AHold'}(hl:l.length≤9223372036854775807)(hm:∀h∈l,h.2.1.length≤9223372036854775807):znz l=some (few26 l):=by
 show zpr stdW l=_
 unfold zpr
 rw[join_w]
 have hm':∀i (h:i<l.length),l[i].2.1.length≤9223372036854775807:=fun i h=>hm _ (List.getElem_mem h)
 refine(zev (fun z=>l.length+1 - z.1.toNat) (fun z=>∃j:Nat,j≤l.length∧j≤10∧z=((j:Int),(few26 (l.take j),()))) (fun _=>some (few26 l)) ⟨0,Nat.zero_le _,Nat.zero_le _,rfl⟩ (by show _ - (0:Int).toNat<_; omega) ?_)
 rintro _ ⟨j,hj,hj10,rfl⟩ again ha
 have ft:few26 (l.take j)=(l.take j).map fun h=>((h.1,(h.2.1.take 20,())):AHold'):=by
  unfold few26; rw[List.take_take,Nat.min_eq_right hj10]
 show stdW.cnd (decide ((j:Int)<(l.length:Int))) (stdW.cnd (decide ((j:Int)<10)) _ _) _=_
 by_cases h:j<l.length
 ·rw[cnd_lt h]
  by_cases h10:j<10
  ·have ft1:few26 (l.take (j+1))=few26 (l.take j)++[(l[j].1,(l[j].2.1.take 20,()))]:=by
    unfold few26; rw[List.take_take,List.take_take,Nat.min_eq_right hj10,Nat.min_eq_right (by omega),List.take_succ_eq_append_getElem h,List.map_append]; rfl
   have hlen:(few26 (l.take j)).length≤10:=by rw[ft,List.length_map,List.length_take]; omega
   rw[cnd_y (decide_eq_true (by omega))]
   show stdW.idx l (j:Int) _=_
   rw[idx_w h,idx_w h,zaa (r_few18 (hm' j h))]
   show stdW.room ((few26 (l.take j)).length+1) 40 (again (IntKind.i64.wrap ((j:Int)+1),(few26 (l.take j)++[(l[j].1,(l[j].2.1.take 20,()))],())))=_
   rw[room_w (by omega) (by omega),←ft1,i64_s j (by omega)]
   exact ha _ ⟨j+1,by omega,by omega,rfl⟩ (by show _ - ((j+1:Nat):Int).toNat<_ - ((j:Nat):Int).toNat; omega)
  ·rw[cnd_n (decide_eq_false (by omega))]
   show some (few26 (l.take j))=_
   have:j=10:=by omega
   subst this
   unfold few26; rw[List.take_take,Nat.min_self]
 ·have:j=l.length:=by omega
  subst this
  rw[zas,List.take_length]
def yht(a:zad):zad:=(a.1,(a.2.1,(a.2.2.1,(a.2.2.2.1.take 20,()))))
theorem r_short{a:zad}(hl:a.2.2.2.1.length≤9223372036854775807):zqw (a.1,(a.2.1,(a.2.2.1,(a.2.2.2.1,()))))=some (yht a):=by
 show zip stdW a=_
 unfold zip
 refine join_g fun k hk=>?_
 have kk:∀x:zad,k x=some x:=by intro x; subst hk; rfl
 clear hk
 by_cases h:20<a.2.2.2.1.length
 ·rw[cnd_y (decide_eq_true (by omega)),bnd_w (by omega) (by omega),kk]; rfl
 ·rw[cnd_n (decide_eq_false (by omega)),kk]
  unfold yht
  rw[List.take_of_length_le (by omega)]
end Go.Proofs.YtbpbkmngbhgpfaaGreat

namespace Go.Proofs.YtbpbkmngbhgpfaaGreat
open Go Go.Vc Go.RowKit
def rightX(a:zac):Prop:=(1≤a.1∧a.1≤4)∧(0≤a.2.1∧a.2.1≤2147483647)∧(0≤a.2.2.1∧a.2.2.1≤10000)
def findX:List zac→Int→zac×Bool×Unit
 |[],_=>((0,(0,(0,()))),(false,()))
 |a::l,id=>if a.1=id then (a,(true,())) else findX l id
theorem ydh{l:List zac}(h:∀a∈l,rightX a)(id:Int)(hf:(findX l id).2.1=true):rightX (findX l id).1:=by
 induction l with
 |nil=>cases hf
 |cons a l ih=>
  rw[findX]at hf ⊢
  split at hf
  ·rename_i h1; rw[if_pos h1]; exact h a (by simp)
  ·rename_i h1; rw[if_neg h1]; exact ih (fun x hx=>h x (by simp[hx])) hf
theorem r_findA{l:List zac}{id:Int}(hl:l.length≤1000000):zjz l id=some (findX l id):=by
 show zhv stdW l id=_
 unfold zhv
 refine zcp (l:=l) (by omega) (s0:=()) (fun _ _=>True) (fun l' _=>some (findX l' id)) trivial ?_ ?_
 ·rintro _ again _
  rw[zas]; rfl
 ·rintro i hi _ _ again ha
  rw[cnd_lt hi,idx_w hi]
  show _=some (findX (l[i]::l.drop (i+1)) id)
  rw[findX]
  by_cases h:l[i].1=id
  ·rw[cnd_y (by simpa using h),if_pos h]
  ·rw[cnd_n (by simpa using h),if_neg h]
   show again (IntKind.i64.wrap ((i:Int)+1),())=_
   rw[i64_s i (by omega)]
   exact ha _ trivial
theorem yll{l:List zac}{id:Int}(hl:l.length≤1000000):zph l id=some (findX l id):=by
 show zlc stdW l id=_
 unfold zlc
 refine zcp (l:=l) (by omega) (s0:=()) (fun _ _=>True) (fun l' _=>some (findX l' id)) trivial ?_ ?_
 ·rintro _ again _
  rw[zas]; rfl
 ·rintro i hi _ _ again ha
  rw[cnd_lt hi,idx_w hi]
  show _=some (findX (l[i]::l.drop (i+1)) id)
  rw[findX]
  by_cases h:l[i].1=id
  ·rw[cnd_y (by simpa using h),if_pos h,idx_w hi]
  ·rw[cnd_n (by simpa using h),if_neg h]
   show again (IntKind.i64.wrap ((i:Int)+1),())=_
   rw[i64_s i (by omega)]
   exact ha _ trivial
theorem r_priced{p:Int}(h:0≤p∧p≤2147483647):zgl p=some true:=by
 show zex stdW p=_
 unfold zex
 rw[cnd_y (decide_eq_true h.1),decide_eq_true h.2]
theorem r_checkX{a:zac}(h:rightX a):zhw a=some 0:=by
 obtain⟨h1,h2,h3⟩:=h
 show zgn stdW a=_
 unfold zgn
 refine join_g fun k hk=>?_
 have kf:k (false,())=some 0:=by subst hk; rfl
 clear hk
 rw[cnd_n (decide_eq_false (by omega)),cnd_n (decide_eq_false (by omega)),zaa (r_priced h2)]
 rw[cnd_n (by rfl)]
 by_cases h4:a.2.2.1<0
 ·omega
 ·rw[cnd_n (decide_eq_false h4),decide_eq_false (by omega)]; exact kf
theorem ykk{a q:Int}(hq:I64 q)(ha:0≤a∧a≤2147483647) : -19807040628566084398385987584≤q*a∧q*a≤19807040628566084398385987584:=by
 unfold I64 at hq
 have h1:=Int.mul_le_mul_of_nonneg_right hq.2 ha.1
 have h2:=Int.mul_le_mul_of_nonneg_right hq.1 ha.1
 omega
theorem r_product{q p:Int}(hq:I64 q)(hp:0≤p∧p≤2147483647):zho [q,p]=some (fits64 (q*p)):=by
 have hpI:I64 p:=by unfold I64; omega
 have h1:I64 1:=by unfold I64; omega
 have hw:=ykk hq hp
 show zgh stdW [q,p]=_
 unfold zgh
 refine loop_ai (N:=2) (by omega) (fun i=>if i=0 then ((1:Int),((0:Int),())) else if i=1 then (q,((1:Int),())) else (q*p,((2:Int),()))) (fun i=>i=2→I64 (q*p)) _ rfl (by omega) ?_ ?_
 ·intro h again
  show some (q*p,((0:Int),()))=_
  unfold fits64
  rw[if_pos (h rfl)]
 ·intro i hi _ again ha
  have hi':i=0∨i=1:=by omega
  rcases hi' with rfl|rfl
  ·show stdW.call (zke 1 q) _=_
   rw[zaa (r_wMul h1 hq),Int.one_mul,zaa (r_wInt (yjc hq))]
   have e:fits64 q=(q,0,()):=by unfold fits64; rw[if_pos hq]
   rw[e]
   exact ha (by omega)
  ·show stdW.call (zke q p) _=_
   rw[zaa (r_wMul hq hpI),zaa (r_wInt (by unfold In128; omega))]
   by_cases hI:I64 (q*p)
   ·have e:fits64 (q*p)=(q*p,0,()):=by unfold fits64; rw[if_pos hI]
    rw[e]at ha ⊢
    exact ha fun _=>hI
   ·have e:fits64 (q*p)=(0,7,()):=by unfold fits64; rw[if_neg hI]
    rw[e]
    rfl
theorem r_aworth{a:zac}(h:rightX a){q:Int}(hq:I64 q):zhu a q=some (fits64 (q*a.2.1)):=by
 show zgm stdW a q=_
 unfold zgm
 rw[zaa (r_checkX h),cnd_n (by rfl),zaa (r_product hq h.2.1)]
def valsF(as_:List zac):List ALot'→List Int→List Int×Int×Unit
 |[],acc=>(acc,(0,()))
 |x::l,acc=>if (findX as_ x.1).2.1=false then ([],(11,())) else if I64 (x.2.2.1*(findX as_ x.1).1.2.1) then valsF as_ l (acc++[x.2.2.1*(findX as_ x.1).1.2.1]) else ([],(7,()))
theorem r_values{as_:List zac}(has:∀a∈as_,rightX a)(hasl:as_.length≤1000){l:List ALot'}(hl:okT l):
  zbl as_ l=some ((if isL l=true then valsF as_ l [] else ([],(3,()))),()):=by
 have hll:=hl.1
 show zbk stdW as_ l=_
 unfold zbk
 rw[zaa (r_lis1 (by omega))]
 cases hL:isL l with
 |false=>rw[cnd_y (by rfl),if_neg (by decide)]
 |true=>
  rw[cnd_n (by rfl),if_pos rfl]
  refine zcp (l:=l) (by omega) (s0:=(([]:List Int),())) (fun i s=>s.1.length≤i) (fun l' s=>some (valsF as_ l' s.1,())) (by simp) ?_ ?_
  ·rintro _ again _
   rw[zas]; rfl
  ·rintro i hi ⟨acc,_⟩ hacc again ha
   simp only at hacc
   rw[cnd_lt hi,idx_w hi,zaa (r_findA (by omega))]
   show _=some (valsF as_ (l[i]::l.drop (i+1)) acc,())
   rw[valsF]
   cases hf:(findX as_ l[i].1).2.1 with
   |false=>rw[cnd_y (by rfl),if_pos rfl]
   |true=>
    have hq:=hl.2 _ (List.getElem_mem hi)
    rw[cnd_n (by rfl),if_neg (by decide),zaa (r_aworth (ydh has _ hf) hq)]
    by_cases hI:I64 (l[i].2.2.1*(findX as_ l[i].1).1.2.1)
    ·rw[if_pos hI]
     unfold fits64
     rw[if_pos hI,cnd_n (by rfl)]
     show stdW.room (acc.length+1) 8 (again (IntKind.i64.wrap ((i:Int)+1),(acc++[_],())))=_
     rw[room_w (by omega) (by omega),i64_s i (by omega)]
     exact ha (acc++[_],()) (by simp; omega)
    ·rw[if_neg hI]
     unfold fits64
     rw[if_neg hI,cnd_y (by rfl)]
def worthF(as_:List zac):List ALot'→Int→Int×Int×Unit
 |[],s=>fits64 s
 |x::l,s=>if (findX as_ x.1).2.1=false then (0,(11,())) else if I64 (x.2.2.1*(findX as_ x.1).1.2.1) then worthF as_ l (s+x.2.2.1*(findX as_ x.1).1.2.1) else (0,(7,()))
theorem yfc(as_:List zac):∀(l:List ALot') (acc:List Int),(if (valsF as_ l acc).2.1=0 then fits64 (valsF as_ l acc).1.sum else (0,(valsF as_ l acc).2))=worthF as_ l acc.sum
 |[],acc=>by rw[valsF,worthF,if_pos rfl]
 |x::l,acc=>by
  rw[valsF,worthF]
  split
  ·rw[if_neg (by decide)]
  ·split
   ·rw[yfc as_ l]; simp
   ·rw[if_neg (by decide)]
theorem vals_ok(as_:List zac):∀(l:List ALot') (acc:List Int),(∀x∈acc,I64 x)→(∀x∈(valsF as_ l acc).1,I64 x)∧(valsF as_ l acc).1.length≤acc.length+l.length
 |[],acc,h=>by rw[valsF]; exact⟨h,by simp⟩
 |x::l,acc,h=>by
  rw[valsF]
  split
  ·simp
  ·split
   ·rename_i hI
    have:=vals_ok as_ l (acc++[x.2.2.1*(findX as_ x.1).1.2.1]) (fun y hy=>by
     rcases List.mem_append.1 hy with hy|hy
     ·exact h y hy
     ·simp only[List.mem_singleton]at hy; subst hy; exact hI)
    refine⟨this.1,?_⟩
    have h2:=this.2
    rw[List.length_append,List.length_singleton]at h2
    rw[List.length_cons]; omega
   ·simp
def worthL(as_:List zac)(l:List ALot'):Int×Int×Unit:=if isL l=true then worthF as_ l 0 else (0,(3,()))
theorem r_cworth{as_:List zac}(has:∀a∈as_,rightX a)(hasl:as_.length≤1000){l:List ALot'}(hl:okT l):zhr as_ l=some (worthL as_ l):=by
 show zgj stdW as_ l=_
 unfold zgj worthL
 rw[zaa (r_values has hasl hl)]
 cases hL:isL l with
 |false=>rw[if_neg (by decide),if_neg (by decide),cnd_y (by rfl)]
 |true=>
  rw[if_pos rfl,if_pos rfl]
  obtain⟨h1,h2⟩:=vals_ok as_ l [] (by simp)
  have h3:=yfc as_ l []
  rw[show ([]:List Int).sum=0 from rfl]at h3
  rw[←h3]
  generalize valsF as_ l []=v at*
  by_cases he:v.2.1=0
  ·rw[if_pos he,cnd_n (by simpa using he),zaa (r_fSum h1 (by have:=hl.1; simp at h2; omega))]
  ·rw[if_neg he,cnd_y (by simpa using he)]
def worthR(as_:List zac)(r:zaq):Int×Int×Unit:=if (worthL as_ r.2.2.1).2.1=0 then fits64 ((worthL as_ r.2.2.1).1+r.2.1) else (0,(worthL as_ r.2.2.1).2)
theorem fits_I64(z:Int):I64 (fits64 z).1:=by
 unfold fits64
 split
 ·rename_i h; exact h
 ·show I64 0; unfold I64; omega
theorem yev(as_:List zac):∀(l:List ALot') (s:Int),I64 (worthF as_ l s).1
 |[],s=>fits_I64 s
 |x::l,s=>by
  rw[worthF]
  split
  ·show I64 0; unfold I64; omega
  ·split
   ·exact yev as_ l _
   ·show I64 0; unfold I64; omega
theorem yeu(as_:List zac)(l:List ALot'):I64 (worthL as_ l).1:=by
 unfold worthL
 split
 ·exact yev _ _ _
 ·show I64 0; unfold I64; omega
theorem r_rworth{as_:List zac}(has:∀a∈as_,rightX a)(hasl:as_.length≤1000){r:zaq}(hl:okT r.2.2.1)(hc:I64 r.2.1):zfe as_ r=some (worthR as_ r):=by
 show zhe stdW as_ r=_
 unfold zhe worthR
 have hI:=yeu as_ r.2.2.1
 rw[zaa (r_cworth has hasl hl)]
 by_cases he:(worthL as_ r.2.2.1).2.1=0
 ·rw[if_pos he,cnd_n (by simpa using he),zaa (r_fSum (l:=[(worthL as_ r.2.2.1).1,r.2.1]) (fun x hx=>by
   rcases List.mem_cons.1 hx with rfl|hx
   ·exact hI
   ·simp only[List.mem_singleton]at hx; subst hx; exact hc) (by simp))]
  simp
 ·rw[if_neg he,cnd_y (by simpa using he)]
theorem yjw(z:Int):((big z).1,((big z).2.1,()))=big z:=rfl
theorem r_worth12{a:zac}(h:rightX a){q:Int}(hq:I64 q):zej a q=some (big (q*a.2.1)):=by
 show zii stdW a q=_
 unfold zii
 have hp:I64 a.2.1:=by have:=h.2.1; unfold I64; omega
 rw[zaa (r_of hq),zaa (r_of hp),yjw,yjw,zaa (r_mulB (ycr hq) (ycr hp))]
theorem r_sum27{as_:List zac}(has:∀a∈as_,rightX a)(hasl:as_.length≤1000){l:List ALot'}(hl:okT l):yax as_ l 0 false=some (worthL as_ l):=by
 have hll:=hl.1
 show zox stdW as_ l 0 false=_
 unfold zox worthL
 rw[zaa (r_is18 (by omega))]
 cases hL:isL l with
 |false=>rw[cnd_y (by rfl),if_neg (by decide)]
 |true=>
  rw[cnd_n (by rfl),if_pos rfl,zaa (r_of (n:=0) (by unfold I64; omega))]
  refine(zcp (l:=l) (by omega) (s0:=((big 0).1,((big 0).2.1,()))) (fun i s=>∃z:Int,s=((big z).1,((big z).2.1,())) ∧ -(9223372036854775808*(i:Int))≤z∧z≤9223372036854775808*(i:Int)) (fun l' s=>some (worthF as_ l' (bv s))) ⟨0,rfl,by omega⟩ ?_ ?_).trans (by rw[show bv ((big 0).1,((big 0).2.1,()))=0 from bv_big 0])
  ·rintro _ again ⟨z,rfl,hz⟩
   have hs:sml z:=by unfold sml; omega
   rw[zas]
   show stdW.call (zca (big z)) _=some (worthF as_ [] (bv (big z)))
   rw[zaa (r_fits hs),bv_big,worthF]
   by_cases hI:I64 z
   ·rw[cnd_n (by simp[hI])]
    show stdW.call (zdg (big z)) _=_
    rw[zaa (r_int hI)]
    unfold fits64
    rw[if_pos hI]
   ·rw[cnd_y (by simp[hI])]
    unfold fits64
    rw[if_neg hI]
  ·rintro i hi _ ⟨z,rfl,hz⟩ again ha
   rw[cnd_lt hi]
   refine join_g fun k6 hk6=>?_
   have kk6:∀y:Int,-9223372036854775808≤y∧y≤9223372036854775807→k6 ((big (z+y)).1,((big (z+y)).2.1,()))=some (worthF as_ (l.drop (i+1)) (z+y)):=by
    intro y hy
    subst hk6
    show again (IntKind.i64.wrap ((i:Int)+1),((big (z+y)).1,((big (z+y)).2.1,())))=_
    rw[i64_s i (by omega)]
    have:=ha ((big (z+y)).1,((big (z+y)).2.1,())) ⟨z+y,rfl,by omega⟩
    rw[this]
    show some (worthF as_ _ (bv (big (z+y))))=_
    rw[bv_big]
   clear hk6 ha
   show stdW.idx l (i:Int) _=some (worthF as_ (l[i]::l.drop (i+1)) (bv (big z)))
   rw[idx_w hi,zaa (yll (by omega)),bv_big,worthF]
   cases hf:(findX as_ l[i].1).2.1 with
   |false=>rw[cnd_y (by rfl),if_pos rfl]
   |true=>
    have hq:=hl.2 _ (List.getElem_mem hi)
    have hr:=ydh has _ hf
    have hw:=ykk hq hr.2.1
    have hws:sml (l[i].2.2.1*(findX as_ l[i].1).1.2.1):=by unfold sml; omega
    have hs:sml z:=by unfold sml; omega
    rw[cnd_n (by rfl),if_neg (by decide),idx_w hi]
    have one:(stdW.call (zej (findX as_ l[i].1).1 l[i].2.2.1) fun v10=>stdW.call (zca (v10.1,(v10.2.1,()))) fun v11=>
      stdW.cnd (!v11) (some (0,(7,())))
       (stdW.join (fun (z12:Bool×List (Int)×Unit)=>stdW.call (zbq ((big z).1,((big z).2.1,())) (z12.1,(z12.2.1,()))) fun v13=>(k6 (v13.1,(v13.2.1,()))))
       fun k14=>stdW.cnd false (stdW.idx l (i:Int) fun x15=>stdW.call (zld (findX as_ l[i].1).1 x15.2.2.1) fun v16=>(k14 (v16.1,(v16.2.1,()))))
        ((k14 (v10.1,(v10.2.1,()))))))=some (if I64 (l[i].2.2.1*(findX as_ l[i].1).1.2.1) then worthF as_ (l.drop (i+1)) (z+l[i].2.2.1*(findX as_ l[i].1).1.2.1) else (0,(7,()))):=by
     rw[zaa (r_worth12 hr hq),yjw,zaa (r_fits hws)]
     by_cases hI:I64 (l[i].2.2.1*(findX as_ l[i].1).1.2.1)
     ·rw[if_pos hI,cnd_n (by simp[hI]),join_w,cnd_n rfl]
      show stdW.call (zbq (big z) (big (l[i].2.2.1*(findX as_ l[i].1).1.2.1))) _=_
      rw[zaa (r_addB hs hws)]
      exact kk6 _ hI
     ·rw[if_neg hI,cnd_y (by simp[hI])]
    exact zmh one one
theorem r_worth32{as_:List zac}(has:∀a∈as_,rightX a)(hasl:as_.length≤1000){r:zaq}(hl:okT r.2.2.1)(hc:I64 r.2.1):zkn as_ r=some (worthR as_ r):=by
 show zie stdW as_ r=_
 unfold zie worthR
 have hI:=yeu as_ r.2.2.1
 rw[zaa (r_sum27 has hasl hl)]
 by_cases he:(worthL as_ r.2.2.1).2.1=0
 ·rw[if_pos he,cnd_n (by simpa using he)]
  have hs:sml ((worthL as_ r.2.2.1).1+r.2.1):=by unfold I64 at hI hc; unfold sml; omega
  have e1:=r_of hI
  have e2:=r_of hc
  have e3:zbq ((big (worthL as_ r.2.2.1).1).1,((big (worthL as_ r.2.2.1).1).2.1,())) ((big r.2.1).1,((big r.2.1).2.1,()))=some (big ((worthL as_ r.2.2.1).1+r.2.1)):=r_addB (ycr hI) (ycr hc)
  have fin:(stdW.call (zca ((big ((worthL as_ r.2.2.1).1+r.2.1)).1,((big ((worthL as_ r.2.2.1).1+r.2.1)).2.1,()))) fun v5=>
    stdW.cnd (!v5) (some ((0:Int),((7:Int),())))
   (stdW.call (zdg ((big ((worthL as_ r.2.2.1).1+r.2.1)).1,((big ((worthL as_ r.2.2.1).1+r.2.1)).2.1,()))) fun v6=>some (v6,(0,()))))=some (fits64 ((worthL as_ r.2.2.1).1+r.2.1)):=by
   rw[yjw,zaa (r_fits hs)]
   unfold fits64
   by_cases hF:I64 ((worthL as_ r.2.2.1).1+r.2.1)
   ·rw[cnd_n (by simp[hF]),zaa (r_int hF),if_pos hF]
   ·rw[cnd_y (by simp[hF]),if_neg hF]
  repeat' (first|exact fin|refine zmh ?_ ?_|rw[zaa e1]|rw[zaa e2]|rw[zaa e3])
 ·rw[if_neg he,cnd_y (by simpa using he)]
end Go.Proofs.YtbpbkmngbhgpfaaGreat

namespace Go.Proofs.YtbpbkmngbhgpfaaGreat
open Go Go.Vc Go.RowKit
set_option maxRecDepth 100000
set_option synthInstance.maxSize 100000
set_option synthInstance.maxHeartbeats 0
def bothE{β:Type}[DecidableEq β](a b:Option β):Option β:=if a=b then a else none
def nilqE{β:Type}[DecidableEq β](e:Bool)(f:Bool→Option β):Option β:=bif e then bothE (f true) (f false) else f false
noncomputable def stdN(n:Nat):Wd where
 cnd:=fun c a b=>bif c then a else b
 idx:=idxF
 nth:=idxR
 bnd:=bndF
 nz:=nzF
 nn:=nnF
 room:=roomF
 str:=strF
 join:=joinF
 loop:=loopF n
 both:=bothF
 call:=Option.bind
 nilq:=nilF
 sidx:=sidxF
 next:=nextF
noncomputable def kE:Wd:=stdN 18446744073709551616
theorem stdW_e:stdW=kE:=by
 show stdN FU=stdN 18446744073709551616
 rw[FU_eq]
theorem zmi{β:Type}[DecidableEq β](a b:Option β):bothE a b=kE.both a b:=by
 show bothE a b=bothF a b
 by_cases h:a=b<;>simp[bothE,bothF,h]
theorem zpl{β:Type}[DecidableEq β](e:Bool)(f:Bool→Option β):nilqE e f=kE.nilq e f:=by
 show nilqE e f=nilF e f
 unfold nilqE nilF
 rw[show ∀a b:Option β,bothE a b=bothF a b from zmi]
noncomputable def zdo(s:List Int):Option (List Int):=
nilqE (List.isEmpty s) fun g1=>
 kE.cnd (Go.Vc.notIf false g1) (some [])
 (kE.room ((0:Nat)+s.length) 8 (some ([]++s)))
theorem znd:@zcm=@zdo:=by
 unfold zcm zce zdo; rw[stdW_e]
 simp only[zmi,zpl]
 all_goals rfl
noncomputable def yhc(a:zad):Option zad:=
kE.call (zdo a.2.2.2.1) fun v1=>some (a.1,(a.2.1,(a.2.2.1,(v1,()))))
theorem acct_own_e:@zqb=@yhc:=by
 unfold zqb zon; rw[stdW_e,znd]
 all_goals rfl
noncomputable def zuy(l:List zad):Option (List zad):=
 kE.loop (fun (z1:Int×List (Int×Int×Int×List (Int)×Unit)×Unit) again2=>
 kE.cnd (decide (z1.1<(l.length:Int))) (kE.idx l z1.1 fun x3=>kE.call (yhc (x3.1,(x3.2.1,(x3.2.2.1,(x3.2.2.2.1,()))))) fun v4=>kE.room (z1.2.1.length+((v4.1,(v4.2.1,(v4.2.2.1,(v4.2.2.2.1,()))))::[]).length) 48 ((again2 ((IntKind.i64.wrap (z1.1+1)),((z1.2.1++((v4.1,(v4.2.1,(v4.2.2.1,(v4.2.2.2.1,()))))::[])),())))))
  (some z1.2.1))
 (0,([],()))
theorem ykd:@zhx=@zuy:=by
 unfold zhx zgo; rw[stdW_e,acct_own_e]
 all_goals rfl
noncomputable def zrh(a:zad)(free10:Int):Option (Bool×(Int×Unit)):=
some ((a.2.1 != free10),(free10,()))
theorem ydu:@zoo=@zrh:=rfl
noncomputable def zbe(s:List zad)(f0_0:Int):Option (Int×(Int×Unit)):=
 kE.loop (fun (z1:Int×Int×Unit) again2=>
 kE.cnd (decide (z1.1<(s.length:Int))) (kE.idx s z1.1 fun x3=>kE.call (zrh (x3.1,(x3.2.1,(x3.2.2.1,(x3.2.2.2.1,())))) z1.2.1) fun v4=>
  kE.cnd v4.1 (some (z1.1,v4.2))
  ((again2 ((IntKind.i64.wrap (z1.1+1)),v4.2))))
  (some ((-1),z1.2)))
 (0,(f0_0,()))
theorem zcl:@zah=@zbe:=by
 unfold zah zag; rw[stdW_e,ydu]
 all_goals rfl
noncomputable def zbc(del0_0:Int)(s:List zad):Option ((List zad)×(Int×Unit)):=
kE.call (zbe s del0_0) fun v1=>
 kE.cnd (v1.1==(-1)) (some (s,v1.2))
 (
 kE.loop (fun (z2:Int×Int×Int×List (Int×Int×Int×List (Int)×Unit)×Unit) again3=>
  kE.cnd (decide (z2.2.1<(z2.2.2.2.1.length:Int))) (
  kE.join (fun (z4:Int×Int×List (Int×Int×Int×List (Int)×Unit)×Unit)=>(again3 (z4.1,((IntKind.i64.wrap (z2.2.1+1)),(z4.2.1,(z4.2.2.1,()))))))
   fun k5=>kE.idx z2.2.2.2.1 z2.2.1 fun x6=>kE.nth z2.2.2.2.1 (Int.toNat z2.2.1) fun x7=>kE.call (zrh (x7.1,(x7.2.1,(x7.2.2.1,(x7.2.2.2.1,())))) z2.2.2.1) fun v8=>
   kE.cnd (!v8.1) (kE.idx z2.2.2.2.1 z2.1 fun x9=>kE.nth z2.2.2.2.1 (Int.toNat z2.1) fun x10=>(k5 ((IntKind.i64.wrap (z2.1+1)),(v8.2.1,((List.set z2.2.2.2.1 (Int.toNat z2.1) (x7.1,(x7.2.1,(x7.2.2.1,(x7.2.2.2.1,()))))),())))))
   ((k5 (z2.1,(v8.2.1,(z2.2.2.2.1,()))))))
  (kE.bnd z2.1 z2.2.2.2.1.length fun h11=>kE.bnd (h11:Int) z2.2.2.2.1.length fun h12=>kE.bnd z2.1 ((z2.2.2.2.1.take h12)++(List.replicate (z2.2.2.2.1.length - h12) (0,(0,(0,([],())))))).length fun h13=>some ((((z2.2.2.2.1.take h12)++(List.replicate (z2.2.2.2.1.length - h12) (0,(0,(0,([],())))))).take h13),(z2.2.2.1,()))))
  (v1.1,((IntKind.i64.wrap (v1.1+1)),(v1.2.1,(s,())))))
theorem zci:@zam=@zbc:=by
 unfold zam zak; rw[stdW_e,ydu,zcl]
 all_goals rfl
noncomputable def ynk(l:List zad)(member:Int):Option (List zad):=
kE.call (zuy l) fun v1=>kE.call (zbc member v1) fun v2=>some v2.1
theorem acct_Of_e:@zxe=@ynk:=by
 unfold zxe zuz; rw[stdW_e,ykd,zci]
 all_goals rfl
noncomputable def zyo(a:zad):Option (List AUnit'):=
 kE.cnd (a.2.2.1==1) (some ((a.1,(0,()))::[]))
 (
 kE.loop (fun (z1:Int×List (Int×Int×Unit)×Unit) again2=>
  kE.cnd (decide (z1.1<(a.2.2.2.1.length:Int))) (kE.idx a.2.2.2.1 z1.1 fun x3=>kE.room (z1.2.1.length+((a.1,(x3,()))::[]).length) 16 ((again2 ((IntKind.i64.wrap (z1.1+1)),((z1.2.1++((a.1,(x3,()))::[])),())))))
  (some z1.2.1))
  (0,([],())))
theorem yni:@zka=@zyo:=by
 unfold zka zhy; rw[stdW_e]
 all_goals rfl
noncomputable def ybu(l:List AFlow')(u:AUnit'):Option Int:=
 kE.loop (fun (z1:Int×Unit) again2=>
 kE.cnd (decide (z1.1<(l.length:Int))) (kE.idx l z1.1 fun x3=>
  kE.cnd (Go.Vc.notIf false ((x3.1.1==u.1)&&(x3.1.2.1==u.2.1))) (some x3.2.1)
  ((again2 ((IntKind.i64.wrap (z1.1+1)),()))))
  (some 0))
 (0,())
theorem yog:@zjj=@ybu:=by
 unfold zjj zji; rw[stdW_e]
 all_goals rfl
noncomputable def zap(s:List zac):Option (List zac):=
nilqE (List.isEmpty s) fun g1=>
 kE.cnd (Go.Vc.notIf false g1) (some [])
 (kE.room ((0:Nat)+s.length) 24 (some ([]++s)))
theorem zde:@zal=@zap:=by
 unfold zal zba zap; rw[stdW_e]
 simp only[zmi,zpl]
 all_goals rfl
noncomputable def yct(l:List AHold')(u:AUnit'):Option (List zac):=
 kE.loop (fun (z1:Int×Unit) again2=>
 kE.cnd (decide (z1.1<(l.length:Int))) (kE.idx l z1.1 fun x3=>
  kE.cnd (Go.Vc.notIf false ((x3.1.1==u.1)&&(x3.1.2.1==u.2.1))) (kE.call (zap x3.2.1) fun v4=>some v4)
  ((again2 ((IntKind.i64.wrap (z1.1+1)),()))))
  (some []))
 (0,())
theorem yox:@zjs=@yct:=by
 unfold zjs zjr; rw[stdW_e,zde]
 all_goals rfl
noncomputable def yky(s:zan)(u:AUnit'):Option zaq:=
kE.call (ybu s.2.2.2.2.2.2.2.2.2.2.1 u) fun v1=>kE.call (yct s.2.2.2.2.2.2.2.2.2.2.2.1 u) fun v2=>some (u,((if v1>0 then v1 else 0),(v2,())))
theorem rest_Of_e:@zff=@yky:=by
 unfold zff zsd; rw[stdW_e,yox,yog]
 all_goals rfl
noncomputable def zfn(a:AUnit')(b:AUnit'):Option Bool:=
 kE.cnd (a.1 != b.1) (some (decide (a.1<b.1)))
 (some (decide (a.2.1<b.2.1)))
theorem zri:@zed=@zfn:=by
 unfold zed zkb; rw[stdW_e]
 all_goals rfl
noncomputable def zwf(l:List AFlow'):Option Bool:=
 kE.loop (fun (z1:Int×Unit) again2=>
 kE.cnd (decide (z1.1<(l.length:Int))) (kE.idx l z1.1 fun x3=>
  kE.join (fun (z4:Bool×Unit)=>
  kE.cnd z4.1 (some false)
   ((again2 ((IntKind.i64.wrap (z1.1+1)),()))))
  fun k5=>
  kE.cnd (x3.2.1==0) ((k5 (true,())))
   (
   kE.cnd (decide (0<z1.1)) (kE.idx l (IntKind.i64.wrap (z1.1 - 1)) fun x6=>kE.call (zfn x6.1 x3.1) fun v7=>(k5 ((!v7),())))
   ((k5 (false,())))))
  (some true))
 (0,())
theorem yfs:@zlm=@zwf:=by
 unfold zlm znp; rw[stdW_e,zri]
 all_goals rfl
noncomputable def zno(l:List AFlow')(u:AUnit'):Option (List Int):=
 kE.loop (fun (z1:Int×List (Int)×Unit) again2=>
 kE.cnd (decide (z1.1<(l.length:Int))) (
  kE.join (fun (z3:List (Int)×Unit)=>(again2 ((IntKind.i64.wrap (z1.1+1)),(z3.1,()))))
  fun k4=>kE.idx l z1.1 fun x5=>
  kE.cnd (Go.Vc.notIf false ((x5.1.1==u.1)&&(x5.1.2.1==u.2.1))) (kE.room (z1.2.1.length+(x5.2.1::[]).length) 8 ((k4 ((z1.2.1++(x5.2.1::[])),()))))
   ((k4 (z1.2.1,()))))
  (some z1.2.1))
 (0,([],()))
theorem ybp:@zeu=@zno:=by
 unfold zeu zeb; rw[stdW_e]
 all_goals rfl
noncomputable def zmr(n:Int):Option zaf:=
kE.nn 63 (some ((Int.fdiv n (2 ^ (Min.min (Int.toNat 63) (Go.IntKind.bits Go.IntKind.i64)))),((IntKind.u64.wrap n),())))
theorem yab:@zms=@zmr:=by
 unfold zms zrq; rw[stdW_e]
 all_goals rfl
noncomputable def zmm(w:zaf)(t0:Int)(t1:Int)(t2:Int):Option (Unit×(Int×Int×Int×Unit)):=
kE.call (add64 t2 w.2.1 0) fun v1=>kE.call (add64 (IntKind.u64.wrap t1) (IntKind.u64.wrap w.1) v1.2.1) fun v2=>kE.nn 63 (some ((),((IntKind.i64.wrap (t0+(IntKind.i64.wrap ((Int.fdiv w.1 (2 ^ (Min.min (Int.toNat 63) (Go.IntKind.bits Go.IntKind.i64))))+(IntKind.i64.wrap v2.2.1))))),((IntKind.i64.wrap v2.1),(v1.1,())))))
theorem zyq:@zdy=@zmm:=by
 unfold zdy zdl; rw[stdW_e]
 all_goals rfl
noncomputable def zro(w:zaf)(ok:Bool):Option (zaf×Int×Unit):=
 kE.cnd (!ok) (some ((0,(0,())),(7,())))
 (some (w,(0,())))
theorem yhi:@zgz=@zro:=by
 unfold zgz zfr; rw[stdW_e]
 all_goals rfl
noncomputable def zix(t0:Int)(t1:Int)(t2:Int):Option ((zaf×Int×Unit)×(Int×Int×Int×Unit)):=
kE.nn 63 (kE.call (zro (t1,(t2,())) (t0==(Int.fdiv t1 (2 ^ (Min.min (Int.toNat 63) (Go.IntKind.bits Go.IntKind.i64)))))) fun v1=>some (v1,(t0,(t1,(t2,())))))
theorem zvg:@zdk=@zix:=by
 unfold zdk zdd; rw[stdW_e,yhi]
 all_goals rfl
noncomputable def yez(l:List zaf):Option (zaf×Int×Unit):=
 kE.loop (fun (z1:Int×Int×Int×Int×Unit) again2=>
 kE.cnd (decide (z1.1<(l.length:Int))) (kE.idx l z1.1 fun x3=>kE.call (zmm x3 z1.2.1 z1.2.2.1 z1.2.2.2.1) fun v4=>(again2 ((IntKind.i64.wrap (z1.1+1)),v4.2)))
  (kE.call (zix z1.2.1 z1.2.2.1 z1.2.2.2.1) fun v5=>some v5.1))
 (0,(0,(0,(0,()))))
theorem wide_Add_e:@zos=@yez:=by
 unfold zos zmv; rw[stdW_e,zyq,zvg]
 all_goals rfl
noncomputable def zvm(w:zaf):Option (Int×Int×Unit):=
kE.call (zmr (IntKind.i64.wrap w.2.1)) fun v1=>
 kE.cnd (Go.Vc.notIf true ((v1.1==w.1)&&(v1.2.1==w.2.1))) (some (0,(7,())))
 (some ((IntKind.i64.wrap w.2.1),(0,())))
theorem yex:@zor=@zvm:=by
 unfold zor zmu; rw[stdW_e,yab]
 all_goals rfl
noncomputable def zyg(w:zaf)(e:Int):Option (Int×Int×Unit):=
 kE.cnd (e != 0) (some (0,(e,())))
 (kE.call (zvm w) fun v1=>some v1)
theorem ymv:@zju=@zyg:=by
 unfold zju zhn; rw[stdW_e,yex]
 all_goals rfl
noncomputable def zuc(l:List Int):Option (Int×Int×Unit):=
kE.nn (l.length:Int) (kE.room (Int.toNat (l.length:Int)) 16 (
 kE.loop (fun (z1:Int×List (Int×Int×Unit)×Unit) again2=>
 kE.cnd (decide (z1.1<(l.length:Int))) (kE.idx l z1.1 fun x3=>kE.call (zmr x3) fun v4=>kE.room (z1.2.1.length+(v4::[]).length) 16 ((again2 ((IntKind.i64.wrap (z1.1+1)),((z1.2.1++(v4::[])),())))))
  (kE.call (yez z1.2.1) fun v5=>kE.call (zyg v5.1 v5.2.1) fun v6=>some v6))
 (0,([],()))))
theorem ydg:@zog=@zuc:=by
 unfold zog zud; rw[stdW_e,ymv,wide_Add_e,yab]
 all_goals rfl
noncomputable def ybr(l:List AFlow')(flows:List AFlow'):Option ((List AFlow')×Int×Unit):=
kE.call (zwf l) fun v1=>
 kE.cnd (!v1) (some ([],(3,())))
 (kE.call (zra (l::(flows::[]))) fun v2=>kE.call (namedO v2) fun v3=>
 kE.loop (fun (z4:Int×List (Int×Int×Unit)×List ((Int×Int×Unit)×Int×Unit)×Unit) again5=>
  kE.cnd (decide (z4.1<(v3.length:Int))) (
  kE.join (fun (z6:List (Int×Int×Unit)×List ((Int×Int×Unit)×Int×Unit)×Unit)=>(again5 ((IntKind.i64.wrap (z4.1+1)),(z6.1,(z6.2.1,())))))
   fun k7=>kE.idx z4.2.1 z4.1 fun x8=>kE.nth z4.2.1 (Int.toNat z4.1) fun x9=>kE.call (zno v2 x9) fun v10=>kE.call (zuc v10) fun v11=>
   kE.cnd (v11.2.1 != 0) (some ([],v11.2))
   (
   kE.cnd (v11.1 != 0) (kE.room (z4.2.2.1.length+((x9,(v11.1,()))::[]).length) 24 ((k7 (z4.2.1,((z4.2.2.1++((x9,(v11.1,()))::[])),())))))
    ((k7 (z4.2.1,(z4.2.2.1,()))))))
  (some (z4.2.2.1,(0,()))))
  (0,(v3,([],()))))
theorem yof:@zhg=@ybr:=by
 unfold zhg zjh; rw[stdW_e,ydg,yfs,ybp]
 all_goals rfl
noncomputable def zya(x:zac):Option Bool:=
 kE.cnd (decide (1≤x.1)) (
 kE.cnd (decide (x.1≤4)) (
  kE.cnd (decide (0≤x.2.1)) (
  kE.cnd (decide (x.2.1≤255)) (some (decide (0<x.2.2.1)))
   (some false))
  (some false))
  (some false))
 (some false)
theorem ymb:@zjp=@zya:=by
 unfold zjp zhj; rw[stdW_e]
 all_goals rfl
noncomputable def zrb(x:Int):Option Bool:=
some (x != x)
theorem yph:@zoi=@zrb:=rfl
noncomputable def zly(x:Int)(y:Int):Option Int:=
kE.call (zrb x) fun v1=>kE.call (zrb y) fun v2=>
 kE.cnd v1 (
 kE.cnd v2 (some 0)
  (some (-1)))
 (
 kE.cnd v2 (some 1)
  (
  kE.cnd (decide (x<y)) (some (-1))
  (
  kE.cnd (decide (y<x)) (some 1)
   (some 0))))
theorem yjq:@zfk=@zly:=by
 unfold zfk zgk; rw[stdW_e,yph]
 all_goals rfl
noncomputable def yrt(vals:List Int):Option Int:=
 kE.loop (fun (z1:Int×Unit) again2=>
 kE.cnd (decide (z1.1<(vals.length:Int))) (kE.idx vals z1.1 fun x3=>
  kE.cnd (x3 != 0) (some x3)
  ((again2 ((IntKind.i64.wrap (z1.1+1)),()))))
  (some 0))
 (0,())
theorem cmp_Or_e:@cmp_Or=@yrt:=by
 unfold cmp_Or ydk; rw[stdW_e]
 all_goals rfl
noncomputable def znu(a:zac)(b:zac):Option Int:=
kE.call (zly a.1 b.1) fun v1=>kE.call (zly a.2.1 b.2.1) fun v2=>kE.call (yrt (v1::(v2::[]))) fun v3=>some v3
theorem ymc:@zgy=@znu:=by
 unfold zgy zhk; rw[stdW_e,yjq,cmp_Or_e]
 all_goals rfl
noncomputable def znv(l:List zac):Option Bool:=
 kE.loop (fun (z1:Int×Unit) again2=>
 kE.cnd (decide (z1.1<(l.length:Int))) (kE.idx l z1.1 fun x3=>
  kE.join (fun (z4:Bool×Unit)=>
  kE.cnd z4.1 (some false)
   ((again2 ((IntKind.i64.wrap (z1.1+1)),()))))
  fun k5=>kE.call (zya x3) fun v6=>
  kE.cnd (!v6) (bothE ((k5 (true,()))) ((k5 (true,()))))
   (
   kE.cnd (decide (0<z1.1)) (kE.idx l (IntKind.i64.wrap (z1.1 - 1)) fun x7=>bothE (kE.call (znu x7 x3) fun v8=>(k5 ((decide (0≤v8)),()))) (kE.call (znu x7 x3) fun v9=>(k5 ((decide (0≤v9)),()))))
   (bothE ((k5 (false,()))) ((k5 (false,()))))))
  (some (decide ((l.length:Int)≤16))))
 (0,())
theorem ycf:@znw=@znv:=by
 unfold znw ztg znv; rw[stdW_e,ymc,ymb]
 simp only[zmi,zpl]
 all_goals rfl
noncomputable def ztw(l:List AHold'):Option Bool:=
 kE.loop (fun (z1:Int×Unit) again2=>
 kE.cnd (decide (z1.1<(l.length:Int))) (kE.idx l z1.1 fun x3=>
  kE.join (fun (z4:Bool×Unit)=>
  kE.cnd z4.1 (some false)
   ((again2 ((IntKind.i64.wrap (z1.1+1)),()))))
  fun k5=>
  kE.cnd ((x3.2.1.length:Int)==0) (bothE ((k5 (true,()))) ((k5 (true,()))))
   (kE.call (znv x3.2.1) fun v6=>
   kE.cnd (!v6) (bothE ((k5 (true,()))) ((k5 (true,()))))
   (
   kE.cnd (decide (0<z1.1)) (kE.idx l (IntKind.i64.wrap (z1.1 - 1)) fun x7=>bothE (kE.call (zfn x7.1 x3.1) fun v8=>(k5 ((!v8),()))) (kE.call (zfn x7.1 x3.1) fun v9=>(k5 ((!v9),()))))
    (bothE ((k5 (false,()))) ((k5 (false,())))))))
  (some true))
 (0,())
theorem ymo:@zoe=@ztw:=by
 unfold zoe ztx ztw; rw[stdW_e,zri,ycf]
 simp only[zmi,zpl]
 all_goals rfl
noncomputable def zwx(l:List AHold')(u:AUnit')(all:List zac):Option (List AHold'):=
bothE (kE.call (zap all) fun v1=>
 kE.loop (fun (z2:Bool×Int×Int×Int×List (Int×Int×Int×Unit)×List ((Int×Int×Unit)×List (Int×Int×Int×Unit)×Unit)×Unit) again3=>
  kE.cnd (decide (z2.2.1<(l.length:Int))) (
  kE.join (fun (z4:Bool×List ((Int×Int×Unit)×List (Int×Int×Int×Unit)×Unit)×Unit)=>(again3 (z4.1,((IntKind.i64.wrap (z2.2.1+1)),(z2.2.2.1,(z2.2.2.2.1,(z2.2.2.2.2.1,(z4.2.1,()))))))))
   fun k5=>kE.idx l z2.2.1 fun x6=>
   kE.join (fun (z7:Bool×List ((Int×Int×Unit)×List (Int×Int×Int×Unit)×Unit)×Unit)=>
   kE.cnd (Go.Vc.notIf true ((x6.1.1==u.1)&&(x6.1.2.1==u.2.1))) (kE.call (zap x6.2.1) fun v8=>kE.room (z7.2.1.length+((x6.1,(v8,()))::[]).length) 40 ((k5 (z7.1,((z7.2.1++((x6.1,(v8,()))::[])),())))))
    (
    kE.cnd (!z7.1) (kE.room (z7.2.1.length+(((z2.2.2.1,(z2.2.2.2.1,())),(z2.2.2.2.2.1,()))::[]).length) 40 ((k5 (true,((z7.2.1++(((z2.2.2.1,(z2.2.2.2.1,())),(z2.2.2.2.2.1,()))::[])),())))))
    ((k5 (z7.1,(z7.2.1,()))))))
   fun k9=>
   kE.join (fun (z10:Bool×List ((Int×Int×Unit)×List (Int×Int×Int×Unit)×Unit)×Unit)=>
    kE.cnd z10.1 (kE.room (z10.2.1.length+(((z2.2.2.1,(z2.2.2.2.1,())),(z2.2.2.2.2.1,()))::[]).length) 40 ((k9 (true,((z10.2.1++(((z2.2.2.1,(z2.2.2.2.1,())),(z2.2.2.2.2.1,()))::[])),())))))
    ((k9 (z2.1,(z10.2.1,())))))
    fun k11=>
    kE.cnd (!z2.1) (kE.call (zfn u x6.1) fun v12=>(k11 (v12,(z2.2.2.2.2.2.1,()))))
    ((k11 (false,(z2.2.2.2.2.2.1,())))))
  (
  kE.join (fun (z13:List ((Int×Int×Unit)×List (Int×Int×Int×Unit)×Unit)×Unit)=>some z13.1)
   fun k14=>
   kE.cnd (!z2.1) (kE.room (z2.2.2.2.2.2.1.length+(((z2.2.2.1,(z2.2.2.2.1,())),(z2.2.2.2.2.1,()))::[]).length) 40 ((k14 ((z2.2.2.2.2.2.1++(((z2.2.2.1,(z2.2.2.2.1,())),(z2.2.2.2.2.1,()))::[])),()))))
   ((k14 (z2.2.2.2.2.2.1,())))))
  (((all.length:Int)==0),(0,(u.1,(u.2.1,(v1,([],()))))))) (kE.call (zap all) fun v15=>
 kE.loop (fun (z16:Bool×Int×Int×Int×List (Int×Int×Int×Unit)×List ((Int×Int×Unit)×List (Int×Int×Int×Unit)×Unit)×Unit) again17=>
  kE.cnd (decide (z16.2.1<(l.length:Int))) (
  kE.join (fun (z18:Bool×List ((Int×Int×Unit)×List (Int×Int×Int×Unit)×Unit)×Unit)=>(again17 (z18.1,((IntKind.i64.wrap (z16.2.1+1)),(z16.2.2.1,(z16.2.2.2.1,(z16.2.2.2.2.1,(z18.2.1,()))))))))
   fun k19=>kE.idx l z16.2.1 fun x20=>
   kE.join (fun (z21:Bool×List ((Int×Int×Unit)×List (Int×Int×Int×Unit)×Unit)×Unit)=>
   kE.cnd (Go.Vc.notIf true ((x20.1.1==u.1)&&(x20.1.2.1==u.2.1))) (kE.call (zap x20.2.1) fun v22=>kE.room (z21.2.1.length+((x20.1,(v22,()))::[]).length) 40 ((k19 (z21.1,((z21.2.1++((x20.1,(v22,()))::[])),())))))
    (
    kE.cnd (!z21.1) (kE.room (z21.2.1.length+(((z16.2.2.1,(z16.2.2.2.1,())),(z16.2.2.2.2.1,()))::[]).length) 40 ((k19 (true,((z21.2.1++(((z16.2.2.1,(z16.2.2.2.1,())),(z16.2.2.2.2.1,()))::[])),())))))
    ((k19 (z21.1,(z21.2.1,()))))))
   fun k23=>
   kE.join (fun (z24:Bool×List ((Int×Int×Unit)×List (Int×Int×Int×Unit)×Unit)×Unit)=>
    kE.cnd z24.1 (kE.room (z24.2.1.length+(((z16.2.2.1,(z16.2.2.2.1,())),(z16.2.2.2.2.1,()))::[]).length) 40 ((k23 (true,((z24.2.1++(((z16.2.2.1,(z16.2.2.2.1,())),(z16.2.2.2.2.1,()))::[])),())))))
    ((k23 (z16.1,(z24.2.1,())))))
    fun k25=>
    kE.cnd (!z16.1) (kE.call (zfn u x20.1) fun v26=>(k25 (v26,(z16.2.2.2.2.2.1,()))))
    ((k25 (false,(z16.2.2.2.2.2.1,())))))
  (
  kE.join (fun (z27:List ((Int×Int×Unit)×List (Int×Int×Int×Unit)×Unit)×Unit)=>some z27.1)
   fun k28=>
   kE.cnd (!z16.1) (kE.room (z16.2.2.2.2.2.1.length+(((z16.2.2.1,(z16.2.2.2.1,())),(z16.2.2.2.2.1,()))::[]).length) 40 ((k28 ((z16.2.2.2.2.2.1++(((z16.2.2.1,(z16.2.2.2.1,())),(z16.2.2.2.2.1,()))::[])),()))))
   ((k28 (z16.2.2.2.2.2.1,())))))
  (((all.length:Int)==0),(0,(u.1,(u.2.1,(v15,([],())))))))
theorem hold_set_e:@ztv=@zwx:=by
 unfold ztv zoc zwx; rw[stdW_e,zri,zde]
 simp only[zmi,zpl]
 all_goals rfl
noncomputable def ztu(l:List AHold')(u:AUnit')(now:List zac)(e:Int):Option ((List AHold')×Int×Unit):=
kE.call (ztw l) fun v1=>
 kE.cnd (!v1) (some ([],(3,())))
 (
 kE.cnd (e != 0) (some ([],(e,())))
  (kE.call (zwx l u now) fun v2=>some (v2,(0,()))))
theorem yjd:@zfj=@ztu:=by
 unfold zfj zgf; rw[stdW_e,ymo,hold_set_e]
 all_goals rfl
noncomputable def ygi(l:List AHold')(u:AUnit')(all:List zac):Option ((List AHold')×Int×Unit):=
 kE.join (fun (z1:Int×Unit)=>kE.call (ztu l u all z1.1) fun v2=>some (v2.1,v2.2))
 fun k3=>kE.call (znv all) fun v4=>
 kE.cnd (!v4) ((k3 (3,())))
  ((k3 (0,())))
theorem hold_Set_e:@zlu=@ygi:=by
 unfold zlu zod; rw[stdW_e,yjd,ycf]
 all_goals rfl
noncomputable def zqd(s:zan)(r:zaq):Option (zan×Int×Unit):=
kE.call (ybr s.2.2.2.2.2.2.2.2.2.2.1 ((r.1,((IntKind.i64.wrap (0 - r.2.1)),()))::[])) fun v1=>
 kE.join (fun (z2:Int×Int×List (Int×Int×Int×Int×Unit)×List (Int×Int×Int×Int×List (Int)×Unit)×List (Int×Int×Int×Unit)×List (Int×Int×Int×List (Int)×Unit)×List ((Int×Int×Unit)×(Int×Int×Unit)×Bool×Unit)×List (Int×(Int×Int×Unit)×Int×Int×Int×Unit)×List (Int×(Int×Int×Unit)×(Int×Int×Unit)×(Int×Int×Unit)×Int×Int×Int×Int×Unit)×List ((Int×Int×Unit)×List (Int×Int×Unit)×Unit)×List ((Int×Int×Unit)×List (Int×Int×Unit)×Unit)×List ((Int×Int×Unit)×List (Int×Int×Int×Unit)×Unit)×List ((Int×Int×Unit)×Int×Unit)×Unit)=>some ((z2.2.1,(z2.2.2.1,(z2.2.2.2.1,(z2.2.2.2.2.1,(z2.2.2.2.2.2.1,(z2.2.2.2.2.2.2.1,(z2.2.2.2.2.2.2.2.1,(z2.2.2.2.2.2.2.2.2.1,(z2.2.2.2.2.2.2.2.2.2.1,(z2.2.2.2.2.2.2.2.2.2.2.1,(z2.2.2.2.2.2.2.2.2.2.2.2.2.1,(z2.2.2.2.2.2.2.2.2.2.2.2.1,())))))))))))),(z2.1,())))
 fun k3=>
 kE.cnd (v1.2.1==0) (kE.call (ygi s.2.2.2.2.2.2.2.2.2.2.2.1 r.1 []) fun v4=>(k3 (v4.2.1,(s.1,(s.2.1,(s.2.2.1,(s.2.2.2.1,(s.2.2.2.2.1,(s.2.2.2.2.2.1,(s.2.2.2.2.2.2.1,(s.2.2.2.2.2.2.2.1,(s.2.2.2.2.2.2.2.2.1,(s.2.2.2.2.2.2.2.2.2.1,(v4.1,(v1.1,())))))))))))))))
  ((k3 (v1.2.1,(s.1,(s.2.1,(s.2.2.1,(s.2.2.2.1,(s.2.2.2.2.1,(s.2.2.2.2.2.1,(s.2.2.2.2.2.2.1,(s.2.2.2.2.2.2.2.1,(s.2.2.2.2.2.2.2.2.1,(s.2.2.2.2.2.2.2.2.2.1,(s.2.2.2.2.2.2.2.2.2.2.2.1,(v1.1,())))))))))))))))
theorem ydz:@zel=@zqd:=by
 unfold zel zes; rw[stdW_e,hold_Set_e,yof]
 all_goals rfl
noncomputable def yat(s:zan)(id:Int):Option (zan×(List zaq)×Int×Unit):=
 kE.join (fun (z1:Bool×Unit)=>
 kE.cnd z1.1 (some ((0,([],([],([],([],([],([],([],([],([],([],([],())))))))))))),([],(3,()))))
  (kE.call (ynk s.2.2.2.2.1 id) fun v2=>
  kE.loop (fun (z3:Int×Int×List (Int×Int×Int×Int×Unit)×List (Int×Int×Int×Int×List (Int)×Unit)×List (Int×Int×Int×Unit)×List (Int×Int×Int×List (Int)×Unit)×List ((Int×Int×Unit)×(Int×Int×Unit)×Bool×Unit)×List (Int×(Int×Int×Unit)×Int×Int×Int×Unit)×List (Int×(Int×Int×Unit)×(Int×Int×Unit)×(Int×Int×Unit)×Int×Int×Int×Int×Unit)×List ((Int×Int×Unit)×List (Int×Int×Unit)×Unit)×List ((Int×Int×Unit)×List (Int×Int×Unit)×Unit)×List ((Int×Int×Unit)×Int×Unit)×List ((Int×Int×Unit)×List (Int×Int×Int×Unit)×Unit)×List ((Int×Int×Unit)×Int×List (Int×Int×Int×Unit)×Unit)×Unit) again4=>
  kE.cnd (decide (z3.1<(v2.length:Int))) (kE.idx v2 z3.1 fun x5=>kE.call (zyo (x5.1,(x5.2.1,(x5.2.2.1,(x5.2.2.2.1,()))))) fun v6=>
   kE.loop (fun (z7:Int×Int×List (Int×Int×Int×Int×Unit)×List (Int×Int×Int×Int×List (Int)×Unit)×List (Int×Int×Int×Unit)×List (Int×Int×Int×List (Int)×Unit)×List ((Int×Int×Unit)×(Int×Int×Unit)×Bool×Unit)×List (Int×(Int×Int×Unit)×Int×Int×Int×Unit)×List (Int×(Int×Int×Unit)×(Int×Int×Unit)×(Int×Int×Unit)×Int×Int×Int×Int×Unit)×List ((Int×Int×Unit)×List (Int×Int×Unit)×Unit)×List ((Int×Int×Unit)×List (Int×Int×Unit)×Unit)×List ((Int×Int×Unit)×Int×Unit)×List ((Int×Int×Unit)×List (Int×Int×Int×Unit)×Unit)×List ((Int×Int×Unit)×Int×List (Int×Int×Int×Unit)×Unit)×List (Int×Int×Unit)×Unit) again8=>
   kE.cnd (decide (z7.1<(v6.length:Int))) (
    kE.join (fun (z9:Int×List (Int×Int×Int×Int×Unit)×List (Int×Int×Int×Int×List (Int)×Unit)×List (Int×Int×Int×Unit)×List (Int×Int×Int×List (Int)×Unit)×List ((Int×Int×Unit)×(Int×Int×Unit)×Bool×Unit)×List (Int×(Int×Int×Unit)×Int×Int×Int×Unit)×List (Int×(Int×Int×Unit)×(Int×Int×Unit)×(Int×Int×Unit)×Int×Int×Int×Int×Unit)×List ((Int×Int×Unit)×List (Int×Int×Unit)×Unit)×List ((Int×Int×Unit)×List (Int×Int×Unit)×Unit)×List ((Int×Int×Unit)×Int×Unit)×List ((Int×Int×Unit)×List (Int×Int×Int×Unit)×Unit)×List ((Int×Int×Unit)×Int×List (Int×Int×Int×Unit)×Unit)×List (Int×Int×Unit)×Unit)=>(again8 ((IntKind.i64.wrap (z7.1+1)),(z9.1,(z9.2.1,(z9.2.2.1,(z9.2.2.2.1,(z9.2.2.2.2.1,(z9.2.2.2.2.2.1,(z9.2.2.2.2.2.2.1,(z9.2.2.2.2.2.2.2.1,(z9.2.2.2.2.2.2.2.2.1,(z9.2.2.2.2.2.2.2.2.2.1,(z9.2.2.2.2.2.2.2.2.2.2.1,(z9.2.2.2.2.2.2.2.2.2.2.2.1,(z9.2.2.2.2.2.2.2.2.2.2.2.2.1,(z9.2.2.2.2.2.2.2.2.2.2.2.2.2.1,())))))))))))))))))
    fun k10=>kE.idx z7.2.2.2.2.2.2.2.2.2.2.2.2.2.2.1 z7.1 fun x11=>kE.nth z7.2.2.2.2.2.2.2.2.2.2.2.2.2.2.1 (Int.toNat z7.1) fun x12=>kE.call (yky (z7.2.1,(z7.2.2.1,(z7.2.2.2.1,(z7.2.2.2.2.1,(z7.2.2.2.2.2.1,(z7.2.2.2.2.2.2.1,(z7.2.2.2.2.2.2.2.1,(z7.2.2.2.2.2.2.2.2.1,(z7.2.2.2.2.2.2.2.2.2.1,(z7.2.2.2.2.2.2.2.2.2.2.1,(z7.2.2.2.2.2.2.2.2.2.2.2.1,(z7.2.2.2.2.2.2.2.2.2.2.2.2.1,())))))))))))) x12) fun v13=>
    kE.join (fun (z14:List ((Int×Int×Unit)×Int×List (Int×Int×Int×Unit)×Unit)×List (Int×Int×Unit)×Unit)=>kE.call (zqd (z7.2.1,(z7.2.2.1,(z7.2.2.2.1,(z7.2.2.2.2.1,(z7.2.2.2.2.2.1,(z7.2.2.2.2.2.2.1,(z7.2.2.2.2.2.2.2.1,(z7.2.2.2.2.2.2.2.2.1,(z7.2.2.2.2.2.2.2.2.2.1,(z7.2.2.2.2.2.2.2.2.2.2.1,(z7.2.2.2.2.2.2.2.2.2.2.2.1,(z7.2.2.2.2.2.2.2.2.2.2.2.2.1,())))))))))))) (v13.1,(v13.2.1,(v13.2.2.1,())))) fun v15=>
     kE.cnd (v15.2.1 != 0) (some ((0,([],([],([],([],([],([],([],([],([],([],([],())))))))))))),([],v15.2)))
     (kE.room (z14.1.length+((v13.1,(v13.2.1,(v13.2.2.1,())))::[]).length) 48 ((k10 (v15.1.1,(v15.1.2.1,(v15.1.2.2.1,(v15.1.2.2.2.1,(v15.1.2.2.2.2.1,(v15.1.2.2.2.2.2.1,(v15.1.2.2.2.2.2.2.1,(v15.1.2.2.2.2.2.2.2.1,(v15.1.2.2.2.2.2.2.2.2.1,(v15.1.2.2.2.2.2.2.2.2.2.1,(v15.1.2.2.2.2.2.2.2.2.2.2.1,(v15.1.2.2.2.2.2.2.2.2.2.2.2.1,((z14.1++((v13.1,(v13.2.1,(v13.2.2.1,())))::[])),(z14.2.1,()))))))))))))))))))
     fun k16=>
     kE.cnd (v13.2.1==0) (
     kE.cnd ((v13.2.2.1.length:Int)==0) ((k10 (z7.2.1,(z7.2.2.1,(z7.2.2.2.1,(z7.2.2.2.2.1,(z7.2.2.2.2.2.1,(z7.2.2.2.2.2.2.1,(z7.2.2.2.2.2.2.2.1,(z7.2.2.2.2.2.2.2.2.1,(z7.2.2.2.2.2.2.2.2.2.1,(z7.2.2.2.2.2.2.2.2.2.2.1,(z7.2.2.2.2.2.2.2.2.2.2.2.1,(z7.2.2.2.2.2.2.2.2.2.2.2.2.1,(z7.2.2.2.2.2.2.2.2.2.2.2.2.2.1,(z7.2.2.2.2.2.2.2.2.2.2.2.2.2.2.1,()))))))))))))))))
      ((k16 (z7.2.2.2.2.2.2.2.2.2.2.2.2.2.1,(z7.2.2.2.2.2.2.2.2.2.2.2.2.2.2.1,())))))
     ((k16 (z7.2.2.2.2.2.2.2.2.2.2.2.2.2.1,(z7.2.2.2.2.2.2.2.2.2.2.2.2.2.2.1,())))))
    ((again4 ((IntKind.i64.wrap (z3.1+1)),(z7.2.1,(z7.2.2.1,(z7.2.2.2.1,(z7.2.2.2.2.1,(z7.2.2.2.2.2.1,(z7.2.2.2.2.2.2.1,(z7.2.2.2.2.2.2.2.1,(z7.2.2.2.2.2.2.2.2.1,(z7.2.2.2.2.2.2.2.2.2.1,(z7.2.2.2.2.2.2.2.2.2.2.1,(z7.2.2.2.2.2.2.2.2.2.2.2.1,(z7.2.2.2.2.2.2.2.2.2.2.2.2.1,(z7.2.2.2.2.2.2.2.2.2.2.2.2.2.1,())))))))))))))))))
   (0,(z3.2.1,(z3.2.2.1,(z3.2.2.2.1,(z3.2.2.2.2.1,(z3.2.2.2.2.2.1,(z3.2.2.2.2.2.2.1,(z3.2.2.2.2.2.2.2.1,(z3.2.2.2.2.2.2.2.2.1,(z3.2.2.2.2.2.2.2.2.2.1,(z3.2.2.2.2.2.2.2.2.2.2.1,(z3.2.2.2.2.2.2.2.2.2.2.2.1,(z3.2.2.2.2.2.2.2.2.2.2.2.2.1,(z3.2.2.2.2.2.2.2.2.2.2.2.2.2.1,(v6,()))))))))))))))))
   (some ((z3.2.1,(z3.2.2.1,(z3.2.2.2.1,(z3.2.2.2.2.1,(z3.2.2.2.2.2.1,(z3.2.2.2.2.2.2.1,(z3.2.2.2.2.2.2.2.1,(z3.2.2.2.2.2.2.2.2.1,(z3.2.2.2.2.2.2.2.2.2.1,(z3.2.2.2.2.2.2.2.2.2.2.1,(z3.2.2.2.2.2.2.2.2.2.2.2.1,(z3.2.2.2.2.2.2.2.2.2.2.2.2.1,())))))))))))),(z3.2.2.2.2.2.2.2.2.2.2.2.2.2.1,(0,())))))
  (0,(s.1,(s.2.1,(s.2.2.1,(s.2.2.2.1,(s.2.2.2.2.1,(s.2.2.2.2.2.1,(s.2.2.2.2.2.2.1,(s.2.2.2.2.2.2.2.1,(s.2.2.2.2.2.2.2.2.1,(s.2.2.2.2.2.2.2.2.2.1,(s.2.2.2.2.2.2.2.2.2.2.1,(s.2.2.2.2.2.2.2.2.2.2.2.1,([],()))))))))))))))))
 fun k17=>kE.call (zwf s.2.2.2.2.2.2.2.2.2.2.1) fun v18=>
 kE.cnd (!v18) ((k17 (true,())))
  (kE.call (ztw s.2.2.2.2.2.2.2.2.2.2.2.1) fun v19=>(k17 ((!v19),())))
theorem ynz:@zfy=@yat:=by
 unfold zfy zjd; rw[stdW_e,acct_Of_e,yni,ymo,yfs,rest_Of_e,ydz]
 all_goals rfl
noncomputable def zym(l:List zac)(id:Int):Option (zac×Bool×Unit):=
 kE.loop (fun (z1:Int×Unit) again2=>
 kE.cnd (decide (z1.1<(l.length:Int))) (kE.idx l z1.1 fun x3=>
  kE.cnd (x3.1==id) (some (x3,(true,())))
  ((again2 ((IntKind.i64.wrap (z1.1+1)),()))))
  (some ((0,(0,(0,()))),(false,()))))
 (0,())
theorem yng:@zjz=@zym:=by
 unfold zjz zhv; rw[stdW_e]
 all_goals rfl
noncomputable def zqi(p:Int):Option Bool:=
 kE.cnd (decide (0≤p)) (some (decide (p≤2147483647)))
 (some false)
theorem yep:@zgl=@zqi:=by
 unfold zgl zex; rw[stdW_e]
 all_goals rfl
noncomputable def zuv(a:zac):Option Int:=
 kE.join (fun (z1:Bool×Unit)=>
 kE.cnd z1.1 (some 2)
  (some 0))
 fun k2=>
 kE.cnd (decide (a.1<1)) ((k2 (true,())))
  (
  kE.cnd (decide (4<a.1)) ((k2 (true,())))
  (kE.call (zqi a.2.1) fun v3=>
  kE.cnd (!v3) ((k2 (true,())))
   (
   kE.cnd (decide (a.2.2.1<0)) ((k2 (true,())))
   ((k2 ((decide (10000<a.2.2.1)),()))))))
theorem yka:@zhw=@zuv:=by
 unfold zhw zgn; rw[stdW_e,yep]
 all_goals rfl
noncomputable def zbt(w:zaf):Option Bool:=
some (decide (w.1<0))
theorem ziy:@zbn=@zbt:=rfl
noncomputable def zgp(w:zaf):Option zhz:=
kE.call (zbt w) fun v1=>
 kE.cnd (!v1) (some ((IntKind.u64.wrap w.1),w.2))
 (kE.call (sub64 0 w.2.1 0) fun v2=>kE.call (sub64 0 (IntKind.u64.wrap w.1) v2.2.1) fun v3=>some (v3.1,(v2.1,())))
theorem zyr:@zdi=@zgp:=by
 unfold zdi zdm; rw[stdW_e,ziy]
 all_goals rfl
noncomputable def zjo(x:Int)(y:Int):Option (Int×Int×Unit):=
kE.nn 32 (kE.nn 32 (kE.nn 32 (kE.nn 32 (kE.nn 32 (some ((IntKind.u64.wrap ((IntKind.u64.wrap ((IntKind.u64.wrap ((Int.fdiv x (2 ^ (Min.min (Int.toNat 32) (Go.IntKind.bits Go.IntKind.u64))))*(Int.fdiv y (2 ^ (Min.min (Int.toNat 32) (Go.IntKind.bits Go.IntKind.u64))))))+(Int.fdiv (IntKind.u64.wrap ((IntKind.u64.wrap ((Int.fdiv x (2 ^ (Min.min (Int.toNat 32) (Go.IntKind.bits Go.IntKind.u64))))*(Go.bits Go.BinOp.and Go.IntKind.u64 y 4294967295)))+(Int.fdiv (IntKind.u64.wrap ((Go.bits Go.BinOp.and Go.IntKind.u64 x 4294967295)*(Go.bits Go.BinOp.and Go.IntKind.u64 y 4294967295))) (2 ^ (Min.min (Int.toNat 32) (Go.IntKind.bits Go.IntKind.u64)))))) (2 ^ (Min.min (Int.toNat 32) (Go.IntKind.bits Go.IntKind.u64))))))+(Int.fdiv (IntKind.u64.wrap ((Go.bits Go.BinOp.and Go.IntKind.u64 (IntKind.u64.wrap ((IntKind.u64.wrap ((Int.fdiv x (2 ^ (Min.min (Int.toNat 32) (Go.IntKind.bits Go.IntKind.u64))))*(Go.bits Go.BinOp.and Go.IntKind.u64 y 4294967295)))+(Int.fdiv (IntKind.u64.wrap ((Go.bits Go.BinOp.and Go.IntKind.u64 x 4294967295)*(Go.bits Go.BinOp.and Go.IntKind.u64 y 4294967295))) (2 ^ (Min.min (Int.toNat 32) (Go.IntKind.bits Go.IntKind.u64)))))) 4294967295)+(IntKind.u64.wrap ((Go.bits Go.BinOp.and Go.IntKind.u64 x 4294967295)*(Int.fdiv y (2 ^ (Min.min (Int.toNat 32) (Go.IntKind.bits Go.IntKind.u64)))))))) (2 ^ (Min.min (Int.toNat 32) (Go.IntKind.bits Go.IntKind.u64)))))),((IntKind.u64.wrap (x*y)),())))))))
theorem zwk:@zco=@zjo:=by
 unfold zco zdh; rw[stdW_e]
 all_goals rfl
noncomputable def zct(s:zhz)(minus:Bool):Option (zaf×Bool×Unit):=
 kE.cnd (!minus) (some (((IntKind.i64.wrap s.1),s.2),((decide (s.1<9223372036854775808)),())))
 (kE.call (sub64 0 s.2.1 0) fun v1=>kE.call (sub64 0 s.1 v1.2.1) fun v2=>
 kE.cnd (decide (s.1<9223372036854775808)) (some (((IntKind.i64.wrap v2.1),(v1.1,())),(true,())))
  (
  kE.cnd (s.1==9223372036854775808) (some (((IntKind.i64.wrap v2.1),(v1.1,())),((s.2.1==0),())))
  (some (((IntKind.i64.wrap v2.1),(v1.1,())),(false,())))))
theorem zrm:@zbh=@zct:=by
 unfold zbh zez; rw[stdW_e]
 all_goals rfl
noncomputable def zvk(a:Int)(b:Int):Option zaf:=
kE.call (zmr a) fun v1=>kE.call (zmr b) fun v2=>kE.call (zgp v1) fun v3=>kE.call (zgp v2) fun v4=>kE.call (zjo v3.2.1 v4.2.1) fun v5=>bothE (kE.call (zbt v1) fun v6=>bothE (kE.call (zbt v2) fun v7=>bothE (kE.call (zct v5 (Go.Vc.notIf true (v6==v7))) fun v8=>some v8.1) (kE.call (zct v5 (Go.Vc.notIf true (v6==v7))) fun v9=>some v9.1)) (kE.call (zbt v2) fun v10=>kE.call (zct v5 (Go.Vc.notIf true (v6==v10))) fun v11=>some v11.1)) (kE.call (zbt v1) fun v12=>kE.call (zbt v2) fun v13=>kE.call (zct v5 (Go.Vc.notIf true (v12==v13))) fun v14=>some v14.1)
theorem wide_Mul_e:@zke=@zvk:=by
 unfold zke zmt zvk; rw[stdW_e,zwk,yab,ziy,zyr,zrm]
 simp only[zmi,zpl]
 all_goals rfl
noncomputable def zuf(l:List Int):Option (Int×Int×Unit):=
 kE.loop (fun (z1:Int×Int×Unit) again2=>
 kE.cnd (decide (z1.2.1<(l.length:Int))) (kE.idx l z1.2.1 fun x3=>kE.call (zvk z1.1 x3) fun v4=>kE.call (zvm v4) fun v5=>
  kE.cnd (v5.2.1 != 0) (some (0,v5.2))
  ((again2 (v5.1,((IntKind.i64.wrap (z1.2.1+1)),())))))
  (some (z1.1,(0,()))))
 (1,(0,()))
theorem yji:@zho=@zuf:=by
 unfold zho zgh; rw[stdW_e,yex,wide_Mul_e]
 all_goals rfl
noncomputable def zut(a:zac)(qty:Int):Option (Int×Int×Unit):=
kE.call (zuv a) fun v1=>
 kE.cnd (v1 != 0) (some (0,(v1,())))
 (kE.call (zuf (qty::(a.2.1::[]))) fun v2=>some v2)
theorem yjy:@zhu=@zut:=by
 unfold zhu zgm; rw[stdW_e,yka,yji]
 all_goals rfl
noncomputable def zdv(as_:List zac)(l:List zac):Option (((List Int)×Int×Unit)×(Unit)):=
kE.call (znv l) fun v1=>
 kE.cnd (!v1) (some (([],(3,())),()))
 (
 kE.loop (fun (z2:Int×List (Int)×Unit) again3=>
  kE.cnd (decide (z2.1<(l.length:Int))) (kE.idx l z2.1 fun x4=>kE.call (zym as_ x4.1) fun v5=>
  kE.cnd (!v5.2.1) (some (([],(11,())),()))
   (kE.call (zut v5.1 x4.2.2.1) fun v6=>
   kE.cnd (v6.2.1 != 0) (some (([],v6.2),()))
   (kE.room (z2.2.1.length+(v6.1::[]).length) 8 ((again3 ((IntKind.i64.wrap (z2.1+1)),((z2.2.1++(v6.1::[])),())))))))
  (some ((z2.2.1,(0,())),())))
  (0,([],())))
theorem zia:@zbl=@zdv:=by
 unfold zbl zbk; rw[stdW_e,yng,yjy,ycf]
 all_goals rfl
noncomputable def zum(as_:List zac)(l:List zac):Option (Int×Int×Unit):=
kE.call (zdv as_ l) fun v1=>
 kE.cnd (v1.1.2.1 != 0) (some (0,v1.1.2))
 (kE.call (zuc v1.1.1) fun v2=>some v2)
theorem yjp:@zhr=@zum:=by
 unfold zhr zgj; rw[stdW_e,zia,ydg]
 all_goals rfl
noncomputable def zxi(as_:List zac)(r:zaq):Option (Int×Int×Unit):=
kE.call (zum as_ r.2.2.1) fun v1=>
 kE.cnd (v1.2.1 != 0) (some (0,v1.2))
 (kE.call (zuc (v1.1::(r.2.1::[]))) fun v2=>some v2)
theorem ykx:@zfe=@zxi:=by
 unfold zfe zhe; rw[stdW_e,yjp,ydg]
 all_goals rfl
noncomputable def yja:Option Bool:=
kE.call (yat (0,([],([],([],(((1,(1,(1,([],()))))::[]),([],([],([],([],([],((((1,(0,())),(5,()))::[]),((((1,(0,())),(((1,(0,(4,())))::[]),()))::[]),())))))))))))) 1) fun v1=>
 kE.join (fun (z2:Bool×List ((Int×Int×Unit)×Int×List (Int×Int×Int×Unit)×Unit)×Unit)=>
 kE.cnd z2.1 (some false)
  (kE.idx z2.2.1 0 fun x3=>kE.nth z2.2.1 (Int.toNat 0) fun x4=>kE.call (zxi ((1,(3,(0,())))::[]) (x4.1,(x4.2.1,(x4.2.2.1,())))) fun v5=>
  kE.cnd (v5.1==17) (some (v5.2.1==0))
  (some false)))
 fun k6=>
 kE.cnd (v1.2.2.1 != 0) ((k6 (true,(v1.2.1,()))))
  (
  kE.cnd ((v1.2.1.length:Int) != 1) ((k6 (true,(v1.2.1,()))))
  ((k6 (((IntKind.i64.wrap ((v1.1.2.2.2.2.2.2.2.2.2.2.1.length:Int)+(v1.1.2.2.2.2.2.2.2.2.2.2.2.1.length:Int))) != 0),(v1.2.1,())))))
theorem yiz:@zbi=@yja:=by
 unfold zbi zny; rw[stdW_e,ynz,ykx]
 all_goals rfl
theorem ylk:zbi=some true:=by rw[yiz]; decide +kernel
end Go.Proofs.YtbpbkmngbhgpfaaGreat

namespace Go.Proofs.YtbpbkmngbhgpfaaGreat
open Go Go.Vc Go.RowKit
theorem r_is12x(a:zac):∃b,yif a=some b∧(b=true→rightX a):=by
 show ∃b,zss stdW a=some b∧_
 unfold zss rightX
 have bad:∃b,(some false:Option Bool)=some b∧(b=true→(1≤a.1∧a.1≤4)∧(0≤a.2.1∧a.2.1≤2147483647)∧(0≤a.2.2.1∧a.2.2.1≤10000)):=⟨false,rfl,fun h=>by cases h⟩
 by_cases h1:0<a.1
 ·rw[cnd_y (decide_eq_true h1)]
  by_cases h2:a.1<5
  ·rw[cnd_y (decide_eq_true h2)]
   by_cases h3:0≤a.2.1
   ·rw[cnd_y (decide_eq_true h3)]
    by_cases h4:a.2.1<2147483648
    ·rw[cnd_y (decide_eq_true h4)]
     by_cases h5:0≤a.2.2.1
     ·rw[cnd_y (decide_eq_true h5)]
      exact⟨_,rfl,fun h=>by have:=of_decide_eq_true h; omega⟩
     ·rw[cnd_n (decide_eq_false h5)]; exact bad
    ·rw[cnd_n (decide_eq_false h4)]; exact bad
   ·rw[cnd_n (decide_eq_false h3)]; exact bad
  ·rw[cnd_n (decide_eq_false h2)]; exact bad
 ·rw[cnd_n (decide_eq_false h1)]; exact bad
def okX(l:List zac):Prop:=∀a∈l,rightX a
theorem r_put12x{l:List zac}{i:zac}(hl:l.length≤1000)(hx:okX l):∃r e,zsr l i=some (r,(e,()))∧r.length≤l.length+1∧okX r:=by
 show ∃r e,zpg stdW l i=some (r,(e,()))∧_∧_
 unfold zpg
 obtain⟨b,hb,hbr⟩:=r_is12x i
 rw[zaa hb]
 cases b with
 |false=>rw[cnd_y (by decide)]; exact⟨[],2,rfl,by simp,fun x hx=>by cases hx⟩
 |true=>
  have hi:=hbr rfl
  rw[cnd_n (by decide),zaa (yll (by omega))]
  cases (findX l i.1).2.1 with
  |true=>rw[cnd_y (by rfl)]; exact⟨[],12,rfl,by simp,fun x hx=>by cases hx⟩
  |false=>
   rw[cnd_n (by rfl),join_w]
   refine loop_P (fun o=>∃(r:List zac) (e:Int),o=some (r,(e,()))∧r.length≤l.length+1∧okX r) (fun z=>l.length+1 - z.1.toNat) (fun z=>∃j:Nat,j≤l.length∧z=((j:Int),())) ⟨0,Nat.zero_le _,rfl⟩ (by show _ - (0:Int).toNat<_; omega) ?_
   rintro _ ⟨j,hj,rfl⟩ again ha
   have fin:∃(r:List zac) (e:Int),stdW.bnd (j:Int) l.length (fun h4=>stdW.room (l.take h4).length 24 (stdW.room ((l.take h4).length+(i::([]:List zac)).length) 24 (stdW.bnd (j:Int) l.length fun h5=>stdW.room (((l.take h4)++(i::([]:List zac))).length+((l.take l.length).drop h5).length) 24 (some (((l.take h4)++(i::([]:List zac))++((l.take l.length).drop h5)),(0,()))))))=some (r,(e,()))∧r.length≤l.length+1∧okX r:=by
    rw[bnd_w (by omega) (by omega),Int.toNat_natCast]
    have l1:(l.take j).length≤1000:=by rw[List.length_take]; omega
    rw[room_w (by omega) (by omega),room_w (by simp only[List.length_cons,List.length_nil]; omega) (by simp only[List.length_cons,List.length_nil]; omega),bnd_w (by omega) (by omega),Int.toNat_natCast,List.take_length,
     room_w (by simp only[List.length_append,List.length_drop,List.length_cons,List.length_nil]; omega) (by simp only[List.length_append,List.length_drop,List.length_cons,List.length_nil]; omega)]
    refine⟨_,_,rfl,by simp only[List.length_append,List.length_drop,List.length_cons,List.length_nil,List.length_take]; omega,fun x hm=>?_⟩
    rcases List.mem_append.1 hm with hm|hm
    ·rcases List.mem_append.1 hm with hm|hm
     ·exact hx x (List.mem_of_mem_take hm)
     ·simp only[List.mem_singleton]at hm; subst hm; exact hi
    ·exact hx x (List.mem_of_mem_drop hm)
   show ∃r e,stdW.cnd (decide ((j:Int)<(l.length:Int))) _ _=_∧_∧_
   by_cases h:j<l.length
   ·rw[cnd_lt h]
    show ∃r e,stdW.idx l (j:Int) _=_∧_∧_
    rw[idx_w h]
    by_cases h1:l[j].1<i.1
    ·rw[cnd_y (decide_eq_true h1)]
     show ∃r e,again (IntKind.i64.wrap ((j:Int)+1),())=_∧_∧_
     rw[i64_s j (by omega)]
     exact ha _ ⟨j+1,by omega,rfl⟩ (by show _ - ((j+1:Nat):Int).toNat<_ - ((j:Nat):Int).toNat; omega)
    ·rw[cnd_n (decide_eq_false h1)]; exact fin
   ·have:j=l.length:=by omega
    subst this
    rw[zas]; exact fin
theorem r_table12x{l:List zac}(hl:l.length≤9223372036854775807):∃t,zlb l=some t∧t.length≤8∧okX t:=by
 show ∃t,zij stdW l=some t∧_∧_
 unfold zij
 rw[join_w]
 refine loop_P (fun o=>∃t:List zac,o=some t∧t.length≤8∧okX t) (fun z=>l.length+1 - z.2.1.toNat) (fun z=>∃(j:Nat) (acc:List zac),j≤l.length∧j≤8∧acc.length≤j∧okX acc∧z=(acc,((j:Int),()))) ⟨0,[],Nat.zero_le _,Nat.zero_le _,Nat.le_refl _,(fun x hx=>by cases hx),rfl⟩ (by show _ - (0:Int).toNat<_; omega) ?_
 rintro _ ⟨j,acc,hj,hj10,hacc,hok,rfl⟩ again ha
 have fin:∃t,(some acc:Option (List zac))=some t∧t.length≤8∧okX t:=⟨acc,rfl,by omega,hok⟩
 show ∃t,stdW.cnd (decide ((j:Int)<(l.length:Int))) (stdW.cnd (decide ((j:Int)<8)) _ _) _=some t∧_∧_
 by_cases h:j<l.length
 ·rw[cnd_lt h]
  by_cases h10:j<8
  ·rw[cnd_y (decide_eq_true (by omega)),join_w]
   show ∃t,stdW.idx l (j:Int) _=some t∧_∧_
   rw[idx_w h]
   obtain⟨r,e,hp,hr,hrx⟩:=r_put12x (l:=acc) (i:=l[j]) (by omega) hok
   have nxt:∀a:List zac,a.length≤j+1→okX a→∃t,again (a,(IntKind.i64.wrap ((j:Int)+1),()))=some t∧t.length≤8∧okX t:=by
    intro a h1 h2
    rw[i64_s j (by omega)]
    exact ha _ ⟨j+1,a,by omega,by omega,h1,h2,rfl⟩ (by show _ - ((j+1:Nat):Int).toNat<_ - ((j:Nat):Int).toNat; omega)
   show ∃t,stdW.call (zsr acc l[j]) _=some t∧_∧_
   rw[zaa hp]
   by_cases he:e=0
   ·rw[cnd_y (by simpa using he)]; exact nxt r (by omega) hrx
   ·rw[cnd_n (by simpa using he)]; exact nxt acc (by omega) hok
  ·rw[cnd_n (decide_eq_false (by omega))]; exact fin
 ·have:j=l.length:=by omega
  subst this
  rw[zas]; exact fin
theorem r_few31x{s:zan}(h1:s.2.2.2.1.length≤9223372036854775807)(h2:s.2.2.2.2.1.length≤9223372036854775807)(h3:∀a∈s.2.2.2.2.1,a.2.2.2.1.length≤9223372036854775807)(h4:(pu s).length≤9223372036854775807)(h5:(ho s).length≤9223372036854775807)(h6:∀h∈ho s,h.2.1.length≤9223372036854775807):
  ∃as_ ac,zto s=some (0,([],([],(as_,(ac,([],([],([],([],([],((pu s).take 20,(few26 (ho s),()))))))))))))∧(∀a∈ac,a.2.2.2.1.length≤20)∧ac.length≤20∧(ac.map (·.1)).Nodup∧as_.length≤8∧okX as_:=by
 show ∃as_ ac,zpq stdW s=_∧_
 unfold zpq
 rw[join_w]
 obtain⟨t12,e12,x1,x2⟩:=r_table12x h1
 have e17:zoa s.2.2.2.2.2.2.2.2.2.2.1=some ((pu s).take 20):=r_few17 _ h4
 have e26:znz s.2.2.2.2.2.2.2.2.2.2.2.1=some (few26 (ho s)):=r_few26 h5 h6
 have h3':∀i (h:i<s.2.2.2.2.1.length),s.2.2.2.2.1[i].2.2.2.1.length≤9223372036854775807:=fun i h=>h3 _ (List.getElem_mem h)
 generalize s.2.2.2.2.1=l at*
 refine loop_P (fun o=>∃(as_:List zac) (ac:List zad),o=some (0,([],([],(as_,(ac,([],([],([],([],([],((pu s).take 20,(few26 (ho s),()))))))))))))∧(∀a∈ac,a.2.2.2.1.length≤20)∧ac.length≤20∧(ac.map (·.1)).Nodup∧as_.length≤8∧okX as_) (fun z=>l.length+1 - z.1.toNat)
  (fun z=>∃(j:Nat) (acc:List zad),j≤l.length∧j≤20∧acc.length≤j∧(∀a∈acc,a.2.2.2.1.length≤20)∧z=((j:Int),(acc,()))) ⟨0,[],Nat.zero_le _,Nat.zero_le _,Nat.le_refl _,by simp,rfl⟩ (by show _ - (0:Int).toNat<_; omega) ?_
 rintro _ ⟨j,acc,hj,hj20,hacc,hok,rfl⟩ again ha
 have fin:∃(as_:List zac) (ac:List zad),(stdW.call (zlb s.2.2.2.1) fun v2=>stdW.call (zkx acc) fun v3=>stdW.call (zoa s.2.2.2.2.2.2.2.2.2.2.1) fun v4=>stdW.call (znz s.2.2.2.2.2.2.2.2.2.2.2.1) fun v5=>some (0,([],([],(v2,(v3,([],([],([],([],([],(v4,(v5,())))))))))))))=some ((0,([],([],(as_,(ac,([],([],([],([],([],((pu s).take 20,(few26 (ho s),())))))))))))):zan)∧(∀a∈ac,a.2.2.2.1.length≤20)∧ac.length≤20∧(ac.map (·.1)).Nodup∧as_.length≤8∧okX as_:=by
  obtain⟨t15,e15,g1,g2,g3⟩:=r_table15 (l:=acc) (fun x hx=>by have:=hok x hx; omega) (by omega)
  rw[zaa e12,zaa e15,zaa e17,zaa e26]
  exact⟨t12,t15,rfl,fun a ha=>hok a (g1 a ha),g2,g3,x1,x2⟩
 show ∃as_ ac,stdW.cnd (decide ((j:Int)<(l.length:Int))) (stdW.cnd (decide ((j:Int)<20)) _ _) _=_∧_
 by_cases h:j<l.length
 ·rw[cnd_lt h]
  by_cases h20:j<20
  ·rw[cnd_y (decide_eq_true (by omega))]
   show ∃as_ ac,stdW.idx l (j:Int) _=_∧_
   rw[idx_w h,zaa (r_short (h3' j h))]
   show ∃as_ ac,stdW.room (acc.length+1) 48 (again (IntKind.i64.wrap ((j:Int)+1),(acc++[yht l[j]],())))=_∧_
   rw[room_w (by omega) (by omega),i64_s j (by omega)]
   refine ha _ ⟨j+1,acc++[yht l[j]],by omega,by omega,by simp; omega,fun a hm=>?_,rfl⟩ (by show _ - ((j+1:Nat):Int).toNat<_ - ((j:Nat):Int).toNat; omega)
   rcases List.mem_append.1 hm with hm|hm
   ·exact hok a hm
   ·simp only[List.mem_singleton]at hm; subst hm
    show (l[j].2.2.2.1.take 20).length≤20
    rw[List.length_take]; omega
  ·rw[cnd_n (decide_eq_false (by omega))]; exact fin
 ·have:j=l.length:=by omega
  subst this
  rw[zas]; exact fin
theorem ylj{a:List ALot'}(hl:a.length≤1000000):zpb a a=some true:=by
 show zkv stdW a a=_
 unfold zkv
 rw[cnd_n (by simp)]
 refine zcp (l:=a) (by omega) (s0:=()) (fun _ _=>True) (fun _ _=>some true) trivial ?_ ?_
 ·rintro _ again _
  rw[zas]
 ·rintro i hi _ _ again ha
  rw[cnd_lt hi,idx_w hi,idx_w hi,nif_t,cnd_n (by simp)]
  show again (IntKind.i64.wrap ((i:Int)+1),())=_
  rw[i64_s i (by omega)]
  exact ha _ trivial
theorem r_same26{a:List AHold'}(hh:okHs a):zoy a a=some true:=by
 have hl:=hh.2
 show zks stdW a a=_
 unfold zks
 rw[cnd_n (by simp)]
 refine zcp (l:=a) (by omega) (s0:=()) (fun _ _=>True) (fun _ _=>some true) trivial ?_ ?_
 ·rintro _ again _
  rw[zas]
 ·rintro i hi _ _ again ha
  rw[cnd_lt hi]
  refine join_g fun k hk=>?_
  have kk:k (false,())=some true:=by
   subst hk
   show again (IntKind.i64.wrap ((i:Int)+1),())=_
   rw[i64_s i (by omega)]
   exact ha _ trivial
  clear hk ha
  have h2:=(hh.1 _ (List.getElem_mem hi)).1
  rw[idx_w hi,idx_w hi,nif_t,cnd_n (by simp),idx_w hi,idx_w hi,zaa (ylj (by omega))]
  exact kk
theorem r_same31{s:zan}(h1:(pu s).length≤1000000)(h2:okHs (ho s)):zbv s s=some true:=by
 show zkq stdW s s=_
 unfold zkq
 have e1:zpc s.2.2.2.2.2.2.2.2.2.2.1 s.2.2.2.2.2.2.2.2.2.2.1=some true:=r_same h1
 have e2:zoy s.2.2.2.2.2.2.2.2.2.2.2.1 s.2.2.2.2.2.2.2.2.2.2.2.1=some true:=r_same26 h2
 rw[zaa e1,cnd_y rfl,zaa e2]
theorem yqi{a:List zaq}(hl:a.length≤1000000)(hh:∀r∈a,r.2.2.1.length≤1000000):zar a a=some true:=by
 show zko stdW a a=_
 unfold zko
 rw[cnd_n (by simp)]
 refine zcp (l:=a) (by omega) (s0:=()) (fun _ _=>True) (fun _ _=>some true) trivial ?_ ?_
 ·rintro _ again _
  rw[zas]
 ·rintro i hi _ _ again ha
  rw[cnd_lt hi]
  refine join_g fun k hk=>?_
  have kk:k (false,())=some true:=by
   subst hk
   show again (IntKind.i64.wrap ((i:Int)+1),())=_
   rw[i64_s i (by omega)]
   exact ha _ trivial
  clear hk ha
  have h2:=hh _ (List.getElem_mem hi)
  rw[idx_w hi,idx_w hi,nif_t,cnd_n (by simp),idx_w hi,idx_w hi,cnd_n (by simp),idx_w hi,idx_w hi,zaa (ylj (by omega))]
  exact kk
end Go.Proofs.YtbpbkmngbhgpfaaGreat
