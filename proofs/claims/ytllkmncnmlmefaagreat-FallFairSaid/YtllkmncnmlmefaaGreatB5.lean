import Derived.Test.YtllkmncnmlmefaaGreatB4
namespace Go.Proofs.YtllkmncnmlmefaaGreat
open Go Go.Vc Go.RowKit
theorem yjf{l m:List Int}(h:l.Perm m):l.sum=m.sum:=by
 induction h with
 |nil=>rfl
 |cons x _ ih=>simp[ih]
 |swap x y l=>simp only[List.sum_cons]; omega
 |trans _ _ h1 h2=>rw[h1,h2]
theorem eqF(a b:AFlow'):(a.1.1==b.1.1&&(a.1.2.1==b.1.2.1&&a.2.1==b.2.1))=decide (a=b):=by
 by_cases h:a=b
 ·subst h; simp
 ·rw[decide_eq_false h]
  cases hc:(a.1.1==b.1.1&&(a.1.2.1==b.1.2.1&&a.2.1==b.2.1)) with
  |false=>rfl
  |true=>
   simp only[Bool.and_eq_true,beq_iff_eq]at hc
   exact absurd (Prod.ext (extA hc.1 hc.2.1) (Prod.ext hc.2.2 rfl)) h
theorem r_same{a:List AFlow'}(hl:a.length≤1000000):zyb a a=some true:=by
 show zim stdW a a=_
 unfold zim
 rw[cnd_n (by simp)]
 refine loop_n (N:=a.length) (by omega) (fun _ _=>True) (some true) trivial ?_ ?_
 ·rintro _ again _
  rw[zaj]
 ·rintro i hi _ _ again ha
  rw[cnd_lt hi,idx_w hi,idx_w hi,nif_t,eqF,cnd_n (by simp),i64_s i (by omega)]
  exact ha _ trivial
theorem zvi(all:List AFlow'):∀(us:List AUnit') (acc:List AFlow'),(payGo all us acc).1.length≤acc.length+us.length
 |[],acc=>by simp[payGo]
 |u::us,acc=>by
  unfold payGo
  split
  ·split
   ·have:=zvi all us (acc++[(u,sumU all u,())]); simp at this ⊢; omega
   ·have:=zvi all us acc; simp at this ⊢; omega
  ·simp
theorem payP_len(l f:List AFlow'):(payP l f).1.length≤l.length+f.length:=by
 unfold payP
 split
 ·have:=zvi (l++f) (zbr (l++f)) []
  have h2:=zpw (l++f)
  simp at this h2 ⊢; omega
 ·simp
theorem r_few17(l:List AFlow')(hl:l.length≤9223372036854775807):zvr l=some (l.take 20):=by
 show zkx stdW l=_
 unfold zkx
 by_cases h:20<l.length
 ·rw[cnd_y (decide_eq_true (by omega)),bnd_w (by omega) (by omega)]; rfl
 ·rw[cnd_n (decide_eq_false (by omega)),List.take_of_length_le (by omega)]
theorem ygh{X β:Type}{N:Nat}(hN:N<9223372036854775808){f:X→(X→Option β)→Option β}(st:Nat→X)(r:Option β)
  (hend:∀again:X→Option β,f (st N) again=r) (hstep:∀i,i<N→∀again:X→Option β,again (st (i+1))=r→f (st i) again=r):stdW.loop f (st 0)=r:=by
 have key:∀n i,i≤N→N - i<n→loopF n f (st i)=r:=by
  intro n
  induction n with
  |zero=>intro i _ h; omega
  |succ n ih=>
   intro i hi hn
   show f (st i) (loopF n f)=r
   by_cases h:i<N
   ·exact hstep i h _ (ih (i+1) (by omega) (by omega))
   ·have:i=N:=by omega
    subst this; exact hend _
 show loopF FU f (st 0)=r
 exact key FU 0 (Nat.zero_le _) (by rw[FU_eq]; omega)
def insL(l:List AFlow'):List AUnit':=l.foldl (fun a x=>insA x.1 a) []
theorem insL_srt(l:List AFlow'):SrtA (insL l):=(ygq l [] List.Pairwise.nil).1
theorem zyg(l:List AFlow'):insL l=zbr l:=ins_units l
theorem insL_len(l:List AFlow'):(insL l).length≤l.length:=by rw[zyg]; exact zpw l
theorem insL_step(l:List AFlow')(i:Nat)(h:i<l.length):insL (l.take (i+1))=insA l[i].1 (insL (l.take i)):=by
 unfold insL
 rw[List.take_succ_eq_append_getElem h,List.foldl_append]; rfl
theorem r_units{l:List AFlow'}(hl:l.length≤1000000):yfh l=some (zbr l):=by
 show zgu stdW l=_
 unfold zgu
 refine ygh (N:=l.length) (by omega) (fun i=>(insL (l.take i),((i:Int),()))) (some (zbr l)) ?_ ?_
 ·intro again
  show stdW.cnd (decide ((l.length:Int)<(l.length:Int))) _ _=_
  rw[zaj,List.take_length,zyg]
 ·intro i hi again ha
  show stdW.cnd (decide ((i:Int)<(l.length:Int))) _ _=_
  rw[cnd_lt hi]
  refine join_g fun k hk=>?_
  have kk:k (insL (l.take (i+1)),())=some (zbr l):=by
   subst hk
   show again (insL (l.take (i+1)),(IntKind.i64.wrap ((i:Int)+1),()))=_
   rw[i64_s i (by omega)]; exact ha
  clear hk ha
  show stdW.idx l (i:Int) _=_
  rw[idx_w hi]
  rw[insL_step l i hi]at kk
  have hs:=insL_srt (l.take i)
  have hlen:(insL (l.take i)).length≤1000000:=Nat.le_trans (insL_len _) (by rw[List.length_take]; omega)
  generalize insL (l.take i)=out at*
  generalize l[i].1=u at*
  refine ygh (N:=out.length) (by omega) (fun j=>((((lowU u (out.take j)).length:Nat):Int),(decide (u∈out.take j),((j:Int),())))) (some (zbr l)) ?_ ?_
  ·intro again2
   show stdW.cnd (decide ((out.length:Int)<(out.length:Int))) _ (stdW.cnd (!decide (u∈out.take out.length)) (stdW.bnd (((lowU u (out.take out.length)).length:Nat):Int) out.length _) (k (out,())))=_
   rw[zaj,List.take_length]
   obtain⟨e1,e2⟩:=yjt hs u
   have hle:(lowU u out).length≤out.length:=List.length_filter_le _ _
   by_cases hu:u∈out
   ·rw[cnd_n (by simp[hu])]
    rw[insA,if_pos hu]at kk; exact kk
   ·rw[cnd_y (by simp[hu]),bnd_w (by omega) (by omega)]
    have l1:(out.take (lowU u out).length).length≤1000000:=by rw[List.length_take]; omega
    show stdW.room (out.take (lowU u out).length).length 16 (stdW.room ((out.take (lowU u out).length).length+1) 16 (stdW.bnd (((lowU u out).length:Nat):Int) out.length _))=_
    rw[room_w (by omega) (by omega),room_w (by omega) (by omega),bnd_w (by omega) (by omega)]
    show stdW.room ((out.take (lowU u out).length++[u]).length+(out.drop (lowU u out).length).length) 16 (k ((out.take (lowU u out).length++[u])++out.drop (lowU u out).length,()))=_
    rw[room_w (by simp only[List.length_append,List.length_drop,List.length_cons,List.length_nil]; omega) (by simp only[List.length_append,List.length_drop,List.length_cons,List.length_nil]; omega),e1,e2]
    rw[insA,if_neg hu]at kk
    rw[List.append_assoc]; exact kk
  ·intro j hj again2 ha2
   show stdW.cnd (decide ((j:Int)<(out.length:Int))) _ _=_
   rw[cnd_lt hj]
   refine join_g fun k9 hk9=>?_
   have k9k:∀a b,k9 (a,(b,()))=again2 (a,(b,(((j+1:Nat):Int),()))):=by
    intro a b; rw[←i64_s j (by omega)]; subst hk9; rfl
   clear hk9
   refine join_g fun k13 hk13=>?_
   have mem:decide (u∈out.take (j+1))=(decide (u∈out.take j)||decide (out[j]=u)):=by
    rw[List.take_succ_eq_append_getElem hj]
    rw[Bool.eq_iff_iff]
    simp only[decide_eq_true_eq,Bool.or_eq_true,List.mem_append,List.mem_singleton]
    exact or_congr_right ⟨fun h=>h.symm,fun h=>h.symm⟩
   have fin:∀b,b=decide (u∈out.take (j+1))→k13 (b,())=some (zbr l):=by
    rintro _ rfl
    subst hk13
    show stdW.idx out (j:Int) _=_
    rw[idx_w hj,zaa (ztq _ _)]
    rw[low_step hs u j hj]at ha2
    by_cases hlt:ltA out[j] u
    ·rw[if_pos hlt]at ha2
     rw[decide_eq_true hlt,cnd_y rfl]
     show k9 (IntKind.i64.wrap ((j:Int)+1),_)=_
     rw[i64_s j (by omega)]
     exact(k9k _ _).trans ha2
    ·rw[if_neg hlt]at ha2
     rw[decide_eq_false hlt,cnd_n rfl]
     exact(k9k _ _).trans ha2
   clear hk13
   show stdW.cnd (decide (u∈out.take j)) (k13 (true,())) (stdW.idx out (j:Int) _)=_
   by_cases h1:u∈out.take j
   ·rw[cnd_y (decide_eq_true h1)]
    exact fin _ (by rw[mem]; simp[h1])
   ·rw[cnd_n (decide_eq_false h1),idx_w hj,nif_f,eqA]
    exact fin _ (by rw[mem]; simp[h1])
theorem zsa{X β:Type}{N:Nat}(hN:N<9223372036854775808){f:X→(X→Option β)→Option β}(st:Nat→X)(r:Option β){z0:X}(hz:z0=st 0)
  (hend:∀again:X→Option β,f (st N) again=r) (hstep:∀i,i<N→∀again:X→Option β,again (st (i+1))=r→f (st i) again=r):stdW.loop f z0=r:=by
 subst hz; exact ygh hN st r hend hstep
theorem sumU_take(l:List AFlow')(u:AUnit')(i:Nat)(h:i<l.length):sumU (l.take (i+1)) u=sumU (l.take i) u+(if l[i].1=u then l[i].2.1 else 0):=by
 unfold sumU
 rw[zxa _ _ _ h,List.sum_append]
 split<;>simp
theorem yig{l:List AFlow'}(h:okF l)(u:AUnit')(hl:l.length≤1000000):sml (sumU l u):=by
 have h1:=sum_in (amts_ok h u)
 have h2:=ybj l u
 unfold sumU sml; omega
theorem r_pay17{l fl:List AFlow'}(h:okF l)(hf:okF fl)(hl:l.length+fl.length≤1000000):ycn l fl=some (payP l fl):=by
 show zkk stdW l fl=_
 unfold zkk payP
 rw[zaa (r_is17 (by omega))]
 by_cases hp:isP l=true
 ·rw[hp,cnd_n (by decide),if_pos rfl,room_w (by omega) (by omega),room_w (by omega) (by omega)]
  have hall:okF (l++fl):=fun x hx=>(List.mem_append.1 hx).elim (h x) (hf x)
  have hlen:(l++fl).length≤1000000:=by rw[List.length_append]; exact hl
  rw[zaa (r_units hlen)]
  have hul:=zpw (l++fl)
  generalize l++fl=all at*
  generalize zbr all=us at*
  refine zbo (l:=us) (by omega) (fun i (s:List AFlow'×Unit)=>s.1.length≤i) (fun us' (s:List AFlow'×Unit)=>some (payGo all us' s.1)) (Nat.le_refl _) ?_ ?_
  ·rintro⟨acc,⟨⟩⟩ again _
   rw[zaj]; rfl
  ·rintro i hi ⟨acc,⟨⟩⟩ hacc again ha
   simp only at hacc
   rw[cnd_lt hi]
   refine join_g fun k hk=>?_
   have kk:∀v:List AFlow',v.length≤i+1→k (v,())=some (payGo all (us.drop (i+1)) v):=by
    intro v hv
    subst hk
    show again (IntKind.i64.wrap ((i:Int)+1),(v,()))=_
    rw[i64_s i (by omega)]
    exact ha (v,()) hv
   clear hk ha
   show _=some (payGo all (us[i]::us.drop (i+1)) acc)
   rw[payGo]
   refine zsa (N:=all.length) (by omega) (fun j=>(((j:Nat):Int),((big (sumU (all.take j) us[i])).1,((big (sumU (all.take j) us[i])).2.1,(acc,()))))) _ (by rw[List.take_zero,show sumU [] us[i]=0 from rfl,big0]; rfl) ?_ ?_
   ·intro again2
    show stdW.cnd (decide ((all.length:Int)<(all.length:Int))) _ (stdW.call (zny (big (sumU (all.take all.length) us[i]))) _)=_
    rw[zaj,List.take_length,zaa (r_fits (yig hall us[i] hlen))]
    by_cases hI:I64 (sumU all us[i])
    ·rw[decide_eq_true hI,cnd_n (by decide),if_pos hI]
     have e:=r_int hI
     show stdW.call (zdm (big (sumU all us[i]))) _=_
     rw[zaa e]
     by_cases h0:sumU all us[i]=0
     ·rw[cnd_n (by simp[h0]),if_neg (by simp[h0])]
      exact kk acc (by omega)
     ·rw[cnd_y (by simp[h0]),if_pos h0]
      show stdW.idx us (i:Int) _=_
      rw[idx_w hi,zaa e]
      show stdW.room (acc.length+1) 24 (k (acc++[(us[i],sumU all us[i],())],()))=_
      rw[room_w (by omega) (by omega)]
      exact kk _ (by simp; omega)
    ·rw[decide_eq_false hI,cnd_y (by decide),if_neg hI]
   ·intro j hj again2 ha2
    show stdW.cnd (decide ((j:Int)<(all.length:Int))) _ _=_
    rw[cnd_lt hj]
    refine join_g fun k2 hk2=>?_
    have kk2:k2 ((big (sumU (all.take (j+1)) us[i])).1,((big (sumU (all.take (j+1)) us[i])).2.1,(acc,())))=again2 (((j+1:Nat):Int),((big (sumU (all.take (j+1)) us[i])).1,((big (sumU (all.take (j+1)) us[i])).2.1,(acc,())))):=by
     rw[←i64_s j (by omega)]; subst hk2; rfl
    rw[ha2]at kk2
    clear hk2 ha2
    show stdW.idx all (j:Int) _=_
    rw[idx_w hj]
    show stdW.idx us (i:Int) _=_
    rw[idx_w hi,nif_f,eqA]
    rw[sumU_take _ _ _ hj]at kk2
    by_cases hu:all[j].1=us[i]
    ·rw[if_pos hu]at kk2
     rw[cnd_y (decide_eq_true hu)]
     show stdW.idx all (j:Int) _=_
     have h2:I64 all[j].2.1:=hall _ (List.getElem_mem hj)
     rw[idx_w hj,two_w,zaa (r_of h2)]
     show stdW.call (zdi (big (sumU (all.take j) us[i])) (big all[j].2.1)) _=_
     rw[zaa (r_addB (yig (hall.take j) us[i] (by rw[List.length_take]; omega)) (zcp h2))]
     exact kk2
    ·rw[if_neg hu,Int.add_zero]at kk2
     rw[cnd_n (decide_eq_false hu)]
     exact kk2
 ·have hp:isP l=false:=by simpa using hp
  rw[hp,cnd_y (by decide),if_neg (by simp)]
theorem r_cmpB{a b:Int}(ha:sml a)(hb:sml b):zuz (big a) (big b)=some (if a - b=0 then 0 else if a - b<0 then -1 else 1):=by
 unfold sml at*
 have:=r_cmp (nb_big a) (nb_big b) (Nat.le_trans (zhk ha) (by decide)) (Nat.le_trans (zhk hb) (by decide))
 rwa [bv_big,bv_big]at this
theorem yab(all:List AFlow'):∀(us:List AUnit') (acc:List AFlow'),(payGo all us acc).2.1=0→
  (payGo all us acc).1=acc++(us.filter fun u=>decide (sumU all u≠0)).map (fun u=>(u,sumU all u,()))∧∀u∈us,I64 (sumU all u)
 |[],acc,_=>by simp[payGo]
 |u::us,acc,h=>by
  unfold payGo at h ⊢
  by_cases hI:I64 (sumU all u)
  ·rw[if_pos hI]at h ⊢
   by_cases h0:sumU all u≠0
   ·rw[if_pos h0]at h ⊢
    obtain⟨h1,h2⟩:=yab all us _ h
    refine⟨?_,fun x hx=>?_⟩
    ·rw[h1,List.filter_cons,if_pos (by simpa using h0)]; simp
    ·rcases List.mem_cons.1 hx with rfl|hx
     ·exact hI
     ·exact h2 x hx
   ·rw[if_neg h0]at h ⊢
    obtain⟨h1,h2⟩:=yab all us _ h
    refine⟨?_,fun x hx=>?_⟩
    ·rw[h1,List.filter_cons,if_neg (by simpa using h0)]
    ·rcases List.mem_cons.1 hx with rfl|hx
     ·exact hI
     ·exact h2 x hx
  ·rw[if_neg hI]at h; simp at h
theorem zic(x:AFlow')(l:List AFlow')(u:AUnit'):sumU (x::l) u=(if x.1=u then amt x else 0)+sumU l u:=by
 unfold sumU amts ofFlow
 rw[List.filter_cons]
 by_cases h:x.1=u<;>simp[h]
theorem sumU_app(a b:List AFlow')(u:AUnit'):sumU (a++b) u=sumU a u+sumU b u:=by
 unfold sumU amts; rw[List.filter_append,List.map_append,List.sum_append]
theorem ybv{l:List AFlow'}{u:AUnit'}(h:∀x∈l,x.1≠u):sumU l u=0:=by
 induction l with
 |nil=>rfl
 |cons x l ih=>rw[zic,if_neg (h x (by simp)),ih fun y hy=>h y (by simp[hy])]; rfl
theorem one_of{us:List AUnit'}(hn:us.Nodup){v:AUnit'}(z:Int):sumBy (fun u=>if v=u then z else 0) us=if v∈us then z else 0:=by
 induction us with
 |nil=>rfl
 |cons u us ih=>
  obtain⟨h1,h2⟩:=List.nodup_cons.1 hn
  rw[zba,ih h2]
  by_cases hv:v=u
  ·subst hv; rw[if_pos rfl,if_neg h1,if_pos (by simp)]; omega
  ·rw[if_neg hv]
   by_cases hm:v∈us
   ·rw[if_pos hm,if_pos (by simp[hm])]; omega
   ·rw[if_neg hm,if_neg (by simp[hm,hv])]; rfl
theorem sumBy_add{α:Type}(f g:α→Int)(l:List α):sumBy (fun x=>f x+g x) l=sumBy f l+sumBy g l:=by
 induction l with
 |nil=>rfl
 |cons x l ih=>rw[zba,zba,zba,ih]; omega
theorem ybu:∀(l:List AFlow') {us:List AUnit'},us.Nodup→(∀x∈l,x.1∈us)→sumBy (sumU l) us=sumBy amt l
 |[],us,_,_=>by
  have:∀us:List AUnit',sumBy (sumU []) us=0:=by
   intro us; induction us with
   |nil=>rfl
   |cons u us ih=>rw[zba,ih]; rfl
  rw[this]; rfl
 |x::l,us,hn,h=>by
  have e:sumU (x::l)=fun u=>(if x.1=u then amt x else 0)+sumU l u:=funext (zic x l)
  rw[e,sumBy_add,one_of hn,if_pos (h x (by simp)),ybu l hn fun y hy=>h y (by simp[hy]),zba]
def resP(all:List AFlow')(us:List AUnit'):List AFlow':=(us.filter fun u=>decide (sumU all u≠0)).map fun u=>(u,sumU all u,())
theorem srt_nd{us:List AUnit'}(h:SrtA us):us.Nodup:=List.Pairwise.imp (fun {a b} (hab:ltA a b) (e:a=b)=>by subst e; exact zef _ hab) h
theorem resP_sum(all:List AFlow'):sumBy amt (resP all (zbr all))=sumBy amt all:=by
 have e:∀us:List AUnit',sumBy amt (resP all us)=sumBy (sumU all) us:=by
  intro us
  induction us with
  |nil=>rfl
  |cons u us ih=>
   unfold resP at ih ⊢
   rw[List.filter_cons,zba,←ih]
   by_cases h:sumU all u=0
   ·rw[if_neg (by simp[h]),h]; omega
   ·rw[if_pos (by simp[h]),List.map_cons,zba]; rfl
 rw[e,ybu all (srt_nd (zmj all)) fun x hx=>(zpv all x.1).2 ⟨x,hx,rfl⟩]
theorem resP_is{all:List AFlow'}{us:List AUnit'}(h:SrtA us):isP (resP all us)=true:=by
 refine decide_eq_true ⟨fun x hx=>?_,?_⟩
 ·obtain⟨u,hu,rfl⟩:=List.mem_map.1 hx
  simpa using(List.mem_filter.1 hu).2
 ·unfold resP
  rw[List.map_map]
  have:((fun x:AFlow'=>x.1) ∘ fun u=>((u,sumU all u,()):AFlow'))=id:=rfl
  rw[this,List.map_id]
  exact h.filter _
theorem getP_none{l:List AFlow'}{u:AUnit'}(h:∀x∈l,x.1≠u):getP l u=0:=by
 induction l with
 |nil=>rfl
 |cons x l ih=>rw[getP,if_neg (h x (by simp)),ih fun y hy=>h y (by simp[hy])]
theorem yas:∀{l:List AFlow'},(l.map (·.1)).Nodup→∀u,getP l u=sumU l u
 |[],_,u=>rfl
 |x::l,h,u=>by
  obtain⟨h1,h2⟩:=List.nodup_cons.1 h
  rw[getP,zic]
  by_cases hu:x.1=u
  ·rw[if_pos hu,if_pos hu,ybv fun y hy e=>h1 (List.mem_map.2 ⟨y,hy,e.trans hu.symm⟩)]
   show amt x=_; omega
  ·rw[if_neg hu,if_neg hu,yas h2]; omega
theorem isP_nd{l:List AFlow'}(h:isP l=true):(l.map (·.1)).Nodup:=srt_nd (of_decide_eq_true h).2
theorem resP_get(all:List AFlow')(u:AUnit'):getP (resP all (zbr all)) u=sumU all u:=by
 by_cases h0:sumU all u=0
 ·rw[h0]
  refine getP_none fun x hx e=>?_
  obtain⟨v,hv,rfl⟩:=List.mem_map.1 hx
  have:=(List.mem_filter.1 hv).2
  simp only[decide_eq_true_eq]at this
  exact this (by rw[show v=u from e]; exact h0)
 ·rw[yas (isP_nd (resP_is (zmj all)))]
  have hu:u∈zbr all:=by
   rw[zpv]
   by_cases hx:∃x∈all,x.1=u
   ·exact hx
   ·exact absurd (ybv fun x hx' e=>hx ⟨x,hx',e⟩) h0
  have key:∀us:List AUnit',us.Nodup→sumU (resP all us) u=if u∈us then sumU all u else 0:=by
   intro us
   induction us with
   |nil=>intro _; rfl
   |cons v us ih=>
    intro hn
    obtain⟨h1,h2⟩:=List.nodup_cons.1 hn
    have ih:=ih h2
    unfold resP at ih ⊢
    rw[List.filter_cons]
    by_cases hv:v=u
    ·subst hv
     rw[if_pos (by simpa using h0),List.map_cons,zic,ih,if_neg h1,if_pos rfl,if_pos (by simp)]
     show sumU all v+0=_; omega
    ·have e:(if u∈v::us then sumU all u else 0)=if u∈us then sumU all u else 0:=by
      by_cases hm:u∈us
      ·rw[if_pos hm,if_pos (by simp[hm])]
      ·rw[if_neg hm,if_neg (by simp[hm,Ne.symm hv])]
     rw[e,←ih]
     by_cases hz:sumU all v=0
     ·rw[if_neg (by simp[hz])]
     ·rw[if_pos (by simp[hz]),List.map_cons,zic,if_neg hv]; omega
  rw[key _ (srt_nd (zmj all)),if_pos hu]
theorem payP_ok{l f:List AFlow'}(h:(payP l f).2.1=0):isP l=true∧(payP l f).1=resP (l++f) (zbr (l++f))∧∀u∈zbr (l++f),I64 (sumU (l++f) u):=by
 unfold payP at h ⊢
 by_cases hp:isP l=true
 ·rw[if_pos hp]at h ⊢
  obtain⟨h1,h2⟩:=yab _ _ _ h
  exact⟨hp,by rw[h1,List.nil_append]; rfl,h2⟩
 ·rw[if_neg hp]at h; simp at h
theorem resP_ok{all:List AFlow'}{us:List AUnit'}(h:∀u∈us,I64 (sumU all u)):okF (resP all us):=by
 intro x hx
 obtain⟨u,hu,rfl⟩:=List.mem_map.1 hx
 exact h u (List.mem_filter.1 hu).1
end Go.Proofs.YtllkmncnmlmefaaGreat
namespace Go.Proofs.YtllkmncnmlmefaaGreat
open Go Go.Vc Go.RowKit
end Go.Proofs.YtllkmncnmlmefaaGreat

namespace Go.Proofs.YtllkmncnmlmefaaGreat
open Go Go.Vc Go.RowKit
def szOf(z:Int):zxc:=(z / 18446744073709551616,z % 18446744073709551616,())
def w128(z:Int):zaq:=(IntKind.i64.wrap (z / 18446744073709551616),z % 18446744073709551616,())
theorem yen(z:Int)(h:In128 z):w128 z=wide z:=by
 unfold In128 at h; unfold w128 wide; rw[IntWalk.i64_in _ (by omega)]
def absI(z:Int):Int:=if z<0 then -z else z
theorem zmt(w:zaq):zcm w=some (decide (w.1<0)):=rfl
theorem r_size(x:zaq)(hx:wOk x):zjq x=some (szOf (absI (wv x))):=by
 unfold wOk at hx
 show zcl stdW x=_
 unfold zcl
 rw[zaa (zmt _)]
 by_cases h:x.1<0
 ·rw[cnd_n (by simp[h]),zaa (ztl (by omega) (by omega) (by omega) (by omega) (by omega)),zaa (ztl (by omega) (by rw[IntKind.wrap_u64]; omega) (by rw[IntKind.wrap_u64]; omega) (by dsimp only; split<;>omega) (by dsimp only; split<;>omega))]
  unfold szOf absI wv
  refine congrArg some (Prod.ext ?_ (Prod.ext ?_ rfl))
  ·dsimp only; rw[IntKind.wrap_u64]; split<;>split<;>omega
  ·dsimp only; split<;>omega
 ·rw[cnd_y (by simp[h])]
  unfold szOf absI wv
  refine congrArg some (Prod.ext ?_ (Prod.ext ?_ rfl))
  ·dsimp only; rw[IntKind.wrap_u64]; split<;>omega
  ·dsimp only; split<;>omega
theorem lo_fits(z:Int)(hz:0≤z∧z<340282366920938463463374607431768211456)(h:z / 18446744073709551616=9223372036854775808):((z % 18446744073709551616)==0)=decide (In128 (-z)):=by
 by_cases h0:z % 18446744073709551616=0
 ·have:In128 (-z):=by unfold In128; omega
  rw[decide_eq_true this]; simp[h0]
 ·have:¬In128 (-z):=by unfold In128; omega
  rw[decide_eq_false this]; simp[h0]
theorem signed_raw(hi lo:Int)(m:Bool):zbz (hi,lo,()) m=(
  stdW.cnd (!m) (some (((IntKind.i64.wrap hi),lo,()),((decide (hi<9223372036854775808)),())))
  (stdW.call (sub64 0 lo 0) fun v1=>stdW.call (sub64 0 hi v1.2.1) fun v2=>
  stdW.cnd (decide (hi<9223372036854775808)) (some (((IntKind.i64.wrap v2.1),(v1.1,())),(true,())))
   (
   stdW.cnd (hi==9223372036854775808) (some (((IntKind.i64.wrap v2.1),(v1.1,())),((lo==0),())))
   (some (((IntKind.i64.wrap v2.1),(v1.1,())),(false,())))))):=rfl
theorem zzp(z:Int)(m:Bool)(hz:0≤z∧z<340282366920938463463374607431768211456):zbz (szOf z) m=some (w128 (if m=true then -z else z),decide (In128 (if m=true then -z else z)),()):=by
 unfold szOf
 rw[signed_raw]
 cases m
 ·rw[cnd_y (by rfl)]
  simp only[Bool.false_eq_true,if_false]
  unfold w128
  congr 3
  unfold In128; apply decide_eq_decide.2; omega
 ·rw[cnd_n (by rfl),zaa (ztl (by omega) (by omega) (by omega) (by omega) (by omega)),zaa (ztl (by omega) (by omega) (by omega) (by dsimp only; split<;>omega) (by dsimp only; split<;>omega))]
  have e:((IntKind.i64.wrap ((0 - z / 18446744073709551616 - (if 0<z % 18446744073709551616+0 then 1 else 0)) % 18446744073709551616),((0 - z % 18446744073709551616 - 0) % 18446744073709551616,())):zaq)=w128 (-z):=by
   rw[zrb]; unfold w128
   refine Prod.ext ?_ (Prod.ext ?_ rfl)
   ·dsimp only; congr 1; split<;>omega
   ·dsimp only; omega
  show _=some (w128 (-z),decide (In128 (-z)),())
  rw[←e]
  by_cases h1:z / 18446744073709551616<9223372036854775808
  ·rw[cnd_y (decide_eq_true h1)]
   have:In128 (-z):=by unfold In128; omega
   rw[decide_eq_true this]
  ·rw[cnd_n (decide_eq_false h1)]
   by_cases h2:z / 18446744073709551616=9223372036854775808
   ·rw[cnd_y (by simp[h2]),lo_fits z hz h2]
   ·rw[cnd_n (by simp[h2])]
    have:¬In128 (-z):=by unfold In128; omega
    rw[decide_eq_false this]
theorem and32(a:Int)(h:0≤a∧a<18446744073709551616):bits .and .u64 a 4294967295=a % 4294967296:=by
 obtain⟨n,rfl⟩:=Int.eq_ofNat_of_zero_le h.1
 show IntKind.u64.wrap (((BitVec.ofInt 64 ((n:Nat):Int) &&& BitVec.ofInt 64 4294967295).toNat:Nat):Int)=_
 rw[BitVec.toNat_and,BitVec.toNat_ofInt,BitVec.toNat_ofInt]
 have e1:(((n:Nat):Int) % ((2 ^ 64:Nat):Int)).toNat=n:=by
  have:((2 ^ 64:Nat):Int)=18446744073709551616:=by decide
  omega
 have e2:((4294967295:Int) % ((2 ^ 64:Nat):Int)).toNat=2 ^ 32 - 1:=by decide
 rw[e1,e2,Nat.and_two_pow_sub_one_eq_mod,IntKind.wrap_u64]
 have:(2:Nat) ^ 32=4294967296:=by decide
 rw[this]; omega
theorem fdiv32(a:Int)(h:0≤a):Int.fdiv a (2 ^ (Min.min (Int.toNat 32) (IntKind.bits .u64)))=a / 4294967296:=by
 have e:(2:Int) ^ (Min.min (Int.toNat 32) (IntKind.bits .u64))=4294967296:=by decide +kernel
 rw[e,Int.fdiv_eq_ediv_of_nonneg _ (by omega)]
theorem mul_bd{a b:Int}(ha:0≤a∧a<4294967296)(hb:0≤b∧b<4294967296):0≤a*b∧a*b≤18446744065119617025:=by
 refine⟨Int.mul_nonneg ha.1 hb.1,?_⟩
 have h1:a*b≤4294967295*b:=Int.mul_le_mul_of_nonneg_right (by omega) hb.1
 omega
theorem r_mul64{x y:Int}(hx:0≤x∧x<18446744073709551616)(hy:0≤y∧y<18446744073709551616):zit x y=some (x*y / 18446744073709551616,x*y % 18446744073709551616,()):=by
 show zdn stdW x y=_
 unfold zdn
 rw[nn_w (by omega),nn_w (by omega),nn_w (by omega),nn_w (by omega),nn_w (by omega)]
 simp only[fdiv32 x hx.1,fdiv32 y hy.1,and32 x hx,and32 y hy]
 have hx1:0≤x / 4294967296∧x / 4294967296<4294967296:=by omega
 have hx0:0≤x % 4294967296∧x % 4294967296<4294967296:=by omega
 have hy1:0≤y / 4294967296∧y / 4294967296<4294967296:=by omega
 have hy0:0≤y % 4294967296∧y % 4294967296<4294967296:=by omega
 have ex:x=x / 4294967296*4294967296+x % 4294967296:=by omega
 have ey:y=y / 4294967296*4294967296+y % 4294967296:=by omega
 have exy:x*y=(x / 4294967296)*(y / 4294967296)*18446744073709551616+((x / 4294967296)*(y % 4294967296)+(x % 4294967296)*(y / 4294967296))*4294967296+(x % 4294967296)*(y % 4294967296):=by
  generalize x / 4294967296=x1 at*
  generalize x % 4294967296=x0 at*
  generalize y / 4294967296=y1 at*
  generalize y % 4294967296=y0 at*
  rw[ex,ey,Int.add_mul,Int.mul_add,Int.mul_add]
  have a1:x1*4294967296*(y1*4294967296)=x1*y1*18446744073709551616:=by
   rw[Int.mul_assoc,Int.mul_left_comm 4294967296,←Int.mul_assoc]; rfl
  have a2:x1*4294967296*y0=x1*y0*4294967296:=by rw[Int.mul_assoc,Int.mul_comm 4294967296,←Int.mul_assoc]
  have a3:x0*(y1*4294967296)=x0*y1*4294967296:=by rw[←Int.mul_assoc]
  rw[a1,a2,a3,Int.add_mul]; omega
 have hD:=mul_bd hx1 hy1
 have hB:=mul_bd hx1 hy0
 have hC:=mul_bd hx0 hy1
 have hA:=mul_bd hx0 hy0
 rw[exy]
 generalize (x / 4294967296)*(y / 4294967296)=D at*
 generalize (x / 4294967296)*(y % 4294967296)=B at*
 generalize (x % 4294967296)*(y / 4294967296)=C at*
 generalize (x % 4294967296)*(y % 4294967296)=A at*
 have w1:IntKind.u64.wrap A=A:=by rw[IntKind.wrap_u64]; omega
 have w2:IntKind.u64.wrap B=B:=by rw[IntKind.wrap_u64]; omega
 have w3:IntKind.u64.wrap C=C:=by rw[IntKind.wrap_u64]; omega
 have w4:IntKind.u64.wrap D=D:=by rw[IntKind.wrap_u64]; omega
 rw[w1,w2,w3,w4,fdiv32 A (by omega)]
 have w5:IntKind.u64.wrap (B+A / 4294967296)=B+A / 4294967296:=by rw[IntKind.wrap_u64]; omega
 rw[w5,fdiv32 _ (by omega),and32 _ (by omega)]
 have w6:IntKind.u64.wrap ((B+A / 4294967296) % 4294967296+C)=(B+A / 4294967296) % 4294967296+C:=by rw[IntKind.wrap_u64]; omega
 rw[w6,fdiv32 _ (by omega)]
 have w7:IntKind.u64.wrap (D+(B+A / 4294967296) / 4294967296)=D+(B+A / 4294967296) / 4294967296:=by rw[IntKind.wrap_u64]; omega
 rw[w7,IntKind.wrap_u64,IntKind.wrap_u64]
 congr 1
 refine Prod.ext ?_ (Prod.ext ?_ rfl)
 ·show (D+(B+A / 4294967296) / 4294967296+((B+A / 4294967296) % 4294967296+C) / 4294967296) % 18446744073709551616=_; omega
 ·first|rfl|(show _ % 18446744073709551616=_; omega)
theorem ybl(a b:Int):(if (decide (a<0) != decide (b<0))=true then -(absI a*absI b) else absI a*absI b)=a*b:=by
 unfold absI
 by_cases ha:a<0<;>by_cases hb:b<0<;>simp[ha,hb,Int.neg_mul,Int.mul_neg]
theorem abs_bd{a:Int}(h:I64 a):0≤absI a∧absI a≤9223372036854775808:=by unfold I64 at h; unfold absI; split<;>omega
theorem zvg{a b A B:Int}(ha:0≤a∧a≤A)(hb:0≤b∧b≤B):0≤a*b∧a*b≤A*B:=
 ⟨Int.mul_nonneg ha.1 hb.1,Int.mul_le_mul ha.2 hb.2 hb.1 (by omega)⟩
theorem yht(z:Int):decide ((wide z).1<0)=decide (z<0):=by
 refine decide_eq_decide.2 ?_
 show z / 18446744073709551616<0↔_; omega
theorem zbe{β:Type}[EqB β]{a b r:Option β}(ha:a=r)(hb:b=r):stdW.both a b=r:=by rw[ha,hb]; exact both_w r
theorem r_wMul{a b:Int}(ha:I64 a)(hb:I64 b):zpt a b=some (wide (a*b)):=by
 show zib stdW a b=_
 unfold zib
 have xa:=abs_bd ha
 have xb:=abs_bd hb
 have s1:=r_size (wide a) (zjp a (zpl ha))
 have s2:=r_size (wide b) (zjp b (zpl hb))
 rw[zjo]at s1 s2
 have hp:=zvg xa xb
 have m1:zit (szOf (absI a)).2.1 (szOf (absI b)).2.1=some (szOf (absI a*absI b)):=by
  show zit (absI a % 18446744073709551616) (absI b % 18446744073709551616)=_
  rw[Int.emod_eq_of_lt xa.1 (by omega),Int.emod_eq_of_lt xb.1 (by omega),r_mul64 (by omega) (by omega)]; rfl
 rw[zaa (r_wOf a ha),zaa (r_wOf b hb),zaa s1,zaa s2,zaa m1]
 have hz:0≤absI a*absI b∧absI a*absI b<340282366920938463463374607431768211456:=by
  have:(9223372036854775808:Int)*9223372036854775808=85070591730234615865843651857942052864:=by decide
  omega
 have g:(stdW.call (zbz (szOf (absI a*absI b)) (notIf true (decide ((wide a).1<0)==decide ((wide b).1<0)))) fun v8=>some v8.1)=some (wide (a*b)):=by
  have e1:notIf true (decide (a<0)==decide (b<0))=(decide (a<0) != decide (b<0)):=by rw[nif_t]; rfl
  rw[yht,yht,e1,zaa (zzp _ _ hz),ybl]
  show some (w128 (a*b))=_
  rw[yen]
  have:=ybl a b
  have h2:(9223372036854775808:Int)*9223372036854775808=85070591730234615865843651857942052864:=by decide
  unfold In128
  split at this<;>omega
 refine zbe ?_ ?_
 ·rw[zaa (zmt _)]
  refine zbe ?_ ?_
  ·rw[zaa (zmt _),two_w]; exact g
  ·rw[zaa (zmt _)]; exact g
 ·rw[zaa (zmt _),zaa (zmt _)]; exact g
theorem nilq_w{β:Type}[EqB β](e:Bool)(f:Bool→Option β):stdW.nilq e f=nilF e f:=rfl
theorem loop_P{X β:Type}{f:X→(X→Option β)→Option β}(Q:Option β→Prop)(μ:X→Nat)(R:X→Prop){z:X}(hz:R z)(hm:μ z<18446744073709551616)
  (h:∀z,R z→∀again:X→Option β,(∀z',R z'→μ z'<μ z→Q (again z'))→Q (f z again)):Q (stdW.loop f z):=by
 have key:∀n z,R z→μ z<n→Q (loopF n f z):=by
  intro n
  induction n with
  |zero=>intro z _ h; omega
  |succ n ih=>intro z hz hm; exact h z hz _ fun z' hz' hm'=>ih z' hz' (by omega)
 exact key FU z hz (by rw[FU_eq]; exact hm)
theorem zlu{X β:Type}{Q:Option β→Prop}{k0:X→Option β}{f:(X→Option β)→Option β}(h:∀k,k=k0→Q (f k)):Q (stdW.join k0 f):=h k0 rfl
theorem nz_w{β:Type}{b:Int}(h:b≠0)(K:Option β):stdW.nz b K=K:=nz_eq h K
theorem zue(xs:List Int)(i:Nat)(h:i<xs.length):valB (xs.drop i)=xs[i].toNat+2*valB (xs.drop (i+1)):=by
 rw[List.drop_eq_getElem_cons h]; rfl
theorem znp(xs:List Int)(i:Nat)(h:¬i<xs.length):xs.drop i=[]:=List.drop_eq_nil_of_le (by omega)
theorem ybh{a b:List Int}(ha:bitL a)(hb:bitL b):bitL (a++b):=fun x hx=>(List.mem_append.1 hx).elim (ha x) (hb x)
theorem yhn{xs:List Int}(h:bitL xs)(i:Nat)(hi:i<xs.length):∃u:Nat,u≤1∧xs[i]=(u:Int):=by
 rcases h _ (List.getElem_mem hi) with e|e
 ·exact⟨0,by omega,by rw[e]; rfl⟩
 ·exact⟨1,by omega,by rw[e]; rfl⟩
theorem plus_gen{xs ys:List Int}(hx:bitL xs)(hy:bitL ys)(lx:xs.length≤1000)(ly:ys.length≤1000):
  ∃r,znx xs ys=some r∧bitL r∧valB r=valB xs+valB ys∧r.length≤max xs.length ys.length+1:=by
 show ∃r,zep stdW xs ys=some r∧_
 unfold zep
 refine loop_P (fun o=>∃r,o=some r∧bitL r∧valB r=valB xs+valB ys∧r.length≤max xs.length ys.length+1) (fun z=>2001 - z.2.1.toNat)
  (fun z=>∃(i c:Nat) (s:List Int),z=((c:Int),((i:Int),(s,())))∧c≤1∧bitL s∧s.length=i∧i≤max xs.length ys.length∧valB s+2 ^ i*(valB (xs.drop i)+valB (ys.drop i)+c)=valB xs+valB ys)
  ⟨0,0,[],rfl,by omega,(by intro x hx; cases hx),rfl,by omega,by simp[valB]⟩ (by show 2001 - (0:Int).toNat<_; omega) ?_
 rintro _ ⟨i,c,s,rfl,hc,hs,hsl,hi,hv⟩ again ha
 generalize hQ:(fun o:Option (List Int)=>∃r,o=some r∧bitL r∧valB r=valB xs+valB ys∧r.length≤max xs.length ys.length+1)=Q
 have ha':∀z',(∃(i c:Nat) (s:List Int),z'=((c:Int),((i:Int),(s,())))∧c≤1∧bitL s∧s.length=i∧i≤max xs.length ys.length∧valB s+2 ^ i*(valB (xs.drop i)+valB (ys.drop i)+c)=valB xs+valB ys)→2001 - z'.2.1.toNat<2001 - (i:Int).toNat→Q (again z'):=by
  intro z' h1 h2; rw[←hQ]; exact ha z' h1 h2
 have hfin:∀r,bitL r→valB r=valB xs+valB ys→r.length≤max xs.length ys.length+1→Q (some r):=by
  intro r h1 h2 h3; rw[←hQ]; exact⟨r,rfl,h1,h2,h3⟩
 refine(congrFun hQ _).mpr ?_
 clear ha hQ
 have go:∀(u v:Nat),u≤1→v≤1→(i<xs.length∨i<ys.length)→valB (xs.drop i)=u+2*valB (xs.drop (i+1))→valB (ys.drop i)=v+2*valB (ys.drop (i+1))→
   Q (stdW.nz 2 (stdW.room (s.length+[Int.tmod ((c+u+v:Nat):Int) 2].length) 1 (stdW.nz 2 (again (IntKind.u8.wrap (Int.tdiv ((c+u+v:Nat):Int) 2),(IntKind.i64.wrap ((i:Int)+1),(s++[Int.tmod ((c+u+v:Nat):Int) 2],()))))))):=by
  intro u v hu hv' hlt ex ey
  rw[nz_w (by omega),room_w (by simp; omega) (by simp; omega),nz_w (by omega),u8_half _ (by omega),ztt,ztx i (by omega)]
  refine ha' _ ⟨i+1,(c+u+v) / 2,s++[(((c+u+v) % 2:Nat):Int)],rfl,by omega,ybh hs fun x hx=>?_,by simp[hsl],by omega,?_⟩ (by show 2001 - ((i+1:Nat):Int).toNat<2001 - ((i:Nat):Int).toNat; omega)
  ·simp only[List.mem_singleton]at hx; subst hx; omega
  ·rw[←hv,znq,hsl,ex,ey,Nat.pow_succ]
   have e1:valB [(((c+u+v) % 2:Nat):Int)]=(c+u+v) % 2:=by simp only[valB]; omega
   rw[e1,Nat.add_assoc,Nat.mul_assoc,←Nat.mul_add]
   congr 2; omega
 refine zlu (Q:=Q) fun k10 hk10=>?_
 have step10:(i<xs.length∨i<ys.length)→Q (k10 (s,())):=by
  intro hlt
  subst hk10
  refine zlu (Q:=Q) fun k8 hk8=>?_
  have step8:∀u:Nat,u≤1→valB (xs.drop i)=u+2*valB (xs.drop (i+1))→Q (k8 (((c+u:Nat):Int),(s,()))):=by
   intro u hu ex
   subst hk8
   refine zlu (Q:=Q) fun k6 hk6=>?_
   have step6:∀v:Nat,v≤1→valB (ys.drop i)=v+2*valB (ys.drop (i+1))→Q (k6 (((c+u+v:Nat):Int),(s,()))):=by
    intro v hv' ey
    subst hk6
    exact go u v hu hv' hlt ex ey
   clear hk6
   show Q (stdW.cnd (decide ((i:Int)<(ys.length:Int))) (stdW.idx ys (i:Int) fun x7=>k6 (IntKind.u8.wrap (((c+u:Nat):Int)+x7),(s,()))) (k6 (((c+u:Nat):Int),(s,()))))
   by_cases h2:i<ys.length
   ·obtain⟨v,hv',ev⟩:=yhn hy i h2
    have ey:=zue ys i h2
    rw[ev,Int.toNat_natCast]at ey
    rw[cnd_lt h2,idx_w h2,ev,u8_add _ _ (by omega)]
    exact step6 v hv' ey
   ·rw[cnd_n (decide_eq_false (by omega))]
    exact step6 0 (by omega) (by rw[znp ys i h2,znp ys (i+1) (by omega)]; rfl)
  clear hk8
  show Q (stdW.cnd (decide ((i:Int)<(xs.length:Int))) (stdW.idx xs (i:Int) fun x9=>k8 (IntKind.u8.wrap ((c:Int)+x9),(s,()))) (k8 ((c:Int),(s,()))))
  by_cases h1:i<xs.length
  ·obtain⟨u,hu,eu⟩:=yhn hx i h1
   have ex:=zue xs i h1
   rw[eu,Int.toNat_natCast]at ex
   rw[cnd_lt h1,idx_w h1,eu,u8_add _ _ (by omega)]
   exact step8 u hu ex
  ·rw[cnd_n (decide_eq_false (by omega))]
   exact step8 0 (by omega) (by rw[znp xs i h1,znp xs (i+1) (by omega)]; rfl)
 clear hk10
 show Q (stdW.cnd (decide ((i:Int)<(xs.length:Int))) (k10 (s,())) (stdW.cnd (decide ((i:Int)<(ys.length:Int))) (k10 (s,())) (stdW.join (fun (z11:List (Int)×Unit)=>some z11.1) fun k12=>stdW.cnd (decide (0<(c:Int))) (stdW.room (s.length+((c:Int)::[]).length) 1 ((k12 ((s++((c:Int)::[])),())))) (k12 (s,())))))
 by_cases h1:i<xs.length
 ·rw[cnd_lt h1]; exact step10 (.inl h1)
 rw[cnd_n (decide_eq_false (by omega))]
 by_cases h2:i<ys.length
 ·rw[cnd_lt h2]; exact step10 (.inr h2)
 rw[cnd_n (decide_eq_false (by omega)),join_w]
 rw[znp xs i h1,znp ys i h2]at hv
 by_cases h3:c=0
 ·subst h3
  rw[cnd_n (by decide)]
  exact hfin s hs (by rw[←hv]; simp[valB]) (by omega)
 ·have:c=1:=by omega
  subst this
  rw[cnd_y (by decide),room_w (by simp; omega) (by simp; omega)]
  refine hfin _ (ybh hs (by intro x hx; simp only[List.mem_singleton]at hx; subst hx; exact .inr rfl)) ?_ (by simp; omega)
  rw[←hv,znq,hsl]; simp[valB]
theorem valB_zeros(n:Nat)(a:List Int):valB (List.replicate n (0:Int)++a)=2 ^ n*valB a:=by
 have:∀n:Nat,valB (List.replicate n (0:Int))=0:=by
  intro n; induction n with
  |zero=>rfl
  |succ n ih=>rw[List.replicate_succ,valB,ih]; rfl
 rw[znq,this,List.length_replicate,Nat.zero_add]
theorem bit_eq{xs:List Int}(h:bitL xs)(i:Nat)(hi:i<xs.length):(xs[i]=1∧xs[i].toNat=1)∨(xs[i]=0∧xs[i].toNat=0):=by
 rcases h _ (List.getElem_mem hi) with e|e
 ·exact .inr ⟨e,by rw[e]; rfl⟩
 ·exact .inl ⟨e,by rw[e]; rfl⟩
theorem r_mul{x y:BigT}(hx:bitL x.2.1)(hy:bitL y.2.1)(lx:x.2.1.length≤300)(ly:y.2.1.length≤300):zqd x y=some (bigS (x.1 != y.1) (valB x.2.1*valB y.2.1)):=by
 show zcj stdW x y=_
 unfold zcj
 rw[room_w (by omega) (by omega)]
 refine(zdb (fun z=>y.2.1.length+1 - z.2.2.1.toNat) (fun z=>∃(i:Nat) (s:List Int),z=(s,(List.replicate i (0:Int)++x.2.1,((i:Int),())))∧i≤y.2.1.length∧bitL s∧s.length≤x.2.1.length+i∧valB s=valB x.2.1*valB (y.2.1.take i))
  (fun _=>some (bigS (x.1 != y.1) (valB x.2.1*valB y.2.1))) ⟨0,[],rfl,by omega,(by intro x hx; cases hx),by simp,by simp[valB]⟩ (by show y.2.1.length+1 - (0:Int).toNat<_; omega) ?_)
 rintro _ ⟨i,s,rfl,hi,hs,hsl,hv⟩ again ha
 have hz:bitL (List.replicate i (0:Int)++x.2.1):=ybh (fun x hx=>.inl (List.mem_replicate.1 hx).2) hx
 have hzl:(List.replicate i (0:Int)++x.2.1).length=i+x.2.1.length:=by simp
 by_cases h:i<y.2.1.length
 ·show stdW.cnd (decide ((i:Int)<(y.2.1.length:Int))) (stdW.join (fun (z3:List (Int)×Unit)=>stdW.room [(0:Int)].length 1 (stdW.room ([(0:Int)].length+(List.replicate i (0:Int)++x.2.1).length) 1 (again (z3.1,([(0:Int)]++(List.replicate i (0:Int)++x.2.1),(IntKind.i64.wrap ((i:Int)+1),())))))) _) _=_
  rw[cnd_lt h]
  refine join_g fun k hk=>?_
  have kk:∀v:List Int,bitL v→v.length≤x.2.1.length+(i+1)→valB v=valB x.2.1*valB (y.2.1.take (i+1))→k (v,())=some (bigS (x.1 != y.1) (valB x.2.1*valB y.2.1)):=by
   intro v h1 h2 h3
   subst hk
   show stdW.room [(0:Int)].length 1 (stdW.room ([(0:Int)].length+(List.replicate i (0:Int)++x.2.1).length) 1 (again (v,([(0:Int)]++(List.replicate i (0:Int)++x.2.1),(IntKind.i64.wrap ((i:Int)+1),())))))=_
   rw[room_w (by simp) (by simp),room_w (by rw[hzl]; simp; omega) (by rw[hzl]; simp; omega),i64_s i (by omega)]
   exact ha _ ⟨i+1,v,rfl,by omega,h1,h2,h3⟩ (by show y.2.1.length+1 - ((i+1:Nat):Int).toNat<y.2.1.length+1 - ((i:Nat):Int).toNat; omega)
  clear hk ha
  show stdW.idx y.2.1 (i:Int) _=_
  rw[idx_w h]
  rw[zgi y.2.1 i h]at kk
  rcases bit_eq hy i h with ⟨e1,e2⟩|⟨e1,e2⟩
  ·rw[cnd_y (by rw[e1]; rfl)]
   obtain⟨r,hr,r1,r2,r3⟩:=plus_gen hs hz (by omega) (by rw[hzl]; omega)
   show stdW.call (znx s (List.replicate i (0:Int)++x.2.1)) _=_
   rw[zaa hr]
   refine kk r r1 (by rw[hzl]at r3; omega) ?_
   rw[r2,hv,valB_zeros,e2,Nat.mul_add,Nat.mul_one,Nat.mul_comm (valB x.2.1) (2 ^ i)]
  ·rw[cnd_n (by rw[e1]; rfl)]
   exact kk s hs (by omega) (by rw[hv,e2]; simp)
 ·have:i=y.2.1.length:=by omega
  subst this
  show stdW.cnd (decide ((y.2.1.length:Int)<(y.2.1.length:Int))) _ (stdW.call (zrp (notIf true (x.1==y.1)) s) fun v7=>some (v7.1,(v7.2.1,())))=_
  rw[zaj,zaa (r_trim hs (by omega)),hv,List.take_length,nif_t]
  rfl
theorem len_of{z:Int}(h:sml z):(big z).2.1.length≤300:=Nat.le_trans (zhk h) (by decide)
theorem r_mulB{x y:Int}(hx:sml x)(hy:sml y):zqd (big x) (big y)=some (big (x*y)):=by
 rw[r_mul (zlg _) (zlg _) (len_of hx) (len_of hy)]
 have e:∀z:Int,valB (big z).2.1=z.natAbs:=fun z=>zfg _
 rw[e,e,zwz]
 have:=ybl x y
 have e2:∀z:Int,((z.natAbs:Nat):Int)=absI z:=by intro z; unfold absI; split<;>omega
 rw[Int.natCast_mul,e2,e2]
 show some (big (if (decide (x<0) != decide (y<0))=true then _ else _))=_
 rw[this]
theorem r_subB{a b:Int}(ha:sml a)(hb:sml b):ycv (big a) (big b)=some (big (a - b)):=by
 unfold sml at*
 have:=r_sub (nb_big a) (nb_big b) (Nat.le_trans (zhk ha) (by decide)) (Nat.le_trans (zhk hb) (by decide))
 rwa [bv_big,bv_big]at this
theorem zdl{α:Type}{p:α→Bool}{l:List α}(h:∀x∈l,p x=false):l.filter p=[]:=List.filter_eq_nil_iff.2 fun x hx=>by simp[h x hx]
theorem zjw{α:Type}{p:α→Bool}{l:List α}(h:∀x∈l,p x=true):l.filter p=l:=List.filter_eq_self.2 h
def ltL(a b:ALot'):Prop:=a.1<b.1∨(a.1=b.1∧a.2.1<b.2.1)
instance (a b:ALot'):Decidable (ltL a b):=by unfold ltL; infer_instance
def rightL(x:ALot'):Prop:=(1≤x.1∧x.1≤4)∧(0≤x.2.1∧x.2.1≤255)∧0<x.2.2.1
instance (x:ALot'):Decidable (rightL x):=by unfold rightL; infer_instance
def LInv(l:List ALot'):Prop:=(∀x∈l,rightL x)∧l.Pairwise ltL∧l.length≤16
instance (l:List ALot'):Decidable (LInv l):=by unfold LInv; infer_instance
def isL(l:List ALot'):Bool:=decide (LInv l)
def HInv(l:List AHold'):Prop:=(∀h∈l,h.2.1≠[]∧LInv h.2.1)∧SrtA (l.map (·.1))
instance (l:List AHold'):Decidable (HInv l):=by unfold HInv SrtA; infer_instance
def isH(l:List AHold'):Bool:=decide (HInv l)
def okT(l:List ALot'):Prop:=l.length≤20∧∀x∈l,I64 x.2.2.1
def lotsH:List AHold'→AUnit'→List ALot'
 |[],_=>[]
 |h::l,u=>if h.1=u then h.2.1 else lotsH l u
theorem zgk{l:List AHold'}(h:∀x∈l,okT x.2.1)(u:AUnit'):okT (lotsH l u):=by
 induction l with
 |nil=>exact⟨by simp[lotsH],fun x hx=>by cases hx⟩
 |cons x l ih=>
  rw[lotsH]
  split
  ·exact h x (by simp)
  ·exact ih fun y hy=>h y (by simp[hy])
def qtyL(k:Int)(l:List ALot'):Int:=sumBy (fun x=>if x.1=k then x.2.2.1 else 0) l
def qtyH(k:Int)(l:List AHold'):Int:=sumBy (fun h=>qtyL k h.2.1) l
theorem zoa{s:List ALot'}(h:s.length≤1000000):zco s=some s:=by
 show zan stdW s=_
 unfold zan
 rw[nilq_w]
 refine nilF_eq ?_ fun he=>?_
 ·show stdW.cnd (notIf false false) _ _=_
  rw[cnd_n (by decide),room_w (by omega) (by omega)]; rfl
 ·have:s=[]:=by simpa using he
  subst this; rfl
theorem r_cloneI{s:List Int}(h:s.length≤1000000):zos s=some s:=by
 show zcd stdW s=_
 unfold zcd
 rw[nilq_w]
 refine nilF_eq ?_ fun he=>?_
 ·show stdW.cnd (notIf false false) _ _=_
  rw[cnd_n (by decide),room_w (by omega) (by omega)]; rfl
 ·have:s=[]:=by simpa using he
  subst this; rfl
def okAs(l:List zab):Prop:=(∀a∈l,a.2.2.2.1.length≤1000)∧l.length≤1000
theorem r_copiedA{l:List zab}(h:okAs l):yhp l=some l:=by
 have hl:=h.2
 show zhh stdW l=_
 unfold zhh
 refine zsa (N:=l.length) (by omega) (fun i=>((i:Int),(l.take i,()))) _ rfl ?_ ?_
 ·intro again
  show stdW.cnd (decide ((l.length:Int)<(l.length:Int))) _ (some (l.take l.length))=_
  rw[zaj,List.take_length]
 ·intro i hi again ha
  have h2:=h.1 _ (List.getElem_mem hi)
  have e:ykx (l[i].1,(l[i].2.1,(l[i].2.2.1,(l[i].2.2.2.1,()))))=some l[i]:=by
   show znm stdW l[i]=_
   unfold znm
   rw[zaa (r_cloneI (by omega))]
  show stdW.cnd (decide ((i:Int)<(l.length:Int))) (stdW.idx l (i:Int) fun x3=>stdW.call (ykx (x3.1,(x3.2.1,(x3.2.2.1,(x3.2.2.2.1,()))))) fun v4=>stdW.room ((l.take i).length+1) 48 (again (IntKind.i64.wrap ((i:Int)+1),(l.take i++[(v4.1,(v4.2.1,(v4.2.2.1,(v4.2.2.2.1,()))))],())))) _=_
  have:(l.take i).length≤1000:=by rw[List.length_take]; omega
  rw[cnd_lt hi,idx_w hi,zaa e,room_w (by omega) (by omega),i64_s i (by omega)]
  rw[List.take_succ_eq_append_getElem hi]at ha
  exact ha
def isM(id:Int)(a:zab):Bool:=decide (a.2.1=id)
def unitsA(a:zab):List AUnit':=if a.2.2.1=1 then [(a.1,(0,()))] else a.2.2.2.1.map fun c=>(a.1,(c,()))
theorem yjb{a:zab}(h:a.2.2.2.1.length≤1000):zhy (a.1,(a.2.1,(a.2.2.1,(a.2.2.2.1,()))))=some (unitsA a):=by
 show zet stdW a=_
 unfold zet unitsA
 by_cases hk:a.2.2.1=1
 ·rw[cnd_y (by simpa using hk),if_pos hk]
 ·rw[cnd_n (by simpa using hk),if_neg hk]
  refine zsa (N:=a.2.2.2.1.length) (by omega) (fun i=>((i:Int),((a.2.2.2.1.take i).map (fun c=>((a.1,(c,())):AUnit')),()))) _ rfl ?_ ?_
  ·intro again
   show stdW.cnd (decide ((a.2.2.2.1.length:Int)<(a.2.2.2.1.length:Int))) _ (some _)=_
   rw[zaj,List.take_length]
  ·intro i hi again ha
   show stdW.cnd (decide ((i:Int)<(a.2.2.2.1.length:Int))) (stdW.idx a.2.2.2.1 (i:Int) fun x3=>stdW.room (((a.2.2.2.1.take i).map (fun c=>((a.1,(c,())):AUnit'))).length+1) 16 (again (IntKind.i64.wrap ((i:Int)+1),((a.2.2.2.1.take i).map (fun c=>((a.1,(c,())):AUnit'))++[(a.1,(x3,()))],())))) _=_
   have:((a.2.2.2.1.take i).map (fun c=>((a.1,(c,())):AUnit'))).length≤1000:=by rw[List.length_map,List.length_take]; omega
   rw[cnd_lt hi,idx_w hi,room_w (by omega) (by omega),i64_s i (by omega)]
   rw[List.take_succ_eq_append_getElem hi,List.map_append]at ha
   exact ha
theorem srt_next{α:Type}{f:α→AUnit'}{l:List α}{i:Nat}(hi:i<l.length)(inv:SrtA ((l.take i).map f))(h2:∀h0:0<i,ltA (f (l[i - 1]'(by omega))) (f l[i])):SrtA ((l.take (i+1)).map f):=by
 rw[List.take_succ_eq_append_getElem hi,List.map_append]
 refine List.pairwise_append.2 ⟨inv,by simp,fun a ha b hb=>?_⟩
 simp only[List.map_cons,List.map_nil,List.mem_singleton]at hb
 subst hb
 obtain⟨k,hk,hka⟩:=List.mem_iff_getElem.1 ha
 have hk':k<i:=by simp at hk; omega
 have h3:=h2 (by omega)
 by_cases hki:k=i - 1
 ·subst hki; rw[←hka]; simpa using h3
 ·have h4:=List.pairwise_iff_getElem.1 inv k (i - 1) (by simpa using hk) (by simp; omega) (by omega)
  rw[hka]at h4
  refine ltA_tr h4 ?_
  simpa using h3
def okHs(l:List AHold'):Prop:=(∀h∈l,okT h.2.1)∧l.length≤400000
theorem zzq{l:List AHold'}{u:AUnit'}(h:okHs l):zvw l u=some (lotsH l u):=by
 have hl:=h.2
 show zfa stdW l u=_
 unfold zfa
 refine zbo (l:=l) (by omega) (s0:=()) (fun _ _=>True) (fun l' _=>some (lotsH l' u)) trivial ?_ ?_
 ·rintro _ again _
  rw[zaj]; rfl
 ·rintro i hi _ _ again ha
  have h2:=(h.1 _ (List.getElem_mem hi)).1
  rw[cnd_lt hi,idx_w hi,nif_f,eqA]
  show _=some (lotsH (l[i]::l.drop (i+1)) u)
  rw[lotsH]
  by_cases h:l[i].1=u
  ·rw[cnd_y (decide_eq_true h),if_pos h,zaa (zoa (by omega))]
  ·rw[cnd_n (decide_eq_false h),if_neg h]
   show again (IntKind.i64.wrap ((i:Int)+1),())=_
   rw[i64_s i (by omega)]
   exact ha _ trivial
theorem ztp{l:List AHold'}{u:AUnit'}(hl:l.length≤400000):zrm l u=some (lotsH l u):=by
 show zdk stdW l u=_
 unfold zdk
 refine zbo (l:=l) (by omega) (s0:=()) (fun _ _=>True) (fun l' _=>some (lotsH l' u)) trivial ?_ ?_
 ·rintro _ again _
  rw[zaj]; rfl
 ·rintro i hi _ _ again ha
  rw[cnd_lt hi,idx_w hi,nif_f,eqA]
  show _=some (lotsH (l[i]::l.drop (i+1)) u)
  rw[lotsH]
  by_cases h:l[i].1=u
  ·rw[cnd_y (decide_eq_true h),if_pos h,idx_w hi]
  ·rw[cnd_n (decide_eq_false h),if_neg h]
   show again (IntKind.i64.wrap ((i:Int)+1),())=_
   rw[i64_s i (by omega)]
   exact ha _ trivial
def pu(s:zad):List AFlow':=s.2.2.2.2.2.2.2.2.2.2.1
def ho(s:zad):List AHold':=s.2.2.2.2.2.2.2.2.2.2.2.1
def updS(s:zad)(p:List AFlow')(h:List AHold'):zad:=(s.1,(s.2.1,(s.2.2.1,(s.2.2.2.1,(s.2.2.2.2.1,(s.2.2.2.2.2.1,(s.2.2.2.2.2.2.1,(s.2.2.2.2.2.2.2.1,(s.2.2.2.2.2.2.2.2.1,(s.2.2.2.2.2.2.2.2.2.1,(p,(h,()))))))))))))
theorem zsk{P:Prop}{c:Bool}{a b:Option Bool}(ha:∃r,a=some r∧(r=true→P))(hb:∃r,b=some r∧(r=true→P)):∃r,stdW.cnd c a b=some r∧(r=true→P):=by
 cases c
 ·exact hb
 ·exact ha
def okAc(a:zab):Prop:=1≤a.1∧a.2.2.2.1.Pairwise (· < ·)
theorem ybw{l:List Int}{i:Nat}(hi:i<l.length)(inv:(l.take i).Pairwise (· < ·))(h2:∀h0:0<i,l[i - 1]'(by omega)<l[i]):(l.take (i+1)).Pairwise (· < ·):=by
 rw[List.take_succ_eq_append_getElem hi]
 refine List.pairwise_append.2 ⟨inv,List.pairwise_singleton _ _,fun x hx y hy=>?_⟩
 rw[List.mem_singleton.1 hy]
 obtain⟨k,hk,rfl⟩:=List.getElem_of_mem hx
 have hk':k<i:=by rw[List.length_take]at hk; omega
 have h3:=h2 (by omega)
 rw[List.getElem_take]
 by_cases e:k=i - 1
 ·subst e; exact h3
 ·have h4:=List.pairwise_iff_getElem.1 inv k (i - 1) hk (by rw[List.length_take]; omega) (by omega)
  rw[List.getElem_take,List.getElem_take]at h4
  exact Int.lt_trans h4 h3
theorem r_is15{a:zab}(hm:a.2.2.2.1.length≤1000000):∃b,yir a=some b∧(b=true→okAc a):=by
 show ∃b,zmp stdW a=some b∧_
 unfold zmp
 have no:∃b,(some false:Option Bool)=some b∧(b=true→okAc a):=⟨_,rfl,fun h=>by cases h⟩
 refine zlu (Q:=fun o=>∃b,o=some b∧(b=true→okAc a)) fun k12 hk12=>?_
 by_cases h1:a.1<1
 ·rw[cnd_y (decide_eq_true h1)]
  subst hk12
  exact no
 rw[cnd_n (decide_eq_false h1)]
 have kb12:∀c,∃b,k12 (c,())=some b∧(b=true→okAc a):=by
  intro c
  subst hk12
  show ∃b,stdW.cnd c (some false) _=some b∧_
  refine zsk no ?_
  refine zlu (Q:=fun o=>∃b,o=some b∧(b=true→okAc a)) fun k11 hk11=>?_
  have kb11:∀c,∃b,k11 (c,())=some b∧(b=true→okAc a):=by
   intro c
   subst hk11
   show ∃b,stdW.cnd c (some false) _=some b∧_
   refine zsk no ?_
   refine loop_P (fun o=>∃b,o=some b∧(b=true→okAc a)) (fun z=>a.2.2.2.1.length+1 - z.1.toNat) (fun z=>∃j:Nat,j≤a.2.2.2.1.length∧z=((j:Int),())∧(a.2.2.2.1.take j).Pairwise (· < ·)) ⟨0,Nat.zero_le _,rfl,by simp⟩ (by show _ - (0:Int).toNat<_; omega) ?_
   rintro _ ⟨j,hj,rfl,hp⟩ again ha
   show ∃b,stdW.cnd (decide ((j:Int)<(a.2.2.2.1.length:Int))) _ _=some b∧_
   by_cases h:j<a.2.2.2.1.length
   ·rw[cnd_lt h]
    refine zlu (Q:=fun o=>∃b,o=some b∧(b=true→okAc a)) fun k6 hk6=>?_
    have kb6:∀c,(c=false→(a.2.2.2.1.take (j+1)).Pairwise (· < ·))→∃b,k6 (c,())=some b∧(b=true→okAc a):=by
     intro c hc
     subst hk6
     show ∃b,stdW.cnd c (some false) (again (IntKind.i64.wrap ((j:Int)+1),()))=some b∧_
     cases c with
     |true=>exact no
     |false=>
      show ∃b,again (IntKind.i64.wrap ((j:Int)+1),())=some b∧_
      rw[i64_s j (by omega)]
      exact ha _ ⟨j+1,by omega,rfl,hc rfl⟩ (by show _ - ((j+1:Nat):Int).toNat<_ - ((j:Nat):Int).toNat; omega)
    clear hk6 ha
    have kt:∃b,k6 (true,())=some b∧(b=true→okAc a):=kb6 true fun h=>by cases h
    show ∃b,stdW.idx a.2.2.2.1 (j:Int) _=some b∧_
    rw[idx_w h]
    refine zsk kt ?_
    show ∃b,stdW.idx a.2.2.2.1 (j:Int) _=some b∧_
    rw[idx_w h]
    refine zsk kt ?_
    show ∃b,stdW.cnd (decide (0<(j:Int))) (stdW.idx a.2.2.2.1 (j:Int) fun x9=>stdW.idx a.2.2.2.1 (IntKind.i64.wrap ((j:Int) - 1)) _) _=some b∧_
    by_cases h0:0<j
    ·rw[cnd_y (decide_eq_true (by omega)),idx_w h,zfn j h0 (by rw[zbc]; omega),idx_w (by omega)]
     exact kb6 _ fun hd=>ybw h hp fun _=>by have:=of_decide_eq_false hd; omega
    ·rw[cnd_n (decide_eq_false (by omega))]
     exact kb6 _ fun _=>ybw h hp fun h1=>absurd h1 h0
   ·have:j=a.2.2.2.1.length:=by omega
    subst this
    rw[List.take_length]at hp
    rw[zaj]; exact⟨_,rfl,fun _=>⟨by omega,hp⟩⟩
  clear hk11
  repeat' (first|exact kb11 _|refine zsk ?_ ?_)
 clear hk12
 repeat' (first|exact kb12 _|refine zsk ?_ ?_)
theorem r_find15{l:List zab}{id:Int}(hl:l.length≤1000000):∃x b,ref15_Find l id=some (x,(b,()))∧(b=false→∀a∈l,a.1≠id):=by
 show ∃x b,zio stdW l id=some (x,(b,()))∧_
 unfold zio
 refine loop_P (fun o=>∃(x:zab) (b:Bool),o=some (x,(b,()))∧(b=false→∀a∈l,a.1≠id)) (fun z=>l.length+1 - z.1.toNat) (fun z=>∃j:Nat,j≤l.length∧z=((j:Int),())∧∀a∈l.take j,a.1≠id) ⟨0,Nat.zero_le _,rfl,by simp⟩ (by show _ - (0:Int).toNat<_; omega) ?_
 rintro _ ⟨j,hj,rfl,hp⟩ again ha
 show ∃x b,stdW.cnd (decide ((j:Int)<(l.length:Int))) _ _=some (x,(b,()))∧_
 by_cases h:j<l.length
 ·rw[cnd_lt h]
  show ∃x b,stdW.idx l (j:Int) _=some (x,(b,()))∧_
  rw[idx_w h]
  by_cases hi:l[j].1=id
  ·rw[cnd_y (by simpa using hi)]
   show ∃x b,stdW.idx l (j:Int) _=some (x,(b,()))∧_
   rw[idx_w h]
   exact⟨_,true,rfl,fun h=>by cases h⟩
  ·rw[cnd_n (by simpa using hi)]
   show ∃x b,again (IntKind.i64.wrap ((j:Int)+1),())=some (x,(b,()))∧_
   rw[i64_s j (by omega)]
   refine ha _ ⟨j+1,by omega,rfl,fun a hm=>?_⟩ (by show _ - ((j+1:Nat):Int).toNat<_ - ((j:Nat):Int).toNat; omega)
   rw[List.take_succ_eq_append_getElem h]at hm
   rcases List.mem_append.1 hm with hm|hm
   ·exact hp a hm
   ·simp only[List.mem_singleton]at hm; subst hm; exact hi
 ·have:j=l.length:=by omega
  subst this
  rw[List.take_length]at hp
  rw[zaj]; exact⟨_,false,rfl,fun _=>hp⟩
theorem r_put15{l:List zab}{i:zab}(hl:l.length≤1000)(hm:i.2.2.2.1.length≤1000000):∃r e,yco l i=some (r,(e,()))∧(e=0→okAc i∧(∀x∈r,x∈l∨x=i)∧r.length≤l.length+1∧((l.map (·.1)).Nodup→(r.map (·.1)).Nodup)):=by
 show ∃r e,zkn stdW l i=some (r,(e,()))∧_
 unfold zkn
 obtain⟨b,hb,hbo⟩:=r_is15 hm
 have e0:yir (i.1,(i.2.1,(i.2.2.1,(i.2.2.2.1,()))))=some b:=hb
 rw[zaa e0]
 cases b with
 |false=>rw[cnd_y (by decide)]; exact⟨[],2,rfl,by simp⟩
 |true=>
  have hid:=hbo rfl
  obtain⟨x,bf,hf,hno⟩:=r_find15 (l:=l) (id:=i.1) (by omega)
  rw[cnd_n (by decide),zaa hf]
  cases bf with
  |true=>
   rw[cnd_y (by rfl)]; exact⟨[],12,rfl,by simp⟩
  |false=>
   have hno:=hno rfl
   rw[cnd_n (by rfl),join_w]
   refine loop_P (fun o=>∃(r:List zab) (e:Int),o=some (r,(e,()))∧(e=0→okAc i∧(∀x∈r,x∈l∨x=i)∧r.length≤l.length+1∧((l.map (·.1)).Nodup→(r.map (·.1)).Nodup))) (fun z=>l.length+1 - z.1.toNat) (fun z=>∃j:Nat,j≤l.length∧z=((j:Int),())) ⟨0,Nat.zero_le _,rfl⟩ (by show _ - (0:Int).toNat<_; omega) ?_
   rintro _ ⟨j,hj,rfl⟩ again ha
   have fin:∃(r:List zab) (e:Int),stdW.bnd (j:Int) l.length (fun h4=>stdW.room (l.take h4).length 48 (stdW.room ((l.take h4).length+((i.1,(i.2.1,(i.2.2.1,(i.2.2.2.1,()))))::([]:List zab)).length) 48 (stdW.bnd (j:Int) l.length fun h5=>stdW.room (((l.take h4)++((i.1,(i.2.1,(i.2.2.1,(i.2.2.2.1,()))))::([]:List zab))).length+((l.take l.length).drop h5).length) 48 (some (((l.take h4)++((i.1,(i.2.1,(i.2.2.1,(i.2.2.2.1,()))))::([]:List zab))++((l.take l.length).drop h5)),(0,()))))))=some (r,(e,()))∧(e=0→okAc i∧(∀x∈r,x∈l∨x=i)∧r.length≤l.length+1∧((l.map (·.1)).Nodup→(r.map (·.1)).Nodup)):=by
    rw[bnd_w (by omega) (by omega),Int.toNat_natCast]
    have l1:(l.take j).length≤1000:=by rw[List.length_take]; omega
    rw[room_w (by omega) (by omega),room_w (by simp only[List.length_cons,List.length_nil]; omega) (by simp only[List.length_cons,List.length_nil]; omega),bnd_w (by omega) (by omega),Int.toNat_natCast,List.take_length,
     room_w (by simp only[List.length_append,List.length_drop,List.length_cons,List.length_nil]; omega) (by simp only[List.length_append,List.length_drop,List.length_cons,List.length_nil]; omega)]
    refine⟨_,_,rfl,fun _=>⟨hid,fun x hx=>?_,by simp only[List.length_append,List.length_drop,List.length_cons,List.length_nil,List.length_take]; omega,fun hnd=>?_⟩⟩
    ·rcases List.mem_append.1 hx with hx|hx
     ·rcases List.mem_append.1 hx with hx|hx
      ·exact .inl (List.mem_of_mem_take hx)
      ·simp only[List.mem_singleton]at hx
       exact .inr hx
     ·exact .inl (List.mem_of_mem_drop hx)
    ·have hp:(l.take j++[i]++l.drop j).Perm (i::l):=by
      have h1:(l.take j++[i]++l.drop j).Perm (i::(l.take j++l.drop j)):=by
       rw[List.append_assoc]; exact List.perm_middle
      rwa [List.take_append_drop]at h1
     have h2:=(hp.map (fun x:zab=>x.1)).nodup_iff.2 (List.nodup_cons.2 ⟨fun hm=>by
      obtain⟨a,ha,e⟩:=List.mem_map.1 hm
      exact hno a ha e,hnd⟩)
     exact h2
   show ∃r e,stdW.cnd (decide ((j:Int)<(l.length:Int))) _ _=_∧_
   by_cases h:j<l.length
   ·rw[cnd_lt h]
    show ∃r e,stdW.idx l (j:Int) _=_∧_
    rw[idx_w h]
    by_cases h1:l[j].1<i.1
    ·rw[cnd_y (decide_eq_true h1)]
     show ∃r e,again (IntKind.i64.wrap ((j:Int)+1),())=_∧_
     rw[i64_s j (by omega)]
     exact ha _ ⟨j+1,by omega,rfl⟩ (by show _ - ((j+1:Nat):Int).toNat<_ - ((j:Nat):Int).toNat; omega)
    ·rw[cnd_n (decide_eq_false h1)]; exact fin
   ·have:j=l.length:=by omega
    subst this
    rw[zaj]; exact fin
def okTab(l t:List zab):Prop:=(∀x∈t,x∈l∧okAc x)∧t.length≤20∧(t.map (·.1)).Nodup
theorem r_table15{l:List zab}(hm:∀i∈l,i.2.2.2.1.length≤1000000)(hl:l.length≤1000):∃t,zuv l=some t∧okTab l t:=by
 show ∃t,zgv stdW l=some t∧okTab l t
 unfold zgv
 rw[join_w]
 refine loop_P (fun o=>∃t,o=some t∧okTab l t) (fun z=>l.length+1 - z.2.1.toNat) (fun z=>∃(j:Nat) (acc:List zab),j≤l.length∧j≤20∧acc.length≤j∧(∀x∈acc,x∈l∧okAc x)∧(acc.map (·.1)).Nodup∧z=(acc,((j:Int),()))) ⟨0,[],Nat.zero_le _,Nat.zero_le _,Nat.le_refl _,by simp,by simp,rfl⟩ (by show _ - (0:Int).toNat<_; omega) ?_
 rintro _ ⟨j,acc,hj,hj10,hacc,hok,hnd,rfl⟩ again ha
 have fin:∃t,(some acc:Option (List zab))=some t∧okTab l t:=⟨acc,rfl,hok,by omega,hnd⟩
 show ∃t,stdW.cnd (decide ((j:Int)<(l.length:Int))) (stdW.cnd (decide ((j:Int)<20)) _ _) _=some t∧okTab l t
 by_cases h:j<l.length
 ·rw[cnd_lt h]
  by_cases h10:j<20
  ·rw[cnd_y (decide_eq_true (by omega)),join_w]
   show ∃t,stdW.idx l (j:Int) _=some t∧okTab l t
   rw[idx_w h]
   obtain⟨r,e,hp,hr⟩:=r_put15 (l:=acc) (i:=l[j]) (by omega) (hm _ (List.getElem_mem h))
   have nxt:∀a:List zab,a.length≤j+1→(∀x∈a,x∈l∧okAc x)→(a.map (·.1)).Nodup→∃t,again (a,(IntKind.i64.wrap ((j:Int)+1),()))=some t∧okTab l t:=by
    intro a h1 h2 h3
    rw[i64_s j (by omega)]
    exact ha _ ⟨j+1,a,by omega,by omega,h1,h2,h3,rfl⟩ (by show _ - ((j+1:Nat):Int).toNat<_ - ((j:Nat):Int).toNat; omega)
   show ∃t,stdW.call (yco acc l[j]) _=some t∧okTab l t
   rw[zaa hp]
   by_cases he:e=0
   ·obtain⟨h0,h1,h2,h3⟩:=hr he
    rw[cnd_y (by simpa using he)]
    exact nxt r (by omega) (fun x hx=>(h1 x hx).elim (hok x) fun h3=>h3▸⟨List.getElem_mem h,h0⟩) (h3 hnd)
   ·rw[cnd_n (by simpa using he)]
    exact nxt acc (by omega) hok hnd
  ·rw[cnd_n (decide_eq_false (by omega))]; exact fin
 ·have:j=l.length:=by omega
  subst this
  rw[zaj]; exact fin
def few26(l:List AHold'):List AHold':=(l.take 10).map fun h=>((h.1,(h.2.1.take 20,())):AHold')
theorem r_few18{l:List ALot'}(hl:l.length≤9223372036854775807):law18_Few l=some (l.take 20):=by
 show zkw stdW l=_
 unfold zkw
 by_cases h:20<l.length
 ·rw[cnd_y (decide_eq_true (by omega)),bnd_w (by omega) (by omega)]; rfl
 ·rw[cnd_n (decide_eq_false (by omega)),List.take_of_length_le (by omega)]
theorem r_few26{l:List AHold'}(hl:l.length≤9223372036854775807)(hm:∀h∈l,h.2.1.length≤9223372036854775807):zvq l=some (few26 l):=by
 show zkv stdW l=_
 unfold zkv
 rw[join_w]
 have hm':∀i (h:i<l.length),l[i].2.1.length≤9223372036854775807:=fun i h=>hm _ (List.getElem_mem h)
 refine(zdb (fun z=>l.length+1 - z.1.toNat) (fun z=>∃j:Nat,j≤l.length∧j≤10∧z=((j:Int),(few26 (l.take j),()))) (fun _=>some (few26 l)) ⟨0,Nat.zero_le _,Nat.zero_le _,rfl⟩ (by show _ - (0:Int).toNat<_; omega) ?_)
 rintro _ ⟨j,hj,hj10,rfl⟩ again ha
 have ft:few26 (l.take j)=(l.take j).map fun h=>((h.1,(h.2.1.take 20,())):AHold'):=by
  unfold few26; rw[List.take_take,Nat.min_eq_right hj10]
 show stdW.cnd (decide ((j:Int)<(l.length:Int))) (stdW.cnd (decide ((j:Int)<10)) _ _) _=_
 by_cases h:j<l.length
 ·rw[cnd_lt h]
  by_cases h10:j<10
  ·have ft1:few26 (l.take (j+1))=few26 (l.take j)++[(l[j].1,(l[j].2.1.take 20,()))]:=by
    unfold few26; rw[List.take_take,List.take_take,Nat.min_eq_right hj10,Nat.min_eq_right (by omega),List.take_succ_eq_append_getElem h,List.map_append]; rfl
   have hlen:(few26 (l.take j)).length≤10:=by rw[ft,List.length_map,List.length_take]; omega
   rw[cnd_y (decide_eq_true (by omega))]
   show stdW.idx l (j:Int) _=_
   rw[idx_w h,idx_w h,zaa (r_few18 (hm' j h))]
   show stdW.room ((few26 (l.take j)).length+1) 40 (again (IntKind.i64.wrap ((j:Int)+1),(few26 (l.take j)++[(l[j].1,(l[j].2.1.take 20,()))],())))=_
   rw[room_w (by omega) (by omega),←ft1,i64_s j (by omega)]
   exact ha _ ⟨j+1,by omega,by omega,rfl⟩ (by show _ - ((j+1:Nat):Int).toNat<_ - ((j:Nat):Int).toNat; omega)
  ·rw[cnd_n (decide_eq_false (by omega))]
   show some (few26 (l.take j))=_
   have:j=10:=by omega
   subst this
   unfold few26; rw[List.take_take,Nat.min_self]
 ·have:j=l.length:=by omega
  subst this
  rw[zaj,List.take_length]
def zuj(a:zab):zab:=(a.1,(a.2.1,(a.2.2.1,(a.2.2.2.1.take 20,()))))
theorem r_short{a:zab}(hl:a.2.2.2.1.length≤9223372036854775807):zpk (a.1,(a.2.1,(a.2.2.1,(a.2.2.2.1,()))))=some (zuj a):=by
 show zhb stdW a=_
 unfold zhb
 refine join_g fun k hk=>?_
 have kk:∀x:zab,k x=some x:=by intro x; subst hk; rfl
 clear hk
 by_cases h:20<a.2.2.2.1.length
 ·rw[cnd_y (decide_eq_true (by omega)),bnd_w (by omega) (by omega),kk]; rfl
 ·rw[cnd_n (decide_eq_false (by omega)),kk]
  unfold zuj
  rw[List.take_of_length_le (by omega)]
def cmpI(x y:Int):Int:=if x<y then -1 else if y<x then 1 else 0
theorem r_cmp1I(x y:Int):yhj x y=some (cmpI x y):=by
 show zfd stdW x y=_
 unfold zfd cmpI
 have e:∀x:Int,cmp_isNaN x=some false:=fun x=>by
  show some (x != x)=_
  simp
 rw[zaa (e x),zaa (e y),cnd_n rfl,cnd_n rfl]
 by_cases h:x<y
 ·rw[cnd_y (decide_eq_true h),if_pos h]
 ·rw[cnd_n (decide_eq_false h),if_neg h]
  by_cases h2:y<x
  ·rw[cnd_y (decide_eq_true h2),if_pos h2]
  ·rw[cnd_n (decide_eq_false h2),if_neg h2]
def orI:List Int→Int
 |[]=>0
 |x::l=>if x=0 then orI l else x
theorem r_or1(l:List Int)(hl:l.length≤1000000):cmp_Or l=some (orI l):=by
 show zwt stdW l=_
 unfold zwt
 refine zbo (l:=l) (by omega) (s0:=()) (fun _ _=>True) (fun l' _=>some (orI l')) trivial ?_ ?_
 ·rintro _ again _
  rw[zaj]; rfl
 ·rintro i hi _ _ again ha
  rw[cnd_lt hi,idx_w hi]
  show _=some (orI (l[i]::l.drop (i+1)))
  rw[orI]
  by_cases h0:l[i]=0
  ·rw[cnd_n (by simp[h0]),if_pos h0]
   show again (IntKind.i64.wrap ((i:Int)+1),())=_
   rw[i64_s i (by omega)]
   exact ha _ trivial
  ·rw[cnd_y (by simp[h0]),if_neg h0]
theorem zqh(a b:ALot'):zrz a b=some (orI [cmpI a.1 b.1,cmpI a.2.1 b.2.1]):=by
 show zes stdW a b=_
 unfold zes
 rw[zaa (r_cmp1I _ _),zaa (r_cmp1I _ _),zaa (r_or1 _ (by simp))]
theorem lorder_lt(a b:ALot'):decide (0≤orI [cmpI a.1 b.1,cmpI a.2.1 b.2.1])=!decide (ltL a b):=by
 unfold ltL
 simp only[orI,cmpI]
 by_cases h1:a.1<b.1
 ·simp[h1]
 ·by_cases h2:b.1<a.1
  ·have h3:¬a.1=b.1:=by omega
   simp[h1,h2,h3]
  ·have h3:a.1=b.1:=by omega
   by_cases h4:a.2.1<b.2.1
   ·simp[h3,h4]
   ·by_cases h5:b.2.1<a.2.1<;>simp[h3,h4,h5]
theorem ydb(x:ALot'):lots_right x=some (decide (rightL x)):=by
 show zge stdW x=_
 unfold zge rightL
 by_cases h1:1≤x.1
 ·rw[cnd_y (decide_eq_true h1)]
  by_cases h2:x.1≤4
  ·rw[cnd_y (decide_eq_true h2)]
   by_cases h3:0≤x.2.1
   ·rw[cnd_y (decide_eq_true h3)]
    by_cases h4:x.2.1≤255
    ·rw[cnd_y (decide_eq_true h4)]; simp[h1,h2,h3,h4]
    ·rw[cnd_n (decide_eq_false h4)]; simp[h4]
   ·rw[cnd_n (decide_eq_false h3)]; simp[h3]
  ·rw[cnd_n (decide_eq_false h2)]; simp[h2]
 ·rw[cnd_n (decide_eq_false h1)]; simp[h1]
theorem yfp(x:ALot'):ref18_one x=some (decide (rightL x)):=by
 show zfy stdW x=_
 unfold zfy rightL
 by_cases h1:1≤x.1
 ·rw[cnd_y (decide_eq_true (by omega))]
  by_cases h2:x.1≤4
  ·rw[cnd_y (decide_eq_true (by omega))]
   by_cases h3:0≤x.2.1
   ·rw[cnd_y (decide_eq_true h3)]
    by_cases h4:x.2.1≤255
    ·rw[cnd_y (decide_eq_true (by omega))]; simp[h1,h2,h3,h4]
    ·rw[cnd_n (decide_eq_false (by omega))]; simp[h4]
   ·rw[cnd_n (decide_eq_false h3)]; simp[h3]
  ·rw[cnd_n (decide_eq_false (by omega))]; simp[h2]
 ·rw[cnd_n (decide_eq_false (by omega))]; simp[h1]
theorem yiz(a b:ALot'):zya a b=some (decide (ltL a b)):=by
 show zfz stdW a b=_
 unfold zfz ltL
 by_cases h1:a.1<b.1
 ·rw[cnd_y (decide_eq_true h1)]; simp[h1]
 ·rw[cnd_n (decide_eq_false h1)]
  by_cases h2:a.1=b.1
  ·rw[cnd_y (by simpa using h2)]; simp[h2]
  ·rw[cnd_n (by simpa using h2)]; simp[h1,h2]
def LP(l:List ALot'):Prop:=(∀x∈l,rightL x)∧l.Pairwise ltL
theorem ltL_tr{a b c:ALot'}(h1:ltL a b)(h2:ltL b c):ltL a c:=by unfold ltL at *; omega
theorem ybn{l:List ALot'}{i:Nat}(hi:i<l.length)(inv:LP (l.take i))(h1:rightL l[i])(h2:∀h0:0<i,ltL (l[i - 1]'(by omega)) l[i]):LP (l.take (i+1)):=by
 rw[List.take_succ_eq_append_getElem hi]
 refine⟨fun x hx=>?_,?_⟩
 ·rcases List.mem_append.1 hx with hx|hx
  ·exact inv.1 x hx
  ·simp at hx; rw[hx]; exact h1
 ·refine List.pairwise_append.2 ⟨inv.2,by simp,fun a ha b hb=>?_⟩
  simp only[List.mem_singleton]at hb
  subst hb
  obtain⟨k,hk,hka⟩:=List.mem_iff_getElem.1 ha
  have hk':k<i:=by simp at hk; omega
  have h3:=h2 (by omega)
  by_cases hki:k=i - 1
  ·subst hki; rw[←hka]; simpa using h3
  ·have h4:=List.pairwise_iff_getElem.1 inv.2 k (i - 1) (by simpa using hk) (by simp; omega) (by omega)
   rw[hka]at h4
   refine ltL_tr h4 ?_
   simpa using h3
theorem isL_end{l:List ALot'}(h:LP (l.take l.length)):isL l=decide ((l.length:Int)≤16):=by
 rw[List.take_length]at h
 unfold isL LInv
 refine decide_eq_decide.2 ⟨fun h=>by omega,fun h3=>⟨h.1,h.2,by omega⟩⟩
theorem ykc{l:List ALot'}{i:Nat}(hi:i<l.length)(h:¬rightL l[i]):isL l=false:=
 decide_eq_false fun hp=>h (hp.1 _ (List.getElem_mem hi))
theorem ykb{l:List ALot'}{i:Nat}(hi:i<l.length)(h0:0<i)(h:¬ltL (l[i - 1]'(by omega)) l[i]):isL l=false:=
 decide_eq_false fun hp=>h (List.pairwise_iff_getElem.1 hp.2.1 (i - 1) i (by omega) hi (by omega))
theorem r_lis1{l:List ALot'}(hl:l.length≤1000000):lots_Is l=some (isL l):=by
 show zlt stdW l=_
 unfold zlt
 refine loop_n (N:=l.length) (by omega) (fun i _=>LP (l.take i)) (some (isL l)) (by simp[LP]) ?_ ?_
 ·rintro _ again h
  rw[zaj,isL_end h]
 ·rintro i hi _ inv again ha
  rw[cnd_lt hi,idx_w hi]
  refine join_g fun k hk=>?_
  have kt:k (true,())=some false:=by subst hk; rfl
  have kf:k (false,())=again (((i+1:Nat):Int),()):=by rw[←i64_s i (by omega)]; subst hk; rfl
  clear hk
  rw[zaa (ydb _)]
  by_cases h1:rightL l[i]
  ·rw[cnd_n (by simp[h1])]
   by_cases h0:0<i
   ·rw[cnd_y (decide_eq_true (by omega)),zfn i h0 (by rw[zbc]; omega),idx_w (by omega),zaa (zqh _ _),two_w,lorder_lt]
    by_cases h2:ltL (l[i - 1]'(by omega)) l[i]
    ·rw[decide_eq_true h2]
     exact kf.trans (ha _ (ybn hi inv h1 fun _=>h2))
    ·rw[decide_eq_false h2,ykb hi h0 h2]; exact kt
   ·rw[cnd_n (decide_eq_false (by omega)),two_w]
    exact kf.trans (ha _ (ybn hi inv h1 fun h=>absurd h h0))
  ·rw[cnd_y (by simp[h1]),two_w,kt,ykc hi h1]
theorem r_is18{l:List ALot'}(hl:l.length≤1000000):ref18_Is l=some (isL l):=by
 show zgt stdW l=_
 unfold zgt
 refine loop_n (N:=l.length) (by omega) (fun i _=>LP (l.take i)) (some (isL l)) (by simp[LP]) ?_ ?_
 ·rintro _ again h
  rw[zaj,isL_end h]
 ·rintro i hi _ inv again ha
  rw[cnd_lt hi]
  refine join_g fun k hk=>?_
  have kt:k (true,())=some false:=by subst hk; rfl
  have kf:k (false,())=again (((i+1:Nat):Int),()):=by rw[←i64_s i (by omega)]; subst hk; rfl
  clear hk
  rw[idx_w hi,zaa (yfp _)]
  by_cases h1:rightL l[i]
  ·rw[cnd_n (by simp[h1])]
   by_cases h0:0<i
   ·rw[cnd_y (decide_eq_true (by omega)),zfn i h0 (by rw[zbc]; omega),idx_w (by omega),idx_w hi,zaa (yiz _ _),two_w]
    by_cases h2:ltL (l[i - 1]'(by omega)) l[i]
    ·rw[decide_eq_true h2]
     exact kf.trans (ha _ (ybn hi inv h1 fun _=>h2))
    ·rw[decide_eq_false h2,ykb hi h0 h2]; exact kt
   ·rw[cnd_n (decide_eq_false (by omega)),two_w]
    exact kf.trans (ha _ (ybn hi inv h1 fun h=>absurd h h0))
  ·rw[cnd_y (by simp[h1]),two_w,kt,ykc hi h1]
def HP(l:List AHold'):Prop:=(∀h∈l,h.2.1≠[]∧LInv h.2.1)∧SrtA (l.map (·.1))
theorem ybo{l:List AHold'}{i:Nat}(hi:i<l.length)(inv:HP (l.take i))(h1:l[i].2.1≠[]∧LInv l[i].2.1)(h2:∀h0:0<i,ltA (l[i - 1]'(by omega)).1 l[i].1):HP (l.take (i+1)):=by
 refine⟨fun x hx=>?_,srt_next hi inv.2 h2⟩
 rw[List.take_succ_eq_append_getElem hi]at hx
 rcases List.mem_append.1 hx with hx|hx
 ·exact inv.1 x hx
 ·simp at hx; rw[hx]; exact h1
theorem isH_end{l:List AHold'}(h:HP (l.take l.length)):isH l=true:=by rw[List.take_length]at h; exact decide_eq_true h
theorem ykf{l:List AHold'}{i:Nat}(hi:i<l.length)(h:l[i].2.1=[]):isH l=false:=decide_eq_false fun hp=>(hp.1 _ (List.getElem_mem hi)).1 h
theorem yke{l:List AHold'}{i:Nat}(hi:i<l.length)(h:isL l[i].2.1=false):isH l=false:=decide_eq_false fun hp=>of_decide_eq_false h (hp.1 _ (List.getElem_mem hi)).2
theorem ykd{l:List AHold'}{i:Nat}(hi:i<l.length)(h0:0<i)(h:¬ltA (l[i - 1]'(by omega)).1 l[i].1):isH l=false:=
 decide_eq_false fun hp=>h (by
  have:=List.pairwise_iff_getElem.1 hp.2 (i - 1) i (by simp; omega) (by simpa using hi) (by omega)
  simpa using this)
theorem r_his1{l:List AHold'}(h:okHs l):hold_Is l=some (isH l):=by
 have hl:=h.2
 show zlw stdW l=_
 unfold zlw
 refine loop_n (N:=l.length) (by omega) (fun i _=>HP (l.take i)) (some (isH l)) (by simp[HP,SrtA]) ?_ ?_
 ·rintro _ again h
  rw[zaj,isH_end h]
 ·rintro i hi _ inv again ha
  rw[cnd_lt hi,idx_w hi]
  refine join_g fun k hk=>?_
  have kt:k (true,())=some false:=by subst hk; rfl
  have kf:k (false,())=again (((i+1:Nat):Int),()):=by rw[←i64_s i (by omega)]; subst hk; rfl
  clear hk
  by_cases h1:l[i].2.1=[]
  ·rw[cnd_y (by rw[h1]; rfl),two_w,kt,ykf hi h1]
  ·have hne:((l[i].2.1.length:Int)==0)=false:=by
    cases hc:l[i].2.1 with
    |nil=>exact absurd hc h1
    |cons x xs=>simp; omega
   rw[cnd_n hne,zaa (r_lis1 (by have:=(h.1 _ (List.getElem_mem hi)).1; omega))]
   cases hL:isL l[i].2.1 with
   |false=>rw[cnd_y (by rfl),two_w,kt,yke hi hL]
   |true=>
    rw[cnd_n (by rfl)]
    by_cases h0:0<i
    ·rw[cnd_y (decide_eq_true (by omega)),zfn i h0 (by rw[zbc]; omega),idx_w (by omega),zaa (yfq _ _),two_w]
     by_cases h2:ltA (l[i - 1]'(by omega)).1 l[i].1
     ·rw[decide_eq_true h2]
      exact kf.trans (ha _ (ybo hi inv ⟨h1,of_decide_eq_true hL⟩ fun _=>h2))
     ·rw[decide_eq_false h2,ykd hi h0 h2]; exact kt
    ·rw[cnd_n (decide_eq_false (by omega)),two_w]
     exact kf.trans (ha _ (ybo hi inv ⟨h1,of_decide_eq_true hL⟩ fun h=>absurd h h0))
theorem r_is26{l:List AHold'}(h:okHs l):yip l=some (isH l):=by
 have hl:=h.2
 show zgs stdW l=_
 unfold zgs
 refine loop_n (N:=l.length) (by omega) (fun i _=>HP (l.take i)) (some (isH l)) (by simp[HP,SrtA]) ?_ ?_
 ·rintro _ again h
  rw[zaj,isH_end h]
 ·rintro i hi _ inv again ha
  rw[cnd_lt hi]
  refine join_g fun k hk=>?_
  have kt:k (true,())=some false:=by subst hk; rfl
  have kf:k (false,())=again (((i+1:Nat):Int),()):=by rw[←i64_s i (by omega)]; subst hk; rfl
  clear hk
  rw[idx_w hi]
  by_cases h1:l[i].2.1=[]
  ·rw[cnd_y (by rw[h1]; rfl),two_w,kt,ykf hi h1]
  ·have hne:((l[i].2.1.length:Int)==0)=false:=by
    cases hc:l[i].2.1 with
    |nil=>exact absurd hc h1
    |cons x xs=>simp; omega
   rw[cnd_n hne,idx_w hi,zaa (r_is18 (by have:=(h.1 _ (List.getElem_mem hi)).1; omega))]
   cases hL:isL l[i].2.1 with
   |false=>rw[cnd_y (by rfl),two_w,kt,yke hi hL]
   |true=>
    rw[cnd_n (by rfl)]
    by_cases h0:0<i
    ·rw[cnd_y (decide_eq_true (by omega)),zfn i h0 (by rw[zbc]; omega),idx_w (by omega),idx_w hi,zaa (ztq _ _),two_w]
     by_cases h2:ltA (l[i - 1]'(by omega)).1 l[i].1
     ·rw[decide_eq_true h2]
      exact kf.trans (ha _ (ybo hi inv ⟨h1,of_decide_eq_true hL⟩ fun _=>h2))
     ·rw[decide_eq_false h2,ykd hi h0 h2]; exact kt
    ·rw[cnd_n (decide_eq_false (by omega)),two_w]
     exact kf.trans (ha _ (ybo hi inv ⟨h1,of_decide_eq_true hL⟩ fun h=>absurd h h0))
def sameL(a b:ALot'):Prop:=a.1=b.1∧a.2.1=b.2.1
instance (a b:ALot'):Decidable (sameL a b):=by unfold sameL; infer_instance
def SrtL(l:List ALot'):Prop:=l.Pairwise ltL
def lowL(x:ALot')(l:List ALot'):List ALot':=l.filter fun y=>decide (ltL y x)
def midK(x:ALot')(l:List ALot'):List ALot':=l.filter fun y=>decide (sameL y x)
def highL(x:ALot')(l:List ALot'):List ALot':=l.filter fun y=>decide (ltL x y)
theorem cutL(x:ALot'):∀{l:List ALot'},SrtL l→l=lowL x l++(midK x l++highL x l)
 |[],_=>rfl
 |y::l,h=>by
  obtain⟨h1,h2⟩:=List.pairwise_cons.1 h
  have ih:=cutL x h2
  unfold lowL midK highL at ih ⊢
  rw[List.filter_cons,List.filter_cons,List.filter_cons]
  by_cases hp:ltL y x
  ·have e1:¬sameL y x:=by unfold ltL at hp; unfold sameL; omega
   have e2:¬ltL x y:=by unfold ltL at hp ⊢; omega
   rw[if_pos (by simpa using hp),if_neg (by simpa using e1),if_neg (by simpa using e2)]
   exact congrArg (y::·) ih
  ·have a1:∀z∈l,decide (ltL z x)=false:=fun z hz=>decide_eq_false fun e=>hp (ltL_tr (h1 z hz) e)
   by_cases hs:sameL y x
   ·have e2:¬ltL x y:=by unfold sameL at hs; unfold ltL; omega
    have a2:∀z∈l,decide (sameL z x)=false:=fun z hz=>decide_eq_false fun e=>by
     have:=h1 z hz; unfold ltL at this; unfold sameL at hs e; omega
    have a3:∀z∈l,decide (ltL x z)=true:=fun z hz=>decide_eq_true (by
     have:=h1 z hz; unfold ltL at this ⊢; unfold sameL at hs; omega)
    rw[if_neg (by simpa using hp),if_pos (by simpa using hs),if_neg (by simpa using e2),zdl a1,zdl a2,zjw a3]; rfl
   ·have e2:ltL x y:=by unfold ltL at hp ⊢; unfold sameL at hs; omega
    have a2:∀z∈l,decide (sameL z x)=false:=fun z hz=>decide_eq_false fun e=>by
     have:=h1 z hz; unfold ltL at this e2; unfold sameL at e; omega
    have a3:∀z∈l,decide (ltL x z)=true:=fun z hz=>decide_eq_true (ltL_tr e2 (h1 z hz))
    rw[if_neg (by simpa using hp),if_neg (by simpa using hs),if_pos (by simpa using e2),zdl a1,zdl a2,zjw a3]; rfl
def getL:List ALot'→Int→Int→Int
 |[],_,_=>0
 |y::l,a,t=>if y.1=a∧y.2.1=t then y.2.2.1 else getL l a t
theorem ydw{l:List ALot'}{x:ALot'}(h:midK x l=[]):getL l x.1 x.2.1=0:=by
 induction l with
 |nil=>rfl
 |cons y l ih=>
  unfold midK at h ih
  rw[List.filter_cons]at h
  by_cases hs:sameL y x
  ·rw[if_pos (by simpa using hs)]at h; cases h
  ·rw[if_neg (by simpa using hs)]at h
   unfold sameL at hs; rw[getL,if_neg hs,ih h]
theorem ydv{l:List ALot'}{x y:ALot'}{m:List ALot'}(h:midK x l=y::m):getL l x.1 x.2.1=y.2.2.1:=by
 induction l with
 |nil=>cases h
 |cons z l ih=>
  unfold midK at h ih
  rw[List.filter_cons]at h
  by_cases hs:sameL z x
  ·rw[if_pos (by simpa using hs)]at h
   obtain⟨rfl,_⟩:=List.cons.inj h
   unfold sameL at hs; rw[getL,if_pos hs]
  ·rw[if_neg (by simpa using hs)]at h
   unfold sameL at hs; rw[getL,if_neg hs,ih h]
theorem yjq{l:List ALot'}(h:SrtL l)(x:ALot'):midK x l=[]∨∃y,midK x l=[y]∧sameL y x∧y∈l:=by
 cases e:midK x l with
 |nil=>exact .inl rfl
 |cons y m=>
  have hy:y∈midK x l:=by rw[e]; simp
  have hy2:=List.mem_filter.1 hy
  have hs:sameL y x:=by simpa using hy2.2
  refine .inr ⟨y,?_,hs,hy2.1⟩
  have hp:SrtL (midK x l):=List.Pairwise.sublist List.filter_sublist h
  rw[e]at hp
  cases m with
  |nil=>rfl
  |cons z m=>
   have h1:ltL y z:=(List.pairwise_cons.1 hp).1 z (by simp)
   have hz:z∈midK x l:=by rw[e]; simp
   have hz2:sameL z x:=by simpa using(List.mem_filter.1 hz).2
   unfold ltL at h1; unfold sameL at hs hz2; omega
def setL(l:List ALot')(x:ALot'):List ALot':=lowL x l++((if x.2.2.1=0 then [] else [x])++highL x l)
def stGo(x:ALot'):List ALot'→Bool→List ALot'→List ALot'
 |[],d,out=>if d=true then out else out++[x]
 |y::l,d,out=>
  if d=true∨ltL y x then (if sameL y x then stGo x l d out else stGo x l d (out++[y]))
  else (if sameL y x then stGo x l true (out++[x]) else stGo x l true (out++[x]++[y]))
theorem stGo_t(x:ALot'):∀(l out:List ALot'),stGo x l true out=out++l.filter fun y=>decide (¬sameL y x)
 |[],out=>by rw[stGo,if_pos rfl,List.filter_nil,List.append_nil]
 |y::l,out=>by
  rw[stGo,if_pos (.inl rfl),List.filter_cons]
  by_cases h:sameL y x
  ·rw[if_pos h,stGo_t x l,if_neg (by simpa using h)]
  ·rw[if_neg h,stGo_t x l,if_pos (by simpa using h),List.append_assoc]; rfl
theorem neL_cut{x:ALot'}:∀{l:List ALot'},SrtL l→(l.filter fun y=>decide (¬sameL y x))=lowL x l++highL x l:=by
 intro l h
 have e:=cutL x h
 have a1:(lowL x l).filter (fun y=>decide (¬sameL y x))=lowL x l:=zjw fun y hy=>decide_eq_true fun e=>by
  have:=(List.mem_filter.1 hy).2
  simp only[decide_eq_true_eq]at this
  unfold ltL at this; unfold sameL at e; omega
 have a2:(midK x l).filter (fun y=>decide (¬sameL y x))=[]:=zdl fun y hy=>decide_eq_false fun hn=>by
  have:=(List.mem_filter.1 hy).2
  simp only[decide_eq_true_eq]at this
  exact hn this
 have a3:(highL x l).filter (fun y=>decide (¬sameL y x))=highL x l:=zjw fun y hy=>decide_eq_true fun e=>by
  have:=(List.mem_filter.1 hy).2
  simp only[decide_eq_true_eq]at this
  unfold ltL at this; unfold sameL at e; omega
 calc (l.filter fun y=>decide (¬sameL y x))=(lowL x l++(midK x l++highL x l)).filter (fun y=>decide (¬sameL y x)):=by rw[←e]
  _=lowL x l++highL x l:=by rw[List.filter_append,List.filter_append,a1,a2,a3]; rfl
theorem stGo_f(x:ALot'):∀(l out:List ALot'),SrtL l→stGo x l false out=out++(lowL x l++([x]++highL x l))
 |[],out,_=>by rw[stGo,if_neg (by simp)]; rfl
 |y::l,out,h=>by
  obtain⟨h1,h2⟩:=List.pairwise_cons.1 h
  rw[stGo]
  by_cases hp:ltL y x
  ·have hu:¬sameL y x:=by unfold ltL at hp; unfold sameL; omega
   rw[if_pos (.inr hp),if_neg hu,stGo_f x l _ h2]
   have e1:lowL x (y::l)=y::lowL x l:=by unfold lowL; rw[List.filter_cons,if_pos (by simpa using hp)]
   have e2:highL x (y::l)=highL x l:=by unfold highL; rw[List.filter_cons,if_neg (by simp; unfold ltL at hp ⊢; omega)]
   rw[e1,e2,List.append_assoc]; rfl
  ·rw[if_neg (by simpa using hp)]
   have hge:∀z∈y::l,¬ltL z x:=by
    intro z hz hzx
    rcases List.mem_cons.1 hz with rfl|hz
    ·exact hp hzx
    ·exact hp (ltL_tr (h1 z hz) hzx)
   have e1:lowL x (y::l)=[]:=zdl fun z hz=>decide_eq_false (hge z hz)
   have e2:=neL_cut (x:=x) h
   rw[e1,List.nil_append]at e2
   rw[e1,←e2,List.filter_cons]
   by_cases hu:sameL y x
   ·rw[if_pos hu,if_neg (by simpa using hu),stGo_t,List.append_assoc]; rfl
   ·rw[if_neg hu,if_pos (by simpa using hu),stGo_t]
    simp only[List.append_assoc,List.nil_append,List.cons_append]
theorem stGo_set{l:List ALot'}(h:SrtL l)(x:ALot'):stGo x l (decide (x.2.2.1=0)) []=setL l x:=by
 unfold setL
 by_cases h0:x.2.2.1=0
 ·rw[decide_eq_true h0,stGo_t,if_pos h0,neL_cut h]; rfl
 ·rw[decide_eq_false h0,stGo_f x l [] h,if_neg h0]; rfl
theorem low_at{l:List ALot'}(h:SrtL l)(x:ALot'){i:Nat}(hi:i<l.length):(ltL l[i] x↔i<(lowL x l).length):=by
 have e:=cutL x h
 have hr:∀y∈midK x l++highL x l,¬ltL y x:=fun y hy hl=>by
  rcases List.mem_append.1 hy with hy|hy
  ·have:=(List.mem_filter.1 hy).2
   simp only[decide_eq_true_eq]at this
   unfold ltL at hl; unfold sameL at this; omega
  ·have:=(List.mem_filter.1 hy).2
   simp only[decide_eq_true_eq]at this
   unfold ltL at hl this; omega
 have hl:∀y∈lowL x l,ltL y x:=fun y hy=>by simpa using(List.mem_filter.1 hy).2
 generalize lowL x l=a at*
 generalize midK x l++highL x l=b at*
 subst e
 by_cases hia:i<a.length
 ·rw[List.getElem_append_left hia]
  exact⟨fun _=>hia,fun _=>hl _ (List.getElem_mem _)⟩
 ·rw[List.getElem_append_right (by omega)]
  exact⟨fun hh=>absurd hh (hr _ (List.getElem_mem _)),fun hh=>absurd hh hia⟩
theorem mid_at{l:List ALot'}(h:SrtL l)(x:ALot'):(∃hi:(lowL x l).length<l.length,sameL l[(lowL x l).length] x∧midK x l=[l[(lowL x l).length]])∨(midK x l=[]∧∀hi:(lowL x l).length<l.length,¬sameL l[(lowL x l).length] x):=by
 have e:=cutL x h
 rcases yjq h x with hm|⟨y,hm,hs,_⟩
 ·right
  refine⟨hm,fun hi hs=>?_⟩
  have:l[(lowL x l).length]∈midK x l:=List.mem_filter.2 ⟨List.getElem_mem hi,by simpa using hs⟩
  rw[hm]at this; cases this
 ·left
  rw[hm]at e
  have hlen:(lowL x l).length<l.length:=by
   have:=congrArg List.length e
   simp at this; omega
  have hy:l[(lowL x l).length]=y:=by
   have h1:l[(lowL x l).length]?=some y:=by
    have:(lowL x l++([y]++highL x l))[(lowL x l).length]?=some y:=by simp
    rwa [←e]at this
   rw[List.getElem?_eq_getElem hlen]at h1
   exact Option.some.inj h1
  exact⟨hlen,by rw[hy]; exact⟨hs,hm⟩⟩
theorem yby{l:List ALot'}(h:SrtL l){x:ALot'}(hi:(lowL x l).length<l.length)(hs:sameL l[(lowL x l).length] x)(q:Int)(hq:q≠0):
  l.set (lowL x l).length (x.1,(x.2.1,(q,())))=setL l (x.1,(x.2.1,(q,()))):=by
 have e:=cutL x h
 have hm:midK x l=[l[(lowL x l).length]]:=by
  rcases mid_at h x with ⟨_,_,hm⟩|⟨_,hn⟩
  ·exact hm
  ·exact absurd hs (hn hi)
 generalize hy:l[(lowL x l).length]=y at hm
 have e3:setL l (x.1,(x.2.1,(q,())))=lowL x l++([(x.1,(x.2.1,(q,())))]++highL x l):=by unfold setL; rw[if_neg hq]; rfl
 rw[e3]
 rw[hm]at e
 have e4:l.set (lowL x l).length (x.1,(x.2.1,(q,())))=(lowL x l++([y]++highL x l)).set (lowL x l).length (x.1,(x.2.1,(q,()))):=by rw[←e]
 rw[e4,List.set_append_right _ _ (Nat.le_refl _),Nat.sub_self]; rfl
theorem del_there{l:List ALot'}(h:SrtL l){x:ALot'}(hi:(lowL x l).length<l.length)(hs:sameL l[(lowL x l).length] x):
  l.take (lowL x l).length++l.drop ((lowL x l).length+1)=lowL x l++highL x l:=by
 have e:=cutL x h
 have hm:midK x l=[l[(lowL x l).length]]:=by
  rcases mid_at h x with ⟨_,_,hm⟩|⟨_,hn⟩
  ·exact hm
  ·exact absurd hs (hn hi)
 generalize hy:l[(lowL x l).length]=y at hm
 rw[hm]at e
 generalize lowL x l=a at*
 generalize highL x l=b at*
 clear hy hi hs hm
 subst e
 simp
theorem ins_there{l:List ALot'}(h:SrtL l){x:ALot'}(hm:midK x l=[]):
  l.take (lowL x l).length++x::l.drop (lowL x l).length=lowL x l++(x::highL x l):=by
 have e:=cutL x h
 rw[hm]at e
 generalize lowL x l=a at*
 generalize highL x l=b at*
 subst e
 simp
def lowH(u:AUnit')(l:List AHold'):List AHold':=l.filter fun p=>decide (ltA p.1 u)
def midH(u:AUnit')(l:List AHold'):List AHold':=l.filter fun p=>decide (p.1=u)
def highH(u:AUnit')(l:List AHold'):List AHold':=l.filter fun p=>decide (ltA u p.1)
theorem cutH(u:AUnit'):∀{l:List AHold'},SrtA (l.map (·.1))→l=lowH u l++(midH u l++highH u l)
 |[],_=>rfl
 |p::l,h=>by
  obtain⟨h1,h2⟩:=List.pairwise_cons.1 h
  have h1:∀x∈l,ltA p.1 x.1:=fun x hx=>h1 _ (List.mem_map_of_mem hx)
  have ih:=cutH u (l:=l) h2
  unfold lowH midH highH at ih ⊢
  rw[List.filter_cons,List.filter_cons,List.filter_cons]
  by_cases hp:ltA p.1 u
  ·have e1:¬p.1=u:=fun e=>zef u (by rw[e]at hp; exact hp)
   have e2:¬ltA u p.1:=fun e=>ltA_as hp e
   rw[if_pos (by simpa using hp),if_neg (by simpa using e1),if_neg (by simpa using e2),List.cons_append,←ih]
  ·by_cases hu:p.1=u
   ·have e2:¬ltA u p.1:=by rw[hu]; exact zef u
    have a1:∀x∈l,decide (ltA x.1 u)=false:=fun x hx=>decide_eq_false fun e=>ltA_as e (by rw[←hu]; exact h1 x hx)
    have a2:∀x∈l,decide (x.1=u)=false:=fun x hx=>decide_eq_false fun e=>zef u (by have:=h1 x hx; rw[hu,e]at this; exact this)
    have a3:∀x∈l,decide (ltA u x.1)=true:=fun x hx=>decide_eq_true (by rw[←hu]; exact h1 x hx)
    rw[if_neg (by simpa using hp),if_pos (by simpa using hu),if_neg (by simpa using e2),zdl a1,zdl a2,zjw a3]; rfl
   ·have e2:ltA u p.1:=Classical.byContradiction fun hn=>hu (zpi hp hn)
    have a1:∀x∈l,decide (ltA x.1 u)=false:=fun x hx=>decide_eq_false fun e=>ltA_as (ltA_tr e2 (h1 x hx)) e
    have a2:∀x∈l,decide (x.1=u)=false:=fun x hx=>decide_eq_false fun e=>zef u (by have:=ltA_tr e2 (h1 x hx); rw[e]at this; exact this)
    have a3:∀x∈l,decide (ltA u x.1)=true:=fun x hx=>decide_eq_true (ltA_tr e2 (h1 x hx))
    rw[if_neg (by simpa using hp),if_neg (by simpa using hu),if_pos (by simpa using e2),zdl a1,zdl a2,zjw a3]; rfl
theorem H_nd{l:List AHold'}(h:SrtA (l.map (·.1))):(l.map (·.1)).Nodup:=srt_nd h
theorem zqk{l:List AHold'}(h:(l.map (·.1)).Nodup){p:AHold'}(hp:p∈l):lotsH l p.1=p.2.1:=by
 induction l with
 |nil=>cases hp
 |cons x l ih=>
  obtain⟨h1,h2⟩:=List.nodup_cons.1 h
  rw[lotsH]
  rcases List.mem_cons.1 hp with rfl|hp
  ·rw[if_pos rfl]
  ·rw[if_neg fun e=>h1 (by show x.1∈_; rw[e]; exact List.mem_map_of_mem hp),ih h2 hp]
theorem zog{l:List AHold'}{u:AUnit'}(h:∀p∈l,p.1≠u):lotsH l u=[]:=by
 induction l with
 |nil=>rfl
 |cons x l ih=>rw[lotsH,if_neg (h x (by simp)),ih fun y hy=>h y (by simp[hy])]
theorem midH_cases{l:List AHold'}(h:SrtA (l.map (·.1)))(u:AUnit'):(midH u l=[]∧(∀p∈l,p.1≠u)∧lotsH l u=[])∨(midH u l=[(u,(lotsH l u,()))]∧(u,(lotsH l u,()))∈l):=by
 by_cases hex:∃p∈l,p.1=u
 ·right
  obtain⟨p,hp,rfl⟩:=hex
  have e:=zqk (H_nd h) hp
  have ep:((p.1,(lotsH l p.1,())):AHold')=p:=by rw[e]
  rw[ep]
  refine⟨?_,hp⟩
  have hn:=H_nd h
  clear h e ep
  induction l with
  |nil=>cases hp
  |cons x l ih=>
   obtain⟨h1,h2⟩:=List.nodup_cons.1 hn
   unfold midH at ih ⊢
   rw[List.filter_cons]
   rcases List.mem_cons.1 hp with rfl|hp
   ·rw[if_pos (by simp),zdl fun y hy=>decide_eq_false fun e=>h1 (by show p.1∈_; rw[←e]; exact List.mem_map_of_mem hy)]
   ·rw[if_neg (by simpa using fun e=>h1 (by show x.1∈_; rw[e]; exact List.mem_map_of_mem hp)),ih hp h2]
 ·left
  have hne:∀p∈l,p.1≠u:=fun p hp e=>hex ⟨p,hp,e⟩
  exact⟨zdl fun p hp=>decide_eq_false (hne p hp),hne,zog hne⟩
def setH(l:List AHold')(u:AUnit')(now:List ALot'):List AHold':=lowH u l++((if now=[] then [] else [(u,(now,()))])++highH u l)
theorem zzd{l:List AHold'}(h:SrtA (l.map (·.1)))(u:AUnit')(now:List ALot'):(setH l u now).length≤l.length+1:=by
 have hc:=congrArg List.length (cutH u h)
 unfold setH
 rw[List.length_append,List.length_append]at hc
 rw[List.length_append,List.length_append]
 split<;>simp<;>omega
theorem zqb{l:List AHold'}{u:AUnit'}{now:List ALot'}{p:AHold'}:p∈setH l u now↔(p∈l∧p.1≠u)∨(now≠[]∧p=(u,(now,()))):=by
 unfold setH lowH highH
 rw[List.mem_append,List.mem_append,List.mem_filter,List.mem_filter]
 constructor
 ·rintro(⟨h1,h2⟩|h|⟨h1,h2⟩)
  ·exact .inl ⟨h1,fun e=>zef u (by simp only[decide_eq_true_eq]at h2; rw[e]at h2; exact h2)⟩
  ·split at h
   ·cases h
   ·rename_i hn; exact .inr ⟨hn,by simpa using h⟩
  ·exact .inl ⟨h1,fun e=>zef u (by simp only[decide_eq_true_eq]at h2; rw[e]at h2; exact h2)⟩
 ·rintro(⟨h1,h2⟩|⟨hn,rfl⟩)
  ·by_cases hlt:ltA p.1 u
   ·exact .inl ⟨h1,by simpa using hlt⟩
   ·by_cases hgt:ltA u p.1
    ·exact .inr (.inr ⟨h1,by simpa using hgt⟩)
    ·exact absurd (zpi hlt hgt) h2
  ·rw[if_neg hn]; exact .inr (.inl (by simp))
theorem setH_srt{l:List AHold'}(h:SrtA (l.map (·.1)))(u:AUnit')(now:List ALot'):SrtA ((setH l u now).map (·.1)):=by
 unfold setH
 rw[List.map_append,List.map_append]
 have hlow:∀x∈(lowH u l).map (·.1),ltA x u:=fun x hx=>by
  obtain⟨p,hp,rfl⟩:=List.mem_map.1 hx
  simpa using(List.mem_filter.1 hp).2
 have hhigh:∀x∈(highH u l).map (·.1),ltA u x:=fun x hx=>by
  obtain⟨p,hp,rfl⟩:=List.mem_map.1 hx
  simpa using(List.mem_filter.1 hp).2
 have s1:SrtA ((lowH u l).map (·.1)):=List.Pairwise.sublist ((List.filter_sublist).map _) h
 have s2:SrtA ((highH u l).map (·.1)):=List.Pairwise.sublist ((List.filter_sublist).map _) h
 have hmid:∀x∈(if now=[] then ([]:List AHold') else [(u,(now,()))]).map (·.1),x=u:=fun x hx=>by
  split at hx
  ·cases hx
  ·simpa using hx
 refine List.pairwise_append.2 ⟨s1,List.pairwise_append.2 ⟨?_,s2,fun a ha b hb=>?_⟩,fun a ha b hb=>?_⟩
 ·split<;>simp
 ·rw[hmid a ha]; exact hhigh b hb
 ·rcases List.mem_append.1 hb with hb|hb
  ·rw[hmid b hb]; exact hlow a ha
  ·exact ltA_tr (hlow a ha) (hhigh b hb)
theorem yev{l:List AHold'}(h:SrtA (l.map (·.1)))(u:AUnit')(now:List ALot')(x:AUnit'):lotsH (setH l u now) x=if x=u then now else lotsH l x:=by
 have hn:=H_nd (setH_srt h u now)
 by_cases hx:x=u
 ·subst hx
  rw[if_pos rfl]
  by_cases h0:now=[]
  ·rw[h0]
   refine zog fun p hp=>?_
   rcases zqb.1 hp with ⟨_,h2⟩|⟨h2,_⟩
   ·exact h2
   ·exact absurd rfl h2
  ·exact zqk hn (p:=(x,(now,()))) (zqb.2 (.inr ⟨h0,rfl⟩))
 ·rw[if_neg hx]
  by_cases hex:∃p∈l,p.1=x
  ·obtain⟨p,hp,rfl⟩:=hex
   rw[zqk (H_nd h) hp,zqk hn (zqb.2 (.inl ⟨hp,hx⟩))]
  ·have hne:∀p∈l,p.1≠x:=fun p hp e=>hex ⟨p,hp,e⟩
   rw[zog hne]
   refine zog fun p hp=>?_
   rcases zqb.1 hp with ⟨h1,_⟩|⟨_,rfl⟩
   ·exact hne p h1
   ·exact Ne.symm hx
def shGoH(u:AUnit')(now:List ALot'):List AHold'→Bool→List AHold'→List AHold'
 |[],d,out=>if d=true then out else out++[(u,(now,()))]
 |p::l,d,out=>
  if d=true∨ltA p.1 u then (if p.1=u then shGoH u now l d out else shGoH u now l d (out++[p]))
  else (if p.1=u then shGoH u now l true (out++[(u,(now,()))]) else shGoH u now l true (out++[(u,(now,()))]++[p]))
theorem zuo(u:AUnit')(now:List ALot'):∀(l out:List AHold'),shGoH u now l true out=out++l.filter fun p=>decide (p.1≠u)
 |[],out=>by rw[shGoH,if_pos rfl,List.filter_nil,List.append_nil]
 |p::l,out=>by
  rw[shGoH,if_pos (.inl rfl),List.filter_cons]
  by_cases h:p.1=u
  ·rw[if_pos h,zuo u now l,if_neg (by simpa using h)]
  ·rw[if_neg h,zuo u now l,if_pos (by simpa using h),List.append_assoc]; rfl
theorem neH_cut{u:AUnit'}{l:List AHold'}(h:SrtA (l.map (·.1))):(l.filter fun p=>decide (p.1≠u))=lowH u l++highH u l:=by
 have e:=cutH u h
 have a1:(lowH u l).filter (fun p=>decide (p.1≠u))=lowH u l:=zjw fun x hx=>decide_eq_true fun e=>by
  have:=(List.mem_filter.1 hx).2
  simp only[decide_eq_true_eq]at this
  rw[e]at this; exact zef u this
 have a2:(midH u l).filter (fun p=>decide (p.1≠u))=[]:=zdl fun x hx=>decide_eq_false fun hn=>by
  have:=(List.mem_filter.1 hx).2
  simp only[decide_eq_true_eq]at this
  exact hn this
 have a3:(highH u l).filter (fun p=>decide (p.1≠u))=highH u l:=zjw fun x hx=>decide_eq_true fun e=>by
  have:=(List.mem_filter.1 hx).2
  simp only[decide_eq_true_eq]at this
  rw[e]at this; exact zef u this
 calc (l.filter fun p=>decide (p.1≠u))=(lowH u l++(midH u l++highH u l)).filter (fun p=>decide (p.1≠u)):=by rw[←e]
  _=lowH u l++highH u l:=by rw[List.filter_append,List.filter_append,a1,a2,a3]; rfl
theorem shGoH_f(u:AUnit')(now:List ALot'):∀(l out:List AHold'),SrtA (l.map (·.1))→shGoH u now l false out=out++(lowH u l++([(u,(now,()))]++highH u l))
 |[],out,_=>by rw[shGoH,if_neg (by simp)]; rfl
 |p::l,out,h=>by
  obtain⟨h1,h2⟩:=List.pairwise_cons.1 h
  have h1:∀x∈l,ltA p.1 x.1:=fun x hx=>h1 _ (List.mem_map_of_mem hx)
  rw[shGoH]
  by_cases hp:ltA p.1 u
  ·have hu:¬p.1=u:=fun e=>zef u (by rw[e]at hp; exact hp)
   rw[if_pos (.inr hp),if_neg hu,shGoH_f u now l _ h2]
   have e1:lowH u (p::l)=p::lowH u l:=by unfold lowH; rw[List.filter_cons,if_pos (by simpa using hp)]
   have e2:highH u (p::l)=highH u l:=by unfold highH; rw[List.filter_cons,if_neg (by simpa using fun e=>ltA_as hp e)]
   rw[e1,e2,List.append_assoc]; rfl
  ·rw[if_neg (by simpa using hp)]
   have hge:∀x∈p::l,¬ltA x.1 u:=by
    intro x hx hxu
    rcases List.mem_cons.1 hx with rfl|hx
    ·exact hp hxu
    ·exact hp (ltA_tr (h1 x hx) hxu)
   have e1:lowH u (p::l)=[]:=zdl fun x hx=>decide_eq_false (hge x hx)
   have e2:=neH_cut (u:=u) h
   rw[e1,List.nil_append]at e2
   rw[e1,←e2,List.filter_cons]
   by_cases hu:p.1=u
   ·rw[if_pos hu,if_neg (by simpa using hu),zuo,List.append_assoc]; rfl
   ·rw[if_neg hu,if_pos (by simpa using hu),zuo]
    simp only[List.append_assoc,List.nil_append,List.cons_append]
theorem shGoH_put{l:List AHold'}(h:SrtA (l.map (·.1)))(u:AUnit')(now:List ALot'):shGoH u now l (decide (now=[])) []=setH l u now:=by
 unfold setH
 by_cases h0:now=[]
 ·rw[decide_eq_true h0,zuo,if_pos h0,neH_cut h]; rfl
 ·rw[decide_eq_false h0,shGoH_f u now l [] h,if_neg h0]; rfl
def restH(u:AUnit'):List AHold'→List AHold'
 |[]=>[]
 |p::t=>if p.1=u then t else p::t
def midL(u:AUnit')(all:List ALot'):List AHold':=if all=[] then [] else [(u,(all,()))]
theorem setH_lt{u:AUnit'}{p:AHold'}{l:List AHold'}{all:List ALot'}(h:ltA p.1 u):setH (p::l) u all=p::setH l u all:=by
 unfold setH
 have e1:lowH u (p::l)=p::lowH u l:=by unfold lowH; rw[List.filter_cons,if_pos (by simpa using h)]
 have e2:highH u (p::l)=highH u l:=by unfold highH; rw[List.filter_cons,if_neg (by simpa using fun e=>ltA_as h e)]
 rw[e1,e2]; rfl
theorem setH_ge{u:AUnit'}{l:List AHold'}{all:List ALot'}(hs:SrtA (l.map (·.1)))(h:∀p,l.head?=some p→¬ltA p.1 u):setH l u all=midL u all++restH u l:=by
 unfold setH midL
 cases l with
 |nil=>rfl
 |cons p t=>
  have hp:=h p rfl
  obtain⟨h1,_⟩:=List.pairwise_cons.1 hs
  have h1:∀x∈t,ltA p.1 x.1:=fun x hx=>h1 _ (List.mem_map_of_mem hx)
  have hge:∀x∈p::t,¬ltA x.1 u:=by
   intro x hx hxu
   rcases List.mem_cons.1 hx with rfl|hx
   ·exact hp hxu
   ·exact hp (ltA_tr (h1 x hx) hxu)
  have e1:lowH u (p::t)=[]:=zdl fun x hx=>decide_eq_false (hge x hx)
  rw[e1,List.nil_append]
  congr 1
  show highH u (p::t)=if p.1=u then t else p::t
  by_cases hu:p.1=u
  ·rw[if_pos hu]
   unfold highH
   rw[List.filter_cons,if_neg (by rw[hu]; simpa using zef u)]
   exact zjw fun x hx=>decide_eq_true (by rw[←hu]; exact h1 x hx)
  ·rw[if_neg hu]
   have hgt:ltA u p.1:=Classical.byContradiction fun hn=>hu (zpi hp hn)
   exact zjw fun x hx=>decide_eq_true (by
    rcases List.mem_cons.1 hx with rfl|hx
    ·exact hgt
    ·exact ltA_tr hgt (h1 x hx))
theorem isH_srt{l:List AHold'}(h:isH l=true):SrtA (l.map (·.1)):=(of_decide_eq_true h).2
theorem yjm{l:List AHold'}(h:okHs l)(hl:l.length≤390000)(hs:SrtA (l.map (·.1)))(u:AUnit'){all:List ALot'}(ha:okT all):okHs (setH l u all):=
 ⟨fun p hp=>by
  rcases zqb.1 hp with ⟨h1,_⟩|⟨_,rfl⟩
  ·exact h.1 p h1
  ·exact ha,by have:=zzd hs u all; omega⟩
theorem zph:okT []:=⟨by simp,fun x hx=>by cases hx⟩
end Go.Proofs.YtllkmncnmlmefaaGreat
namespace Go.Vc
open Go
theorem zct{α X S β:Type}{l:List α}(hN:l.length<9223372036854775808){f:X→(X→Option β)→Option β}(st:Nat→S→X)(Inv:Nat→S→Prop)(G:List α→S→Option β){z0:X}{s0:S}(hz:z0=st 0 s0)(h0:Inv 0 s0)
  (hend:∀s,Inv l.length s→∀again:X→Option β,f (st l.length s) again=G [] s)
  (hstep:∀(i:Nat) (hi:i<l.length) (s:S),Inv i s→∀again:X→Option β,(∀s',Inv (i+1) s'→again (st (i+1) s')=G (l.drop (i+1)) s')→f (st i s) again=G (l[i]::l.drop (i+1)) s):stdW.loop f z0=G l s0:=by
 subst hz
 have key:∀n i s,i≤l.length→l.length - i<n→Inv i s→loopF n f (st i s)=G (l.drop i) s:=by
  intro n
  induction n with
  |zero=>intro i s _ h; omega
  |succ n ih=>
   intro i s hi hn hv
   show f (st i s) (loopF n f)=_
   by_cases h:i<l.length
   ·rw[List.drop_eq_getElem_cons h]
    exact hstep i h s hv _ fun s' hv'=>ih (i+1) s' (by omega) (by omega) hv'
   ·have:i=l.length:=by omega
    subst this; rw[List.drop_length]; exact hend s hv _
 show loopF FU f (st 0 s0)=_
 have:=key FU 0 s0 (Nat.zero_le _) (by rw[FU_eq]; omega) h0
 rwa [List.drop_zero]at this
end Go.Vc
namespace Go.Proofs.YtllkmncnmlmefaaGreat
open Go Go.Vc Go.RowKit
theorem unitEq(v x:AUnit'):notIf false ((v.1==x.1)&&(v.2.1==x.2.1))=decide (v=x):=by rw[nif_f]; exact eqA v x
theorem r_hsetG{l:List AHold'}{u:AUnit'}{all:List ALot'}(h:okHs l)(hs:SrtA (l.map (·.1)))(hal:all.length≤1000):hold_set l u all=some (setH l u all):=by
 have hl:=h.2
 show zmz stdW l u all=_
 unfold zmz
 rw[←shGoH_put hs]
 refine zbe ?_ ?_<;>
 ·rw[zaa (zoa (s:=all) (by omega))]
  have hz:((all.length:Int)==0)=decide (all=[]):=by
   cases all with
   |nil=>rfl
   |cons x xs=>simp; omega
  rw[hz]
  refine zct (l:=l) (s0:=(decide (all=[]),[])) (by omega) (fun i (z:Bool×List AHold')=>(z.1,((i:Int),(u.1,(u.2.1,(all,(z.2,()))))))) (fun i z=>z.2.length≤2*i) (fun l' z=>some (shGoH u all l' z.1 z.2)) rfl (by simp) ?_ ?_
  ·rintro⟨d,out⟩ ho again
   show stdW.cnd (decide ((l.length:Int)<(l.length:Int))) _ _=_
   rw[zaj]
   refine join_g fun k hk=>?_
   have kk:∀x,k (x,())=some x:=by intro x; subst hk; rfl
   clear hk
   simp only at ho
   show stdW.cnd (!d) (stdW.room (out.length+1) 40 (k (out++[(u,(all,()))],()))) (k (out,()))=some (shGoH u all [] d out)
   cases d with
   |true=>rw[cnd_n (by rfl),kk,shGoH,if_pos rfl]
   |false=>rw[cnd_y (by rfl),room_w (by omega) (by omega),kk,shGoH,if_neg (by decide)]
  ·rintro i hi ⟨d,out⟩ ho again ha
   simp only at ho
   have h2:=(h.1 _ (List.getElem_mem hi)).1
   show stdW.cnd (decide ((i:Int)<(l.length:Int))) _ _=_
   rw[cnd_lt hi]
   refine join_g fun k5 hk5=>?_
   have k5':∀(d':Bool) (out':List AHold'),out'.length≤2*(i+1)→k5 (d',(out',()))=some (shGoH u all (l.drop (i+1)) d' out'):=by
    intro d' out' ho'
    rw[←ha (d',out') ho']
    subst hk5
    show again (d',(IntKind.i64.wrap ((i:Int)+1),(u.1,(u.2.1,(all,(out',()))))))=_
    rw[i64_s i (by omega)]
   clear hk5 ha
   show stdW.idx l (i:Int) _=some (shGoH u all (l[i]::l.drop (i+1)) d out)
   rw[idx_w hi,shGoH]
   refine join_g fun k9 hk9=>?_
   have k9u:l[i].1=u→∀(d':Bool) (out':List AHold'),out'.length≤2*i+1→k9 (d',(out',()))=some (shGoH u all (l.drop (i+1)) true (if d'=true then out' else out'++[(u,(all,()))])):=by
    intro hu d' out' ho'
    subst hk9
    show stdW.cnd (notIf true ((l[i].1.1==u.1)&&(l[i].1.2.1==u.2.1))) _ _=_
    rw[nif_t,eqA,cnd_n (by simp[hu])]
    show stdW.cnd (!d') (stdW.room (out'.length+1) 40 (k5 (true,(out'++[(u,(all,()))],())))) (k5 (d',(out',())))=_
    cases d' with
    |true=>rw[cnd_n (by rfl),if_pos rfl,k5' true out' (by omega)]
    |false=>rw[cnd_y (by rfl),if_neg (by decide),room_w (by omega) (by omega),k5' true _ (by rw[List.length_append]; simp; omega)]
   have k9n:¬l[i].1=u→∀(d':Bool) (out':List AHold'),out'.length≤2*i+1→k9 (d',(out',()))=some (shGoH u all (l.drop (i+1)) d' (out'++[l[i]])):=by
    intro hu d' out' ho'
    subst hk9
    show stdW.cnd (notIf true ((l[i].1.1==u.1)&&(l[i].1.2.1==u.2.1))) _ _=_
    rw[nif_t,eqA,cnd_y (by simp[hu]),zaa (zoa (by omega))]
    show stdW.room (out'.length+1) 40 (k5 (d',(out'++[l[i]],())))=_
    rw[room_w (by omega) (by omega),k5' d' _ (by rw[List.length_append]; simp; omega)]
   clear hk9
   refine join_g fun k11 hk11=>?_
   have k11t:k11 (true,(out,()))=k9 (true,(out++[(u,(all,()))],())):=by
    subst hk11
    show stdW.cnd true (stdW.room (out.length+1) 40 (k9 (true,(out++[(u,(all,()))],())))) _=_
    rw[cnd_y rfl,room_w (by omega) (by omega)]
   have k11f:k11 (false,(out,()))=k9 (d,(out,())):=by
    subst hk11
    show stdW.cnd false _ (k9 (d,(out,())))=_
    rw[cnd_n rfl]
   clear hk11
   show stdW.cnd (!d) (stdW.call (yek u l[i].1) fun v=>k11 (v,(out,()))) (k11 (false,(out,())))=_
   cases d with
   |true=>
    rw[cnd_n (by rfl),k11f,if_pos (.inl rfl)]
    by_cases hu:l[i].1=u
    ·rw[if_pos hu,k9u hu true out (by omega),if_pos rfl]
    ·rw[if_neg hu,k9n hu true out (by omega)]
   |false=>
    rw[cnd_y (by rfl),zaa (yfq _ _)]
    by_cases hlt:ltA u l[i].1
    ·have hn:¬ltA l[i].1 u:=fun e=>ltA_as hlt e
     have hu:¬l[i].1=u:=fun e=>zef u (by rw[e]at hlt; exact hlt)
     rw[decide_eq_true hlt,k11t,k9n hu true _ (by rw[List.length_append]; simp; omega),if_neg (by simpa using hn),if_neg hu]
    ·rw[decide_eq_false hlt,k11f]
     by_cases hu:l[i].1=u
     ·have hn:¬ltA l[i].1 u:=by rw[hu]; exact zef u
      rw[k9u hu false out (by omega),if_neg (by decide),if_neg (by simpa using hn),if_pos hu]
     ·have hn:ltA l[i].1 u:=Classical.byContradiction fun hn=>hu (zpi hn hlt)
      rw[k9n hu false out (by omega),if_pos (.inr hn),if_neg hu]
theorem ycx{l:List AHold'}{u:AUnit'}{all:List ALot'}(hs:SrtA (l.map (·.1)))(hl:l.length≤400000):ref26_With l u all=some (setH l u all):=by
 show zfx stdW l u all=_
 unfold zfx
 refine join_g fun k10 h10=>?_
 have K10:∀(i:Nat) (out:List AHold'),i≤l.length→out.length≤400000→k10 ((i:Int),(out,()))=some (out++(midL u all++restH u (l.drop i))):=by
  intro i out hi ho
  subst h10
  refine join_g fun k9 h9=>?_
  have K9:∀out':List AHold',out'.length≤400001→k9 (out',())=some (out'++restH u (l.drop i)):=by
   intro out' ho'
   subst h9
   refine join_g fun k5 h5=>?_
   have K5:∀j:Nat,j≤l.length→k5 ((j:Int),(out',()))=some (out'++l.drop j):=by
    intro j hj
    subst h5
    show stdW.bnd (j:Int) l.length (fun h4=>stdW.room (out'.length+((l.take l.length).drop h4).length) 40 (some (out'++((l.take l.length).drop h4))))=_
    rw[bnd_w (by omega) (by omega),Int.toNat_natCast,List.take_length,room_w (by rw[List.length_drop]; omega) (by rw[List.length_drop]; omega)]
   clear h5
   refine join_g fun k7 h7=>?_
   have K7:∀b:Bool,k7 (b,(out',()))=stdW.cnd b (k5 (IntKind.i64.wrap ((i:Int)+1),(out',()))) (k5 ((i:Int),(out',()))):=by intro b; subst h7; rfl
   clear h7
   by_cases h:i<l.length
   ·rw[cnd_lt h]
    show stdW.idx l (i:Int) (fun x8=>k7 (notIf false ((x8.1.1==u.1)&&(x8.1.2.1==u.2.1)),(out',())))=_
    rw[idx_w h,unitEq,K7,List.drop_eq_getElem_cons h]
    show _=some (out'++if l[i].1=u then l.drop (i+1) else l[i]::l.drop (i+1))
    by_cases hu:l[i].1=u
    ·rw[decide_eq_true hu,cnd_y rfl,if_pos hu,i64_s i (by omega),K5 (i+1) (by omega)]
    ·rw[decide_eq_false hu,cnd_n rfl,if_neg hu,K5 i hi,←List.drop_eq_getElem_cons h]
   ·have:i=l.length:=by omega
    subst this
    rw[zaj]
    show k7 (false,(out',()))=_
    rw[K7,cnd_n rfl,K5 _ (Nat.le_refl _),List.drop_length]; rfl
  clear h9
  show stdW.cnd (decide (0<(all.length:Int))) (stdW.room (out.length+1) 40 (k9 (out++[(u,(all,()))],()))) (k9 (out,()))=_
  unfold midL
  cases all with
  |nil=>rw[cnd_n (by rfl),if_pos rfl,K9 out (by omega),List.nil_append]
  |cons x xs=>rw[cnd_y (decide_eq_true (by simp<;>omega)),if_neg (by simp),room_w (by omega) (by omega),K9 _ (by rw[List.length_append]; simp; omega),List.append_assoc]
 clear h10
 refine(zct (l:=l) (s0:=[]) (by omega) (fun i (z:List AHold')=>((i:Int),(z,()))) (fun i z=>z.length≤i∧SrtA ((l.drop i).map (·.1))) (fun l' z=>some (z++setH l' u all)) rfl ⟨Nat.le_refl _,hs⟩ ?_ ?_).trans (by rw[List.nil_append])
 ·rintro z ⟨hz,_⟩ again
  show stdW.cnd (decide ((l.length:Int)<(l.length:Int))) _ (k10 ((l.length:Int),(z,())))=_
  rw[zaj,K10 _ z (Nat.le_refl _) (by omega),List.drop_length]
  rw[setH_ge (l:=[]) List.Pairwise.nil (fun p h=>by cases h)]
 ·rintro i hi z ⟨hz,hsd⟩ again ha
  have hd:=List.drop_eq_getElem_cons hi
  show stdW.cnd (decide ((i:Int)<(l.length:Int))) (stdW.idx l (i:Int) _) _=_
  rw[cnd_lt hi,idx_w hi,zaa (ztq _ _)]
  rw[hd]at hsd
  by_cases h:ltA l[i].1 u
  ·rw[decide_eq_true h,cnd_y rfl]
   show stdW.idx l (i:Int) _=_
   rw[idx_w hi]
   show stdW.room (z.length+1) 40 (again (IntKind.i64.wrap ((i:Int)+1),(z++[l[i]],())))=_
   rw[room_w (by omega) (by omega),i64_s i (by omega),ha (z++[l[i]]) ⟨by rw[List.length_append]; simp; omega,(List.pairwise_cons.1 hsd).2⟩,setH_lt h,List.append_assoc]; rfl
  ·rw[decide_eq_false h,cnd_n rfl]
   show k10 ((i:Int),(z,()))=_
   rw[K10 i z (by omega) (by omega),setH_ge hsd (fun p hp=>by cases hp; exact h),hd]
def qtyOf(x:ALot'):Int:=x.2.2.1
def zac(a:zaf):Int:=a.2.1
def putL(l:List ALot')(x:ALot'):List ALot'×Int×Unit:=
 if isL l=true then if rightL x then if I64 (getL l x.1 x.2.1+x.2.2.1) then if getL l x.1 x.2.1=0∧l.length=16 then ([],25,()) else (setL l (x.1,(x.2.1,(getL l x.1 x.2.1+x.2.2.1,()))),0,()) else ([],7,()) else ([],2,()) else ([],3,())
def takeL(l:List ALot')(x:ALot'):List ALot'×Int×Unit:=
 if isL l=true then if rightL x then if getL l x.1 x.2.1<x.2.2.1 then ([],23,()) else (setL l (x.1,(x.2.1,(getL l x.1 x.2.1 - x.2.2.1,()))),0,()) else ([],2,()) else ([],3,())
def putH(l:List AHold')(u:AUnit')(x:ALot'):List AHold'×Int×Unit:=
 if isH l=true then if (putL (lotsH l u) x).2.1=0 then (setH l u (putL (lotsH l u) x).1,0,()) else ([],(putL (lotsH l u) x).2.1,()) else ([],3,())
def takeH(l:List AHold')(u:AUnit')(x:ALot'):List AHold'×Int×Unit:=
 if isH l=true then if (takeL (lotsH l u) x).2.1=0 then (setH l u (takeL (lotsH l u) x).1,0,()) else ([],(takeL (lotsH l u) x).2.1,()) else ([],3,())
def passH(l:List AHold')(f t:AUnit')(x:ALot')(tag:Int):List AHold'×Int×Unit:=
 if isH l=true then if f=t then ([],24,()) else if (takeH l f x).2.1=0 then putH (takeH l f x).1 t (x.1,(tag,(x.2.2.1,()))) else ([],(takeH l f x).2.1,()) else ([],3,())
def zA:zaf:=(0,(0,(0,())))
def findA:List zaf→Int→zaf×Bool×Unit
 |[],_=>(zA,false,())
 |a::l,k=>if a.1=k then (a,true,()) else findA l k
def valsGo(as:List zaf):List ALot'→List Int→List Int×Int×Unit
 |[],acc=>(acc,0,())
 |x::l,acc=>if (findA as x.1).2.1=true then if I64 (qtyOf x*zac (findA as x.1).1) then valsGo as l (acc++[qtyOf x*zac (findA as x.1).1]) else ([],7,()) else ([],11,())
def worthP(as:List zaf)(l:List ALot'):Int×Int×Unit:=
 if isL l=true then if (valsGo as l []).2.1=0 then fits64 (valsGo as l []).1.sum else (0,(valsGo as l []).2.1,()) else (0,3,())
def owesP(p:List AFlow')(u:AUnit'):Int×Int×Unit:=if getP p u = -9223372036854775808 then (0,7,()) else if getP p u<0 then (- getP p u,0,()) else (0,0,())
def roomP(as:List zaf)(p:List AFlow')(h:List AHold')(u:AUnit'):Int×Int×Unit:=
 if (worthP as (lotsH h u)).2.1=0 then if I64 ((worthP as (lotsH h u)).1+getP p u) then (max 0 ((worthP as (lotsH h u)).1+getP p u),0,()) else (0,7,()) else (0,(worthP as (lotsH h u)).2.1,())
abbrev PH:=List AFlow'×List AHold'×Int
def tU:AUnit':=(0,(1,()))
def fU:AUnit':=(0,(0,()))
def upZ(m d:Int):Int := -((-m) / d)
def soldP(as:List zaf)(u:AUnit')(x:ALot')(m:Int)(p:List AFlow')(h:List AHold'):PH:=
 if (findA as x.1).2.1=true then
  if zac (findA as x.1).1=0 then (p,h,0)
  else if I64 (min (upZ m (zac (findA as x.1).1)) (qtyOf x)*zac (findA as x.1).1) then
   if (passH h u tU (x.1,(x.2.1,(min (upZ m (zac (findA as x.1).1)) (qtyOf x),()))) 0).2.1=0 then
    if (moveP p tU u (min (upZ m (zac (findA as x.1).1)) (qtyOf x)*zac (findA as x.1).1)).2.1=0 then
     ((moveP p tU u (min (upZ m (zac (findA as x.1).1)) (qtyOf x)*zac (findA as x.1).1)).1,(passH h u tU (x.1,(x.2.1,(min (upZ m (zac (findA as x.1).1)) (qtyOf x),()))) 0).1,0)
    else ([],[],(moveP p tU u (min (upZ m (zac (findA as x.1).1)) (qtyOf x)*zac (findA as x.1).1)).2.1)
   else ([],[],(passH h u tU (x.1,(x.2.1,(min (upZ m (zac (findA as x.1).1)) (qtyOf x),()))) 0).2.1)
  else ([],[],7)
 else ([],[],11)
def sellGo(as:List zaf)(u:AUnit')(cash:Int):List ALot'→List AFlow'→List AHold'→PH
 |[],p,h=>(p,h,0)
 |x::l,p,h=>if I64 (cash - getP p u) then if 0<cash - getP p u then
   if (soldP as u x (cash - getP p u) p h).2.2=0 then sellGo as u cash l (soldP as u x (cash - getP p u) p h).1 (soldP as u x (cash - getP p u) p h).2.1 else ([],[],(soldP as u x (cash - getP p u) p h).2.2)
  else sellGo as u cash l p h else ([],[],7)
def sellP(as:List zaf)(p:List AFlow')(h:List AHold')(u:AUnit')(cash:Int):PH:=
 if isP p=true∧isH h=true then if u=tU then ([],[],2) else sellGo as u cash (lotsH h u) p h else ([],[],3)
abbrev zbf:=AUnit'×AUnit'×Int×Unit
abbrev PHD:=List AFlow'×List AHold'×List zbf×Int
def paysP(as:List zaf)(p:List AFlow')(h:List AHold')(by' to:AUnit')(n:Int):PHD:=
 if n=0 then (p,h,[],0) else
  if (sellP as p h by' n).2.2=0 then
   if (moveP (sellP as p h by' n).1 by' to n).2.1=0 then ((moveP (sellP as p h by' n).1 by' to n).1,(sellP as p h by' n).2.1,[(by',(to,(n,())))],0)
   else ([],[],[],(moveP (sellP as p h by' n).1 by' to n).2.1)
  else ([],[],[],(sellP as p h by' n).2.2)
def payF(as:List zaf)(p:List AFlow')(h:List AHold')(by' to:AUnit'):PHD:=
 if (owesP p to).2.1=0 then if (roomP as p h by').2.1=0 then if by'=to then (p,h,[],0) else paysP as p h by' to (min (owesP p to).1 (roomP as p h by').1)
  else ([],[],[],(roomP as p h by').2.1) else ([],[],[],(owesP p to).2.1)
def ownF(as:List zaf)(p:List AFlow')(h:List AHold')(u:AUnit'):PHD:=
 if (owesP p u).2.1=0 then if (sellP as p h u 0).2.2=0 then
   if (owesP p u).1=(owesP (sellP as p h u 0).1 u).1 then ((sellP as p h u 0).1,(sellP as p h u 0).2.1,[],0)
   else ((sellP as p h u 0).1,(sellP as p h u 0).2.1,[(u,(u,((owesP p u).1 - (owesP (sellP as p h u 0).1 u).1,())))],0)
  else ([],[],[],(sellP as p h u 0).2.2) else ([],[],[],(owesP p u).2.1)
theorem yjc{l:List zaf}{k:Int}(hl:l.length≤1000):zyl l k=some (findA l k):=by
 show zgf stdW l k=_
 unfold zgf
 refine zbo (l:=l) (by omega) (s0:=()) (fun _ _=>True) (fun l' _=>some (findA l' k)) trivial ?_ ?_
 ·rintro _ again _
  rw[zaj]; rfl
 ·rintro i hi _ _ again ha
  rw[cnd_lt hi,idx_w hi]
  show _=some (findA (l[i]::l.drop (i+1)) k)
  rw[findA]
  by_cases h:l[i].1=k
  ·rw[cnd_y (by simp[h]),if_pos h]
  ·rw[cnd_n (by simp[h]),if_neg h]
   show again (IntKind.i64.wrap ((i:Int)+1),())=_
   rw[i64_s i (by omega)]
   exact ha _ trivial
theorem zrr{l:List zaf}{k:Int}(hl:l.length≤1000):zrn l k=some (findA l k):=by
 show zdd stdW l k=_
 unfold zdd
 refine zbo (l:=l) (by omega) (s0:=()) (fun _ _=>True) (fun l' _=>some (findA l' k)) trivial ?_ ?_
 ·rintro _ again _
  rw[zaj]; rfl
 ·rintro i hi _ _ again ha
  rw[cnd_lt hi,idx_w hi]
  show _=some (findA (l[i]::l.drop (i+1)) k)
  rw[findA]
  by_cases h:l[i].1=k
  ·rw[cnd_y (by simp[h]),if_pos h,idx_w hi]
  ·rw[cnd_n (by simp[h]),if_neg h]
   show again (IntKind.i64.wrap ((i:Int)+1),())=_
   rw[i64_s i (by omega)]
   exact ha _ trivial
def okA1(a:zaf):Prop:=(1≤a.1∧a.1≤4)∧(0≤a.2.1∧a.2.1≤2147483647)∧(0≤a.2.2.1∧a.2.2.1≤10000)
instance (a:zaf):Decidable (okA1 a):=by unfold okA1; infer_instance
theorem r_asPriced(p:Int):yei p=some (decide (0≤p)&&decide (p≤2147483647)):=by
 show zfq stdW p=_
 unfold zfq
 by_cases h:0≤p
 ·rw[cnd_y (decide_eq_true h),decide_eq_true h]; rfl
 ·rw[cnd_n (decide_eq_false h),decide_eq_false h]; rfl
theorem yde{a:zaf}(h:okA1 a):yho a=some 0:=by
 obtain⟨⟨h1,h2⟩,⟨h3,h4⟩,h5,h6⟩:=h
 show zff stdW a=_
 unfold zff
 refine join_g fun k hk=>?_
 have kf:k (false,())=some 0:=by subst hk; rfl
 clear hk
 rw[cnd_n (decide_eq_false (by omega)),cnd_n (decide_eq_false (by omega)),zaa (r_asPriced _),decide_eq_true h3,decide_eq_true h4,cnd_n (by rfl),cnd_n (decide_eq_false (by omega)),decide_eq_false (by omega)]
 exact kf
theorem zby{z:Int}(h:I64 z):fits64 z=(z,0,()):=if_pos h
theorem zfb{z:Int}(h:¬I64 z):fits64 z=(0,7,()):=if_neg h
theorem yai{a b:Int}(ha:I64 a)(hb:I64 b):In128 (a*b):=by
 unfold I64 at ha hb; unfold In128
 rcases Int.le_total 0 a with h1|h1<;>rcases Int.le_total 0 b with h2|h2
 ·have:=zvg (a:=a) (b:=b) (A:=9223372036854775808) (B:=9223372036854775808) ⟨h1,by omega⟩ ⟨h2,by omega⟩; omega
 ·have:=zvg (a:=a) (b := -b) (A:=9223372036854775807) (B:=9223372036854775808) ⟨h1,by omega⟩ ⟨by omega,by omega⟩
  rw[Int.mul_neg]at this; omega
 ·have:=zvg (a := -a) (b:=b) (A:=9223372036854775808) (B:=9223372036854775807) ⟨by omega,by omega⟩ ⟨h2,by omega⟩
  rw[Int.neg_mul]at this; omega
 ·have:=zvg (a := -a) (b := -b) (A:=9223372036854775808) (B:=9223372036854775808) ⟨by omega,by omega⟩ ⟨by omega,by omega⟩
  rw[Int.neg_mul_neg]at this; omega
theorem loop_one{X β:Type}(f:X→(X→Option β)→Option β)(z:X)(r:Option β)(h:∀again,f z again=r):stdW.loop f z=r:=
 zds (N:=0) (by decide) (fun _=>z) r rfl h (fun i hi=>absurd hi (by omega))
theorem r_fProd2{a b:Int}(ha:I64 a)(hb:I64 b):zwi (a::(b::[]))=some (fits64 (a*b)):=by
 show zhd stdW (a::(b::[]))=_
 unfold zhd
 have e1:I64 1:=by unfold I64; omega
 have m1:=yai e1 ha
 have m2:=yai ha hb
 have hw1:=r_wMul e1 ha
 have hw2:=r_wMul ha hb
 have i1:=r_wInt m1
 have i2:=r_wInt m2
 rw[Int.one_mul]at hw1 i1
 rw[zby ha]at i1
 by_cases hI:I64 (a*b)
 ·rw[zby hI]at i2 ⊢
  refine zds (N:=2) (by decide) (fun i=>((if i=0 then 1 else if i=1 then a else a*b),(((i:Nat):Int),()))) _ rfl ?_ ?_
  ·intro again; rfl
  ·intro i hi again hag
   have:i=0∨i=1:=by omega
   rcases this with rfl|rfl
   ·show stdW.cnd true (stdW.call (zpt 1 a) _) _=_
    rw[cnd_y (by rfl),zaa hw1]
    show stdW.call (zpu (wide a)) _=_
    rw[zaa i1]
    exact hag
   ·show stdW.cnd true (stdW.call (zpt a b) _) _=_
    rw[cnd_y (by rfl),zaa hw2]
    show stdW.call (zpu (wide (a*b))) _=_
    rw[zaa i2]
    exact hag
 ·rw[zfb hI]at i2 ⊢
  refine zds (N:=1) (by decide) (fun i=>((if i=0 then 1 else a),(((i:Nat):Int),()))) _ rfl ?_ ?_
  ·intro again
   show stdW.cnd true (stdW.call (zpt a b) _) _=_
   rw[cnd_y (by rfl),zaa hw2]
   show stdW.call (zpu (wide (a*b))) _=_
   rw[zaa i2]
   rfl
  ·intro i hi again hag
   have:i=0:=by omega
   subst this
   show stdW.cnd true (stdW.call (zpt 1 a) _) _=_
   rw[cnd_y (by rfl),zaa hw1]
   show stdW.call (zpu (wide a)) _=_
   rw[zaa i1]
   exact hag
theorem okA1.price{a:zaf}(h:okA1 a):I64 (zac a):=by unfold okA1 at h; unfold I64 zac; omega
theorem ydd{a:zaf}{q:Int}(h:okA1 a)(hq:I64 q):zpp a q=some (fits64 (q*zac a)):=by
 show zfe stdW a q=_
 unfold zfe
 rw[zaa (yde h),cnd_n (by rfl)]
 show stdW.call (zwi (q::(zac a::[]))) _=_
 rw[zaa (r_fProd2 hq h.price)]
theorem ztz{as:List zaf}(h:∀a∈as,okA1 a){k:Int}(hf:(findA as k).2.1=true):okA1 (findA as k).1:=by
 induction as with
 |nil=>cases hf
 |cons a l ih=>
  rw[findA]at hf ⊢
  by_cases hk:a.1=k
  ·rw[if_pos hk]; exact h a (by simp)
  ·rw[if_neg hk]at hf ⊢; exact ih (fun b hb=>h b (by simp[hb])) hf
theorem r_values{as:List zaf}{l:List ALot'}(ha:∀a∈as,okA1 a)(hl1:as.length≤1000)(hl:okT l):
  zlf as l=some ((if isL l=true then valsGo as l [] else ([],3,())),()):=by
 show zbk stdW as l=_
 unfold zbk
 have h20:=hl.1
 rw[zaa (r_lis1 (by omega))]
 by_cases hp:isL l=true
 ·rw[hp,cnd_n (by rfl),if_pos rfl]
  refine zbo (l:=l) (by omega) (fun i (z:List Int×Unit)=>z.1.length≤i) (fun l' (z:List Int×Unit)=>some (valsGo as l' z.1,())) (Nat.le_refl _) ?_ ?_
  ·rintro⟨acc,⟨⟩⟩ again _
   rw[zaj]; rfl
  ·rintro i hi ⟨acc,⟨⟩⟩ hacc again hag
   simp only at hacc
   show stdW.cnd (decide ((i:Int)<(l.length:Int))) (stdW.idx l (i:Int) _) _=some (valsGo as (l[i]::l.drop (i+1)) acc,())
   rw[cnd_lt hi,idx_w hi,valsGo]
   rw[zaa (yjc hl1)]
   by_cases hf:(findA as l[i].1).2.1=true
   ·have hq:I64 (qtyOf l[i]):=hl.2 _ (List.getElem_mem hi)
    rw[cnd_n (by rw[hf]; rfl),if_pos hf]
    show stdW.call (zpp (findA as l[i].1).1 (qtyOf l[i])) _=_
    rw[zaa (ydd (ztz ha hf) hq)]
    by_cases hI:I64 (qtyOf l[i]*zac (findA as l[i].1).1)
    ·rw[zby hI,if_pos hI]
     show stdW.cnd false _ (stdW.room (acc.length+1) 8 (again (IntKind.i64.wrap ((i:Int)+1),(acc++[qtyOf l[i]*zac (findA as l[i].1).1],()))))=_
     rw[cnd_n (by rfl),room_w (by omega) (by omega),i64_s i (by omega)]
     exact hag (acc++[qtyOf l[i]*zac (findA as l[i].1).1],()) (by simp; omega)
    ·rw[zfb hI,if_neg hI]
     show stdW.cnd true _ _=_
     rw[cnd_y (by rfl)]
   ·have hf:(findA as l[i].1).2.1=false:=by simpa using hf
    rw[cnd_y (by rw[hf]; rfl),if_neg (by rw[hf]; simp)]
 ·have hp:isL l=false:=by simpa using hp
  rw[hp,cnd_y (by rfl),if_neg (by simp)]
theorem yhx(as:List zaf):∀(l:List ALot') (acc:List Int),(valsGo as l acc).1.length≤acc.length+l.length
 |[],acc=>by simp[valsGo]
 |x::l,acc=>by
  rw[valsGo]
  split
  ·split
   ·have:=yhx as l (acc++[qtyOf x*zac (findA as x.1).1]); simp at this ⊢; omega
   ·simp
  ·simp
theorem vals_ok(as:List zaf):∀(l:List ALot') (acc:List Int),(∀x∈acc,I64 x)→∀x∈(valsGo as l acc).1,I64 x
 |[],acc,h=>by simpa[valsGo]using h
 |x::l,acc,h=>by
  rw[valsGo]
  split
  ·split
   ·rename_i hI
    exact vals_ok as l _ fun y hy=>(List.mem_append.1 hy).elim (h y) fun hy=>by simp at hy; exact hy▸hI
   ·simp
  ·simp
theorem r_cWorth{as:List zaf}{l:List ALot'}(ha:∀a∈as,okA1 a)(hl1:as.length≤1000)(hl:okT l):zws as l=some (worthP as l):=by
 show zhg stdW as l=_
 unfold zhg worthP
 rw[zaa (r_values ha hl1 hl)]
 by_cases hp:isL l=true
 ·rw[if_pos hp,if_pos hp]
  have h1:=yhx as l []
  have h2:=vals_ok as l [] (by simp)
  have h20:=hl.1
  generalize valsGo as l []=v at*
  obtain⟨v1,v2,⟨⟩⟩:=v
  simp only at h1 h2
  by_cases he:v2=0
  ·subst he
   show stdW.cnd false _ (stdW.call (zne v1) _)=_
   rw[cnd_n (by rfl),zaa (r_fSum h2 (by simp at h1; omega))]; rfl
  ·show stdW.cnd (v2 != 0) (some (0,(v2,()))) _=_
   rw[cnd_y (by simpa using he),if_neg he]
 ·rw[if_neg hp,if_neg hp]
  show stdW.cnd true _ _=_
  rw[cnd_y (by rfl)]
theorem yhs{as:List zaf}{l:List ALot'}:I64 (worthP as l).1:=by
 unfold worthP
 split
 ·split
  ·unfold fits64
   split
   ·assumption
   ·unfold I64; omega
  ·unfold I64; omega
 ·unfold I64; omega
theorem r_fAbs{a:Int}(h:I64 a):fix_Abs a=some (if a<0 then fits64 (-a) else (a,0,())):=by
 show zqr stdW a=_
 unfold zqr
 by_cases h0:a<0
 ·have:=r_fSub (a:=0) (b:=a) (by unfold I64; omega) h
  rw[Int.zero_sub]at this
  rw[cnd_y (decide_eq_true h0),zaa this,if_pos h0]
 ·rw[cnd_n (decide_eq_false h0),if_neg h0]
theorem zjv{l:List AFlow'}(h:okF l)(u:AUnit'):I64 (getP l u):=by
 induction l with
 |nil=>unfold getP I64; omega
 |cons x l ih=>
  rw[getP]
  split
  ·exact h x (by simp)
  ·exact ih fun y hy=>h y (by simp[hy])
theorem r_owes{s:zad}{u:AUnit'}(hf:okF (pu s))(hl:(pu s).length≤1000000):zwo s u=some (owesP (pu s) u):=by
 show zfc stdW s u=_
 unfold zfc owesP
 show stdW.call (zmu (pu s) u) _=_
 rw[zaa (r_get hl)]
 have hg:=zjv hf u
 generalize getP (pu s) u=c at*
 have e:(if c<0 then c else 0)=min 0 c:=by unfold I64 at hg; split<;>omega
 show stdW.call (fix_Abs (if c<0 then c else 0)) _=_
 by_cases h0:c<0
 ·rw[if_pos h0,zaa (r_fAbs hg),if_pos h0]
  by_cases hm:c = -9223372036854775808
  ·rw[if_pos hm,hm,zfb (by unfold I64; omega)]
  ·rw[if_neg hm,if_pos h0,zby (by unfold I64 at *; omega)]
 ·rw[if_neg h0,zaa (r_fAbs (by unfold I64; omega)),if_neg (by omega),if_neg (by omega),if_neg h0]
def asS(s:zad):List zaf:=s.2.2.2.1
theorem r_room{s:zad}{u:AUnit'}(ha:∀a∈asS s,okA1 a)(hl1:(asS s).length≤1000)(hh:okHs (ho s))(hf:okF (pu s))(hl:(pu s).length≤1000000):fall_Room s u=some (roomP (asS s) (pu s) (ho s) u):=by
 show zhw stdW s u=_
 unfold zhw roomP
 show stdW.call (zvw (ho s) u) _=_
 rw[zaa (zzq hh)]
 show stdW.call (zws (asS s) (lotsH (ho s) u)) _=_
 rw[zaa (r_cWorth ha hl1 (zgk hh.1 u))]
 have hw:=yhs (as:=asS s) (l:=lotsH (ho s) u)
 generalize worthP (asS s) (lotsH (ho s) u)=v at*
 obtain⟨n,e,⟨⟩⟩:=v
 simp only at hw
 show stdW.cnd (e != 0) (some (0,(e,()))) (stdW.call (zmu (pu s) u) fun v3=>stdW.call (zne (n::(v3::[]))) fun v4=>some ((if v4.1>0 then v4.1 else 0),v4.2))=some (if e=0 then (if I64 (n+getP (pu s) u) then (max 0 (n+getP (pu s) u),0,()) else (0,7,())) else (0,e,()))
 by_cases he:e=0
 ·subst he
  rw[if_pos rfl,cnd_n (by rfl),zaa (r_get hl)]
  have hg:=zjv hf u
  generalize getP (pu s) u=c at*
  show stdW.call (zne (n::(c::[]))) _=_
  rw[zaa (r_fSum (l:=[n,c]) (by intro x hx; simp at hx; rcases hx with rfl|rfl<;>assumption) (by simp))]
  have es:[n,c].sum=n+c:=by simp
  rw[es]
  by_cases hI:I64 (n+c)
  ·rw[zby hI,if_pos hI]
   show some ((if n+c>0 then n+c else 0),(0,()))=_
   congr 2
   split<;>omega
  ·rw[zfb hI,if_neg hI]; rfl
 ·rw[if_neg he,cnd_y (by simpa using he)]
theorem valB_cons(x:Int)(l:List Int):valB (x::l)=x.toNat+2*valB l:=rfl
theorem r_divB{z d:Int}(hz:0≤z)(hs:sml z)(hd:0<d)(hd2:d<9223372036854775808):zqe (big z) d=some (big (z / d),(z % d,())):=by
 show zck stdW (big z) d=_
 unfold zck
 obtain⟨n,rfl⟩:=Int.eq_ofNat_of_zero_le hz
 obtain⟨m,rfl⟩:=Int.eq_ofNat_of_zero_le (Int.le_of_lt hd)
 have hm0:0<m:=by omega
 have hm2:m<9223372036854775808:=by omega
 have hlen:=len_of hs
 have eb:(big (n:Int))=(false,(bitsOf n,())):=by unfold big; simp
 rw[eb]at hlen ⊢
 have hl:(bitsOf n).length≤300:=hlen
 clear hlen eb
 have hbit:=zlg n
 have hv:=zfg n
 generalize bitsOf n=bs at*
 have e3:((n / m:Nat):Int)=(n:Int) / (m:Int):=by omega
 have e4:((n % m:Nat):Int)=(n:Int) % (m:Int):=by omega
 rw[←e3,←e4,←hv]
 clear e3 e4
 ·refine zdb (fun z=>z.2.2.1.toNat) (fun z=>∃(i:Nat) (q:List Int),i≤bs.length∧z=(((valB (bs.drop i) % m:Nat):Int),(q,(((i:Nat):Int),())))∧bitL q∧q.length=bs.length - i∧valB q=valB (bs.drop i) / m)
   (fun _=>some (big ((valB bs / m:Nat):Int),(((valB bs % m:Nat):Int),()))) ⟨bs.length,[],Nat.le_refl _,by rw[List.drop_length]; show _=(((0 % m:Nat):Int),_); rw[Nat.zero_mod]; rfl,fun x hx=>(by cases hx),by simp,by rw[List.drop_length]; show 0=0 / m; rw[Nat.zero_div]⟩ (by show ((bs.length:Nat):Int).toNat<_; omega) ?_
  rintro _ ⟨i,q,hi,rfl,hq,hql,hqv⟩ again ha
  show stdW.cnd (decide ((0:Int)<(i:Int))) _ _=_
  by_cases h0:i=0
  ·subst h0
   rw[List.drop_zero]at hqv ⊢
   rw[cnd_n (decide_eq_false (by omega))]
   show stdW.call (zrp false q) _=_
   rw[zaa (r_trim hq (by omega)),bigS_f,hqv]
   refine join_g fun k hk=>?_
   have kk:∀(a:Int) (b:BigT),k (a,b)=some (b,(a,())):=by intro a b; subst hk; rfl
   clear hk
   refine join_g fun k2 hk2=>?_
   have kf:k2 (false,())=some (big ((valB bs / m:Nat):Int),(((valB bs % m:Nat):Int),())):=by
    subst hk2
    show stdW.cnd false _ (k (((valB bs % m:Nat):Int),big ((valB bs / m:Nat):Int)))=_
    rw[cnd_n (by rfl),kk]
   clear hk2
   show stdW.cnd false _ (k2 (false,()))=_
   rw[cnd_n (by rfl),kf]
  ·have hi1:i - 1<bs.length:=by omega
   rw[cnd_y (decide_eq_true (by omega))]
   show stdW.idx bs (IntKind.i64.wrap ((i:Int) - 1)) _=_
   rw[zfn i (by omega) (by rw[zbc]; omega),idx_w hi1]
   obtain⟨u,hu,hxu⟩:=yhn hbit (i - 1) hi1
   have hdrop:=zue bs (i - 1) hi1
   rw[hxu,show i - 1+1=i by omega,Int.toNat_natCast]at hdrop
   rw[hxu]
   have hr:valB (bs.drop i) % m<m:=Nat.mod_lt _ hm0
   have e1:IntKind.u64.wrap (IntKind.u64.wrap (2*((valB (bs.drop i) % m:Nat):Int))+IntKind.u64.wrap (u:Int))=((2*(valB (bs.drop i) % m)+u:Nat):Int):=by
    rw[u64_id (2*((valB (bs.drop i) % m:Nat):Int)) (by omega),u64_id (u:Int) (by omega),u64_id _ (by omega)]; omega
   have hcase:(valB (bs.drop (i - 1)) / m=2*(valB (bs.drop i) / m)+(if m≤2*(valB (bs.drop i) % m)+u then 1 else 0))∧(valB (bs.drop (i - 1)) % m=if m≤2*(valB (bs.drop i) % m)+u then 2*(valB (bs.drop i) % m)+u - m else 2*(valB (bs.drop i) % m)+u):=by
    have hdm:=Nat.div_add_mod (valB (bs.drop i)) m
    generalize valB (bs.drop i) / m=a at*
    generalize valB (bs.drop i) % m=r at*
    generalize valB (bs.drop (i - 1))=V at*
    have hV:V=m*(2*a)+(2*r+u):=by rw[hdrop,←hdm,Nat.mul_add,←Nat.mul_assoc,←Nat.mul_assoc,Nat.mul_comm m 2]; omega
    by_cases hge:m≤2*r+u
    ·rw[if_pos hge,if_pos hge]
     have hV2:V=m*(2*a+1)+(2*r+u - m):=by rw[hV,Nat.mul_add,Nat.mul_one]; omega
     rw[hV2]
     exact⟨by rw[Nat.mul_add_div hm0,Nat.div_eq_of_lt (by omega)],by rw[Nat.mul_add_mod,Nat.mod_eq_of_lt (by omega)]⟩
    ·rw[if_neg hge,if_neg hge,hV]
     exact⟨by rw[Nat.mul_add_div hm0,Nat.div_eq_of_lt (by omega)],by rw[Nat.mul_add_mod,Nat.mod_eq_of_lt (by omega)]⟩
   obtain⟨hc1,hc2⟩:=hcase
   show stdW.join _ _=_
   refine join_g fun k hk=>?_
   have kk:∀(r b:Nat),b≤1→r=valB (bs.drop (i - 1)) % m→valB (bs.drop (i - 1)) / m=2*(valB (bs.drop i) / m)+b→k ((r:Int),((b:Int),()))=some (big ((valB bs / m:Nat):Int),(((valB bs % m:Nat):Int),())):=by
    intro r b hb hr hq2
    subst hk
    show stdW.room 1 1 (stdW.room (1+q.length) 1 (again ((r:Int),(((b:Int)::q),(((i - 1:Nat):Int),())))))=_
    rw[room_w (by omega) (by omega),room_w (by omega) (by omega)]
    refine ha _ ⟨i - 1,(b:Int)::q,by omega,by rw[hr],fun x hx=>?_,by simp; omega,?_⟩ (by show ((i - 1:Nat):Int).toNat<((i:Nat):Int).toNat; omega)
    ·rcases List.mem_cons.1 hx with rfl|hx
     ·omega
     ·exact hq x hx
    ·rw[valB_cons,Int.toNat_natCast,hqv,hq2]; omega
   clear hk
   show stdW.cnd (decide ((m:Int)≤IntKind.u64.wrap (IntKind.u64.wrap (2*((valB (bs.drop i) % m:Nat):Int))+IntKind.u64.wrap (u:Int)))) (k (IntKind.u64.wrap (IntKind.u64.wrap (IntKind.u64.wrap (2*((valB (bs.drop i) % m:Nat):Int))+IntKind.u64.wrap (u:Int)) - (m:Int)),(1,()))) (k (IntKind.u64.wrap (IntKind.u64.wrap (2*((valB (bs.drop i) % m:Nat):Int))+IntKind.u64.wrap (u:Int)),(0,())))=_
   rw[e1]
   by_cases hge:m≤2*(valB (bs.drop i) % m)+u
   ·rw[if_pos hge]at hc1 hc2
    have e2:IntKind.u64.wrap (((2*(valB (bs.drop i) % m)+u:Nat):Int) - (m:Int))=((2*(valB (bs.drop i) % m)+u - m:Nat):Int):=by rw[u64_id _ (by omega)]; omega
    rw[cnd_y (decide_eq_true (by omega)),e2]
    exact kk _ 1 (Nat.le_refl _) hc2.symm hc1
   ·rw[if_neg hge]at hc1 hc2
    rw[cnd_n (decide_eq_false (by omega))]
    exact kk _ 0 (by omega) hc2.symm hc1
theorem ztj{m d:Int}(hm:0<m)(hd:0<d):upZ m d=if 0<m % d then m / d+1 else m / d:=by
 unfold upZ
 have h1:=Int.emod_nonneg m (Int.ne_of_gt hd)
 have h2:=Int.emod_lt_of_pos m hd
 have h3:=Int.mul_ediv_add_emod m d
 have key:∀q r:Int,0≤r→r<d → -m=d*q+r→(-m) / d=q:=fun q r a b e=>by
  rw[e,Int.add_comm,Int.add_mul_ediv_left _ _ (Int.ne_of_gt hd),Int.ediv_eq_zero_of_lt a b]; omega
 split
 ·rw[key (-(m / d) - 1) (d - m % d) (by omega) (by omega) (by rw[Int.mul_sub,Int.mul_neg,Int.mul_one]; omega)]; omega
 ·rw[key (-(m / d)) 0 (by omega) hd (by rw[Int.mul_neg]; omega)]; omega
theorem up_bd{m d:Int}(hm:0<m)(hd:0<d):0<upZ m d∧upZ m d≤m:=by
 have h3:=Int.mul_ediv_add_emod m d
 have h1:=Int.emod_nonneg m (Int.ne_of_gt hd)
 have h2:=Int.emod_lt_of_pos m hd
 have h4:=Int.ediv_nonneg (Int.le_of_lt hm) (Int.le_of_lt hd)
 have h5:m / d≤d*(m / d):=by
  have:=Int.mul_le_mul_of_nonneg_right (show (1:Int)≤d by omega) h4
  rwa [Int.one_mul]at this
 rw[ztj hm hd]
 split
 ·omega
 ·refine⟨?_,by omega⟩
  rcases Int.lt_or_eq_of_le h4 with h|h
  ·exact h
  ·exfalso
   rw[←h,Int.mul_zero]at h3
   omega
theorem r_up02{z d:Int}(hz:0<z)(hs:I64 z)(hd:0<d)(hd2:d<9223372036854775808):yit (big z) d=some (big (upZ z d)):=by
 show zmr stdW (big z) d=_
 unfold zmr
 have hss:=zcp hs
 have h4:=Int.ediv_nonneg (Int.le_of_lt hz) (Int.le_of_lt hd)
 have hb:=up_bd hz hd
 rw[zaa (r_divB (Int.le_of_lt hz) hss hd hd2),ztj hz hd]
 rw[ztj hz hd]at hb
 show stdW.cnd (decide (0<z % d)) (stdW.call (zqc 1) fun v2=>stdW.call (zdi (big (z / d)) v2) _) (some (big (z / d)))=_
 by_cases h:0<z % d
 ·rw[if_pos h]at hb ⊢
  have e:zqc 1=some (big 1):=by
   have:=r_nat 1 (by decide)
   rw[bigS_f]at this; exact this
  rw[cnd_y (decide_eq_true h),zaa e,zaa (r_addB (by unfold I64 at hs; unfold sml; omega) (by unfold sml; omega))]
 ·rw[if_neg h,cnd_n (decide_eq_false h)]
theorem r_sell12{a:zaf}{m:Int}(ha:okA1 a)(hp:0<zac a)(hm:0<m)(hI:I64 m):zyd a m=some (big (upZ m (zac a))):=by
 show zcb stdW a m=_
 unfold zcb
 have hp2:=ha.2.1.2
 have e:IntKind.u64.wrap a.2.1=zac a:=u64_id _ (by unfold zac at hp; omega)
 rw[zaa (r_of hI)]
 show stdW.call (yit (big m) (IntKind.u64.wrap a.2.1)) _=_
 rw[e,zaa (r_up02 hm hI hp (by unfold zac; omega))]
theorem r_div64{lo y:Int}(h0:0≤lo)(h1:lo<18446744073709551616)(hy:0<y)(hy2:y<18446744073709551616):zdx 0 lo y=some (lo / y,(lo % y,())):=by
 show zcc stdW 0 lo y=_
 unfold zcc
 have hq:=Int.ediv_nonneg h0 (Int.le_of_lt hy)
 have hq2:lo / y≤lo:=Int.ediv_le_self _ h0
 rw[cnd_n (by simp; omega),cnd_n (decide_eq_false (by omega)),cnd_y (by rfl),nz_w (by omega),nz_w (by omega),Int.tdiv_eq_ediv_of_nonneg h0,Int.tmod_eq_emod_of_nonneg h0,u64_id _ (by omega)]
theorem r_wDiv{m d:Int}(hm:0≤m)(hI:I64 m)(hd:0<d)(hd2:I64 d):yhu (wide m) d=some (wide (m / d),(m % d,(0,()))):=by
 show zgn stdW (wide m) d=_
 unfold zgn
 unfold I64 at hI hd2
 have h1:=Int.emod_nonneg m (Int.ne_of_gt hd)
 have h2:=Int.emod_lt_of_pos m hd
 have hq:=Int.ediv_nonneg hm (Int.le_of_lt hd)
 have hq2:m / d≤m:=Int.ediv_le_self _ hm
 have e0:IntKind.u64.wrap d=d:=u64_id _ (by omega)
 have esz:zjq (wide m)=some (szOf m):=by
  have:=r_size (wide m) (zjp m (by unfold In128; omega))
  rw[zjo]at this
  rw[this]; unfold absI; rw[if_neg (by omega)]
 have e1:szOf m=(0,(m,())):=by
  unfold szOf
  rw[Int.ediv_eq_zero_of_lt hm (by omega),Int.emod_eq_of_lt hm (by omega)]
 have ebel:zcm (wide m)=some false:=by
  rw[zmt]
  have:(wide m).1=0:=by unfold wide; exact Int.ediv_eq_zero_of_lt hm (by omega)
  rw[this]; rfl
 have esg:zbz (0,(m / d,())) false=some (wide (m / d),(true,())):=by
  have hr:=zzp (m / d) false ⟨hq,by omega⟩
  have hi:In128 (m / d):=by unfold In128; omega
  have es:szOf (m / d)=(0,(m / d,())):=by
   unfold szOf
   rw[Int.ediv_eq_zero_of_lt hq (by omega),Int.emod_eq_of_lt hq (by omega)]
  rw[es]at hr
  rw[hr]
  show some (w128 (m / d),(decide (In128 (m / d)),()))=_
  rw[yen _ hi,decide_eq_true hi]
 rw[cnd_n (by simp; omega),cnd_n (decide_eq_false (by omega)),e0,zaa esz,e1,nz_w (by omega),nz_w (by omega)]
 show stdW.call (zdx (Int.tmod 0 d) m d) _=_
 rw[Int.zero_tmod,zaa (r_div64 hm (by omega) hd (by omega))]
 refine join_g fun k hk=>?_
 have kk:k (m % d,(IntKind.u64.wrap (Int.tdiv 0 d),(m / d,())))=some (wide (m / d),(m % d,(0,()))):=by
  subst hk
  rw[Int.zero_tdiv,show IntKind.u64.wrap 0=0 by decide]
  have e5:IntKind.i64.wrap (m % d)=m % d:=IntWalk.i64_in _ (by omega)
  have inner:stdW.call (zcm (wide m)) (fun v7=>stdW.call (zbz (0,(m / d,())) v7) fun v8=>some (v8.1,(IntKind.i64.wrap (m % d),((0:Int),()))))=some (wide (m / d),(m % d,(0,()))):=by
   rw[zaa ebel,zaa esg,e5]
  refine zbe ?_ inner
  rw[zaa ebel]
  exact zbe (by rw[zaa esg,e5]) (by rw[zaa esg,e5])
 clear hk
 refine join_g fun k2 hk2=>?_
 have kf:k2 (false,())=some (wide (m / d),(m % d,(0,()))):=by
  subst hk2
  show stdW.cnd false _ (k (m % d,(IntKind.u64.wrap (Int.tdiv 0 d),(m / d,()))))=_
  rw[cnd_n (by rfl)]; exact kk
 clear hk2
 show stdW.call (zcm (wide m)) _=_
 rw[zaa ebel,cnd_n (by rfl),kf]
theorem r_asSell{a:zaf}{m:Int}(ha:okA1 a)(hp:0<zac a)(hm:0<m)(hI:I64 m):asset_Sell a m=some (upZ m (zac a),(0,())):=by
 show ziz stdW a m=_
 unfold ziz
 have hp2:=ha.price
 have hb:=up_bd hm hp
 have huI:I64 (upZ m (zac a)):=by unfold I64 at hI ⊢; omega
 rw[zaa (yde ha),cnd_n (by rfl),cnd_n (decide_eq_false (by omega))]
 have eUp:fix_Up m 1 (zac a)=some (upZ m (zac a),(0,())):=by
  show zwf stdW m 1 (zac a)=_
  unfold zwf
  have hw:=r_wMul hI (show I64 1 by unfold I64; omega)
  rw[Int.mul_one]at hw
  rw[zaa hw,zaa (r_wDiv (Int.le_of_lt hm) hI hp hp2)]
  refine join_g fun k hk=>?_
  have kk:∀z,I64 z→k (0,wide z)=some (z,(0,())):=by
   intro z hz
   subst hk
   show stdW.call (zoi (wide z) 0) _=_
   rw[zaa (zqg (zpl hz)),zby hz]
  clear hk
  refine join_g fun k2 hk2=>?_
  have hc:=ztj hm hp
  have hq:=Int.ediv_nonneg (Int.le_of_lt hm) (Int.le_of_lt hp)
  have hq2:m / zac a≤m:=Int.ediv_le_self _ (Int.le_of_lt hm)
  have kf:∀b,b=decide (0<m % zac a)→k2 (b,())=some (upZ m (zac a),(0,())):=by
   rintro _ rfl
   subst hk2
   by_cases h:0<m % zac a
   ·rw[if_pos h]at hc
    rw[decide_eq_true h]
    have inner:stdW.call (wide_Of 1) (fun v9=>stdW.call (zyp (wide (m / zac a)::(v9::[]))) fun v10=>k (v10.2.1,v10.1))=some (upZ m (zac a),(0,())):=by
     rw[zaa (r_wOf 1 (by unfold I64; omega))]
     have hadd:=r_wAdd [wide (m / zac a),wide 1] (by
      intro w hw
      simp only[List.mem_cons,List.not_mem_nil,or_false]at hw
      rcases hw with rfl|rfl
      ·exact zjp _ (by unfold I64 at hI; unfold In128; omega)
      ·exact zjp _ (by unfold In128; omega)) (by simp)
     have es:sumW [wide (m / zac a),wide 1]=m / zac a+1:=by
      unfold sumW; simp[zjo]
     have ef:fit (m / zac a+1)=(wide (m / zac a+1),0,()):=if_pos (by unfold I64 at hI; unfold In128; omega)
     rw[es,ef]at hadd
     rw[zaa hadd]
     rw[←hc]
     exact kk _ huI
    show stdW.cnd true _ _=_
    rw[cnd_y (by rfl)]
    exact zbe inner inner
   ·rw[if_neg h]at hc
    rw[decide_eq_false h]
    show stdW.cnd false _ (k (0,wide (m / zac a)))=_
    rw[cnd_n (by rfl),←hc]
    exact kk _ huI
  clear hk2
  show stdW.cnd true (k2 (decide (0<m % zac a),())) (k2 (false,()))=_
  rw[cnd_y (by rfl)]
  exact kf _ rfl
 show stdW.call (fix_Up m 1 (zac a)) _=_
 rw[zaa eUp]
end Go.Proofs.YtllkmncnmlmefaaGreat
namespace Go.Proofs.YtllkmncnmlmefaaGreat
open Go Go.Vc Go.RowKit Lot
theorem both_of2{β:Type}[EqB β]{a b c r:Option β}(ha:a=c)(hb:b=c)(hc:c=r):stdW.both a b=r:=zbe (ha.trans hc) (hb.trans hc)
theorem zpg(a b:ALot'):(orI [cmpI a.1 b.1,cmpI a.2.1 b.2.1]<0↔ltL a b)∧(orI [cmpI a.1 b.1,cmpI a.2.1 b.2.1]=0↔sameL a b):=by
 unfold ltL sameL
 simp only[orI,cmpI]
 by_cases h1:a.1<b.1
 ·simp[h1]; omega
 ·by_cases h2:b.1<a.1
  ·have h3:¬a.1=b.1:=by omega
   simp[h1,h2,h3]
  ·have h3:a.1=b.1:=by omega
   by_cases h4:a.2.1<b.2.1
   ·simp[h3,h4]; omega
   ·by_cases h5:b.2.1<a.2.1
    ·have h6:¬a.2.1=b.2.1:=by omega
     simp[h3,h4,h5,h6]
    ·have h6:a.2.1=b.2.1:=by omega
     simp[h3,h6]
theorem shr1(i j:Nat)(h:i+j<9223372036854775807):IntKind.i64.wrap (Int.fdiv (IntKind.u64.wrap (IntKind.i64.wrap ((i:Int)+(j:Int)))) (2 ^ (Min.min (Int.toNat 1) (Go.IntKind.bits Go.IntKind.u64))))=(((i+j) / 2:Nat):Int):=by
 rw[show IntKind.i64.wrap ((i:Int)+(j:Int))=((i+j:Nat):Int) by rw[IntKind.wrap_i64]; omega,u64_id _ (by omega)]
 rw[show (2:Int) ^ (Min.min (Int.toNat 1) (Go.IntKind.bits Go.IntKind.u64))=2 by decide,Int.fdiv_eq_ediv_of_nonneg _ (by decide)]
 rw[IntWalk.i64_in _ (by omega)]; omega
theorem low_le(x:ALot')(l:List ALot'):(lowL x l).length≤l.length:=List.length_filter_le _ _
def thereL(x:ALot')(l:List ALot'):Bool:=!(midK x l).isEmpty
theorem r_bs{l:List ALot'}{x:ALot'}(hs:SrtL l)(hl:l.length≤1000):zbw l x=some (((((lowL x l).length:Nat):Int),(thereL x l,())),()):=by
 show zah stdW l x=_
 unfold zah
 have hle:=low_le x l
 refine zdb (fun z=>(z.2.1 - z.1).toNat) (fun z=>∃i j:Nat,z=((i:Int),((j:Int),()))∧i≤(lowL x l).length∧(lowL x l).length≤j∧j≤l.length) (fun _=>some (((((lowL x l).length:Nat):Int),(thereL x l,())),())) ⟨0,l.length,rfl,Nat.zero_le _,hle,Nat.le_refl _⟩ (by show ((l.length:Int) - 0).toNat<_; omega) ?_
 rintro _ ⟨i,j,rfl,h1,h2,h3⟩ again ha
 show stdW.cnd (decide ((i:Int)<(j:Int))) (stdW.nn 1 (stdW.idx l (IntKind.i64.wrap (Int.fdiv (IntKind.u64.wrap (IntKind.i64.wrap ((i:Int)+(j:Int)))) (2 ^ (Min.min (Int.toNat 1) (Go.IntKind.bits Go.IntKind.u64))))) fun x3=>stdW.call (zrz x3 x) fun v4=>
   stdW.cnd (decide (v4<0)) (again (IntKind.i64.wrap (IntKind.i64.wrap (Int.fdiv (IntKind.u64.wrap (IntKind.i64.wrap ((i:Int)+(j:Int)))) (2 ^ (Min.min (Int.toNat 1) (Go.IntKind.bits Go.IntKind.u64))))+1),((j:Int),())))
    (again ((i:Int),(IntKind.i64.wrap (Int.fdiv (IntKind.u64.wrap (IntKind.i64.wrap ((i:Int)+(j:Int)))) (2 ^ (Min.min (Int.toNat 1) (Go.IntKind.bits Go.IntKind.u64)))),())))))
   (stdW.cnd (decide ((i:Int)<(l.length:Int))) (stdW.idx l (i:Int) fun x5=>stdW.call (zrz x5 x) fun v6=>some (((i:Int),((v6==0),())),())) (some (((i:Int),(false,())),())))=_
 rw[shr1 i j (by omega)]
 by_cases hij:i<j
 ·have hh:(i+j) / 2<l.length:=by omega
  rw[cnd_y (decide_eq_true (by omega)),nn_w (by decide),idx_w hh,zaa (zqh _ _)]
  obtain⟨o1,_⟩:=zpg l[(i+j) / 2] x
  have hla:=low_at hs x hh
  by_cases hlt:ltL l[(i+j) / 2] x
  ·rw[cnd_y (decide_eq_true (o1.2 hlt)),i64_s _ (by omega)]
   have:=hla.1 hlt
   exact ha _ ⟨(i+j) / 2+1,j,rfl,by omega,h2,h3⟩ (by show ((j:Int) - (((i+j) / 2+1:Nat):Int)).toNat<((j:Int) - (i:Int)).toNat; omega)
  ·rw[cnd_n (decide_eq_false fun h=>hlt (o1.1 h))]
   have:¬(i+j) / 2<(lowL x l).length:=fun h=>hlt (hla.2 h)
   exact ha _ ⟨i,(i+j) / 2,rfl,h1,by omega,by omega⟩ (by show ((((i+j) / 2:Nat):Int) - (i:Int)).toNat<((j:Int) - (i:Int)).toNat; omega)
 ·have hi:i=(lowL x l).length:=by omega
  subst hi
  rw[cnd_n (decide_eq_false (by omega))]
  rcases mid_at hs x with ⟨hi,hsm,hm⟩|⟨hm,hn⟩
  ·have ht:thereL x l=true:=by unfold thereL; rw[hm]; rfl
   rw[cnd_y (decide_eq_true (by omega)),idx_w hi,zaa (zqh _ _),ht]
   obtain⟨_,o2⟩:=zpg l[(lowL x l).length] x
   rw[o2.2 hsm]; rfl
  ·have ht:thereL x l=false:=by unfold thereL; rw[hm]; rfl
   rw[ht]
   by_cases hi:(lowL x l).length<l.length
   ·rw[cnd_y (decide_eq_true (by omega)),idx_w hi,zaa (zqh _ _)]
    obtain⟨_,o2⟩:=zpg l[(lowL x l).length] x
    have:(orI [cmpI l[(lowL x l).length].1 x.1,cmpI l[(lowL x l).length].2.1 x.2.1]==0)=false:=by
     rw[beq_eq_false_iff_ne]; exact fun h=>hn hi (o2.1 h)
    rw[this]
   ·rw[cnd_n (decide_eq_false (by omega))]
theorem ydc{l:List ALot'}{x:ALot'}(hl:l.length≤1000):ydo l x=some (if isL l=true then if rightL x then 0 else 2 else 3):=by
 show zee stdW l x=_
 unfold zee
 rw[zaa (r_lis1 (by omega))]
 by_cases h:isL l=true
 ·rw[h,cnd_n (by rfl),if_pos rfl,zaa (ydb x)]
  by_cases h2:rightL x
  ·rw[decide_eq_true h2,cnd_n (by rfl),if_pos h2]
  ·rw[decide_eq_false h2,cnd_y (by rfl),if_neg h2]
 ·have h:isL l=false:=by simpa using h
  rw[h,cnd_y (by rfl)]; rfl
theorem zsc{l:List ALot'}(h:isL l=true):LInv l:=of_decide_eq_true h
theorem zug{l:List ALot'}(h:LInv l)(x:ALot'):(thereL x l=true∧∃hi:(lowL x l).length<l.length,sameL l[(lowL x l).length] x∧getL l x.1 x.2.1=l[(lowL x l).length].2.2.1∧0<l[(lowL x l).length].2.2.1)∨(thereL x l=false∧midK x l=[]∧getL l x.1 x.2.1=0):=by
 rcases mid_at h.2.1 x with ⟨hi,hsm,hm⟩|⟨hm,_⟩
 ·exact .inl ⟨by unfold thereL; rw[hm]; rfl,hi,hsm,ydv hm,(h.1 _ (List.getElem_mem hi)).2.2⟩
 ·exact .inr ⟨by unfold thereL; rw[hm]; rfl,hm,ydw hm⟩
theorem lotins_eq{l:List ALot'}{i:Nat}{x:ALot'}(h:i≤l.length)(hl:l.length≤1000):zmx l (i:Int) (x::[])=some (l.take i++x::l.drop i,()):=by
 show insO 24 l (i:Int) [x]=_
 unfold insO
 rw[show (decide (0≤(i:Int))&&decide ((i:Int)≤(l.length:Int))&&Nat.ble ((l.length+1)*24) 140737488355328)=true by
  rw[Bool.and_eq_true,Bool.and_eq_true,decide_eq_true_eq,decide_eq_true_eq]
  exact⟨⟨by omega,by omega⟩,Nat.ble_eq_true_of_le (by omega)⟩]
 rfl
theorem lotdel_eq{l:List ALot'}{i:Nat}(h:i<l.length):zmy l (i:Int) ((i+1:Nat):Int)=some (l.take i++l.drop (i+1),()):=by
 show delO l (i:Int) ((i+1:Nat):Int)=_
 unfold delO
 rw[show (decide (0≤(i:Int))&&decide ((i:Int)<((i+1:Nat):Int))&&decide (((i+1:Nat):Int)≤(l.length:Int)))=true by
  rw[Bool.and_eq_true,Bool.and_eq_true,decide_eq_true_eq,decide_eq_true_eq,decide_eq_true_eq]
  exact⟨⟨by omega,by omega⟩,by omega⟩]
 rfl
theorem r_lPut{l:List ALot'}{x:ALot'}(hl:okT l)(hx:I64 x.2.2.1):lots_Put l x=some (putL l x):=by
 show zmw stdW l x=_
 unfold zmw putL
 have h20:=hl.1
 rw[zaa (ydc (by omega))]
 by_cases h1:isL l=true
 ·rw[if_pos h1,if_pos h1]
  by_cases h2:rightL x
  ·rw[if_pos h2,if_pos h2,cnd_n (by rfl)]
   have hinv:=zsc h1
   have h16:=hinv.2.2
   rw[zaa (r_bs hinv.2.1 (by omega))]
   have hq:0<x.2.2.1:=h2.2.2
   rcases zug hinv x with ⟨ht,hi,hsm,hg,hpos⟩|⟨ht,hm,hg⟩
   ·rw[ht,hg]
    show stdW.cnd false _ (stdW.idx l (((lowL x l).length:Nat):Int) fun x7=>stdW.call (zne (x7.2.2.1::(x.2.2.1::[]))) _)=_
    rw[cnd_n (by rfl),idx_w hi]
    have hy:I64 l[(lowL x l).length].2.2.1:=hl.2 _ (List.getElem_mem hi)
    have hsum:=r_fSum (l:=[l[(lowL x l).length].2.2.1,x.2.2.1]) (by intro z hz; simp at hz; rcases hz with rfl|rfl<;>assumption) (by simp)
    have es:[l[(lowL x l).length].2.2.1,x.2.2.1].sum=l[(lowL x l).length].2.2.1+x.2.2.1:=by simp
    rw[es]at hsum
    rw[zaa hsum]
    by_cases hI:I64 (l[(lowL x l).length].2.2.1+x.2.2.1)
    ·rw[zby hI,if_pos hI,if_neg (by rintro⟨h,_⟩; omega)]
     show stdW.cnd false _ (stdW.call (zco l) _)=_
     rw[cnd_n (by rfl),zaa (zoa (by omega)),idx_w hi]
     show stdW.nth l (Int.toNat (((lowL x l).length:Nat):Int)) _=_
     rw[nth_w hi,Int.toNat_natCast,hsm.1,hsm.2]
     show some (l.set (lowL x l).length (x.1,(x.2.1,(l[(lowL x l).length].2.2.1+x.2.2.1,()))),(0,()))=_
     rw[yby hinv.2.1 hi hsm _ (by omega)]
    ·rw[zfb hI,if_neg hI]
     show stdW.cnd true _ _=_
     rw[cnd_y (by rfl)]
   ·rw[ht,hg]
    have hI:I64 (0+x.2.2.1):=by rw[Int.zero_add]; exact hx
    rw[if_pos hI]
    show stdW.cnd true (stdW.cnd (decide (16≤(l.length:Int))) _ _) _=_
    rw[cnd_y (by rfl)]
    by_cases h3:l.length=16
    ·rw[cnd_y (decide_eq_true (by omega)),if_pos ⟨rfl,h3⟩]
    ·rw[cnd_n (decide_eq_false (by omega)),if_neg (by rintro⟨_,h⟩; exact h3 h)]
     have ex:((x.1,(x.2.1,(0+x.2.2.1,()))):ALot')=x:=by rw[Int.zero_add]
     have eset:setL l x=lowL x l++(x::highL x l):=by unfold setL; rw[if_neg (by omega)]; rfl
     rw[ex,eset,←ins_there hinv.2.1 hm]
     refine zbe ?_ ?_<;>
     ·rw[zaa (zoa (by omega))]
      show stdW.call (zmx l (((lowL x l).length:Nat):Int) (x::[])) _=_
      rw[zaa (lotins_eq (low_le x l) (by omega))]
  ·rw[if_neg h2,if_neg h2]
   show stdW.cnd true _ _=_
   rw[cnd_y (by rfl)]
 ·rw[if_neg h1,if_neg h1]
  show stdW.cnd true _ _=_
  rw[cnd_y (by rfl)]
theorem r_lTake{l:List ALot'}{x:ALot'}(hl:okT l)(hx:I64 x.2.2.1):lots_Take l x=some (takeL l x):=by
 show zkt stdW l x=_
 unfold zkt takeL
 have h20:=hl.1
 rw[zaa (ydc (by omega))]
 by_cases h1:isL l=true
 ·rw[if_pos h1,if_pos h1]
  by_cases h2:rightL x
  ·rw[if_pos h2,if_pos h2,cnd_n (by rfl)]
   have hinv:=zsc h1
   have h16:=hinv.2.2
   rw[zaa (r_bs hinv.2.1 (by omega))]
   have hq:0<x.2.2.1:=h2.2.2
   refine join_g fun k hk=>?_
   have kt:k (true,())=some ([],(23,())):=by subst hk; rfl
   rcases zug hinv x with ⟨ht,hi,hsm,hg,hpos⟩|⟨ht,hm,hg⟩
   ·rw[ht,hg]
    show stdW.cnd false _ (stdW.idx l (((lowL x l).length:Nat):Int) fun x15=>k (decide (x15.2.2.1<x.2.2.1),()))=_
    rw[cnd_n (by rfl),idx_w hi]
    have hy:I64 l[(lowL x l).length].2.2.1:=hl.2 _ (List.getElem_mem hi)
    by_cases hlt:l[(lowL x l).length].2.2.1<x.2.2.1
    ·rw[decide_eq_true hlt,if_pos hlt,kt]
    ·rw[decide_eq_false hlt,if_neg hlt]
     subst hk
     show stdW.cnd false _ (stdW.call (zco l) _)=_
     rw[cnd_n (by rfl),zaa (zoa (by omega)),idx_w hi]
     show stdW.nth l (Int.toNat (((lowL x l).length:Nat):Int)) _=_
     rw[nth_w hi,idx_w hi]
     show stdW.nth l (Int.toNat (((lowL x l).length:Nat):Int)) _=_
     rw[nth_w hi,Int.toNat_natCast,hsm.1,hsm.2]
     have ew:IntKind.i64.wrap (l[(lowL x l).length].2.2.1 - x.2.2.1)=l[(lowL x l).length].2.2.1 - x.2.2.1:=IntWalk.i64_in _ (by unfold I64 at hy hx; omega)
     rw[ew]
     have hlen:(l.set (lowL x l).length (x.1,(x.2.1,(l[(lowL x l).length].2.2.1 - x.2.2.1,())))).length=l.length:=List.length_set
     have hi2:(lowL x l).length<(l.set (lowL x l).length (x.1,(x.2.1,(l[(lowL x l).length].2.2.1 - x.2.2.1,())))).length:=by rw[hlen]; exact hi
     refine join_g fun k2 hk2=>?_
     have kk:∀z:List ALot',k2 (z,())=some (z,(0,())):=by intro z; subst hk2; rfl
     clear hk2
     show stdW.idx (l.set (lowL x l).length (x.1,(x.2.1,(l[(lowL x l).length].2.2.1 - x.2.2.1,())))) (((lowL x l).length:Nat):Int) (fun _=>stdW.nth (l.set (lowL x l).length (x.1,(x.2.1,(l[(lowL x l).length].2.2.1 - x.2.2.1,())))) (lowL x l).length fun x12=>
      stdW.cnd (x12.2.2.1==0) (stdW.call (zmy (l.set (lowL x l).length (x.1,(x.2.1,(l[(lowL x l).length].2.2.1 - x.2.2.1,())))) (((lowL x l).length:Nat):Int) (IntKind.i64.wrap ((((lowL x l).length:Nat):Int)+1))) fun v13=>k2 v13)
       (k2 (l.set (lowL x l).length (x.1,(x.2.1,(l[(lowL x l).length].2.2.1 - x.2.2.1,()))),())))=_
     have hnth:=nth_w (β:=List ALot'×Int×Unit) hi2
     rw[Int.toNat_natCast]at hnth
     rw[idx_w hi2,hnth,List.getElem_set_self,i64_s _ (by omega)]
     by_cases h0:l[(lowL x l).length].2.2.1 - x.2.2.1=0
     ·rw[cnd_y (by simp[h0]),zaa (lotdel_eq hi2),kk]
      have e1:(l.set (lowL x l).length (x.1,(x.2.1,(l[(lowL x l).length].2.2.1 - x.2.2.1,())))).take (lowL x l).length=l.take (lowL x l).length:=by rw[List.take_set_of_le (Nat.le_refl _)]
      have e2:(l.set (lowL x l).length (x.1,(x.2.1,(l[(lowL x l).length].2.2.1 - x.2.2.1,())))).drop ((lowL x l).length+1)=l.drop ((lowL x l).length+1):=by rw[List.drop_set_of_lt (by omega)]
      rw[e1,e2,del_there hinv.2.1 hi hsm]
      unfold setL
      rw[if_pos h0]; rfl
     ·rw[cnd_n (by simp[h0]),kk,yby hinv.2.1 hi hsm _ h0]
   ·rw[ht,hg,if_pos hq]
    show stdW.cnd true (k (true,())) _=_
    rw[cnd_y (by rfl),kt]
  ·rw[if_neg h2,if_neg h2]
   show stdW.cnd true _ _=_
   rw[cnd_y (by rfl)]
 ·rw[if_neg h1,if_neg h1]
  show stdW.cnd true _ _=_
  rw[cnd_y (by rfl)]
end Go.Proofs.YtllkmncnmlmefaaGreat
namespace Go.Proofs.YtllkmncnmlmefaaGreat
open Go Go.Vc Go.RowKit
theorem ybt{l:List AHold'}{u:AUnit'}{now:List ALot'}{e:Int}(h:okHs l)(hn:now.length≤1000):ygr l u now e=some (if isH l=true then if e=0 then (setH l u now,0,()) else ([],e,()) else ([],3,())):=by
 show zez stdW l u now e=_
 unfold zez
 rw[zaa (r_his1 h)]
 by_cases hp:isH l=true
 ·rw[hp,cnd_n (by rfl),if_pos rfl]
  by_cases he:e=0
  ·rw[if_pos he,cnd_n (by simp[he]),zaa (r_hsetG h (of_decide_eq_true hp).2 hn)]
  ·rw[if_neg he,cnd_y (by simp[he])]
 ·have hp:isH l=false:=by simpa using hp
  rw[hp,cnd_y (by rfl),if_neg (by simp)]
theorem setL_len{l:List ALot'}(h:SrtL l)(x:ALot'):(setL l x).length≤l.length+1:=by
 have hc:=congrArg List.length (cutL x h)
 unfold setL
 rw[List.length_append,List.length_append]at hc
 rw[List.length_append,List.length_append]
 split<;>simp<;>omega
theorem setL_mem{l:List ALot'}{x p:ALot'}(h:p∈setL l x):p∈l∨p=x:=by
 unfold setL at h
 rcases List.mem_append.1 h with h|h
 ·exact .inl (List.mem_filter.1 h).1
 ·rcases List.mem_append.1 h with h|h
  ·split at h
   ·cases h
   ·exact .inr (by simpa using h)
  ·exact .inl (List.mem_filter.1 h).1
theorem ygv{l:List ALot'}(h:∀x∈l,I64 x.2.2.1)(a t:Int):I64 (getL l a t):=by
 induction l with
 |nil=>unfold getL I64; omega
 |cons x l ih=>
  rw[getL]
  split
  ·exact h x (by simp)
  ·exact ih fun y hy=>h y (by simp[hy])
theorem yik{l:List ALot'}(hi:LInv l)(hl:okT l){x:ALot'}(hx:I64 x.2.2.1):okT (setL l x):=
 ⟨by have:=setL_len hi.2.1 x; have:=hi.2.2; omega,fun p hp=>(setL_mem hp).elim (hl.2 p) fun e=>e▸hx⟩
theorem putL_ok{l:List ALot'}(hl:okT l){x:ALot'}:okT (putL l x).1:=by
 unfold putL
 by_cases h1:isL l=true
 ·rw[if_pos h1]
  split
  ·split
   ·rename_i hI
    split
    ·exact zph
    ·exact yik (zsc h1) hl hI
   ·exact zph
  ·exact zph
 ·rw[if_neg h1]; exact zph
theorem yid{l:List ALot'}(hl:okT l){x:ALot'}:okT (takeL l x).1:=by
 unfold takeL
 by_cases h1:isL l=true
 ·rw[if_pos h1]
  by_cases h2:rightL x
  ·rw[if_pos h2]
   by_cases h3:getL l x.1 x.2.1<x.2.2.1
   ·rw[if_pos h3]; exact zph
   ·rw[if_neg h3]
    refine yik (zsc h1) hl ?_
    have a1:=ygv hl.2 x.1 x.2.1
    have a3:=h2.2.2
    unfold I64 at*
    show _≤getL l x.1 x.2.1 - x.2.2.1∧getL l x.1 x.2.1 - x.2.2.1≤_
    omega
  ·rw[if_neg h2]; exact zph
 ·rw[if_neg h1]; exact zph
theorem okT_len{l:List ALot'}(h:okT l):l.length≤1000:=by have:=h.1; omega
theorem r_hTake{l:List AHold'}{u:AUnit'}{x:ALot'}(h:okHs l)(hx:I64 x.2.2.1):hold_Take l u x=some (takeH l u x):=by
 show zky stdW l u x=_
 unfold zky takeH
 have hl:=zgk h.1 u
 rw[zaa (zzq h),zaa (r_lTake hl hx),zaa (ybt h (okT_len (yid hl)))]
theorem r_hPut{l:List AHold'}{u:AUnit'}{x:ALot'}(h:okHs l)(hx:I64 x.2.2.1):ykl l u x=some (putH l u x):=by
 show zna stdW l u x=_
 unfold zna putH
 have hl:=zgk h.1 u
 rw[zaa (zzq h),zaa (r_lPut hl hx),zaa (ybt h (okT_len (putL_ok hl)))]
theorem zel:okHs []:=⟨fun _ h=>(by cases h),by simp⟩
theorem zyv{l:List AHold'}(h:okHs l)(hl:l.length≤390000)(u:AUnit')(x:ALot'):okHs (takeH l u x).1∧(takeH l u x).1.length≤l.length+1:=by
 unfold takeH
 by_cases h1:isH l=true
 ·have hs:=(of_decide_eq_true h1:HInv l).2
  rw[if_pos h1]
  split
  ·exact⟨yjm h hl hs u (yid (zgk h.1 u)),zzd hs u _⟩
  ·exact⟨zel,by simp⟩
 ·rw[if_neg h1]; exact⟨zel,by simp⟩
theorem putH_ok{l:List AHold'}(h:okHs l)(hl:l.length≤390000)(u:AUnit')(x:ALot'):okHs (putH l u x).1∧(putH l u x).1.length≤l.length+1:=by
 unfold putH
 by_cases h1:isH l=true
 ·have hs:=(of_decide_eq_true h1:HInv l).2
  rw[if_pos h1]
  split
  ·exact⟨yjm h hl hs u (putL_ok (zgk h.1 u)),zzd hs u _⟩
  ·exact⟨zel,by simp⟩
 ·rw[if_neg h1]; exact⟨zel,by simp⟩
theorem yjh{l:List AHold'}(h:okHs l)(hl:l.length≤380000)(f t:AUnit')(x:ALot')(tag:Int):okHs (passH l f t x tag).1∧(passH l f t x tag).1.length≤l.length+2:=by
 unfold passH
 obtain⟨h1,h2⟩:=zyv h (by omega) f x
 split
 ·split
  ·exact⟨zel,by simp⟩
  ·split
   ·obtain⟨h3,h4⟩:=putH_ok h1 (by omega) t (x.1,(tag,(x.2.2.1,())))
    exact⟨h3,by omega⟩
   ·exact⟨zel,by simp⟩
 ·exact⟨zel,by simp⟩
theorem r_hPass{l:List AHold'}{f t:AUnit'}{x:ALot'}{tag:Int}(h:okHs l)(hl:l.length≤380000)(hx:I64 x.2.2.1):ydu l f t x tag=some (passH l f t x tag):=by
 show zkz stdW l f t x tag=_
 unfold zkz passH
 rw[zaa (r_his1 h)]
 by_cases hp:isH l=true
 ·rw[hp,cnd_n (by rfl),if_pos rfl,unitEq]
  by_cases hu:f=t
  ·rw[if_pos hu,cnd_y (by simp[hu])]
  ·rw[if_neg hu,cnd_n (by simp[hu]),zaa (r_hTake h hx)]
   by_cases he:(takeH l f x).2.1=0
   ·rw[if_pos he,cnd_n (by simp[he])]
    show stdW.call (ykl (takeH l f x).1 t (x.1,(tag,(x.2.2.1,())))) _=_
    rw[zaa (r_hPut (x:=(x.1,(tag,(x.2.2.1,())))) (zyv h (by omega) f x).1 hx)]
   ·rw[if_neg he,cnd_y (by simpa using he)]
 ·have hp:isH l=false:=by simpa using hp
  rw[hp,cnd_y (by rfl),if_neg (by simp)]
theorem r_get18{l:List ALot'}{a t:Int}(hl:l.length≤1000):ref18_Get l a t=some (getL l a t):=by
 show zhq stdW l a t=_
 unfold zhq
 refine zbo (l:=l) (by omega) (s0:=()) (fun _ _=>True) (fun l' _=>some (getL l' a t)) trivial ?_ ?_
 ·rintro _ again _
  rw[zaj]; rfl
 ·rintro i hi _ _ again ha
  rw[cnd_lt hi]
  show _=some (getL (l[i]::l.drop (i+1)) a t)
  rw[getL]
  refine join_g fun k hk=>?_
  have kt:k (true,())=some l[i].2.2.1:=by
   subst hk
   show stdW.cnd true (stdW.idx l (i:Int) _) _=_
   rw[cnd_y (by rfl),idx_w hi]
  have kf:k (false,())=some (getL (l.drop (i+1)) a t):=by
   subst hk
   show stdW.cnd false _ (again (IntKind.i64.wrap ((i:Int)+1),()))=_
   rw[cnd_n (by rfl),i64_s i (by omega)]
   exact ha _ trivial
  clear hk
  rw[idx_w hi]
  by_cases h1:l[i].1=a
  ·rw[cnd_y (by simp[h1]),idx_w hi]
   by_cases h2:l[i].2.1=t
   ·rw[if_pos ⟨h1,h2⟩,show (l[i].2.1==t)=true by simp[h2],kt]
   ·rw[if_neg (fun h=>h2 h.2),show (l[i].2.1==t)=false by simp[h2],kf]
  ·rw[cnd_n (by simp[h1]),if_neg (fun h=>h1 h.1),kf]
theorem r_set18{l:List ALot'}{x:ALot'}(hs:SrtL l)(hl:l.length≤1000):ycj l x=some (setL l x):=by
 show zew stdW l x=_
 unfold zew
 rw[←stGo_set hs,show (x.2.2.1==0)=decide (x.2.2.1=0) by rw[Bool.eq_iff_iff]; simp]
 refine zct (l:=l) (s0:=(decide (x.2.2.1=0),[])) (by omega) (fun i (z:Bool×List ALot')=>(z.1,((i:Int),(z.2,())))) (fun i z=>z.2.length≤2*i) (fun l' z=>some (stGo x l' z.1 z.2)) rfl (by simp) ?_ ?_
 ·rintro⟨d,out⟩ ho again
  show stdW.cnd (decide ((l.length:Int)<(l.length:Int))) _ _=_
  rw[zaj]
  simp only at ho
  refine join_g fun k hk=>?_
  have kk:∀o,k (o,())=some o:=by intro o; subst hk; rfl
  clear hk
  show stdW.cnd (!d) (stdW.room (out.length+1) 24 (k (out++[x],()))) (k (out,()))=some (stGo x [] d out)
  cases d with
  |true=>rw[cnd_n (by rfl),kk,stGo,if_pos rfl]
  |false=>rw[cnd_y (by rfl),room_w (by omega) (by omega),kk,stGo,if_neg (by decide)]
 ·rintro i hi ⟨d,out⟩ ho again ha
  simp only at ho
  show stdW.cnd (decide ((i:Int)<(l.length:Int))) _ _=_
  rw[cnd_lt hi]
  refine join_g fun k4 hk4=>?_
  have K4:∀(d':Bool) (out':List ALot'),out'.length≤2*(i+1)→k4 (d',(out',()))=some (stGo x (l.drop (i+1)) d' out'):=by
   intro d' out' ho'
   rw[←ha (d',out') ho']
   subst hk4
   show again (d',(IntKind.i64.wrap ((i:Int)+1),(out',())))=_
   rw[i64_s i (by omega)]
  clear hk4 ha
  refine join_g fun k11 hk11=>?_
  have K11:∀(d':Bool) (out':List ALot'),out'.length≤2*i+1→k11 (d',(out',()))=some (if sameL l[i] x then stGo x (l.drop (i+1)) d' out' else stGo x (l.drop (i+1)) d' (out'++[l[i]])):=by
   intro d' out' ho'
   subst hk11
   refine join_g fun k8 hk8=>?_
   have K8t:k8 (true,(out',()))=some (stGo x (l.drop (i+1)) d' (out'++[l[i]])):=by
    subst hk8
    show stdW.cnd true (stdW.idx l (i:Int) fun x7=>stdW.room (out'.length+1) 24 (k4 (d',(out'++[x7],())))) _=_
    rw[cnd_y (by rfl),idx_w hi,room_w (by omega) (by omega),K4 _ _ (by rw[List.length_append]; simp; omega)]
   have K8f:k8 (false,(out',()))=some (stGo x (l.drop (i+1)) d' out'):=by
    subst hk8
    show stdW.cnd false _ (k4 (d',(out',())))=_
    rw[cnd_n (by rfl),K4 _ _ (by omega)]
   clear hk8
   show stdW.idx l (i:Int) (fun x9=>stdW.cnd (x9.1 != x.1) (k8 (true,(out',()))) (stdW.idx l (i:Int) fun x10=>k8 (x10.2.1 != x.2.1,(out',()))))=_
   rw[idx_w hi]
   by_cases h1:l[i].1=x.1
   ·rw[cnd_n (by simp[h1]),idx_w hi]
    by_cases h2:l[i].2.1=x.2.1
    ·rw[if_pos (show sameL l[i] x from⟨h1,h2⟩),show (l[i].2.1 != x.2.1)=false by simp[h2],K8f]
    ·rw[if_neg (fun h:sameL l[i] x=>h2 h.2),show (l[i].2.1 != x.2.1)=true by simp[h2],K8t]
   ·rw[cnd_y (by simp[h1]),if_neg (fun h:sameL l[i] x=>h1 h.1),K8t]
  clear hk11 K4
  refine join_g fun k13 hk13=>?_
  have K13t:k13 (true,(out,()))=k11 (true,(out++[x],())):=by
   subst hk13
   show stdW.cnd true (stdW.room (out.length+1) 24 (k11 (true,(out++[x],())))) _=_
   rw[cnd_y (by rfl),room_w (by omega) (by omega)]
  have K13f:k13 (false,(out,()))=k11 (d,(out,())):=by
   subst hk13
   show stdW.cnd false _ (k11 (d,(out,())))=_
   rw[cnd_n (by rfl)]
  clear hk13
  show stdW.cnd (!d) (stdW.idx l (i:Int) fun x14=>stdW.call (zya x14 x) fun v15=>k13 ((!v15),(out,()))) (k13 (false,(out,())))=some (stGo x (l[i]::l.drop (i+1)) d out)
  rw[stGo]
  cases d with
  |true=>rw[cnd_n (by rfl),K13f,if_pos (.inl rfl),K11 _ _ (by omega)]
  |false=>
   rw[cnd_y (by rfl),idx_w hi,zaa (yiz _ _)]
   by_cases hlt:ltL l[i] x
   ·rw[decide_eq_true hlt,if_pos (.inr hlt)]
    show k13 (false,(out,()))=_
    rw[K13f,K11 _ _ (by omega)]
   ·rw[decide_eq_false hlt,if_neg (by simpa using hlt)]
    show k13 (true,(out,()))=_
    rw[K13t,K11 _ _ (by rw[List.length_append]; simp; omega)]
theorem r_take18{l:List ALot'}{x:ALot'}(hl:okT l)(hx:I64 x.2.2.1):ref18_Take l x=some (takeL l x):=by
 show zik stdW l x=_
 unfold zik takeL
 have h20:=hl.1
 rw[zaa (r_is18 (by omega))]
 by_cases h1:isL l=true
 ·rw[h1,cnd_n (by rfl),if_pos rfl,zaa (yfp x)]
  by_cases h2:rightL x
  ·have hinv:=zsc h1
   have g1:=ygv hl.2 x.1 x.2.1
   have g2:=h2.2.2
   rw[decide_eq_true h2,cnd_n (by rfl),if_pos h2,zaa (r_get18 (by omega))]
   by_cases h3:getL l x.1 x.2.1<x.2.2.1
   ·rw[cnd_y (decide_eq_true h3),if_pos h3]
   ·have ew:IntKind.i64.wrap (getL l x.1 x.2.1 - x.2.2.1)=getL l x.1 x.2.1 - x.2.2.1:=IntWalk.i64_in _ (by unfold I64 at g1 hx; omega)
    rw[cnd_n (decide_eq_false h3),if_neg h3,ew,zaa (r_set18 hinv.2.1 (by omega))]
  ·rw[decide_eq_false h2,cnd_y (by rfl),if_neg h2]
 ·have h1:isL l=false:=by simpa using h1
  rw[h1,cnd_y (by rfl),if_neg (by simp)]
theorem r_put18{l:List ALot'}{x:ALot'}(hl:okT l)(hx:I64 x.2.2.1):ref18_Put l x=some (putL l x):=by
 show zkj stdW l x=_
 unfold zkj putL
 have h20:=hl.1
 rw[zaa (r_is18 (by omega))]
 by_cases h1:isL l=true
 ·rw[h1,cnd_n (by rfl),if_pos rfl,zaa (yfp x)]
  by_cases h2:rightL x
  ·have hinv:=zsc h1
   have g1:=ygv hl.2 x.1 x.2.1
   have g2:=h2.2.2
   rw[decide_eq_true h2,cnd_n (by rfl),if_pos h2,zaa (r_get18 (by omega))]
   generalize hg:getL l x.1 x.2.1=g at g1
   have eg:=r_of g1
   have ex:=r_of hx
   have ea:=r_addB (zcp g1) (zcp hx)
   have ef:=r_fits (z:=g+x.2.2.1) (by unfold I64 at g1 hx; unfold sml; omega)
   refine both_of2 (c:=stdW.cnd (!decide (I64 (g+x.2.2.1))) (some ([],(7,()))) (stdW.join (fun (z8:Bool×Unit)=>stdW.cnd z8.1 (some ([],(25,()))) (stdW.call (zdm (big (g+x.2.2.1))) fun v9=>stdW.call (ycj l (x.1,(x.2.1,(v9,())))) fun v10=>some (v10,(0,())))) fun k11=>stdW.cnd (g==0) (k11 (((l.length:Int)==16),())) (k11 (false,())))) ?_ ?_ ?_
   ·rw[zaa eg]
    refine zbe ?_ ?_
    ·rw[zaa ex]
     refine zbe ?_ ?_<;>rw[zaa ea,zaa ef]
    ·rw[zaa ex,zaa ea,zaa ef]
   ·rw[zaa eg,zaa ex,zaa ea,zaa ef]
   ·by_cases hI:I64 (g+x.2.2.1)
    ·rw[decide_eq_true hI,cnd_n (by rfl),if_pos hI]
     refine join_g fun k hk=>?_
     have kt:k (true,())=some ([],(25,())):=by subst hk; rfl
     have kf:k (false,())=some (setL l (x.1,(x.2.1,(g+x.2.2.1,()))),(0,())):=by
      subst hk
      show stdW.cnd false _ (stdW.call (zdm (big (g+x.2.2.1))) _)=_
      rw[cnd_n (by rfl),zaa (r_int hI),zaa (r_set18 hinv.2.1 (by omega))]
     clear hk
     by_cases h0:g=0
     ·rw[cnd_y (by simp[h0])]
      by_cases h16:l.length=16
      ·rw[if_pos ⟨h0,h16⟩,show ((l.length:Int)==16)=true by simp[h16],kt]
      ·rw[if_neg (fun h=>h16 h.2),show ((l.length:Int)==16)=false by simp; omega,kf]
     ·rw[cnd_n (by simp[h0]),if_neg (fun h=>h0 h.1),kf]
    ·rw[decide_eq_false hI,cnd_y (by rfl),if_neg hI]
  ·rw[decide_eq_false h2,cnd_y (by rfl),if_neg h2]
 ·have h1:isL l=false:=by simpa using h1
  rw[h1,cnd_y (by rfl),if_neg (by simp)]
theorem r_take26{l:List AHold'}{u:AUnit'}{x:ALot'}(h:okHs l)(hx:I64 x.2.2.1):ref26_Take l u x=some (takeH l u x):=by
 show zii stdW l u x=_
 unfold zii takeH
 have hl:=zgk h.1 u
 rw[zaa (r_is26 h)]
 by_cases hp:isH l=true
 ·rw[hp,cnd_n (by rfl),if_pos rfl,zaa (ztp h.2),zaa (r_take18 hl hx)]
  by_cases he:(takeL (lotsH l u) x).2.1=0
  ·rw[if_pos he,cnd_n (by simp[he]),zaa (ycx (of_decide_eq_true hp).2 h.2)]
  ·rw[if_neg he,cnd_y (by simpa using he)]
 ·have hp:isH l=false:=by simpa using hp
  rw[hp,cnd_y (by rfl),if_neg (by simp)]
theorem r_put26{l:List AHold'}{u:AUnit'}{x:ALot'}(h:okHs l)(hx:I64 x.2.2.1):ych l u x=some (putH l u x):=by
 show zkh stdW l u x=_
 unfold zkh putH
 have hl:=zgk h.1 u
 rw[zaa (r_is26 h)]
 by_cases hp:isH l=true
 ·rw[hp,cnd_n (by rfl),if_pos rfl,zaa (ztp h.2),zaa (r_put18 hl hx)]
  by_cases he:(putL (lotsH l u) x).2.1=0
  ·rw[if_pos he,cnd_n (by simp[he]),zaa (ycx (of_decide_eq_true hp).2 h.2)]
  ·rw[if_neg he,cnd_y (by simpa using he)]
 ·have hp:isH l=false:=by simpa using hp
  rw[hp,cnd_y (by rfl),if_neg (by simp)]
theorem r_pass26{l:List AHold'}{f t:AUnit'}{x:ALot'}{tag:Int}(h:okHs l)(hl:l.length≤380000)(hx:I64 x.2.2.1):zxz l f t x tag=some (passH l f t x tag):=by
 show zca stdW l f t x tag=_
 unfold zca passH
 rw[zaa (r_is26 h)]
 by_cases hp:isH l=true
 ·rw[hp,cnd_n (by rfl),if_pos rfl,unitEq]
  by_cases hu:f=t
  ·rw[if_pos hu,cnd_y (by simp[hu])]
  ·rw[if_neg hu,cnd_n (by simp[hu]),zaa (r_take26 h hx)]
   by_cases he:(takeH l f x).2.1=0
   ·rw[if_pos he,cnd_n (by simp[he])]
    show stdW.call (ych (takeH l f x).1 t (x.1,(tag,(x.2.2.1,())))) _=_
    rw[zaa (r_put26 (x:=(x.1,(tag,(x.2.2.1,())))) (zyv h (by omega) f x).1 hx)]
   ·rw[if_neg he,cnd_y (by simpa using he)]
 ·have hp:isH l=false:=by simpa using hp
  rw[hp,cnd_y (by rfl),if_neg (by simp)]
end Go.Proofs.YtllkmncnmlmefaaGreat
namespace Go.Proofs.YtllkmncnmlmefaaGreat
open Go Go.Vc Go.RowKit
set_option synthInstance.maxSize 100000
set_option synthInstance.maxHeartbeats 0
def zS:zad:=(0,([],([],([],([],([],([],([],([],([],([],([],()))))))))))))
def resS(s:zad)(r:PH):zad×Int×Unit:=if r.2.2=0 then (updS s r.1 r.2.1,(0,())) else (zS,(r.2.2,()))
theorem yhy(s:zad):updS s (pu s) (ho s)=s:=rfl
theorem pay_okF{l f:List AFlow'}(h:(payP l f).2.1=0):okF (payP l f).1:=by
 obtain⟨_,h2,h3⟩:=payP_ok h
 rw[h2]; exact resP_ok h3
theorem yjo{p:List AFlow'}{f t:AUnit'}{n:Int}(h:(moveP p f t n).2.1=0):I64 (-n)∧moveP p f t n=payP p [(f,(-n,())),(t,(n,()))]:=by
 unfold moveP at h ⊢
 by_cases hI:I64 (-n)
 ·rw[if_pos hI]; exact⟨hI,rfl⟩
 ·rw[if_neg hI]at h
  split at h<;>simp at h
theorem ztu{p:List AFlow'}{f t:AUnit'}{n:Int}(h:(moveP p f t n).2.1=0):okF (moveP p f t n).1∧(moveP p f t n).1.length≤p.length+2:=by
 obtain⟨_,e⟩:=yjo h
 rw[e]at h ⊢
 exact⟨pay_okF h,payP_len _ _⟩
theorem zrq:zqs=some tU:=rfl
theorem r_fund:fall_Fund=some fU:=rfl
theorem min_if(n q:Int):(if q<n then q else n)=min n q:=by split<;>omega
theorem r_sold{s:zad}{p:List AFlow'}{h:List AHold'}{u:AUnit'}{x:ALot'}{m:Int}(ha:∀a∈asS s,okA1 a)(hl1:(asS s).length≤1000)(hh:okHs h)(hhl:h.length≤380000)(hf:okF p)(hl:p.length≤800000)
  (hx:0<qtyOf x∧I64 (qtyOf x)) (hm:0<m) (hI:I64 m):yea (updS s p h) u x m=some (resS s (soldP (asS s) u x m p h)):=by
 show zld stdW (updS s p h) u x m=_
 unfold zld soldP
 show stdW.call (zyl (asS s) x.1) _=_
 rw[zaa (yjc hl1)]
 by_cases hfd:(findA (asS s) x.1).2.1=true
 ·rw[cnd_n (by rw[hfd]; rfl),if_pos hfd]
  have hok:=ztz ha hfd
  generalize (findA (asS s) x.1).1=a at hok
  by_cases hp0:zac a=0
  ·rw[if_pos hp0,cnd_y (by show (zac a==0)=true; simp[hp0])]; rfl
  ·have hpp:0<zac a:=by have:=hok.2.1.1; unfold zac at hp0 ⊢; omega
   rw[if_neg hp0,cnd_n (by show (zac a==0)=false; simp[hp0]),zaa (r_asSell hok hpp hm hI)]
   have hb:=up_bd hm hpp
   have hq:0<min (upZ m (zac a)) (qtyOf x)∧I64 (min (upZ m (zac a)) (qtyOf x)):=by
    have:=hx.2; unfold I64 at *; omega
   show stdW.cnd false _ (stdW.call (zpp a (if qtyOf x<upZ m (zac a) then qtyOf x else upZ m (zac a))) _)=_
   rw[cnd_n (by rfl),min_if]
   generalize hqe:min (upZ m (zac a)) (qtyOf x)=q at hq
   rw[zaa (ydd hok hq.2)]
   refine join_g fun k hk=>?_
   have kerr:∀e st,e≠0→k (e,st)=some (zS,(e,())):=by
    intro e st he
    subst hk
    refine join_g fun k6 hk6=>?_
    have k6':k6 (e,st)=some (zS,(e,())):=by
     subst hk6
     show stdW.cnd (e != 0) _ _=_
     rw[cnd_y (by simpa using he)]; rfl
    clear hk6
    show stdW.cnd (e==0) _ (k6 (e,st))=_
    rw[cnd_n (by simpa using he),k6']
   by_cases hw:I64 (q*zac a)
   ·rw[zby hw,if_pos hw]
    have hpass:=r_hPass (l:=h) (f:=u) (t:=tU) (x:=(x.1,(x.2.1,(q,())))) (tag:=0) hh hhl hq.2
    generalize hP:passH h u tU (x.1,(x.2.1,(q,()))) 0=P at hpass
    obtain⟨h',e1,⟨⟩⟩:=P
    have main:k (e1,updS s p h')=some (resS s (if e1=0 then (if (moveP p tU u (q*zac a)).2.1=0 then ((moveP p tU u (q*zac a)).1,h',0) else ([],[],(moveP p tU u (q*zac a)).2.1)) else ([],[],e1))):=by
     by_cases he1:e1=0
     ·rw[if_pos he1]
      subst hk
      refine join_g fun k6 hk6=>?_
      have hmv:=r_move (l:=p) (f:=tU) (t:=u) hf hw (by omega)
      generalize hM:moveP p tU u (q*zac a)=M at hmv
      obtain⟨p',e2,⟨⟩⟩:=M
      have k6':k6 (e2,updS s p' h')=some (resS s (if e2=0 then (p',h',0) else ([],[],e2))):=by
       subst hk6
       show stdW.cnd (e2 != 0) (some (zS,(e2,()))) (some (updS s p' h',(0,())))=_
       unfold resS
       by_cases he2:e2=0
       ·rw[cnd_n (by simp[he2]),if_pos he2]; rfl
       ·rw[cnd_y (by simpa using he2),if_neg he2]
        show _=some (if e2=0 then _ else _)
        rw[if_neg he2]
      clear hk6
      show stdW.cnd (e1==0) _ _=_
      rw[cnd_y (by simp[he1])]
      refine zbe ?_ ?_<;>
      ·rw[zaa zrq]
       show stdW.call (zob p tU u (fits64 (q*zac a)).1) _=_
       rw[zby hw]
       show stdW.call (zob p tU u (q*zac a)) _=_
       rw[zaa hmv]
       exact k6'
     ·rw[if_neg he1,kerr _ _ he1]
      unfold resS
      rw[if_neg he1]
    clear hk
    show stdW.cnd true _ _=_
    rw[cnd_y (by rfl)]
    refine zbe ?_ ?_<;>
    ·rw[zaa zrq]
     show stdW.call (ydu h u tU (x.1,(x.2.1,((if qtyOf x<upZ m (zac a) then qtyOf x else upZ m (zac a)),()))) 0) _=_
     rw[min_if,hqe,zaa hpass]
     exact main
   ·rw[zfb hw,if_neg hw]
    clear hk
    show stdW.cnd false _ (k (7,updS s p h))=_
    rw[cnd_n (by rfl),kerr _ _ (by decide)]; rfl
 ·have hfd:(findA (asS s) x.1).2.1=false:=by simpa using hfd
  rw[cnd_y (by rw[hfd]; rfl),if_neg (by rw[hfd]; simp)]; rfl
theorem yer{as:List zaf}{u:AUnit'}{x:ALot'}{m:Int}{p:List AFlow'}{h:List AHold'}(hh:okHs h)(hhl:h.length≤380000)(hf:okF p)(he:(soldP as u x m p h).2.2=0):
  okF (soldP as u x m p h).1∧(soldP as u x m p h).1.length≤p.length+2∧okHs (soldP as u x m p h).2.1∧(soldP as u x m p h).2.1.length≤h.length+2:=by
 unfold soldP at he ⊢
 split
 ·split
  ·exact⟨hf,by simp,hh,by simp⟩
  ·split
   ·split
    ·split
     ·rename_i hm
      obtain⟨a1,a2⟩:=ztu hm
      obtain⟨a3,a4⟩:=yjh hh hhl u tU (x.1,(x.2.1,(min (upZ m (zac (findA as x.1).1)) (qtyOf x),()))) 0
      exact⟨a1,a2,a3,a4⟩
     ·exact⟨fun _ h=>(by cases h),by simp,zel,by simp⟩
    ·exact⟨fun _ h=>(by cases h),by simp,zel,by simp⟩
   ·exact⟨fun _ h=>(by cases h),by simp,zel,by simp⟩
 ·exact⟨fun _ h=>(by cases h),by simp,zel,by simp⟩
theorem zup(as:List zaf)(u:AUnit')(cash:Int):∀(l:List ALot') (p:List AFlow') (h:List AHold'),okHs h→h.length+2*l.length≤380000→okF p→(sellGo as u cash l p h).2.2=0→
  okF (sellGo as u cash l p h).1∧(sellGo as u cash l p h).1.length≤p.length+2*l.length∧okHs (sellGo as u cash l p h).2.1∧(sellGo as u cash l p h).2.1.length≤h.length+2*l.length
 |[],p,h,hh,_,hf,_=>⟨hf,by simp[sellGo],hh,by simp[sellGo]⟩
 |x::l,p,h,hh,hl,hf,he=>by
  rw[List.length_cons]at hl
  rw[sellGo]at he ⊢
  split
  ·rename_i hI
   rw[if_pos hI]at he
   split
   ·rename_i h0
    rw[if_pos h0]at he
    by_cases hs:(soldP as u x (cash - getP p u) p h).2.2=0
    ·rw[if_pos hs]at he ⊢
     obtain⟨a1,a2,a3,a4⟩:=yer hh (by omega) hf hs
     obtain⟨b1,b2,b3,b4⟩:=zup as u cash l _ _ a3 (by omega) a1 he
     exact⟨b1,by rw[List.length_cons]; omega,b3,by rw[List.length_cons]; omega⟩
    ·rw[if_neg hs]at he; exact absurd he hs
   ·rename_i h0
    rw[if_neg h0]at he
    obtain⟨b1,b2,b3,b4⟩:=zup as u cash l _ _ hh (by omega) hf he
    exact⟨b1,by rw[List.length_cons]; omega,b3,by rw[List.length_cons]; omega⟩
  ·rename_i hI
   rw[if_neg hI]at he; simp at he
theorem znb{h:List AHold'}(hp:isH h=true)(u:AUnit'):LInv (lotsH h u):=by
 have hi:=(of_decide_eq_true hp:HInv h).1
 clear hp
 induction h with
 |nil=>exact⟨fun x hx=>(by cases hx),List.Pairwise.nil,by simp[lotsH]⟩
 |cons y l ih=>
  rw[lotsH]
  split
  ·exact(hi y (by simp)).2
  ·exact ih fun z hz=>hi z (by simp[hz])
theorem zri{as:List zaf}{p:List AFlow'}{h:List AHold'}{u:AUnit'}{cash:Int}(hh:okHs h)(hl:h.length≤370000)(hf:okF p)(he:(sellP as p h u cash).2.2=0):
  okF (sellP as p h u cash).1∧(sellP as p h u cash).1.length≤p.length+32∧okHs (sellP as p h u cash).2.1∧(sellP as p h u cash).2.1.length≤h.length+32:=by
 unfold sellP at he ⊢
 by_cases h1:isP p=true∧isH h=true
 ·rw[if_pos h1]at he ⊢
  by_cases h2:u=tU
  ·rw[if_pos h2]at he; simp at he
  ·rw[if_neg h2]at he ⊢
   have h16:=(znb h1.2 u).2.2
   obtain⟨a1,a2,a3,a4⟩:=zup as u cash (lotsH h u) p h hh (by omega) hf he
   exact⟨a1,by omega,a3,by omega⟩
 ·rw[if_neg h1]at he; simp at he
def carr(st:zad)(L:List ALot'):Int×List zbh×List AInst'×List ALot'×List zab×List zbi×List zbx×List AGive'×List APos'×List APos'×List AFlow'×List AHold'×List ALot'×Unit:=(st.1,(st.2.1,(st.2.2.1,(st.2.2.2.1,(st.2.2.2.2.1,(st.2.2.2.2.2.1,(st.2.2.2.2.2.2.1,(st.2.2.2.2.2.2.2.1,(st.2.2.2.2.2.2.2.2.1,(st.2.2.2.2.2.2.2.2.2.1,(st.2.2.2.2.2.2.2.2.2.2.1,(st.2.2.2.2.2.2.2.2.2.2.2.1,(L,())))))))))))))
theorem r_sell{s:zad}{p:List AFlow'}{h:List AHold'}{u:AUnit'}{cash:Int}(ha:∀a∈asS s,okA1 a)(hl1:(asS s).length≤1000)(hh:okHs h)(hhl:h.length≤370000)(hf:okF p)(hl:p.length≤700000)(hc:I64 cash):
  yec (updS s p h) u cash=some (resS s (sellP (asS s) p h u cash)):=by
 show zhv stdW (updS s p h) u cash=_
 unfold zhv sellP
 refine join_g fun k hk=>?_
 have kt:k (true,())=some (zS,(3,())):=by subst hk; rfl
 have kf:isH h=true→k (false,())=some (resS s (if u=tU then ([],[],2) else sellGo (asS s) u cash (lotsH h u) p h)):=by
  intro hp
  subst hk
  show stdW.cnd false _ (stdW.call zqs _)=_
  rw[cnd_n (by rfl),zaa zrq,unitEq]
  by_cases hu:u=tU
  ·rw[cnd_y (by simp[hu]),if_pos hu]; rfl
  ·rw[cnd_n (by simp[hu]),if_neg hu]
   show stdW.call (zvw h u) _=_
   rw[zaa (zzq hh)]
   have hinv:=znb hp u
   have hok:=zgk hh.1 u
   generalize hL:lotsH h u=L at hinv hok
   have h16:=hinv.2.2
   refine zct (l:=L) (s0:=(p,h)) (by omega) (fun i (z:List AFlow'×List AHold')=>((i:Int),carr (updS s z.1 z.2) L))
    (fun i z=>okHs z.2∧z.2.length+2*(L.length - i)≤370032∧okF z.1∧z.1.length+2*(L.length - i)≤700032) (fun l' z=>some (resS s (sellGo (asS s) u cash l' z.1 z.2))) rfl ⟨hh,by show h.length+2*(L.length - 0)≤370032; omega,hf,by show p.length+2*(L.length - 0)≤700032; omega⟩ ?_ ?_
   ·rintro⟨p1,h1⟩ _ again
    show stdW.cnd (decide ((L.length:Int)<(L.length:Int))) _ _=_
    rw[zaj]; rfl
   ·rintro i hi ⟨p1,h1⟩ ⟨i1,i2,i3,i4⟩ again hag
    simp only at i1 i2 i3 i4
    show stdW.cnd (decide ((i:Int)<(L.length:Int))) (stdW.idx L (i:Int) fun x6=>stdW.nth L (Int.toNat (i:Int)) fun x7=>stdW.call (zmu p1 u) _) _=some (resS s (sellGo (asS s) u cash (L[i]::L.drop (i+1)) p1 h1))
    rw[cnd_lt hi,idx_w hi,nth_w hi,zaa (r_get (by omega)),sellGo]
    have hg:=zjv i3 u
    rw[zaa (r_fSub hc hg)]
    have hqx:0<qtyOf L[i]∧I64 (qtyOf L[i]):=⟨(hinv.1 _ (List.getElem_mem hi)).2.2,hok.2 _ (List.getElem_mem hi)⟩
    generalize getP p1 u=g at hg
    refine join_g fun k11 hk11=>?_
    have Kerr:∀(e:Int) (st:zad),e≠0→k11 (e,carr st L)=some (zS,(e,())):=by
     intro e st he
     subst hk11
     show stdW.cnd (e != 0) (some (zS,(e,()))) _=_
     rw[cnd_y (by simpa using he)]
    have K11:∀(r:PH),(r.2.2=0→okHs r.2.1∧r.2.1.length≤h1.length+2∧okF r.1∧r.1.length≤p1.length+2)→∀st:zad,st=(resS s r).1→
      k11 ((resS s r).2.1,carr st L)=some (resS s (if r.2.2=0 then sellGo (asS s) u cash (L.drop (i+1)) r.1 r.2.1 else ([],[],r.2.2))):=by
     rintro⟨p2,h2,e⟩ hr st rfl
     simp only at hr
     by_cases he:e=0
     ·subst hk11
      obtain⟨r1,r2,r3,r4⟩:=hr he
      have er:resS s (p2,(h2,e))=(updS s p2 h2,(0,())):=if_pos he
      rw[er,if_pos he]
      show stdW.cnd false _ (again (IntKind.i64.wrap ((i:Int)+1),_))=_
      rw[cnd_n (by rfl),i64_s i (by omega)]
      exact hag (p2,h2) ⟨r1,by show h2.length+_≤_; omega,r3,by show p2.length+_≤_; omega⟩
     ·have er:resS s (p2,(h2,e))=(zS,(e,())):=if_neg he
      rw[er,if_neg he]
      exact(Kerr e zS he).trans (congrArg some (if_neg he:resS s ([],([],e))=_).symm)
    clear hk11 hag
    by_cases hI:I64 (cash - g)
    ·rw[zby hI,if_pos hI]
     refine join_g fun k14 hk14=>?_
     have k14t:0<cash - g→k14 (true,(L,()))=some (resS s (if (soldP (asS s) u L[i] (cash - g) p1 h1).2.2=0 then sellGo (asS s) u cash (L.drop (i+1)) (soldP (asS s) u L[i] (cash - g) p1 h1).1 (soldP (asS s) u L[i] (cash - g) p1 h1).2.1 else ([],[],(soldP (asS s) u L[i] (cash - g) p1 h1).2.2))):=by
      intro hpos
      subst hk14
      have hsold:=r_sold (s:=s) (p:=p1) (h:=h1) (u:=u) (x:=L[i]) (m:=cash - g) ha hl1 i1 (by omega) i3 (by omega) hqx hpos hI
      show stdW.cnd true (stdW.call (yea (updS s p1 h1) u L[i] (cash - g)) _) _=_
      rw[cnd_y (by rfl),zaa hsold]
      exact K11 _ (fun he=>by
       obtain⟨a1,a2,a3,a4⟩:=yer i1 (by omega) i3 he
       exact⟨a3,a4,a1,a2⟩) _ rfl
     have k14f:k14 (false,(L,()))=some (resS s (sellGo (asS s) u cash (L.drop (i+1)) p1 h1)):=by
      subst hk14
      have:=K11 (p1,(h1,0)) (fun _=>⟨i1,by simp,i3,by simp⟩) (updS s p1 h1) rfl
      show stdW.cnd false _ _=_
      rw[cnd_n (by rfl)]
      exact this
     clear hk14 K11
     show stdW.cnd true (k14 (decide (0<cash - g),(L,()))) _=_
     rw[cnd_y (by rfl)]
     by_cases hpos:0<cash - g
     ·rw[decide_eq_true hpos,if_pos hpos]; exact k14t hpos
     ·rw[decide_eq_false hpos,if_neg hpos]; exact k14f
    ·rw[zfb hI,if_neg hI]
     refine join_g fun k14 hk14=>?_
     have k14f:k14 (false,(L,()))=some (resS s ([],[],7)):=by
      subst hk14
      show stdW.cnd false _ (k11 (7,_))=_
      rw[cnd_n (by rfl)]
      exact Kerr 7 (updS s p1 h1) (by decide)
     clear hk14
     show stdW.cnd false _ (k14 (false,(L,())))=_
     rw[cnd_n (by rfl)]
     exact k14f
 clear hk
 show stdW.call (yje p) _=_
 rw[zaa (r_is (by omega))]
 by_cases hp:isP p=true
 ·rw[hp,cnd_n (by rfl)]
  show stdW.call (hold_Is h) _=_
  rw[zaa (r_his1 hh)]
  by_cases hq:isH h=true
  ·rw[hq,if_pos ⟨rfl,rfl⟩]; exact kf hq
  ·have hq:isH h=false:=by simpa using hq
   rw[hq,if_neg (by simp)]; exact kt
 ·have hp:isP p=false:=by simpa using hp
  rw[hp,cnd_y (by rfl),if_neg (by simp),kt]; rfl
end Go.Proofs.YtllkmncnmlmefaaGreat

namespace Go.Proofs.YtllkmncnmlmefaaGreat
open Go Go.Vc Go.RowKit
set_option synthInstance.maxSize 100000
set_option synthInstance.maxHeartbeats 0
def resD(s:zad)(r:PHD):zad×List zbf×Int×Unit:=if r.2.2.2=0 then (updS s r.1 r.2.1,(r.2.2.1,(0,()))) else (zS,([],(r.2.2.2,())))
theorem r_pays{s:zad}{p:List AFlow'}{h:List AHold'}{b t:AUnit'}{n:Int}(ha:∀a∈asS s,okA1 a)(hl1:(asS s).length≤1000)(hh:okHs h)(hhl:h.length≤370000)(hf:okF p)(hl:p.length≤700000)(hc:I64 n):
  zwk (updS s p h) b t n=some (resD s (paysP (asS s) p h b t n)):=by
 show zhu stdW (updS s p h) b t n=_
 unfold zhu paysP
 by_cases h0:n=0
 ·rw[cnd_y (by simp[h0]),if_pos h0]; rfl
 ·rw[cnd_n (by simp[h0]),if_neg h0,zaa (r_sell ha hl1 hh hhl hf hl hc)]
  have hok:=fun he=>zri (as:=asS s) (u:=b) (cash:=n) hh hhl hf he
  generalize sellP (asS s) p h b n=r at hok
  obtain⟨p1,h1,e⟩:=r
  simp only at hok
  refine join_g fun k hk=>?_
  have kerr:∀e st,e≠0→k (e,st)=some (zS,([],(e,()))):=by
   intro e st he
   subst hk
   show stdW.cnd (e != 0) _ _=_
   rw[cnd_y (by simpa using he)]; rfl
  have kok:∀st,k (0,st)=some (st,([(b,(t,(n,())))],(0,()))):=by
   intro st
   subst hk
   show stdW.cnd false _ (stdW.both _ _)=_
   rw[cnd_n (by rfl)]
   exact zbe rfl rfl
  clear hk
  by_cases he:e=0
  ·have er:resS s (p1,(h1,e))=(updS s p1 h1,(0,())):=if_pos he
   obtain⟨a1,a2,a3,a4⟩:=hok he
   rw[er,if_pos he]
   have hmv:=r_move (l:=p1) (f:=b) (t:=t) a1 hc (by omega)
   show stdW.cnd true (stdW.call (zob p1 b t n) _) _=_
   rw[cnd_y (by rfl),zaa hmv]
   generalize moveP p1 b t n=M
   obtain⟨p2,e2,⟨⟩⟩:=M
   show k (e2,updS s p2 h1)=some (resD s (if e2=0 then (p2,h1,[(b,(t,(n,())))],0) else ([],[],[],e2)))
   by_cases he2:e2=0
   ·subst he2
    rw[kok,if_pos rfl]; rfl
   ·rw[kerr _ _ he2,if_neg he2]
    exact congrArg some (if_neg he2:resD s ([],[],[],e2)=_).symm
  ·have er:resS s (p1,(h1,e))=(zS,(e,())):=if_neg he
   rw[er,if_neg he]
   show stdW.cnd (e==0) _ (k (e,zS))=_
   rw[cnd_n (by simpa using he),kerr _ _ he]
   exact congrArg some (if_neg he:resD s ([],[],[],e)=_).symm
theorem r_or2(a b:Int):yhi (a::(b::[]))=some (if a=0 then b else a):=by
 show zom stdW (a::(b::[]))=_
 unfold zom
 by_cases ha:a=0
 ·rw[if_pos ha]
  refine zds (N:=if b=0 then 2 else 1) (by split<;>decide) (fun i=>(((i:Nat):Int),())) _ rfl ?_ ?_
  ·intro again
   by_cases hb:b=0
   ·rw[if_pos hb,hb]; rfl
   ·rw[if_neg hb]
    show stdW.cnd true (stdW.cnd (b != 0) (some b) _) _=_
    rw[cnd_y (by rfl),cnd_y (by simpa using hb)]
  ·intro i hi again hag
   have:i=0∨(i=1∧b=0):=by split at hi<;>omega
   rcases this with rfl|⟨rfl,hb⟩
   ·show stdW.cnd true (stdW.cnd (a != 0) (some a) _) _=_
    rw[cnd_y (by rfl),cnd_n (by simp[ha])]
    exact hag
   ·show stdW.cnd true (stdW.cnd (b != 0) (some b) _) _=_
    rw[cnd_y (by rfl),cnd_n (by simp[hb])]
    exact hag
 ·rw[if_neg ha]
  refine loop_one _ _ _ fun again=>?_
  show stdW.cnd true (stdW.cnd (a != 0) (some a) _) _=_
  rw[cnd_y (by rfl),cnd_y (by simpa using ha)]
theorem zhi{p:List AFlow'}(hf:okF p)(u:AUnit'):I64 (owesP p u).1∧0≤(owesP p u).1:=by
 have hg:=zjv hf u
 unfold owesP
 split
 ·exact⟨by unfold I64; omega,Int.le_refl _⟩
 ·split
  ·unfold I64 at *; exact⟨by show _ ≤ - getP p u ∧ - getP p u≤_; omega,by show 0 ≤ - getP p u; omega⟩
  ·exact⟨by unfold I64; omega,Int.le_refl _⟩
theorem yex(as:List zaf)(p:List AFlow')(h:List AHold')(u:AUnit'):I64 (roomP as p h u).1∧0≤(roomP as p h u).1:=by
 unfold roomP
 split
 ·split
  ·rename_i hI
   unfold I64 at*
   exact⟨by show _≤max 0 _∧max 0 _≤_; omega,by show 0≤max 0 _; omega⟩
  ·exact⟨by unfold I64; omega,Int.le_refl _⟩
 ·exact⟨by unfold I64; omega,Int.le_refl _⟩
theorem r_fPay{s:zad}{p:List AFlow'}{h:List AHold'}{b t:AUnit'}(ha:∀a∈asS s,okA1 a)(hl1:(asS s).length≤1000)(hh:okHs h)(hhl:h.length≤370000)(hf:okF p)(hl:p.length≤700000):
  ykn (updS s p h) b t=some (resD s (payF (asS s) p h b t)):=by
 show znj stdW (updS s p h) b t=_
 unfold znj payF
 rw[zaa (r_owes (s:=updS s p h) hf (by show p.length≤_; omega)),zaa (r_room (s:=updS s p h) ha hl1 hh hf (by show p.length≤_; omega))]
 show stdW.join _ _=_
 have ho:=zhi hf t
 have hr:=yex (asS s) p h b
 have e1:owesP (pu (updS s p h)) t=owesP p t:=rfl
 have e2:roomP (asS (updS s p h)) (pu (updS s p h)) (Go.Proofs.YtllkmncnmlmefaaGreat.ho (updS s p h)) b=roomP (asS s) p h b:=rfl
 rw[e1,e2]
 clear e1 e2
 generalize owesP p t=o at*
 generalize roomP (asS s) p h b=r at*
 obtain⟨n,e,⟨⟩⟩:=o
 obtain⟨m,f,⟨⟩⟩:=r
 simp only at ho hr
 refine join_g fun k hk=>?_
 have kt:k (true,())=some (zS,([],((if e=0 then f else e),()))):=by
  subst hk
  show stdW.cnd true (stdW.call (yhi (e::(f::[]))) _) _=_
  rw[cnd_y (by rfl),zaa (r_or2 e f)]; rfl
 have kf:k (false,())=some (resD s (if b=t then (p,h,[],0) else paysP (asS s) p h b t (min n m))):=by
  subst hk
  show stdW.cnd false _ (stdW.cnd (notIf false ((b.1==t.1)&&(b.2.1==t.2.1))) (some (updS s p h,([],(0,())))) (stdW.call (zwk (updS s p h) b t (if m<n then m else n)) _))=_
  rw[cnd_n (by rfl),unitEq,min_if]
  by_cases hu:b=t
  ·rw[cnd_y (by simp[hu]),if_pos hu]; rfl
  ·rw[cnd_n (by simp[hu]),if_neg hu,zaa (r_pays ha hl1 hh hhl hf hl (by unfold I64 at *; omega))]
 clear hk
 show stdW.cnd (e != 0) (k (true,())) (k (f != 0,()))=some (resD s (if e=0 then (if f=0 then (if b=t then (p,h,[],0) else paysP (asS s) p h b t (min n m)) else ([],[],[],f)) else ([],[],[],e)))
 by_cases he:e=0
 ·rw[cnd_n (by simp[he]),if_pos he]
  rw[if_pos he]at kt
  by_cases hf0:f=0
  ·rw[if_pos hf0,show (f != 0)=false by simp[hf0],kf]
  ·rw[if_neg hf0,show (f != 0)=true by simpa using hf0,kt]
   exact congrArg some (if_neg hf0:resD s ([],[],[],f)=_).symm
 ·rw[cnd_y (by simpa using he),if_neg he]
  rw[if_neg he]at kt
  rw[kt]
  exact congrArg some (if_neg he:resD s ([],[],[],e)=_).symm
theorem r_fOwn{s:zad}{p:List AFlow'}{h:List AHold'}{u:AUnit'}(ha:∀a∈asS s,okA1 a)(hl1:(asS s).length≤1000)(hh:okHs h)(hhl:h.length≤370000)(hf:okF p)(hl:p.length≤700000):
  yko (updS s p h) u=some (resD s (ownF (asS s) p h u)):=by
 show znk stdW (updS s p h) u=_
 unfold znk ownF
 rw[zaa (r_owes (s:=updS s p h) hf (by show p.length≤_; omega))]
 have ho:=zhi hf u
 have e1:owesP (pu (updS s p h)) u=owesP p u:=rfl
 rw[e1]
 clear e1
 generalize owesP p u=o at*
 obtain⟨n,e,⟨⟩⟩:=o
 simp only at ho
 show stdW.cnd (e != 0) (some (zS,([],(e,())))) (stdW.call (yec (updS s p h) u 0) _)=some (resD s (if e=0 then _ else ([],[],[],e)))
 by_cases he:e=0
 ·rw[cnd_n (by simp[he]),if_pos he,zaa (r_sell ha hl1 hh hhl hf hl (by unfold I64; omega))]
  have hok:=fun he=>zri (as:=asS s) (u:=u) (cash:=0) hh hhl hf he
  generalize sellP (asS s) p h u 0=r at hok
  obtain⟨p1,h1,e2⟩:=r
  simp only at hok
  by_cases he2:e2=0
  ·have er:resS s (p1,(h1,e2))=(updS s p1 h1,(0,())):=if_pos he2
   obtain⟨a1,a2,a3,a4⟩:=hok he2
   rw[er,if_pos he2]
   show stdW.cnd false _ (stdW.call (zwo (updS s p1 h1) u) _)=_
   rw[cnd_n (by rfl),zaa (r_owes (s:=updS s p1 h1) a1 (by show p1.length≤_; omega))]
   have ho2:=zhi a1 u
   have e3:owesP (pu (updS s p1 h1)) u=owesP p1 u:=rfl
   rw[e3]
   generalize owesP p1 u=o2 at*
   obtain⟨n2,f2,⟨⟩⟩:=o2
   simp only at ho2
   show stdW.cnd (n==n2) (some (updS s p1 h1,([],(0,())))) (stdW.both (some (updS s p1 h1,([(u,(u,(IntKind.i64.wrap (n - n2),())))],(0,())))) (some (updS s p1 h1,([(u,(u,(IntKind.i64.wrap (n - n2),())))],(0,())))))=some (resD s (if n=n2 then (p1,h1,[],0) else (p1,h1,[(u,(u,(n - n2,())))],0)))
   by_cases hn:n=n2
   ·rw[cnd_y (by simp[hn]),if_pos hn]; rfl
   ·have ew:IntKind.i64.wrap (n - n2)=n - n2:=IntWalk.i64_in _ (by unfold I64 at *; omega)
    rw[cnd_n (by simpa using hn),if_neg hn,ew]
    exact zbe rfl rfl
  ·have er:resS s (p1,(h1,e2))=(zS,(e2,())):=if_neg he2
   rw[er,if_neg he2]
   show stdW.cnd (e2 != 0) (some (zS,([],(e2,())))) _=_
   rw[cnd_y (by simpa using he2)]
   exact congrArg some (if_neg he2:resD s ([],[],[],e2)=_).symm
 ·rw[cnd_y (by simpa using he),if_neg he]
  exact congrArg some (if_neg he:resD s ([],[],[],e)=_).symm
theorem znz{s:zad}{u:AUnit'}(hf:okF (pu s))(hl:(pu s).length≤1000000):zke s u=some (owesP (pu s) u):=by
 show zdc stdW s u=_
 unfold zdc owesP
 show stdW.call (zkm (pu s) u) _=_
 rw[zaa (yfr hl)]
 have hg:=zjv hf u
 generalize getP (pu s) u=c at*
 by_cases hm:c = -9223372036854775808
 ·rw[cnd_y (by simp[hm]),if_pos hm]
 ·rw[cnd_n (by simpa using hm),if_neg hm]
  by_cases h0:c<0
  ·have ew:IntKind.i64.wrap (0 - c) = -c:=by rw[Int.zero_sub]; exact IntWalk.i64_in _ (by unfold I64 at hg; omega)
   rw[cnd_y (decide_eq_true h0),if_pos h0,ew]
  ·rw[cnd_n (decide_eq_false h0),if_neg h0]
theorem yiy{s:zad}{p:List AFlow'}{h:List AHold'}{f t:AUnit'}{n:Int}(hf:okF p)(hl:p.length≤800000)(h0:0≤n)(hn:I64 n):
  zrl (updS s p h) f t n=some (if (moveP p f t n).2.1=0 then (updS s (moveP p f t n).1 h,(0,())) else (zS,((moveP p f t n).2.1,()))):=by
 show zau stdW (updS s p h) f t n=_
 unfold zau
 have hI:I64 (-n):=by unfold I64 at *; omega
 have ew:IntKind.i64.wrap (0 - n) = -n:=by rw[Int.zero_sub]; exact IntWalk.i64_in _ hI
 have em:moveP p f t n=payP p [(f,(-n,())),(t,(n,()))]:=by unfold moveP; rw[if_pos hI]
 have hp:=r_pay17 (l:=p) (fl:=[(f,(-n,())),(t,(n,()))]) hf (by
  intro x hx
  simp only[List.mem_cons,List.not_mem_nil,or_false]at hx
  rcases hx with rfl|rfl
  ·exact hI
  ·exact hn) (by simp; omega)
 rw[ew]
 show stdW.call (ycn p [(f,(-n,())),(t,(n,()))]) _=_
 rw[zaa hp,em]
 generalize payP p [(f,(-n,())),(t,(n,()))]=r
 obtain⟨p',e,⟨⟩⟩:=r
 show stdW.cnd (e != 0) (some (zS,(e,()))) (some (updS s p' h,(0,())))=some (if e=0 then _ else _)
 by_cases he:e=0
 ·rw[cnd_n (by simp[he]),if_pos he]
 ·rw[cnd_y (by simpa using he),if_neg he]
theorem ycw{a:zaf}{q:Int}(ha:okA1 a)(hq:I64 q):zox a q=some (big (q*zac a)):=by
 show zbd stdW a q=_
 unfold zbd
 rw[zaa (r_of hq)]
 show stdW.call (zjm (zac a)) _=_
 rw[zaa (r_of ha.price),zaa (r_mulB (zcp hq) (zcp ha.price))]
end Go.Proofs.YtllkmncnmlmefaaGreat
