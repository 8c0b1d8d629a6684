import Derived.Test.YtllkmncnmlmefaaGreatB5
namespace Go.Proofs.YtllkmncnmlmefaaGreat
open Go Go.Vc Go.RowKit
set_option synthInstance.maxSize 100000
set_option synthInstance.maxHeartbeats 0
def sumGo(as:List zaf):List ALot'→Int→Int×Int×Unit
 |[],z=>fits64 z
 |x::l,z=>if (findA as x.1).2.1=true then if I64 (qtyOf x*zac (findA as x.1).1) then sumGo as l (z+qtyOf x*zac (findA as x.1).1) else (0,7,()) else (0,11,())
theorem zxs(as:List zaf):∀(l:List ALot') (acc:List Int),sumGo as l acc.sum=if (valsGo as l acc).2.1=0 then fits64 (valsGo as l acc).1.sum else (0,(valsGo as l acc).2.1,())
 |[],acc=>by rw[sumGo,valsGo,if_pos rfl]
 |x::l,acc=>by
  rw[sumGo,valsGo]
  split
  ·split
   ·have:=zxs as l (acc++[qtyOf x*zac (findA as x.1).1])
    rw[List.sum_append]at this
    simpa using this
   ·rfl
  ·rfl
theorem worth_sum(as:List zaf)(l:List ALot'):worthP as l=if isL l=true then sumGo as l 0 else (0,3,()):=by
 unfold worthP
 have:=zxs as l []
 rw[show ([]:List Int).sum=0 from rfl]at this
 rw[this]
theorem r_sum27{as:List zaf}{l:List ALot'}(ha:∀a∈as,okA1 a)(hl1:as.length≤1000)(hl:okT l):yce as l 0 false=some (worthP as l):=by
 show zkg stdW as l 0 false=_
 unfold zkg
 rw[worth_sum]
 have h20:=hl.1
 rw[zaa (r_is18 (by omega))]
 by_cases hp:isL l=true
 ·rw[hp,cnd_n (by rfl),if_pos rfl,zaa (r_of (n:=0) (by unfold I64; omega))]
  refine zct (l:=l) (s0:=(0:Int)) (by omega) (fun i (z:Int)=>((i:Int),big z)) (fun i z => -(9223372036854775808*(i:Int))≤z∧z≤9223372036854775808*(i:Int)) (fun l' z=>some (sumGo as l' z)) rfl (by omega) ?_ ?_
  ·intro z hz again
   have hs:sml z:=by unfold sml; omega
   show stdW.cnd (decide ((l.length:Int)<(l.length:Int))) _ (stdW.call (zny (big z)) _)=_
   rw[zaj,zaa (r_fits hs),sumGo]
   by_cases hI:I64 z
   ·rw[decide_eq_true hI,cnd_n (by rfl),zby hI]
    show stdW.call (zdm (big z)) _=_
    rw[zaa (r_int hI)]
   ·rw[decide_eq_false hI,cnd_y (by rfl),zfb hI]
  ·intro i hi z hz again hag
   have hs:sml z:=by unfold sml; omega
   show stdW.cnd (decide ((i:Int)<(l.length:Int))) _ _=_
   rw[cnd_lt hi,sumGo]
   have hq:I64 (qtyOf l[i]):=hl.2 _ (List.getElem_mem hi)
   refine join_g fun k6 hk6=>?_
   have K6:∀y,-(9223372036854775808*((i+1:Nat):Int))≤y∧y≤9223372036854775808*((i+1:Nat):Int)→k6 (big y)=some (sumGo as (l.drop (i+1)) y):=by
    intro y hy
    subst hk6
    show again (IntKind.i64.wrap ((i:Int)+1),big y)=_
    rw[i64_s i (by omega)]
    exact hag y hy
   clear hk6 hag
   show stdW.idx l (i:Int) _=_
   rw[idx_w hi,zaa (zrr hl1)]
   by_cases hf:(findA as l[i].1).2.1=true
   ·have hok:=ztz ha hf
    rw[cnd_n (by rw[hf]; rfl),if_pos hf]
    show stdW.idx l (i:Int) _=_
    rw[idx_w hi]
    generalize (findA as l[i].1).1=a at hok ⊢
    have hw:=ycw hok hq
    have hm:=yai hq hok.price
    have hfit:=r_fits (z:=qtyOf l[i]*zac a) (by unfold In128 at hm; unfold sml; omega)
    refine zbe ?_ ?_<;>
    ·show stdW.call (zox a (qtyOf l[i])) _=_
     rw[zaa hw,zaa hfit]
     by_cases hI:I64 (qtyOf l[i]*zac a)
     ·rw[decide_eq_true hI,cnd_n (by rfl),if_pos hI]
      refine join_g fun k14 hk14=>?_
      have k14':k14 (big (qtyOf l[i]*zac a))=some (sumGo as (l.drop (i+1)) (z+qtyOf l[i]*zac a)):=by
       subst hk14
       show stdW.call (zdi (big z) (big (qtyOf l[i]*zac a))) _=_
       rw[zaa (r_addB hs (zcp hI))]
       exact K6 _ (by unfold I64 at hI; omega)
      clear hk14
      show stdW.cnd false _ (k14 (big (qtyOf l[i]*zac a)))=_
      rw[cnd_n (by rfl),k14']
     ·rw[decide_eq_false hI,cnd_y (by rfl),if_neg hI]
   ·have hf:(findA as l[i].1).2.1=false:=by simpa using hf
    rw[cnd_y (by rw[hf]; rfl),if_neg (by rw[hf]; simp)]
 ·have hp:isL l=false:=by simpa using hp
  rw[hp,cnd_y (by rfl),if_neg (by simp)]
theorem yiw{s:zad}{u:AUnit'}(ha:∀a∈asS s,okA1 a)(hl1:(asS s).length≤1000)(hh:okHs (ho s))(hf:okF (pu s))(hl:(pu s).length≤1000000):zrk s u=some (roomP (asS s) (pu s) (ho s) u):=by
 show zfw stdW s u=_
 unfold zfw roomP
 show stdW.call (zrm (ho s) u) _=_
 rw[zaa (ztp hh.2)]
 show stdW.call (yce (asS s) (lotsH (ho s) u) 0 false) _=_
 rw[zaa (r_sum27 ha hl1 (zgk hh.1 u))]
 have hw:=yhs (as:=asS s) (l:=lotsH (ho s) u)
 generalize worthP (asS s) (lotsH (ho s) u)=v at*
 obtain⟨n,e,⟨⟩⟩:=v
 simp only at hw
 have hg:=zjv hf u
 have eN:=r_of hw
 have eG:=yfr (l:=pu s) (u:=u) hl
 have eO:=r_of hg
 have eA:=r_addB (zcp hw) (zcp hg)
 have eF:=r_fits (z:=n+getP (pu s) u) (by unfold I64 at hw hg; unfold sml; omega)
 by_cases he:e=0
 ·have leaf:stdW.cnd (!decide (I64 (n+getP (pu s) u))) (some ((0:Int),((7:Int),()))) (stdW.cnd (big (n+getP (pu s) u)).1 (some (0,(0,()))) (stdW.call (zdm (big (n+getP (pu s) u))) fun v8=>some (v8,((0:Int),()))))=some (if I64 (n+getP (pu s) u) then (max 0 (n+getP (pu s) u),0,()) else (0,7,())):=by
   by_cases hI:I64 (n+getP (pu s) u)
   ·rw[decide_eq_true hI,cnd_n (by rfl),if_pos hI]
    have e1:(big (n+getP (pu s) u)).1=decide (n+getP (pu s) u<0):=rfl
    rw[e1]
    by_cases h0:n+getP (pu s) u<0
    ·rw[cnd_y (decide_eq_true h0)]
     congr 2; omega
    ·rw[cnd_n (decide_eq_false h0),zaa (r_int hI)]
     congr 2; omega
   ·rw[decide_eq_false hI,cnd_y (by rfl),if_neg hI]
  show stdW.cnd (e != 0) _ _=some (if e=0 then _ else _)
  rw[if_pos he,cnd_n (by simp[he])]
  refine zbe ?_ ?_
  ·rw[zaa eN]
   refine zbe ?_ ?_
   ·show stdW.call (zkm (pu s) u) _=_
    rw[zaa eG]
    refine zbe ?_ ?_
    ·rw[zaa eO]
     refine zbe ?_ ?_<;>
     ·rw[zaa eA,zaa eF]; exact leaf
    ·rw[zaa eO,zaa eA,zaa eF]; exact leaf
   ·show stdW.call (zkm (pu s) u) _=_
    rw[zaa eG,zaa eO,zaa eA,zaa eF]; exact leaf
  ·rw[zaa eN]
   show stdW.call (zkm (pu s) u) _=_
   rw[zaa eG,zaa eO,zaa eA,zaa eF]; exact leaf
 ·show stdW.cnd (e != 0) (some (0,(e,()))) _=some (if e=0 then _ else _)
  rw[if_neg he,cnd_y (by simpa using he)]
end Go.Proofs.YtllkmncnmlmefaaGreat

namespace Go.Proofs.YtllkmncnmlmefaaGreat
open Go Go.Vc Go.RowKit
set_option synthInstance.maxSize 100000
set_option synthInstance.maxHeartbeats 0
set_option maxHeartbeats 4000000
theorem eqT(u:AUnit'):notIf false ((u.1==0)&&(u.2.1==1))=decide (u=tU):=unitEq u tU
def soldQ(u:AUnit')(x:ALot')(c q:Int)(p:List AFlow')(h:List AHold'):PH:=
 if I64 (q*c) then
  if (passH h u tU (x.1,(x.2.1,(q,()))) 0).2.1=0 then
   if (moveP p tU u (q*c)).2.1=0 then ((moveP p tU u (q*c)).1,(passH h u tU (x.1,(x.2.1,(q,()))) 0).1,0)
   else ([],[],(moveP p tU u (q*c)).2.1)
  else ([],[],(passH h u tU (x.1,(x.2.1,(q,()))) 0).2.1)
 else ([],[],7)
theorem yiu{s:zad}{p:List AFlow'}{h:List AHold'}{u:AUnit'}{cash:Int}(ha:∀a∈asS s,okA1 a)(hl1:(asS s).length≤1000)(hh:okHs h)(hhl:h.length≤370000)(hf:okF p)(hl:p.length≤700000)(hc:I64 cash):
  zxw (updS s p h) u cash=some (resS s (sellP (asS s) p h u cash)):=by
 show zfv stdW (updS s p h) u cash=_
 unfold zfv sellP
 refine join_g fun k hk=>?_
 have kt:k (true,())=some (zS,(3,())):=by subst hk; rfl
 have kf:isH h=true→k (false,())=some (resS s (if u=tU then ([],[],2) else sellGo (asS s) u cash (lotsH h u) p h)):=by
  intro hp
  subst hk
  show stdW.cnd false _ (stdW.cnd (notIf false ((u.1==0)&&(u.2.1==1))) _ _)=_
  rw[cnd_n (by rfl),eqT]
  by_cases hu:u=tU
  ·rw[cnd_y (by simp[hu]),if_pos hu]; rfl
  ·rw[cnd_n (by simp[hu]),if_neg hu]
   show stdW.call (zrm h u) _=_
   rw[zaa (ztp hh.2)]
   have hinv:=znb hp u
   have hok:=zgk hh.1 u
   generalize hL:lotsH h u=L at hinv hok
   have h16:=hinv.2.2
   refine zct (l:=L) (s0:=(p,h)) (by omega) (fun i (z:List AFlow'×List AHold')=>((i:Int),updS s z.1 z.2))
    (fun i z=>okHs z.2∧z.2.length+2*(L.length - i)≤370032∧okF z.1∧z.1.length+2*(L.length - i)≤700032) (fun l' z=>some (resS s (sellGo (asS s) u cash l' z.1 z.2))) rfl ⟨hh,by show h.length+2*(L.length - 0)≤370032; omega,hf,by show p.length+2*(L.length - 0)≤700032; omega⟩ ?_ ?_
   ·rintro⟨p1,h1⟩ _ again
    show stdW.cnd (decide ((L.length:Int)<(L.length:Int))) _ _=_
    rw[zaj]; rfl
   ·rintro i hi ⟨p1,h1⟩ ⟨i1,i2,i3,i4⟩ again hag
    simp (config:={proj:=false}) only[two_w]
    simp only at i1 i2 i3 i4
    show stdW.cnd (decide ((i:Int)<(L.length:Int))) _ _=some (resS s (sellGo (asS s) u cash (L[i]::L.drop (i+1)) p1 h1))
    rw[cnd_lt hi,sellGo]
    have hg:=zjv i3 u
    have eC:=r_of hc
    have eG:=yfr (l:=p1) (u:=u) (by omega)
    have eO:=r_of hg
    have eS:=r_subB (zcp hc) (zcp hg)
    have eF:=r_fits (z:=cash - getP p1 u) (by unfold I64 at hc hg; unfold sml; omega)
    have hqx:0<qtyOf L[i]∧I64 (qtyOf L[i]):=⟨(hinv.1 _ (List.getElem_mem hi)).2.2,hok.2 _ (List.getElem_mem hi)⟩
    refine join_g fun k6 hk6=>?_
    have K6:∀p2 h2,okHs h2∧h2.length≤h1.length+2∧okF p2∧p2.length≤p1.length+2→k6 (updS s p2 h2)=some (resS s (sellGo (asS s) u cash (L.drop (i+1)) p2 h2)):=by
     rintro p2 h2 ⟨r1,r2,r3,r4⟩
     subst hk6
     show again (IntKind.i64.wrap ((i:Int)+1),updS s p2 h2)=_
     rw[i64_s i (by omega)]
     exact hag (p2,h2) ⟨r1,by show h2.length+_≤_; omega,r3,by show p2.length+_≤_; omega⟩
    clear hk6 hag
    rw[zaa eC]
    show stdW.call (zkm p1 u) _=_
    rw[zaa eG,zaa eO,zaa eS,zaa eF]
    have k6s:k6 (updS s p1 h1)=some (resS s (sellGo (asS s) u cash (L.drop (i+1)) p1 h1)):=K6 p1 h1 ⟨i1,by omega,i3,by omega⟩
    generalize getP p1 u=g at hg ⊢
    by_cases hI:I64 (cash - g)
    ·rw[decide_eq_true hI,cnd_n (by rfl),zaa (r_int hI),if_pos hI]
     by_cases hpos:0<cash - g
     ·rw[cnd_n (decide_eq_false (by omega)),if_pos hpos]
      show stdW.idx L (i:Int) _=_
      rw[idx_w hi]
      show stdW.call (zrn (asS s) L[i].1) _=_
      rw[zaa (zrr hl1)]
      refine Eq.trans (b:=if (soldP (asS s) u L[i] (cash - g) p1 h1).2.2=0 then k6 (updS s (soldP (asS s) u L[i] (cash - g) p1 h1).1 (soldP (asS s) u L[i] (cash - g) p1 h1).2.1) else some (zS,((soldP (asS s) u L[i] (cash - g) p1 h1).2.2,()))) ?_ ?_
      ·clear K6 k6s
       unfold soldP
       have hfok:(findA (asS s) L[i].1).2.1=true→okA1 (findA (asS s) L[i].1).1:=fun hf=>ztz ha hf
       generalize findA (asS s) L[i].1=fa at hfok ⊢
       obtain⟨a,b,⟨⟩⟩:=fa
       have hb:=up_bd (m:=cash - g) (d:=zac a) hpos
       cases b with
       |false=>
        show stdW.cnd true _ _=_
        rw[cnd_y (by rfl)]; rfl
       |true=>
        have hoka:okA1 a:=hfok rfl
        show stdW.cnd false _ (stdW.cnd (zac a==0) (k6 (updS s p1 h1)) (stdW.idx L (i:Int) _))=_
        rw[cnd_n (by rfl),if_pos rfl]
        by_cases hp0:zac a=0
        ·rw[cnd_y (by simp[hp0]),if_pos hp0,if_pos rfl]
        ·have hpp:0<zac a:=by have:=hoka.2.1.1; unfold zac at hp0 ⊢; omega
         have hb:=hb hpp
         rw[cnd_n (by simp[hp0]),idx_w hi,if_neg hp0]
         show _=if (soldQ u L[i] (zac a) (min (upZ (cash - g) (zac a)) (qtyOf L[i])) p1 h1).2.2=0 then k6 (updS s (soldQ u L[i] (zac a) (min (upZ (cash - g) (zac a)) (qtyOf L[i])) p1 h1).1 (soldQ u L[i] (zac a) (min (upZ (cash - g) (zac a)) (qtyOf L[i])) p1 h1).2.1) else some (zS,((soldQ u L[i] (zac a) (min (upZ (cash - g) (zac a)) (qtyOf L[i])) p1 h1).2.2,()))
         have eI:=r_int hI
         have eSell:=r_sell12 hoka hpp hpos hI
         have eX:=r_of hqx.2
         have huI:I64 (upZ (cash - g) (zac a)):=by unfold I64 at hI ⊢; omega
         have eCmp:=r_cmpB (zcp huI) (zcp hqx.2)
         show stdW.call (zdm (big (cash - g))) _=_
         rw[zaa eI]
         show stdW.call (zyd a (cash - g)) _=_
         rw[zaa eSell]
         refine join_g fun k27 hk27=>?_
         have hq:0<min (upZ (cash - g) (zac a)) (qtyOf L[i])∧I64 (min (upZ (cash - g) (zac a)) (qtyOf L[i])):=by
          have:=hqx.2; unfold I64 at *; omega
         have K27:∀q,q=min (upZ (cash - g) (zac a)) (qtyOf L[i])→k27 (L[i].1,(L[i].2.1,(q,())))=if (soldQ u L[i] (zac a) (min (upZ (cash - g) (zac a)) (qtyOf L[i])) p1 h1).2.2=0 then k6 (updS s (soldQ u L[i] (zac a) (min (upZ (cash - g) (zac a)) (qtyOf L[i])) p1 h1).1 (soldQ u L[i] (zac a) (min (upZ (cash - g) (zac a)) (qtyOf L[i])) p1 h1).2.1) else some (zS,((soldQ u L[i] (zac a) (min (upZ (cash - g) (zac a)) (qtyOf L[i])) p1 h1).2.2,())):=by
          intro q hqe
          rw[←hqe]at hq ⊢
          unfold soldQ
          subst hk27
          have hw:=ycw hoka hq.2
          have hm:=yai hq.2 hoka.price
          have hfit:=r_fits (z:=q*zac a) (by unfold In128 at hm; unfold sml; omega)
          show stdW.call (zox a q) _=_
          rw[zaa hw,zaa hfit]
          by_cases hwI:I64 (q*zac a)
          ·rw[decide_eq_true hwI,cnd_n (by rfl),if_pos hwI]
           have hpass:=r_pass26 (l:=h1) (f:=u) (t:=tU) (x:=(L[i].1,(L[i].2.1,(q,())))) (tag:=0) i1 (by omega) hq.2
           have hpok:=(yjh i1 (by omega:h1.length≤380000) u tU (L[i].1,(L[i].2.1,(q,()))) 0).1
           show stdW.call (zxz h1 u tU (L[i].1,(L[i].2.1,(q,()))) 0) _=_
           rw[zaa hpass]
           generalize passH h1 u tU (L[i].1,(L[i].2.1,(q,()))) 0=P at hpok ⊢
           obtain⟨h',e1,⟨⟩⟩:=P
           show stdW.cnd (e1 != 0) (some (zS,(e1,()))) (stdW.call (zdm (big (q*zac a))) _)=(if (if e1=0 then _ else _:PH).2.2=0 then _ else _)
           by_cases he1:e1=0
           ·have hnn:0≤q*zac a:=Int.mul_nonneg (Int.le_of_lt hq.1) (Int.le_of_lt hpp)
            rw[cnd_n (by simp[he1]),zaa (r_int hwI),if_pos he1]
            show stdW.call (zrl (updS s p1 h') tU u (q*zac a)) _=_
            rw[zaa (yiy (s:=s) (p:=p1) (h:=h') (f:=tU) (t:=u) i3 (by omega) hnn hwI)]
            generalize moveP p1 tU u (q*zac a)=M
            obtain⟨p',e2,⟨⟩⟩:=M
            by_cases he2:e2=0
            ·rw[if_pos he2,if_pos he2]
             show stdW.cnd false _ (k6 (updS s p' h'))=_
             rw[cnd_n (by rfl),if_pos rfl]
            ·rw[if_neg he2,if_neg he2]
             show stdW.cnd (e2 != 0) _ _=_
             rw[cnd_y (by simpa using he2)]
             exact(if_neg he2).symm
           ·rw[cnd_y (by simpa using he1),if_neg he1]
            exact(if_neg he1).symm
          ·rw[decide_eq_false hwI,cnd_y (by rfl),if_neg hwI]; rfl
         clear hk27
         show stdW.call (zjm (qtyOf L[i])) _=_
         rw[zaa eX,zaa eCmp]
         by_cases hlt:upZ (cash - g) (zac a)<qtyOf L[i]
         ·have ec:decide ((if upZ (cash - g) (zac a) - qtyOf L[i]=0 then (0:Int) else if upZ (cash - g) (zac a) - qtyOf L[i]<0 then -1 else 1)<0)=true:=by
           rw[if_neg (by omega),if_pos (by omega)]; rfl
          rw[ec,cnd_y (by rfl),zaa (r_int huI)]
          exact K27 _ (by omega)
         ·have ec:decide ((if upZ (cash - g) (zac a) - qtyOf L[i]=0 then (0:Int) else if upZ (cash - g) (zac a) - qtyOf L[i]<0 then -1 else 1)<0)=false:=by
           by_cases h0:upZ (cash - g) (zac a) - qtyOf L[i]=0
           ·rw[if_pos h0]; rfl
           ·rw[if_neg h0,if_neg (by omega)]; rfl
          rw[ec,cnd_n (by rfl)]
          exact K27 (qtyOf L[i]) (by omega)
      ·by_cases hs:(soldP (asS s) u L[i] (cash - g) p1 h1).2.2=0
       ·obtain⟨a1,a2,a3,a4⟩:=yer i1 (by omega) i3 hs
        rw[if_pos hs,if_pos hs]
        exact K6 _ _ ⟨a3,a4,a1,a2⟩
       ·rw[if_neg hs,if_neg hs]
        exact congrArg some (if_neg hs:resS s ([],([],(soldP (asS s) u L[i] (cash - g) p1 h1).2.2))=_).symm
     ·rw[cnd_y (decide_eq_true (by omega)),if_neg hpos]
      exact k6s
    ·rw[decide_eq_false hI,cnd_y (by rfl),if_neg hI]; rfl
 clear hk
 show stdW.call (yiq p) _=_
 rw[zaa (r_is17 (by omega))]
 by_cases hp:isP p=true
 ·rw[hp,cnd_n (by rfl)]
  show stdW.call (yip h) _=_
  rw[zaa (r_is26 hh)]
  by_cases hq:isH h=true
  ·rw[hq,if_pos ⟨rfl,rfl⟩]; exact kf hq
  ·have hq:isH h=false:=by simpa using hq
   rw[hq,if_neg (by simp)]; exact kt
 ·have hp:isP p=false:=by simpa using hp
  rw[hp,cnd_y (by rfl),if_neg (by simp),kt]; rfl
end Go.Proofs.YtllkmncnmlmefaaGreat

namespace Go.Proofs.YtllkmncnmlmefaaGreat
open Go Go.Vc Go.RowKit
set_option synthInstance.maxSize 100000
set_option synthInstance.maxHeartbeats 0
theorem yix{s:zad}{p:List AFlow'}{h:List AHold'}{b t:AUnit'}{n:Int}(ha:∀a∈asS s,okA1 a)(hl1:(asS s).length≤1000)(hh:okHs h)(hhl:h.length≤370000)(hf:okF p)(hl:p.length≤700000)(hc:I64 n)(hn0:0≤n):
  zrj (updS s p h) b t n=some (resD s (paysP (asS s) p h b t n)):=by
 show zfu stdW (updS s p h) b t n=_
 unfold zfu paysP
 by_cases h0:n=0
 ·rw[cnd_y (by simp[h0]),if_pos h0]; rfl
 ·rw[cnd_n (by simp[h0]),if_neg h0,zaa (yiu ha hl1 hh hhl hf hl hc)]
  have hok:(sellP (asS s) p h b n).2.2=0→_:=fun he=>zri hh hhl hf he
  generalize sellP (asS s) p h b n=r at hok
  obtain⟨p1,h1,e⟩:=r
  simp only at hok
  by_cases he:e=0
  ·have er:resS s (p1,(h1,e))=(updS s p1 h1,(0,())):=if_pos he
   obtain⟨a1,a2,a3,a4⟩:=hok he
   rw[er,if_pos he]
   show stdW.cnd false _ (stdW.call (zrl (updS s p1 h1) b t n) _)=_
   rw[cnd_n (by rfl),zaa (yiy (s:=s) (h:=h1) (f:=b) (t:=t) a1 (by omega) hn0 hc)]
   generalize moveP p1 b t n=M
   obtain⟨p2,e2,⟨⟩⟩:=M
   show stdW.cnd ((if e2=0 then (updS s p2 h1,((0:Int),())) else (zS,(e2,()))).2.1 != 0) _ _=some (resD s (if e2=0 then (p2,h1,[(b,(t,(n,())))],0) else ([],[],[],e2)))
   by_cases he2:e2=0
   ·rw[if_pos he2,if_pos he2,cnd_n (by rfl)]
    exact zbe rfl rfl
   ·rw[if_neg he2,if_neg he2]
    show stdW.cnd (e2 != 0) (some (zS,([],(e2,())))) _=_
    rw[cnd_y (by simpa using he2)]
    exact congrArg some (if_neg he2:resD s ([],[],[],e2)=_).symm
  ·have er:resS s (p1,(h1,e))=(zS,(e,())):=if_neg he
   rw[er,if_neg he]
   show stdW.cnd (e != 0) (some (zS,([],(e,())))) _=_
   rw[cnd_y (by simpa using he)]
   exact congrArg some (if_neg he:resD s ([],[],[],e)=_).symm
theorem r_pay31{s:zad}{p:List AFlow'}{h:List AHold'}{b t:AUnit'}(ha:∀a∈asS s,okA1 a)(hl1:(asS s).length≤1000)(hh:okHs h)(hhl:h.length≤370000)(hf:okF p)(hl:p.length≤700000):
  ycb (updS s p h) b t=some (resD s (payF (asS s) p h b t)):=by
 show zho stdW (updS s p h) b t=_
 unfold zho payF
 rw[zaa (znz (s:=updS s p h) hf (by show p.length≤_; omega))]
 have ho:=zhi hf t
 have hr:=yex (asS s) p h b
 have e1:owesP (pu (updS s p h)) t=owesP p t:=rfl
 rw[e1]
 clear e1
 generalize owesP p t=o at*
 obtain⟨n,e,⟨⟩⟩:=o
 simp only at ho
 show stdW.cnd (e != 0) (some (zS,([],(e,())))) (stdW.call (zrk (updS s p h) b) _)=some (resD s (if e=0 then (if (roomP (asS s) p h b).2.1=0 then (if b=t then (p,h,[],0) else paysP (asS s) p h b t (min n (roomP (asS s) p h b).1)) else ([],[],[],(roomP (asS s) p h b).2.1)) else ([],[],[],e)))
 by_cases he:e=0
 ·rw[cnd_n (by simp[he]),if_pos he,zaa (yiw (s:=updS s p h) ha hl1 hh hf (by show p.length≤_; omega))]
  have e2:roomP (asS (updS s p h)) (pu (updS s p h)) (Go.Proofs.YtllkmncnmlmefaaGreat.ho (updS s p h)) b=roomP (asS s) p h b:=rfl
  rw[e2]
  clear e2
  generalize roomP (asS s) p h b=r at*
  obtain⟨m,f,⟨⟩⟩:=r
  simp only at hr
  show stdW.cnd (f != 0) (some (zS,([],(f,())))) (stdW.cnd (notIf false ((b.1==t.1)&&(b.2.1==t.2.1))) (some (updS s p h,([],(0,())))) _)=some (resD s (if f=0 then (if b=t then (p,h,[],0) else paysP (asS s) p h b t (min n m)) else ([],[],[],f)))
  by_cases hf0:f=0
  ·rw[cnd_n (by simp[hf0]),if_pos hf0,unitEq]
   by_cases hu:b=t
   ·rw[cnd_y (by simp[hu]),if_pos hu]; rfl
   ·rw[cnd_n (by simp[hu]),if_neg hu]
    refine join_g fun k hk=>?_
    have kk:k (min n m,())=some (resD s (paysP (asS s) p h b t (min n m))):=by
     subst hk
     show stdW.call (zrj (updS s p h) b t (min n m)) _=_
     rw[zaa (yix ha hl1 hh hhl hf hl (by unfold I64 at *; omega) (by omega))]
    clear hk
    show stdW.cnd (decide (m<n)) (k (m,())) (k (n,()))=_
    by_cases hlt:m<n
    ·rw[cnd_y (decide_eq_true hlt),←kk,show min n m=m by omega]
    ·rw[cnd_n (decide_eq_false hlt),←kk,show min n m=n by omega]
  ·rw[cnd_y (by simpa using hf0),if_neg hf0]
   exact congrArg some (if_neg hf0:resD s ([],[],[],f)=_).symm
 ·rw[cnd_y (by simpa using he),if_neg he]
  exact congrArg some (if_neg he:resD s ([],[],[],e)=_).symm
theorem r_own31{s:zad}{p:List AFlow'}{h:List AHold'}{u:AUnit'}(ha:∀a∈asS s,okA1 a)(hl1:(asS s).length≤1000)(hh:okHs h)(hhl:h.length≤370000)(hf:okF p)(hl:p.length≤700000):
  ycc (updS s p h) u=some (resD s (ownF (asS s) p h u)):=by
 show zhp stdW (updS s p h) u=_
 unfold zhp ownF
 rw[zaa (znz (s:=updS s p h) hf (by show p.length≤_; omega))]
 have ho:=zhi hf u
 have e1:owesP (pu (updS s p h)) u=owesP p u:=rfl
 rw[e1]
 clear e1
 generalize owesP p u=o at*
 obtain⟨n,e,⟨⟩⟩:=o
 simp only at ho
 show stdW.cnd (e != 0) (some (zS,([],(e,())))) (stdW.call (zxw (updS s p h) u 0) _)=some (resD s (if e=0 then _ else ([],[],[],e)))
 by_cases he:e=0
 ·rw[cnd_n (by simp[he]),if_pos he,zaa (yiu ha hl1 hh hhl hf hl (by unfold I64; omega))]
  have hok:(sellP (asS s) p h u 0).2.2=0→_:=fun he=>zri hh hhl hf he
  generalize sellP (asS s) p h u 0=r at hok
  obtain⟨p1,h1,e2⟩:=r
  simp only at hok
  by_cases he2:e2=0
  ·have er:resS s (p1,(h1,e2))=(updS s p1 h1,(0,())):=if_pos he2
   obtain⟨a1,a2,a3,a4⟩:=hok he2
   rw[er,if_pos he2]
   show stdW.cnd false _ (stdW.call (zke (updS s p1 h1) u) _)=_
   rw[cnd_n (by rfl),zaa (znz (s:=updS s p1 h1) a1 (by show p1.length≤_; omega))]
   have ho2:=zhi a1 u
   have e3:owesP (pu (updS s p1 h1)) u=owesP p1 u:=rfl
   rw[e3]
   generalize owesP p1 u=o2 at*
   obtain⟨n2,f2,⟨⟩⟩:=o2
   simp only at ho2
   show stdW.cnd (n2==n) (some (updS s p1 h1,([],(0,())))) (stdW.both (some (updS s p1 h1,([(u,(u,(IntKind.i64.wrap (n - n2),())))],(0,())))) (some (updS s p1 h1,([(u,(u,(IntKind.i64.wrap (n - n2),())))],(0,())))))=some (resD s (if n=n2 then (p1,h1,[],0) else (p1,h1,[(u,(u,(n - n2,())))],0)))
   by_cases hn:n=n2
   ·rw[cnd_y (by simp[hn]),if_pos hn]; rfl
   ·have ew:IntKind.i64.wrap (n - n2)=n - n2:=IntWalk.i64_in _ (by unfold I64 at *; omega)
    rw[cnd_n (by simpa using fun h=>hn h.symm),if_neg hn,ew]
    exact zbe rfl rfl
  ·have er:resS s (p1,(h1,e2))=(zS,(e2,())):=if_neg he2
   rw[er,if_neg he2]
   show stdW.cnd (e2 != 0) (some (zS,([],(e2,())))) _=_
   rw[cnd_y (by simpa using he2)]
   exact congrArg some (if_neg he2:resD s ([],[],[],e2)=_).symm
 ·rw[cnd_y (by simpa using he),if_neg he]
  exact congrArg some (if_neg he:resD s ([],[],[],e)=_).symm
end Go.Proofs.YtllkmncnmlmefaaGreat

namespace Go.Proofs.YtllkmncnmlmefaaGreat
open Go Go.Vc Go.RowKit
set_option maxRecDepth 1000000
theorem zva:ygk=some true:=by kernel_rfl
end Go.Proofs.YtllkmncnmlmefaaGreat

namespace Go.Proofs.YtllkmncnmlmefaaGreat
open Go Go.Vc Go.RowKit
theorem r_same18x{a:List zaf}(hl:a.length≤1000000):ref18_Same a a=some true:=by
 show zil stdW a a=_
 unfold zil
 rw[cnd_n (by simp)]
 refine zbo (l:=a) (by omega) (s0:=()) (fun _ _=>True) (fun _ _=>some true) trivial ?_ ?_
 ·rintro _ again _
  rw[zaj]
 ·rintro i hi _ _ again ha
  rw[cnd_lt hi,idx_w hi,idx_w hi,nif_t,cnd_n (by simp)]
  show again (IntKind.i64.wrap ((i:Int)+1),())=_
  rw[i64_s i (by omega)]
  exact ha _ trivial
theorem r_same26{a:List AHold'}(hh:okHs a):zxy a a=some true:=by
 have hl:=hh.2
 show zij stdW a a=_
 unfold zij
 rw[cnd_n (by simp)]
 refine zbo (l:=a) (by omega) (s0:=()) (fun _ _=>True) (fun _ _=>some true) trivial ?_ ?_
 ·rintro _ again _
  rw[zaj]
 ·rintro i hi _ _ again ha
  rw[cnd_lt hi]
  refine join_g fun k hk=>?_
  have kk:k (false,())=some true:=by
   subst hk
   show again (IntKind.i64.wrap ((i:Int)+1),())=_
   rw[i64_s i (by omega)]
   exact ha _ trivial
  clear hk ha
  have h2:=(hh.1 _ (List.getElem_mem hi)).1
  rw[idx_w hi,idx_w hi,nif_t,cnd_n (by simp),idx_w hi,idx_w hi,zaa (r_same18x (by omega))]
  exact kk
theorem yiv{s:zad}(hp:(pu s).length≤1000000)(hh:okHs (ho s)):zxx s s=some true:=by
 show zih stdW s s=_
 unfold zih
 show stdW.call (zyb (pu s) (pu s)) _=_
 rw[zaa (r_same hp),cnd_y (by rfl)]
 show stdW.call (zxy (ho s) (ho s)) _=_
 rw[zaa (r_same26 hh)]
theorem r_sameD{d:List zbf}(hl:d.length≤1000000):zmf d d=some true:=by
 show zci stdW d d=_
 unfold zci
 rw[cnd_n (by simp)]
 refine loop_n (N:=d.length) (by omega) (fun _ _=>True) (some true) trivial ?_ ?_
 ·rintro _ again _
  rw[zaj]
 ·rintro i hi _ _ again ha
  rw[cnd_lt hi,idx_w hi,idx_w hi,nif_t,cnd_n (by simp)]
  show again (IntKind.i64.wrap ((i:Int)+1),())=_
  rw[i64_s i (by omega)]
  exact ha _ trivial
theorem r_is12{a:zaf}:∃b,yis a=some b∧(b=true→okA1 a):=by
 show ∃b,zkp stdW a=some b∧_
 unfold zkp
 by_cases h1:0<a.1
 ·rw[cnd_y (decide_eq_true h1)]
  by_cases h2:a.1<5
  ·rw[cnd_y (decide_eq_true h2)]
   by_cases h3:0≤a.2.1
   ·rw[cnd_y (decide_eq_true h3)]
    by_cases h4:a.2.1<2147483648
    ·rw[cnd_y (decide_eq_true h4)]
     by_cases h5:0≤a.2.2.1
     ·rw[cnd_y (decide_eq_true h5)]
      exact⟨_,rfl,fun h=>by
       have:=of_decide_eq_true h
       unfold okA1; omega⟩
     ·rw[cnd_n (decide_eq_false h5)]; exact⟨_,rfl,fun h=>by cases h⟩
    ·rw[cnd_n (decide_eq_false h4)]; exact⟨_,rfl,fun h=>by cases h⟩
   ·rw[cnd_n (decide_eq_false h3)]; exact⟨_,rfl,fun h=>by cases h⟩
  ·rw[cnd_n (decide_eq_false h2)]; exact⟨_,rfl,fun h=>by cases h⟩
 ·rw[cnd_n (decide_eq_false h1)]; exact⟨_,rfl,fun h=>by cases h⟩
theorem r_put12{l:List zaf}{i:zaf}(hl:l.length≤1000):∃r e,ycr l i=some (r,(e,()))∧(e=0→okA1 i∧(∀x∈r,x∈l∨x=i)∧r.length≤l.length+1):=by
 show ∃r e,zko stdW l i=some (r,(e,()))∧_
 unfold zko
 obtain⟨b,hb,hbo⟩:=r_is12 (a:=i)
 have e0:yis (i.1,(i.2.1,(i.2.2.1,())))=some b:=hb
 rw[zaa (show zkp stdW i=some b from e0)]
 cases b with
 |false=>rw[cnd_y (by decide)]; exact⟨[],2,rfl,by simp⟩
 |true=>
  rw[cnd_n (by decide)]
  show ∃r e,stdW.call (zrn l i.1) _=some (r,(e,()))∧_
  rw[zaa (zrr hl)]
  by_cases hf:(findA l i.1).2.1=true
  ·rw[cnd_y hf]; exact⟨[],12,rfl,by simp⟩
  ·rw[cnd_n (by simpa using hf),join_w]
   refine loop_P (fun o=>∃(r:List zaf) (e:Int),o=some (r,(e,()))∧(e=0→okA1 i∧(∀x∈r,x∈l∨x=i)∧r.length≤l.length+1)) (fun z=>l.length+1 - z.1.toNat) (fun z=>∃j:Nat,j≤l.length∧z=((j:Int),())) ⟨0,Nat.zero_le _,rfl⟩ (by show _ - (0:Int).toNat<_; omega) ?_
   rintro _ ⟨j,hj,rfl⟩ again ha
   have fin:∃(r:List zaf) (e:Int),stdW.bnd (j:Int) l.length (fun h4=>stdW.room (l.take h4).length 24 (stdW.room ((l.take h4).length+(i::([]:List zaf)).length) 24 (stdW.bnd (j:Int) l.length fun h5=>stdW.room (((l.take h4)++(i::([]:List zaf))).length+((l.take l.length).drop h5).length) 24 (some ((((l.take h4)++(i::([]:List zaf)))++((l.take l.length).drop h5)),((0:Int),()))))))=some (r,(e,()))∧(e=0→okA1 i∧(∀x∈r,x∈l∨x=i)∧r.length≤l.length+1):=by
    rw[bnd_w (by omega) (by omega),Int.toNat_natCast]
    have l1:(l.take j).length≤1000:=by rw[List.length_take]; omega
    rw[room_w (by omega) (by omega),room_w (by simp only[List.length_cons,List.length_nil]; omega) (by simp only[List.length_cons,List.length_nil]; omega),bnd_w (by omega) (by omega),Int.toNat_natCast,List.take_length,
     room_w (by simp only[List.length_append,List.length_drop,List.length_cons,List.length_nil]; omega) (by simp only[List.length_append,List.length_drop,List.length_cons,List.length_nil]; omega)]
    refine⟨_,_,rfl,fun _=>⟨hbo rfl,fun x hx=>?_,by simp only[List.length_append,List.length_drop,List.length_cons,List.length_nil,List.length_take]; omega⟩⟩
    rcases List.mem_append.1 hx with hx|hx
    ·rcases List.mem_append.1 hx with hx|hx
     ·exact .inl (List.mem_of_mem_take hx)
     ·simp only[List.mem_singleton]at hx
      exact .inr hx
    ·exact .inl (List.mem_of_mem_drop hx)
   show ∃r e,stdW.cnd (decide ((j:Int)<(l.length:Int))) _ _=_∧_
   by_cases h:j<l.length
   ·rw[cnd_lt h]
    show ∃r e,stdW.idx l (j:Int) _=_∧_
    rw[idx_w h]
    by_cases h1:l[j].1<i.1
    ·rw[cnd_y (decide_eq_true h1)]
     show ∃r e,again (IntKind.i64.wrap ((j:Int)+1),())=_∧_
     rw[i64_s j (by omega)]
     exact ha _ ⟨j+1,by omega,rfl⟩ (by show _ - ((j+1:Nat):Int).toNat<_ - ((j:Nat):Int).toNat; omega)
    ·rw[cnd_n (decide_eq_false h1)]; exact fin
   ·have:j=l.length:=by omega
    subst this
    rw[zaj]; exact fin
theorem r_table12{l:List zaf}(hl:l.length≤9223372036854775807):∃t,zoy l=some t∧(∀a∈t,okA1 a)∧t.length≤8:=by
 show ∃t,zgw stdW l=some t∧_
 unfold zgw
 rw[join_w]
 refine loop_P (fun o=>∃t:List zaf,o=some t∧(∀a∈t,okA1 a)∧t.length≤8) (fun z=>l.length+1 - z.2.1.toNat) (fun z=>∃(j:Nat) (acc:List zaf),j≤l.length∧j≤8∧acc.length≤j∧(∀a∈acc,okA1 a)∧z=(acc,((j:Int),()))) ⟨0,[],Nat.zero_le _,Nat.zero_le _,Nat.le_refl _,by simp,rfl⟩ (by show _ - (0:Int).toNat<_; omega) ?_
 rintro _ ⟨j,acc,hj,hj10,hacc,hok,rfl⟩ again ha
 have fin:∃t,(some acc:Option (List zaf))=some t∧(∀a∈t,okA1 a)∧t.length≤8:=⟨acc,rfl,hok,by omega⟩
 show ∃t,stdW.cnd (decide ((j:Int)<(l.length:Int))) (stdW.cnd (decide ((j:Int)<8)) _ _) _=some t∧_
 by_cases h:j<l.length
 ·rw[cnd_lt h]
  by_cases h10:j<8
  ·rw[cnd_y (decide_eq_true (by omega)),join_w]
   show ∃t,stdW.idx l (j:Int) _=some t∧_
   rw[idx_w h]
   obtain⟨r,e,hp,hr⟩:=r_put12 (l:=acc) (i:=l[j]) (by omega)
   have nxt:∀a:List zaf,a.length≤j+1→(∀x∈a,okA1 x)→∃t,again (a,(IntKind.i64.wrap ((j:Int)+1),()))=some t∧(∀a∈t,okA1 a)∧t.length≤8:=by
    intro a h1 h2
    rw[i64_s j (by omega)]
    exact ha _ ⟨j+1,a,by omega,by omega,h1,h2,rfl⟩ (by show _ - ((j+1:Nat):Int).toNat<_ - ((j:Nat):Int).toNat; omega)
   show ∃t,stdW.call (ycr acc l[j]) _=some t∧_
   rw[zaa hp]
   by_cases he:e=0
   ·obtain⟨h0,h1,h2⟩:=hr he
    rw[cnd_y (by simpa using he)]
    exact nxt r (by omega) (fun x hx=>(h1 x hx).elim (hok x) fun h3=>h3▸h0)
   ·rw[cnd_n (by simpa using he)]
    exact nxt acc (by omega) hok
  ·rw[cnd_n (decide_eq_false (by omega))]; exact fin
 ·have:j=l.length:=by omega
  subst this
  rw[zaj]; exact fin
structure Few31(s t:zad):Prop where
 a:∀a∈asS t,okA1 a
 aL:(asS t).length≤8
 c:∀a∈t.2.2.2.2.1,okAc a∧a.2.2.2.1.length≤20
 cL:t.2.2.2.2.1.length≤20
 p:pu t=(pu s).take 20
 h:ho t=few26 (ho s)
theorem r_few31{s:zad}(h1:(asS s).length≤9223372036854775807)(h3l:s.2.2.2.2.1.length≤9223372036854775807)(h3:∀a∈s.2.2.2.2.1,a.2.2.2.1.length≤9223372036854775807)
  (h6:(pu s).length≤9223372036854775807) (h7:(ho s).length≤9223372036854775807) (h7m:∀p∈ho s,p.2.1.length≤9223372036854775807):
  ∃t,zqn s=some t∧Few31 s t:=by
 show ∃t,zht stdW s=_∧_
 unfold zht
 rw[join_w]
 obtain⟨t12,e12,g12,g12l⟩:=r_table12 h1
 have e12':zoy s.2.2.2.1=some t12:=e12
 have e17:zvr s.2.2.2.2.2.2.2.2.2.2.1=some ((pu s).take 20):=r_few17 _ h6
 have e26:zvq s.2.2.2.2.2.2.2.2.2.2.2.1=some (few26 (ho s)):=r_few26 h7 h7m
 have h3':∀i (h:i<s.2.2.2.2.1.length),s.2.2.2.2.1[i].2.2.2.1.length≤9223372036854775807:=fun i h=>h3 _ (List.getElem_mem h)
 generalize s.2.2.2.2.1=l at*
 refine loop_P (fun o=>∃t:zad,o=some t∧Few31 s t) (fun z=>l.length+1 - z.1.toNat)
  (fun z=>∃(j:Nat) (acc:List zab),j≤l.length∧j≤20∧acc.length≤j∧(∀a∈acc,a.2.2.2.1.length≤20)∧z=((j:Int),(acc,()))) ⟨0,[],Nat.zero_le _,Nat.zero_le _,Nat.le_refl _,by simp,rfl⟩ (by show _ - (0:Int).toNat<_; omega) ?_
 rintro _ ⟨j,acc,hj,hj20,hacc,hok,rfl⟩ again ha
 have fin:∃t:zad,(stdW.call (zoy s.2.2.2.1) fun v2=>stdW.call (zuv acc) fun v3=>stdW.call (zvr s.2.2.2.2.2.2.2.2.2.2.1) fun v4=>stdW.call (zvq s.2.2.2.2.2.2.2.2.2.2.2.1) fun v5=>some ((0:Int),(([]:List zbh),(([]:List AInst'),(v2,(v3,(([]:List zbi),(([]:List zbx),(([]:List AGive'),(([]:List APos'),(([]:List APos'),(v4,(v5,())))))))))))))=some t∧Few31 s t:=by
  obtain⟨t15,e15,g1⟩:=r_table15 (l:=acc) (fun x hx=>by have:=hok x hx; omega) (by omega)
  rw[zaa e12',zaa e15,zaa e17,zaa e26]
  exact⟨_,rfl,g12,g12l,fun a ha=>⟨(g1.1 a ha).2,hok a (g1.1 a ha).1⟩,g1.2.1,rfl,rfl⟩
 show ∃t:zad,stdW.cnd (decide ((j:Int)<(l.length:Int))) (stdW.cnd (decide ((j:Int)<20)) _ _) _=_∧_
 by_cases h:j<l.length
 ·rw[cnd_lt h]
  by_cases h20:j<20
  ·rw[cnd_y (decide_eq_true (by omega))]
   show ∃t:zad,stdW.idx l (j:Int) _=_∧_
   rw[idx_w h]
   show ∃t:zad,stdW.call (zpk l[j]) _=_∧_
   rw[zaa (show zpk l[j]=some (zuj l[j]) from r_short (h3' j h))]
   show ∃t:zad,stdW.room (acc.length+1) 48 (again (IntKind.i64.wrap ((j:Int)+1),(acc++[zuj l[j]],())))=_∧_
   rw[room_w (by omega) (by omega),i64_s j (by omega)]
   refine ha _ ⟨j+1,acc++[zuj l[j]],by omega,by omega,by simp; omega,fun a hm=>?_,rfl⟩ (by show _ - ((j+1:Nat):Int).toNat<_ - ((j:Nat):Int).toNat; omega)
   rcases List.mem_append.1 hm with hm|hm
   ·exact hok a hm
   ·simp only[List.mem_singleton]at hm; subst hm
    show (l[j].2.2.2.1.take 20).length≤20
    rw[List.length_take]; omega
  ·rw[cnd_n (decide_eq_false (by omega))]; exact fin
 ·have:j=l.length:=by omega
  subst this
  rw[zaj]; exact fin
structure OkS(t:zad):Prop where
 a:∀a∈asS t,okA1 a
 aL:(asS t).length≤8
 c:∀a∈t.2.2.2.2.1,okAc a∧a.2.2.2.1.length≤20
 cL:t.2.2.2.2.1.length≤20
 f:okF (pu t)
 fL:(pu t).length≤20
 h:okHs (ho t)
 hL:(ho t).length≤10
end Go.Proofs.YtllkmncnmlmefaaGreat