import Derived.Test.YtllkmncnmlmefaaGreatB7
import Derived.Test.YtllkmncnmlmefaaGreatRows
import Derived.JoinedOf
namespace Go.Proofs.YtllkmncnmlmefaaGreat
open Go Go.Vc Go.RowKit
def notH(u:AUnit')(c:zag):Bool:=decide (c.1≠u)
theorem r_drop1(c:zag)(u:AUnit'):zgc c u.1 u.2.1=some (!(notH u c),u):=by
 show some (notIf false ((c.1.1==u.1)&&(c.1.2.1==u.2.1)),u)=_
 rw[unitEq]
 unfold notH
 by_cases h:c.1=u<;>simp[h]
theorem r_ixH{l:List zag}{u:AUnit'}(hl:l.length≤1000000):
  (zaj l u.1 u.2.1=some (-1,u)∧∀a∈l,notH u a=true)∨
  ∃i:Nat,i<l.length∧zaj l u.1 u.2.1=some ((i:Int),u)∧(∀a∈l.take i,notH u a=true)∧∀h:i<l.length,notH u l[i]=false:=by
 have e:zaj l u.1 u.2.1=some (ixP (λc=>!(notH u c)) l,u):=by
  show zam stdW l u.1 u.2.1=_
  unfold zam
  exact ypn hl (λc=>!(notH u c)) (λ(m:zag) (c:AUnit')=>zgc m c.1 c.2.1) u λx _=>r_drop1 x u
 rw[e]
 unfold ixP
 cases h:l.findIdx? λc=>!(notH u c) with
 |none=>
  rw[List.findIdx?_eq_none_iff]at h
  exact .inl ⟨rfl,λa ha=>by simpa using h a ha⟩
 |some k=>
  obtain⟨h1,h2,h3⟩:=List.findIdx?_eq_some_iff_getElem.1 h
  refine .inr ⟨k,h1,rfl,λa ha=>?_,λ_=>by simpa using h2⟩
  obtain⟨j,hj,rfl⟩:=List.mem_iff_getElem.1 ha
  rw[List.length_take]at hj
  have:=h3 j (by omega)
  rw[List.getElem_take]
  simpa using this
theorem r_delH{l:List zag}{u:AUnit'}(hl:l.length≤1000000):zav u.1 u.2.1 l=some (l.filter (notH u),u):=by
 show zal stdW u.1 u.2.1 l=_
 unfold zal
 rcases r_ixH (u:=u) hl with ⟨e,hall⟩|⟨i0,hi0,e,hp,hn⟩
 ·rw[zaa e,cnd_y (by rfl),List.filter_eq_self.2 hall]
 ·rw[zaa e,cnd_n (show ((i0:Int) == -1)=false by simp)]
  have hi0':i0+1≤l.length:=hi0
  have hf0:(l.take (i0+1)).filter (notH u)=l.take i0:=by
   rw[List.take_succ_eq_append_getElem hi0,List.filter_append,List.filter_eq_self.2 hp,List.filter_cons,hn hi0]; simp
  have hz:((i0:Int),((IntKind.i64.wrap ((i0:Int)+1)),(u.1,(u.2.1,(l,())))))=(((i0:Nat):Int),(((i0+1:Nat):Int),(u.1,(u.2.1,(l,()))))):=by rw[i64_s i0 (by omega)]
  show stdW.loop _ ((i0:Int),((IntKind.i64.wrap ((i0:Int)+1)),(u.1,(u.2.1,(l,())))))=_
  rw[hz]
  refine(zdm (λz=>l.length+1 - z.2.1.toNat) (λz=>∃(i j:Nat) (s:List zag),i<j∧j≤l.length∧s.length=l.length∧s.take i=(l.take j).filter (notH u)∧s.drop j=l.drop j∧z=((i:Int),((j:Int),(u.1,(u.2.1,(s,())))))) (λ_=>some (l.filter (notH u),u)) ⟨i0,i0+1,l,by omega,hi0',rfl,hf0.symm,rfl,rfl⟩ (by show l.length+1 - (((i0+1:Nat):Int)).toNat<_; omega) ?_)
  rintro _ ⟨i,j,s,hij,hj,hs,ht,hd,rfl⟩ again ha
  show stdW.cnd (decide ((j:Int)<(s.length:Int))) _ _=_
  by_cases h:j<s.length
  ·have hjl:j<l.length:=by omega
   have hx:s[j]=l[j]:=by
    have h1:(s.drop j)[0]?=(l.drop j)[0]?:=by rw[hd]
    rw[List.getElem?_drop,List.getElem?_drop,Nat.add_zero,List.getElem?_eq_getElem h,List.getElem?_eq_getElem hjl]at h1
    exact Option.some.inj h1
   rw[cnd_lt h]
   refine join_g λk5 hk5=>?_
   have kk:∀(i':Nat) (s':List zag),i'<j+1→s'.length=l.length→s'.take i'=(l.take (j+1)).filter (notH u)→s'.drop (j+1)=l.drop (j+1)→k5 ((i':Int),(u.1,(u.2.1,(s',()))))=some (l.filter (notH u),u):=by
    intro i' s' g1 g2 g3 g4
    subst hk5
    show again ((i':Int),(IntKind.i64.wrap ((j:Int)+1),(u.1,(u.2.1,(s',())))))=_
    rw[i64_s j (by omega)]
    exact ha _ ⟨i',j+1,s',by omega,by omega,g2,g3,g4,rfl⟩ (by show l.length+1 - (((j+1:Nat):Int)).toNat<l.length+1 - (((j:Nat):Int)).toNat; omega)
   clear hk5 ha
   have hd1:s.drop (j+1)=l.drop (j+1):=by
    have:=congrArg (List.drop 1) hd
    rwa [List.drop_drop,List.drop_drop]at this
   have il:i<s.length:=by omega
   show stdW.idx s (j:Int) _=_
   rw[idx_w h]
   show stdW.nth s (Int.toNat (j:Int)) _=_
   rw[nth_w h,hx,zaa (r_drop1 _ _)]
   by_cases hv:notH u l[j]=true
   ·rw[hv,cnd_y (by rfl)]
    show stdW.idx s (i:Int) _=_
    rw[idx_w il]
    show stdW.nth s (Int.toNat (i:Int)) _=_
    rw[nth_w il]
    show k5 (IntKind.i64.wrap ((i:Int)+1),(u.1,(u.2.1,(s.set (Int.toNat (i:Int)) l[j],()))))=_
    rw[Int.toNat_natCast,i64_s i (by omega)]
    refine kk (i+1) (s.set i l[j]) (by omega) (by rw[List.length_set]; exact hs) ?_ ?_
    ·rw[List.take_succ_eq_append_getElem hjl,List.filter_append,←ht,List.filter_cons,hv,List.filter_nil,if_pos rfl]
     have h1:i<(s.set i l[j]).length:=by rw[List.length_set]; exact il
     rw[List.take_succ_eq_append_getElem h1,List.getElem_set_self]
     congr 1
     rw[List.take_set_of_le (Nat.le_refl _)]
    ·rw[List.drop_set_of_lt (by omega)]; exact hd1
   ·have hv:notH u l[j]=false:=by simpa using hv
    rw[hv,cnd_n (by rfl)]
    refine kk i s (by omega) hs ?_ hd1
    rw[List.take_succ_eq_append_getElem hjl,List.filter_append,List.filter_cons,hv,ht]; simp
  ·have:j=s.length:=by omega
   subst this
   have hll:s.length=l.length:=hs
   rw[zah]
   show stdW.bnd (i:Int) s.length _=_
   rw[bnd_w (by omega) (by omega),Int.toNat_natCast]
   show stdW.bnd (i:Int) s.length _=_
   rw[bnd_w (by omega) (by omega),Int.toNat_natCast]
   show stdW.bnd (i:Int) (s.take i++List.replicate (s.length - i) ((0,(0,())),((0,(0,())),(false,())))).length _=_
   have hlt:(s.take i).length=i:=by rw[List.length_take]; omega
   rw[bnd_w (by omega) (by rw[List.length_append,hlt]; omega),Int.toNat_natCast]
   show some ((s.take i++List.replicate (s.length - i) ((0,(0,())),((0,(0,())),(false,())))).take i,u)=_
   rw[List.take_append_of_le_length (by omega),List.take_take,Nat.min_self,ht,hll,List.take_length]
theorem r_cloneC{s:List zag}(h:s.length≤1000000):zbx s=some s:=by
 show zbj stdW s=_
 unfold zbj
 rw[nilq_w]
 refine yjn ?_ λhe=>?_
 ·show stdW.cnd (notIf false false) _ _=_
  rw[cnd_n (by decide),room_w (by omega) (by omega)]; rfl
 ·have:s=[]:=by simpa using he
  subst this; rfl
theorem r_edrop{l:List zag}{u:AUnit'}(hl:l.length≤1000000):zgs l u=some (dropH l u):=by
 show zmi stdW l u=_
 unfold zmi
 rw[zaa (r_cloneC hl),zaa (r_delH hl)]; rfl
theorem zzt{f:Int→Int}:∀(us:List Int) (acc:List Leg),(∀u∈us,I64 (f u))→goV f us acc=(acc++(us.filter λu=>decide (f u≠0)).map (λu=>((u,(f u,())):Leg)),(0,()))
 |[],acc,_=>by simp[goV]
 |k::us,acc,h=>by
  rw[goV,if_pos (h k (by simp)),List.filter_cons]
  by_cases h0:f k=0
  ·rw[if_pos h0,zzt us acc λu hu=>h u (by simp[hu]),if_neg (by simpa using h0)]
  ·rw[if_neg h0,zzt us _ λu hu=>h u (by simp[hu]),if_pos (by simpa using h0),List.append_assoc]; rfl
theorem yqe{f:Int→Int}:∀(us:List Int) (acc:List Leg),(∃u∈us,¬I64 (f u))→goV f us acc=([],(7,()))
 |[],acc,h=>by obtain⟨u,hu,_⟩:=h; cases hu
 |k::us,acc,h=>by
  rw[goV]
  by_cases hk:I64 (f k)
  ·have h':∃u∈us,¬I64 (f u):=by
    obtain⟨u,hu,hn⟩:=h
    rcases List.mem_cons.1 hu with rfl|hu
    ·exact absurd hk hn
    ·exact⟨u,hu,hn⟩
   rw[if_pos hk,yqe us _ h',yqe us _ h']
   split<;>rfl
  ·rw[if_neg hk]
def negV(l:List Leg):List Leg×Int×Unit:=if isV l=true then goV (λj => -(getV l j)) ks [] else ([],(3,()))
def negL(l:List Leg):List Leg:=l.map λx=>((x.1,(-x.2.1,())):Leg)
theorem negL_V{l:List Leg}(h:VInv l):VInv (negL l):=by
 refine⟨λx hx=>?_,?_⟩
 ·obtain⟨y,hy,rfl⟩:=List.mem_map.1 hx
  have:=h.1 y hy
  exact⟨this.1,by have:=this.2; show -y.2.1≠0; omega⟩
 ·unfold negL
  rw[List.map_map]
  exact h.2
theorem ysh(l:List Leg)(k:Int):getV (negL l) k = -(getV l k):=by
 induction l with
 |nil=>rfl
 |cons x l ih=>
  show getV ((x.1,(-x.2.1,()))::negL l) k = -(getV (x::l) k)
  rw[getV,getV,ih]
  show (if x.1=k then -x.2.1 else -(getV l k))=_
  split<;>rfl
theorem yol{l:List Leg}(h:VInv l){x:Leg}(hx:x∈l):getV l x.1=x.2.1:=by
 have hn:(l.map (·.1)).Nodup:=h.2.imp λ{a b} (hab:a<b) e=>by omega
 clear h
 induction l with
 |nil=>cases hx
 |cons y l ih=>
  obtain⟨h1,h2⟩:=List.nodup_cons.1 hn
  rw[getV]
  rcases List.mem_cons.1 hx with rfl|hx
  ·rw[if_pos rfl]
  ·rw[if_neg λe=>h1 (by show y.1∈_; rw[e]; exact List.mem_map_of_mem hx),ih hx h2]
theorem ymv{l:List Leg}(hv:isV l=true)(h:∀x∈l,I64 (-x.2.1)):negV l=(negL l,(0,())):=by
 have hV:VInv l:=of_decide_eq_true hv
 have hg:∀u,I64 (-(getV l u)):=λu=>by
  by_cases hu:u∈l.map (·.1)
  ·obtain⟨x,hx,rfl⟩:=List.mem_map.1 hu
   rw[yol hV hx]; exact h x hx
  ·rw[ycz λx hx e=>hu (List.mem_map.2 ⟨x,hx,e⟩)]; unfold I64; omega
 unfold negV
 rw[if_pos hv,zzt ks [] λu _=>hg u,List.nil_append]
 congr 1
 refine V_ext (resV_V λj => -(getV l j)) (negL_V hV) λu=>?_
 show getV (resV λj => -(getV l j)) u=_
 rw[ysh,yhp]
 intro hk
 show -(getV l u)=0
 rw[ykc hV hk]; rfl
theorem ysg{l:List Leg}(hv:isV l=true){x:Leg}(hx:x∈l)(h:¬I64 (-x.2.1)):negV l=([],(7,())):=by
 have hV:VInv l:=of_decide_eq_true hv
 unfold negV
 rw[if_pos hv]
 refine yqe ks [] ⟨x.1,(ks_mem _).2 (hV.1 x hx).1,?_⟩
 show ¬I64 (-(getV l x.1))
 rw[yol hV hx]; exact h
theorem r_vneg{l:List Leg}(ho:okL l)(hl:l.length≤1000):yos l=some (negV l):=by
 show zyy stdW l=_
 unfold zyy
 rw[zaa (r_none (l:=l) (by omega))]
 by_cases hv:isV l=true
 case neg=>
  have hv':isV l=false:=by simpa using hv
  rw[hv',cnd_y (by rfl)]
  unfold negV; rw[if_neg hv]
 rw[hv,cnd_n (by rfl)]
 have hsub:∀x∈l,zxj 0 x.2.1=some (fits64 (-x.2.1)):=λx hx=>by
  have e:=r_fSub (a:=0) (b:=x.2.1) (by unfold I64; omega) (ho x hx)
  rwa [Int.zero_sub]at e
 by_cases hall:∀x∈l,I64 (-x.2.1)
 ·rw[ymv hv hall]
  refine(zen (l:=l) (s0:=[]) (by omega) (λi (z:List Leg)=>((i:Int),(z,()))) (λi z=>z.length≤i) (λl' z=>some (z++negL l',(0,()))) rfl (Nat.le_refl _) ?_ ?_).trans (by rw[List.nil_append])
  ·intro z _ again
   show stdW.cnd (decide ((l.length:Int)<(l.length:Int))) _ _=some (z++[],(0,()))
   rw[zah,List.append_nil]
  ·intro i hi z hz again ha
   have hx:=List.getElem_mem hi
   show stdW.cnd (decide ((i:Int)<(l.length:Int))) (stdW.idx l (i:Int) _) _=_
   rw[cnd_lt hi,idx_w hi,zaa (hsub _ hx),zmf (hall _ hx),cnd_n (by rfl)]
   show stdW.room (z.length+1) 16 (again (IntKind.i64.wrap ((i:Int)+1),(z++[(l[i].1,(-l[i].2.1,()))],())))=_
   rw[room_w (by omega) (by omega),i64_s i (by omega),ha _ (by rw[List.length_append]; simp; omega),List.append_assoc]; rfl
 ·have hex:∃x∈l,¬I64 (-x.2.1):=Classical.byContradiction λh=>hall λx hx=>Classical.byContradiction λhn=>h ⟨x,hx,hn⟩
  obtain⟨x,hx,hn⟩:=hex
  rw[ysg hv hx hn]
  refine zen (l:=l) (s0:=[]) (by omega) (λi (z:List Leg)=>((i:Int),(z,()))) (λi z=>z.length≤i∧∃y∈l.drop i,¬I64 (-y.2.1)) (λl' z=>some ([],(7,()))) rfl ⟨Nat.le_refl _,x,hx,hn⟩ ?_ ?_
  ·rintro z ⟨_,y,hy,_⟩ again
   rw[List.drop_length]at hy; cases hy
  ·rintro i hi z ⟨hz,y,hy,hny⟩ again ha
   have hxi:=List.getElem_mem hi
   show stdW.cnd (decide ((i:Int)<(l.length:Int))) (stdW.idx l (i:Int) _) _=_
   rw[cnd_lt hi,idx_w hi,zaa (hsub _ hxi)]
   by_cases hI:I64 (-l[i].2.1)
   ·rw[zmf hI,cnd_n (by rfl)]
    show stdW.room (z.length+1) 16 (again (IntKind.i64.wrap ((i:Int)+1),(z++[(l[i].1,(-l[i].2.1,()))],())))=_
    rw[List.drop_eq_getElem_cons hi]at hy
    have hy':y∈l.drop (i+1):=(List.mem_cons.1 hy).resolve_left λe=>hny (by rw[e]; exact hI)
    rw[room_w (by omega) (by omega),i64_s i (by omega),ha _ ⟨by rw[List.length_append]; simp; omega,y,hy',hny⟩]
   ·rw[zha hI,cnd_y (by rfl)]
theorem r_neg11L{l:List Leg}(ho:okL l)(hl:l.length≤1000):ybo l=some (negV l):=by
 show zpe stdW l=_
 unfold zpe negV
 rw[zaa (yiq (l:=l) (by omega))]
 by_cases hv:isV l=true
 case neg=>
  rw[if_neg hv]
  have hv':isV l=false:=by simpa using hv
  rw[hv',cnd_y (by rfl)]
 rw[if_pos hv,hv,cnd_n (by decide),nn_w (by omega),room_w (by decide) (by decide),bnd_w (by omega) (by decide)]
 let f:Int→Int:=λu => -(getV l u)
 have h0:(0,(List.replicate (Int.toNat 8) ((false,([],())):BigT),()))=((((0:Nat):Int)),(bigs (mix f (λ_=>0) 0),())):=by
  rw[bigs_0,←yrp]; rfl
 refine zly (N:=8) (by omega) (λj=>((j:Int),(bigs (mix f (λ_=>0) j),()))) _ h0 ?_ ?_
 ·intro again
  show stdW.cnd (decide ((8:Int)<8)) _ (stdW.call (zpd (bigs (mix f (λ_=>0) 8))) _)=_
  have hf:∀u∈ks,sml (f u):=λu _=>by
   have:=zxf ho u
   show sml (-(getV _ u))
   unfold I64 at this; unfold sml; omega
  rw[cnd_n (by decide),bigs_8,zaa (r_ofV hf)]
 ·intro j hj again ha
  have hlj:j<(bigs (mix f (λ_=>0) j)).length:=by rw[zqx]; exact hj
  have hg:=zxf ho ((j:Int)+1)
  have e1:IntKind.i64.wrap ((j:Int)+1)=(j:Int)+1:=by rw[i64_s j (by omega)]; omega
  have e2:zcx (getV l ((j:Int)+1))=some (big (getV l ((j:Int)+1))):=r_of hg
  have e3:=r_negB (zsc hg)
  show stdW.cnd (decide ((j:Int)<8)) (stdW.call (zfz l (IntKind.i64.wrap ((j:Int)+1))) _) _=_
  rw[cnd_y (decide_eq_true (by omega)),e1,zaa (r_get11 (by omega)),zaa e2]
  show stdW.call (ziz (big (getV l ((j:Int)+1)))) _=_
  rw[zaa e3]
  show stdW.idx (bigs (mix f (λ_=>0) j)) (j:Int) _=_
  rw[idx_w hlj,nth_w hlj]
  show again ((j:Int)+1,((bigs (mix f (λ_=>0) j)).set (Int.toNat (j:Int)) (big (f ((j:Int)+1))),()))=_
  rw[Int.toNat_natCast,ytn hj]
  exact ha
def moveL(l:List APos')(f t:AUnit')(legs:List Leg):List APos'×Int×Unit:=
 if isB l=true then (
  if (negV legs).2.1=0 then (
   if (shiftP l f (negV legs).1).2.1=0 then shiftP (shiftP l f (negV legs).1).1 t legs else ([],(shiftP l f (negV legs).1).2))
  else ([],(negV legs).2))
 else ([],(3,()))
theorem ypk{l:List Leg}(h:(negV l).2.1=0):isV l=true∧(negV l).1=negL l∧okL (negL l):=by
 by_cases hv:isV l=true
 case neg=>unfold negV at h; rw[if_neg hv]at h; cases h
 by_cases hall:∀x∈l,I64 (-x.2.1)
 ·rw[ymv hv hall]
  exact⟨hv,rfl,λx hx=>by
   obtain⟨y,hy,rfl⟩:=List.mem_map.1 hx
   exact hall y hy⟩
 ·have hex:∃x∈l,¬I64 (-x.2.1):=Classical.byContradiction λh=>hall λx hx=>Classical.byContradiction λhn=>h ⟨x,hx,hn⟩
  obtain⟨x,hx,hn⟩:=hex
  rw[ysg hv hx hn]at h; cases h
theorem r_bmoveL{l:List APos'}{f t:AUnit'}{legs:List Leg}(hb:okB l)(hl:l.length≤80)(ho:okL legs)(hg:legs.length≤100):zvh l f t legs=some (moveL l f t legs):=by
 show zqv stdW l f t legs=_
 unfold zqv moveL
 rw[zaa (r_isB hb)]
 by_cases hp:isB l=true
 case neg=>
  have hp':isB l=false:=by simpa using hp
  rw[if_neg hp,hp',cnd_y (by rfl)]
 rw[if_pos hp,hp,cnd_n (by rfl),zaa (r_vneg ho (by omega))]
 by_cases hn:(negV legs).2.1=0
 case neg=>rw[if_neg hn,cnd_y (by simpa using hn)]
 obtain⟨_,n2,n3⟩:=ypk hn
 rw[if_pos hn,cnd_n (by simpa using hn),n2,zaa (r_shift hb (by omega) n3 (by unfold negL; rw[List.length_map]; exact hg))]
 by_cases he:(shiftP l f (negL legs)).2.1=0
 case neg=>rw[if_neg he,cnd_y (by simpa using he)]
 have S:=zzb he
 have hlen:=S.len
 rw[if_pos he,cnd_n (by simpa using he),zaa (r_shift (S.ok hb (by omega)) (by omega) ho hg)]
theorem r_move19L{l:List APos'}{f t:AUnit'}{legs:List Leg}(hb:okB l)(hl:l.length≤80)(ho:okL legs)(hg:legs.length≤100):zor l f t legs=some (moveL l f t legs):=by
 show zkl stdW l f t legs=_
 unfold zkl moveL
 rw[zaa (ypb hb)]
 by_cases hp:isB l=true
 case neg=>
  have hp':isB l=false:=by simpa using hp
  rw[if_neg hp,hp',cnd_y (by rfl)]
 rw[if_pos hp,hp,cnd_n (by rfl),zaa (r_neg11L ho (by omega))]
 by_cases hn:(negV legs).2.1=0
 case neg=>rw[if_neg hn,cnd_y (by simpa using hn)]
 obtain⟨_,n2,n3⟩:=ypk hn
 rw[if_pos hn,cnd_n (by simpa using hn),n2,zaa (yme hb n3 (by unfold negL; rw[List.length_map]; exact hg))]
 by_cases he:(shiftP l f (negL legs)).2.1=0
 case neg=>rw[if_neg he,cnd_y (by simpa using he)]
 have S:=zzb he
 rw[if_pos he,cnd_n (by simpa using he),zaa (yme (S.ok hb (by omega)) ho hg)]
def goneS(s:zae)(c:List zag)(b:List APos')(p:List AFlow')(h:List AHold'):zae:=(s.1,(s.2.1,(s.2.2.1,(s.2.2.2.1,(s.2.2.2.2.1,(c,(s.2.2.2.2.2.2.1,(s.2.2.2.2.2.2.2.1,(b,(s.2.2.2.2.2.2.2.2.2.1,(p,(h,()))))))))))))
def portB(s:zae)(f:AUnit'):List APos'×Int×Unit:=moveL (bk s) f (mayP s f).1 (ofB (bk s) f)
def portC(s:zae)(f:AUnit'):List AFlow'×Int×Unit:=moveP (pu s) f (mayP s f).1 (getP (pu s) f)
def portH(s:zae)(f:AUnit'):List AHold'×Int×Unit:=moveH (ho s) f (mayP s f).1
def portP(s:zae)(f:AUnit'):zae×AUnit'×Int×Unit:=
 if (mayP s f).2.1=0 then (
  if (portB s f).2.1=0 then (
   if (portC s f).2.1=0 then (
    if (portH s f).2.1=0 then (goneS s (dropH (ch s) f) (portB s f).1 (portC s f).1 (portH s f).1,((mayP s f).1,(0,())))
    else (noS,(zU,((portH s f).2.1,()))))
   else (noS,(zU,((portC s f).2.1,()))))
  else (noS,(zU,((portB s f).2.1,()))))
 else (noS,(zU,((mayP s f).2.1,())))
theorem may_ok{s:zae}{f:AUnit'}(h:(mayP s f).2.1=0):isB (bk s)=true∧emptyU s (mayP s f).1:=by
 unfold mayP at h ⊢
 split
 case isFalse hl=>rw[if_neg hl]at h; exact absurd h hl
 rename_i hl
 rw[if_pos hl]at h
 split
 case isFalse hr=>rw[if_neg hr]at h; exact absurd h hr
 rename_i hr
 rw[if_pos hr]at h
 split
 case isFalse hc=>rw[if_neg hc]at h; exact absurd h hc
 rename_i hc
 show isB (bk s)=true∧emptyU s (readyP (ch s) f).1
 generalize (readyP (ch s) f).1=t at*
 unfold comesE at hc
 split at hc
 case isFalse h4=>exact absurd hc h4
 split at hc
 ·cases hc
 split at hc
 case isFalse=>cases hc
 split at hc
 case isFalse=>cases hc
 rename_i he
 split at hc
 case isFalse h7=>exact absurd hc h7
 rename_i h7
 refine⟨?_,he⟩
 unfold heldP at h7
 split at h7
 ·assumption
 ·cases h7
theorem addV_one{l:List Leg}(hv:isV l=true)(ho:okL l):addV [l]=(l,(0,())):=by
 have hV:VInv l:=of_decide_eq_true hv
 have hs:∀k,sumV [l] k=getV l k:=λk=>by show getV l k+0=_; omega
 unfold addV
 rw[if_pos (by simp[hv]),←ykb,zzt ks [] λu _=>by rw[hs]; exact zxf ho u,List.nil_append]
 congr 1
 refine V_ext (resV_V (sumV [l])) hV λu=>?_
 show getV (resV (sumV [l])) u=_
 rw[yhp,hs]
 intro hk
 rw[hs,ykc hV hk]
theorem r_port{s:zae}(O:OkP s)(f:AUnit'):znn s f=some (portP s f):=by
 show zpt stdW s f=_
 unfold zpt portP
 have hbl:=O.bl
 have hpl:=O.pl
 have hhl:=O.hl
 have hcl:=O.cL
 rw[zaa (r_may O f)]
 by_cases h1:(mayP s f).2.1=0
 case neg=>rw[cnd_y (by simpa using h1),if_neg h1]; rfl
 obtain⟨hB,hE⟩:=may_ok h1
 obtain⟨o1,o2⟩:=ofB_ok O.hb f
 have hv:isV (ofB (bk s) f)=true:=ypj hB f
 have e1:zod s.2.2.2.2.2.2.2.2.1 f=some (ofB (bk s) f):=r_bof O.hb
 rw[cnd_n (by simpa using h1),if_pos h1,zaa e1,zaa (r_vadd (l:=[ofB (bk s) f]) (by simp) (λv hm=>by simp only[List.mem_singleton]at hm; subst hm; omega) (λv hm=>by simp only[List.mem_singleton]at hm; subst hm; exact o1)),addV_one hv o1]
 have fin:∀(k8:Int×zae→Option (zae×AUnit'×Int×Unit)),(k8=λz6=>stdW.cnd (z6.1 != 0) (some (noS,(zU,(z6.1,())))) (stdW.call (zgs (ch z6.2) f) λv7=>some (goneS z6.2 v7 (bk z6.2) (pu z6.2) (ho z6.2),((mayP s f).1,(0,())))))→
   (∀st,ch st=ch s→k8 (0,st)=some (goneS st (dropH (ch s) f) (bk st) (pu st) (ho st),((mayP s f).1,(0,()))))∧∀e,e≠0→∀st,k8 (e,st)=some (noS,(zU,(e,()))):=by
  intro k8 hk
  subst hk
  refine⟨λst hst=>?_,λe he st=>?_⟩
  ·show stdW.cnd false _ (stdW.call (zgs (ch st) f) _)=_
   rw[cnd_n rfl,hst,zaa (r_edrop (by omega))]
  ·show stdW.cnd (e != 0) _ _=_
   rw[cnd_y (by simpa using he)]
 have hold:∀(k10:Int×zae→Option (zae×AUnit'×Int×Unit)),(k10=λz5=>stdW.join (λz6:Int×zae=>stdW.cnd (z6.1 != 0) (some (noS,(zU,(z6.1,())))) (stdW.call (zgs (ch z6.2) f) λv7=>some (goneS z6.2 v7 (bk z6.2) (pu z6.2) (ho z6.2),((mayP s f).1,(0,()))))) λk8=>stdW.cnd (z5.1==0) (stdW.call (znx (ho z5.2) f (mayP s f).1) λv9=>k8 (v9.2.1,goneS z5.2 (ch z5.2) (bk z5.2) (pu z5.2) v9.1)) (k8 z5))→
   (∀st,ch st=ch s→ho st=ho s→k10 (0,st)=some (if (portH s f).2.1=0 then (goneS st (dropH (ch s) f) (bk st) (pu st) (portH s f).1,((mayP s f).1,(0,()))) else (noS,(zU,((portH s f).2.1,())))))∧∀e,e≠0→∀st,k10 (e,st)=some (noS,(zU,(e,()))):=by
  intro k10 hk
  subst hk
  refine⟨λst hst hho=>?_,λe he st=>?_⟩
  ·refine join_g λk hk=>?_
   obtain⟨a1,a2⟩:=fin k hk
   show stdW.cnd true (stdW.call (znx (ho st) f (mayP s f).1) λv9=>k (v9.2.1,goneS st (ch st) (bk st) (pu st) v9.1)) _=_
   rw[cnd_y rfl,hho,zaa (r_hmove O.hh (by omega))]
   show k ((portH s f).2.1,goneS st (ch st) (bk st) (pu st) (portH s f).1)=_
   by_cases h:(portH s f).2.1=0
   ·rw[if_pos h,h,a1 (goneS st (ch st) (bk st) (pu st) (portH s f).1) hst]; rfl
   ·rw[if_neg h,a2 _ h]
  ·refine join_g λk hk=>?_
   obtain⟨a1,a2⟩:=fin k hk
   show stdW.cnd (e==0) _ (k (e,st))=_
   rw[cnd_n (by simpa using he),a2 _ he]
 have hg:I64 (getP (pu s) f):=ykd O.pf f
 refine join_g λk17 h17=>?_
 show stdW.cnd true (stdW.call (zvh (bk s) f (mayP s f).1 (ofB (bk s) f)) λv18=>k17 (v18.2.1,goneS s (ch s) v18.1 (pu s) (ho s))) _=_
 rw[cnd_y rfl,zaa (r_bmoveL O.hb (by omega) o1 o2)]
 show k17 ((portB s f).2.1,goneS s (ch s) (portB s f).1 (pu s) (ho s))=_
 by_cases h2:(portB s f).2.1=0
 ·rw[if_pos h2,h2]
  subst h17
  refine join_g λk hk=>?_
  obtain⟨a1,a2⟩:=hold k hk
  have e2:zez (pu s) f=some (getP (pu s) f):=r_get (by omega)
  have one:(stdW.call (zez (pu s) f) λv11=>stdW.call (zgr (pu s) f (mayP s f).1 v11) λv12=>k (v12.2.1,goneS s (ch s) (portB s f).1 v12.1 (ho s)))=some (if (portC s f).2.1=0 then (if (portH s f).2.1=0 then (goneS s (dropH (ch s) f) (portB s f).1 (portC s f).1 (portH s f).1,((mayP s f).1,(0,()))) else (noS,(zU,((portH s f).2.1,())))) else (noS,(zU,((portC s f).2.1,())))):=by
   rw[zaa e2,zaa (r_move O.pf hg (by omega))]
   show k ((portC s f).2.1,goneS s (ch s) (portB s f).1 (portC s f).1 (ho s))=_
   by_cases h3:(portC s f).2.1=0
   ·rw[if_pos h3,h3,a1 (goneS s (ch s) (portB s f).1 (portC s f).1 (ho s)) rfl rfl]; rfl
   ·rw[if_neg h3,a2 _ h3]
  exact ydr one (ydr one one)
 ·rw[if_neg h2]
  subst h17
  refine join_g λk hk=>?_
  obtain⟨a1,a2⟩:=hold k hk
  show stdW.cnd ((portB s f).2.1==0) _ (k ((portB s f).2.1,goneS s (ch s) (portB s f).1 (pu s) (ho s)))=_
  rw[cnd_n (by simpa using h2),a2 _ h2]
theorem pay_move{p:List AFlow'}(hp:isP p=true)(hf:okF p){f t:AUnit'}(h0:getP p t=0):(payP p [(f,(-(getP p f),())),(t,(getP p f,()))]).2.1=0:=by
 unfold payP
 rw[if_pos hp]
 refine zwn _ λu _=>?_
 rw[yrb,zft,zft,←zzu (isP_nd hp)]
 have h1:=ykd hf u
 have h2:=ykd hf f
 have e:sumU [] u=0:=rfl
 rw[e]
 show I64 (getP p u+((if f=u then -(getP p f) else 0)+((if t=u then getP p f else 0)+0)))
 by_cases hfu:f=u
 ·subst hfu
  by_cases htu:t=f
  ·subst htu; rw[if_pos rfl,if_pos rfl,h0]; unfold I64; omega
  ·rw[if_pos rfl,if_neg htu]; unfold I64; omega
 ·by_cases htu:t=u
  ·subst htu; rw[if_neg hfu,if_pos rfl,h0]; unfold I64 at *; omega
  ·rw[if_neg hfu,if_neg htu]; unfold I64 at *; omega
theorem r_port29{s:zae}(O:OkP s)(f:AUnit'):zwc s f=some (portP s f):=by
 show zkc stdW s f=_
 unfold zkc portP
 have hbl:=O.bl
 have hpl:=O.pl
 have hhl:=O.hl
 have hcl:=O.cL
 rw[zaa (r_may29 O f)]
 by_cases h1:(mayP s f).2.1=0
 case neg=>rw[cnd_y (by simpa using h1),if_neg h1]; rfl
 obtain⟨hB,hE⟩:=may_ok h1
 obtain⟨o1,o2⟩:=ofB_ok O.hb f
 have e1:zhl s.2.2.2.2.2.2.2.2.1 f=some (ofB (bk s) f):=r_of19 (by show (bk s).length≤_; omega)
 rw[cnd_n (by simpa using h1),if_pos h1,zaa e1]
 show stdW.call (zor (bk s) f (mayP s f).1 (ofB (bk s) f)) _=_
 rw[zaa (r_move19L O.hb (by omega) o1 o2)]
 show stdW.cnd ((portB s f).2.1 != 0) _ _=_
 by_cases h2:(portB s f).2.1=0
 case neg=>rw[cnd_y (by simpa using h2),if_neg h2]; rfl
 have e3:zto s.2.2.2.2.2.2.2.2.2.2.1=some (isP (pu s)):=r_is17 (by show (pu s).length≤_; omega)
 rw[cnd_n (by simpa using h2),if_pos h2,zaa e3]
 by_cases hp:isP (pu s)=true
 case neg=>
  have hc:portC s f=([],(3,())):=by
   unfold portC moveP payP
   rw[if_neg hp,if_neg hp]
   split<;>rfl
  have hp':isP (pu s)=false:=by simpa using hp
  rw[hp',cnd_y (by rfl),hc]; rfl
 have e4:ziw s.2.2.2.2.2.2.2.2.2.2.1 f=some (getP (pu s) f):=r_get17 (by show (pu s).length≤_; omega)
 have hg:I64 (getP (pu s) f):=ykd O.pf f
 rw[hp,cnd_n (by rfl),zaa e4]
 by_cases hm:I64 (-(getP (pu s) f))
 case neg=>
  have hc:portC s f=([],(7,())):=by unfold portC moveP; rw[if_neg hm,if_pos hp]
  have:getP (pu s) f = -9223372036854775808:=by unfold I64 at *; omega
  rw[cnd_y (by simpa using this),hc]; rfl
 have hne:¬getP (pu s) f = -9223372036854775808:=by unfold I64 at *; omega
 have hc:portC s f=payP (pu s) [(f,(-(getP (pu s) f),())),((mayP s f).1,(getP (pu s) f,()))]:=by unfold portC moveP; rw[if_pos hm]
 have hc0:(portC s f).2.1=0:=by rw[hc]; exact pay_move hp O.pf hE.2.1
 have hw:IntKind.i64.wrap (0 - getP (pu s) f) = -(getP (pu s) f):=by
  unfold I64 at hm
  rw[IntWalk.i64_in _ (by omega)]; omega
 have hfl:okF [((f,(-(getP (pu s) f),())):AFlow'),((mayP s f).1,(getP (pu s) f,()))]:=λx hx=>by
  simp only[List.mem_cons,List.not_mem_nil,or_false]at hx
  rcases hx with rfl|rfl
  ·exact hm
  ·exact hg
 rw[cnd_n (by simpa using hne),hw,if_pos hc0]
 show stdW.call (ztm (pu s) [(f,(-(getP (pu s) f),())),((mayP s f).1,(getP (pu s) f,()))]) _=_
 rw[zaa (r_pay17 O.pf hfl (by simp; omega)),←hc]
 show stdW.call (zop (ho s) f (mayP s f).1) _=_
 rw[zaa (r_move26 O.hh (by omega))]
 show stdW.cnd ((portH s f).2.1 != 0) _ _=_
 by_cases h3:(portH s f).2.1=0
 case neg=>rw[cnd_y (by simpa using h3),if_neg h3]; rfl
 have e5:zoy s.2.2.2.2.2.1 f=some (dropH (ch s) f):=r_drop16 (by show (ch s).length≤_; omega)
 rw[cnd_n (by simpa using h3),if_pos h3,zaa e5]; rfl
theorem okB_nil:okB []:=⟨λp hp=>(by cases hp),by simp⟩
theorem okD_st{x:DT.den tAState}(o:DT.okD tAState x):(x.2.1.length≤9223372036854775807∧x.2.2.1.length≤9223372036854775807∧(∀i∈x.2.2.1,i.2.2.2.2.1.length≤9223372036854775807)∧x.2.2.2.2.1.length≤9223372036854775807∧(∀a∈x.2.2.2.2.1,a.2.2.2.1.length≤9223372036854775807))∧
  ((bk x).length≤9223372036854775807∧(∀p∈bk x,okL p.2.1∧p.2.1.length≤9223372036854775807))∧((sa x).length≤9223372036854775807∧(∀p∈sa x,okL p.2.1∧p.2.1.length≤9223372036854775807))∧(okF (pu x)∧(pu x).length≤9223372036854775807):=by
 obtain⟨_,o1,o2,_,o4,_,_,_,o8,o9,o10,_⟩:=o
 have hm:maxLen=9223372036854775807:=zap
 obtain⟨b1,b2⟩:=ysd o8
 obtain⟨s1,s2⟩:=ysd o9
 obtain⟨p1,p2⟩:=okD_flows o10
 obtain⟨i1,i2⟩:=okD_insts o2
 exact⟨⟨by have:=o1.2; rw[hm]at this; exact this,i2,i1,by have:=o4.2; rw[hm]at this; exact this,λa ha=>by have:=(o4.1 a ha).2.2.2.1.2; rw[hm]at this; exact this⟩,⟨b2,b1⟩,⟨s2,s1⟩,p1,p2⟩
structure Few29(s t:zae):Prop where
 mL:t.2.1.length≤10
 mI:∀m∈t.2.1,m∈s.2.1
 a:okAs t.2.2.2.2.1
 aL:t.2.2.2.2.1.length≤20
 aS:SrtI t.2.2.2.2.1
 c:ch t=(ch s).take 20
 b:bk t=few19 (bk s)
 p:pu t=(pu s).take 20
 h:ho t=few26 (ho s)
theorem r_few16{l:List zag}(hl:l.length≤9223372036854775807):znv l=some (l.take 20):=by
 show zqi stdW l=_
 unfold zqi
 by_cases h:20<l.length
 ·rw[cnd_y (decide_eq_true (by omega)),bnd_w (by omega) (by omega)]; rfl
 ·rw[cnd_n (decide_eq_false (by omega)),List.take_of_length_le (by omega)]
theorem r_few29{s:zae}(h1:s.2.1.length≤9223372036854775807)(h3l:s.2.2.2.2.1.length≤9223372036854775807)(h3:∀a∈s.2.2.2.2.1,a.2.2.2.1.length≤9223372036854775807)
  (hc:(ch s).length≤9223372036854775807) (h4:(bk s).length≤9223372036854775807) (h4m:∀p∈bk s,p.2.1.length≤9223372036854775807) (h6:(pu s).length≤9223372036854775807) (h7:(ho s).length≤9223372036854775807) (h7m:∀p∈ho s,p.2.1.length≤9223372036854775807):
  ∃t,zuo s=some t∧Few29 s t:=by
 show ∃t,zqd stdW s=_∧_
 unfold zqd
 rw[join_w]
 obtain⟨t14,e14,g14,g14m⟩:=r_table14m h1
 have e16:znv s.2.2.2.2.2.1=some ((ch s).take 20):=r_few16 hc
 have e19:znt s.2.2.2.2.2.2.2.2.1=some (few19 (bk s)):=r_few19 _ h4 h4m
 have e17:znu s.2.2.2.2.2.2.2.2.2.2.1=some ((pu s).take 20):=r_few17 _ h6
 have e26:zns s.2.2.2.2.2.2.2.2.2.2.2.1=some (few26 (ho s)):=r_few26 h7 h7m
 have h3':∀i (h:i<s.2.2.2.2.1.length),s.2.2.2.2.1[i].2.2.2.1.length≤9223372036854775807:=λi h=>h3 _ (List.getElem_mem h)
 generalize s.2.2.2.2.1=l at*
 refine loop_P (λo=>∃t:zae,o=some t∧Few29 s t) (λz=>l.length+1 - z.1.toNat)
  (λz=>∃(j:Nat) (acc:List zab),j≤l.length∧j≤20∧acc.length≤j∧(∀a∈acc,a.2.2.2.1.length≤20)∧z=((j:Int),(acc,()))) ⟨0,[],Nat.zero_le _,Nat.zero_le _,Nat.le_refl _,by simp,rfl⟩ (by show _ - (0:Int).toNat<_; omega) ?_
 rintro _ ⟨j,acc,hj,hj20,hacc,hok,rfl⟩ again ha
 have fin:∃t:zae,(stdW.call (zkz s.2.1) λv2=>stdW.call (zkv acc) λv3=>stdW.call (znv s.2.2.2.2.2.1) λv4=>stdW.call (znt s.2.2.2.2.2.2.2.2.1) λv5=>stdW.call (znu s.2.2.2.2.2.2.2.2.2.2.1) λv6=>stdW.call (zns s.2.2.2.2.2.2.2.2.2.2.2.1) λv7=>some (s.1,(v2,([],([],(v3,(v4,([],([],(v5,([],(v6,(v7,())))))))))))))=some t∧Few29 s t:=by
  obtain⟨t15,e15,g1,g2,g3⟩:=r_table15s (l:=acc) (λx hx=>by have:=hok x hx; omega) (by omega)
  rw[zaa e14,zaa e15,zaa e16,zaa e19,zaa e17,zaa e26]
  exact⟨_,rfl,g14,g14m,⟨λa ha=>by have:=hok a (g1 a ha); omega,by show t15.length≤1000; omega⟩,g2,g3,rfl,rfl,rfl,rfl⟩
 show ∃t:zae,stdW.cnd (decide ((j:Int)<(l.length:Int))) (stdW.cnd (decide ((j:Int)<20)) _ _) _=_∧_
 by_cases h:j<l.length
 ·rw[cnd_lt h]
  by_cases h20:j<20
  ·rw[cnd_y (decide_eq_true (by omega))]
   show ∃t:zae,stdW.idx l (j:Int) _=_∧_
   rw[idx_w h,zaa (r_short (h3' j h))]
   show ∃t:zae,stdW.room (acc.length+1) 48 (again (IntKind.i64.wrap ((j:Int)+1),(acc++[yhl l[j]],())))=_∧_
   rw[room_w (by omega) (by omega),i64_s j (by omega)]
   refine ha _ ⟨j+1,acc++[yhl l[j]],by omega,by omega,by simp; omega,λa hm=>?_,rfl⟩ (by show _ - ((j+1:Nat):Int).toNat<_ - ((j:Nat):Int).toNat; omega)
   rcases List.mem_append.1 hm with hm|hm
   ·exact hok a hm
   ·simp only[List.mem_singleton]at hm; subst hm
    show (l[j].2.2.2.1.take 20).length≤20
    rw[List.length_take]; omega
  ·rw[cnd_n (decide_eq_false (by omega))]; exact fin
 ·have:j=l.length:=by omega
  subst this
  rw[zah]; exact fin
theorem few29_D{x:DT.den tAState}(o:DT.okD tAState x):∃t,zuo x=some t∧OkP t:=by
 obtain⟨⟨a1,_,_,a4,a5⟩,⟨b1,b2⟩,_,d1,d2⟩:=okD_st o
 obtain⟨_,o1,_,_,_,o5,_,_,_,_,_,o11,_⟩:=o
 have hm:maxLen=9223372036854775807:=zap
 have c1:(ch x).length≤9223372036854775807:=by have:=o5.2; rw[hm]at this; exact this
 have h1:(ho x).length≤9223372036854775807:=by have:=o11.2; rw[hm]at this; exact this
 have h2:∀p∈ho x,p.2.1.length≤9223372036854775807:=λp hp=>by have:=(o11.1 p hp).2.1.2; rw[hm]at this; exact this
 have h3:∀p∈ho x,∀y∈p.2.1,I64 y.2.2.1:=λp hp y hy=>wf_i64 ((o11.1 p hp).2.1.1 y hy).2.2.1
 obtain⟨t,e,F⟩:=r_few29 a1 a4 a5 c1 b1 (λp hp=>(b2 p hp).2) d2 h1 h2
 refine⟨t,e,F.mL,λm hm=>wf_i64 (o1.1 m (F.mI m hm)).2.1,F.a,F.aL,F.aS,?_,?_,?_,?_,?_,?_,?_⟩
 ·rw[F.c,List.length_take]; omega
 ·rw[F.b]; exact few19_ok λp hp=>(b2 p hp).1
 ·rw[F.b]; unfold few19; rw[List.length_map,List.length_take]; omega
 ·rw[F.p]; exact d1.take 20
 ·rw[F.p,List.length_take]; omega
 ·rw[F.h]
  unfold few26
  refine⟨λp hp=>?_,by rw[List.length_map,List.length_take]; omega⟩
  obtain⟨q,hq,rfl⟩:=List.mem_map.1 hp
  exact⟨by show (q.2.1.take 20).length≤20; rw[List.length_take]; omega,λy hy=>h3 q (List.mem_of_mem_take hq) y (List.mem_of_mem_take hy)⟩
 ·rw[F.h]; unfold few26; rw[List.length_map,List.length_take]; omega
theorem r_same14{a:List zaf}(hl:a.length≤1000000):zwg a a=some true:=by
 show zla stdW a a=_
 unfold zla
 rw[cnd_n (by simp)]
 refine zbp (l:=a) (by omega) (s0:=()) (λ_ _=>True) (λ_ _=>some true) trivial ?_ ?_
 ·rintro _ again _
  rw[zah]
 ·rintro i hi _ _ again ha
  rw[cnd_lt hi,idx_w hi,idx_w hi,nif_t,cnd_n (by simp)]
  show again (IntKind.i64.wrap ((i:Int)+1),())=_
  rw[i64_s i (by omega)]
  exact ha _ trivial
theorem r_same16{a:List zag}(hl:a.length≤1000000):zox a a=some true:=by
 show zkq stdW a a=_
 unfold zkq
 rw[cnd_n (by simp)]
 refine zbp (l:=a) (by omega) (s0:=()) (λ_ _=>True) (λ_ _=>some true) trivial ?_ ?_
 ·rintro _ again _
  rw[zah]
 ·rintro i hi _ _ again ha
  rw[cnd_lt hi,idx_w hi,idx_w hi,nif_t,cnd_n (by simp)]
  show again (IntKind.i64.wrap ((i:Int)+1),())=_
  rw[i64_s i (by omega)]
  exact ha _ trivial
theorem r_same18x{a:List zcc}(hl:a.length≤1000000):zwd a a=some true:=by
 show zko stdW a a=_
 unfold zko
 rw[cnd_n (by simp)]
 refine zbp (l:=a) (by omega) (s0:=()) (λ_ _=>True) (λ_ _=>some true) trivial ?_ ?_
 ·rintro _ again _
  rw[zah]
 ·rintro i hi _ _ again ha
  rw[cnd_lt hi,idx_w hi,idx_w hi,nif_t,cnd_n (by simp)]
  show again (IntKind.i64.wrap ((i:Int)+1),())=_
  rw[i64_s i (by omega)]
  exact ha _ trivial
theorem r_same26{a:List AHold'}(hh:okHs a):zoo a a=some true:=by
 have hl:=hh.2
 show zkf stdW a a=_
 unfold zkf
 rw[cnd_n (by simp)]
 refine zbp (l:=a) (by omega) (s0:=()) (λ_ _=>True) (λ_ _=>some true) trivial ?_ ?_
 ·rintro _ again _
  rw[zah]
 ·rintro i hi _ _ again ha
  rw[cnd_lt hi]
  refine join_g λk hk=>?_
  have kk:k (false,())=some true:=by
   subst hk
   show again (IntKind.i64.wrap ((i:Int)+1),())=_
   rw[i64_s i (by omega)]
   exact ha _ trivial
  clear hk ha
  have h2:=(hh.1 _ (List.getElem_mem hi)).1
  rw[idx_w hi,idx_w hi,nif_t,cnd_n (by simp),idx_w hi,idx_w hi,zaa (r_same18x (by omega))]
  exact kk
theorem r_sameOne{a:zab}(hl:a.2.2.2.1.length≤1000):zkx a a=some true:=by
 show zfr stdW a a=_
 unfold zfr
 refine join_g λk hk=>?_
 have kk:k (false,())=some true:=by
  subst hk
  show stdW.cnd false _ _=_
  rw[cnd_n rfl]
  refine zbp (l:=a.2.2.2.1) (by omega) (s0:=()) (λ_ _=>True) (λ_ _=>some true) trivial ?_ ?_
  ·rintro _ again _
   rw[zah]
  ·rintro i hi _ _ again ha
   rw[cnd_lt hi,idx_w hi,idx_w hi,cnd_n (by simp)]
   show again (IntKind.i64.wrap ((i:Int)+1),())=_
   rw[i64_s i (by omega)]
   exact ha _ trivial
 clear hk
 rw[cnd_n (by simp),cnd_n (by simp)]
 have e1:(a.2.2.1 != a.2.2.1)=false:=by simp
 have e2:((a.2.2.2.1.length:Int) != (a.2.2.2.1.length:Int))=false:=by simp
 simp only[e1,e2,cnd_n]
 exact kk
theorem r_same15{a:List zab}(ha:okAs a):zwf a a=some true:=by
 have hl:=ha.2
 show zkw stdW a a=_
 unfold zkw
 rw[cnd_n (by simp)]
 refine zbp (l:=a) (by omega) (s0:=()) (λ_ _=>True) (λ_ _=>some true) trivial ?_ ?_
 ·rintro _ again _
  rw[zah]
 ·rintro i hi _ _ again hg
  rw[cnd_lt hi,idx_w hi,idx_w hi,zaa (r_sameOne (ha.1 _ (List.getElem_mem hi))),cnd_n (by rfl)]
  show again (IntKind.i64.wrap ((i:Int)+1),())=_
  rw[i64_s i (by omega)]
  exact hg _ trivial
theorem yrr{s:zae}(h1:s.2.1.length≤1000)(h2:okAs s.2.2.2.2.1)(h3:(ch s).length≤1000)(h4:okB (bk s))(h5:(pu s).length≤1000)(h6:okHs (ho s)):ziv s s=some true:=by
 show zkb stdW s s=_
 unfold zkb
 have e3:zox s.2.2.2.2.2.1 s.2.2.2.2.2.1=some true:=r_same16 (by show (ch s).length≤_; omega)
 have e4:zoq s.2.2.2.2.2.2.2.2.1 s.2.2.2.2.2.2.2.2.1=some true:=r_same19 h4
 have e5:zou s.2.2.2.2.2.2.2.2.2.2.1 s.2.2.2.2.2.2.2.2.2.2.1=some true:=r_same (by show (pu s).length≤_; omega)
 have e6:zoo s.2.2.2.2.2.2.2.2.2.2.2.1 s.2.2.2.2.2.2.2.2.2.2.2.1=some true:=r_same26 h6
 rw[cnd_y (by simp),zaa (r_same14 (by omega)),cnd_y rfl,zaa (r_same15 h2),cnd_y rfl,zaa e3,cnd_y rfl,zaa e4,cnd_y rfl,zaa e5,cnd_y rfl,zaa e6]
end Go.Proofs.YtllkmncnmlmefaaGreat
namespace Go.Proofs.YtllkmncnmlmefaaGreat
open Go Go.Vc Go.RowKit
end Go.Proofs.YtllkmncnmlmefaaGreat

namespace Go.Proofs.YtllkmncnmlmefaaGreat
open Go Go.Vc Go.RowKit
end Go.Proofs.YtllkmncnmlmefaaGreat

namespace Go.Proofs.YtllkmncnmlmefaaGreat
open Go Go.Vc Go.RowKit
set_option maxRecDepth 100000
set_option synthInstance.maxSize 100000
set_option synthInstance.maxHeartbeats 0
theorem payP_e(l fl:List AFlow'):payP l fl=if isP l=true then payGo (l++fl) ((l++fl).foldl (λa x=>insA x.1 a) []) [] else ([],3,()):=by unfold payP; rw[ynm]
end Go.Proofs.YtllkmncnmlmefaaGreat

namespace Go.Proofs.YtllkmncnmlmefaaGreat
open Go Go.Vc Go.RowKit
theorem moveL_ok{l:List APos'}{f t:AUnit'}(hft:f≠t)(hb:okB l)(hl:l.length≤80)(h0:ofB l t=[])(h:(moveL l f t (ofB l f)).2.1=0):
  okB (moveL l f t (ofB l f)).1∧∀x,ofB (moveL l f t (ofB l f)).1 x=if x=f then [] else if x=t then ofB l f else ofB l x:=by
 unfold moveL at h ⊢
 by_cases hp:isB l=true
 case neg=>rw[if_neg hp]at h; cases h
 rw[if_pos hp]at h ⊢
 by_cases hn:(negV (ofB l f)).2.1=0
 case neg=>rw[if_neg hn]at h; exact absurd h hn
 obtain⟨n1,n2,n3⟩:=ypk hn
 rw[if_pos hn]at h ⊢
 rw[n2]at h ⊢
 by_cases he:(shiftP l f (negL (ofB l f))).2.1=0
 case neg=>rw[if_neg he]at h; exact absurd h he
 rw[if_pos he]at h ⊢
 have S:=zzb he
 have T:=zzb h
 have hlen:=S.len
 have o1:=S.ok hb (by omega)
 have vn:VInv []:=⟨λx hx=>(by cases hx),List.Pairwise.nil⟩
 have hB:=S.inv
 have e1:ofB (shiftP l f (negL (ofB l f))).1 f=[]:=V_ext (ofB_V S.inv' f) vn λu=>by
  rw[S.own,ysh]; show _=(0:Int); omega
 refine⟨T.ok o1 (by omega),λx=>?_⟩
 by_cases h1:x=f
 ·rw[if_pos h1,h1,T.other f hft,e1]
 ·rw[if_neg h1]
  by_cases h2:x=t
  ·rw[if_pos h2,h2]
   refine V_ext (ofB_V T.inv' t) (ofB_V hB f) λu=>?_
   rw[T.own,S.other t (Ne.symm hft),h0]
   show (0:Int)+_=_; omega
  ·rw[if_neg h2,T.other x h2,S.other x h1]
theorem moveP_ok{p:List AFlow'}{f t:AUnit'}(hft:f≠t)(hpl:p.length≤20)(h0:getP p t=0)(h:(moveP p f t (getP p f)).2.1=0):
  (okF (moveP p f t (getP p f)).1∧(moveP p f t (getP p f)).1.length≤22)∧∀x,getP (moveP p f t (getP p f)).1 x=if x=f then 0 else if x=t then getP p f else getP p x:=by
 unfold moveP at h ⊢
 by_cases hI:I64 (-(getP p f))
 case neg=>rw[if_neg hI]at h; split at h<;>cases h
 rw[if_pos hI]at h ⊢
 obtain⟨h1,h2,h3⟩:=payP_ok h
 rw[h2]
 refine⟨⟨resP_ok h3,?_⟩,λx=>?_⟩
 ·have a:=resP_len (p++[(f,(-getP p f,())),(t,(getP p f,()))]) (zci (p++[(f,(-getP p f,())),(t,(getP p f,()))]))
  have b:=zss (p++[(f,(-getP p f,())),(t,(getP p f,()))])
  rw[List.length_append]at b
  simp only[List.length_cons,List.length_nil]at b
  omega
 ·rw[resP_get,yrb,zft,zft,←zzu (isP_nd h1)]
  show getP p x+((if f=x then -(getP p f) else 0)+((if t=x then getP p f else 0)+0))=_
  by_cases h4:x=f
  ·rw[if_pos h4,if_pos h4.symm,if_neg (λhh=>hft (h4.symm.trans hh.symm)),h4]; omega
  ·rw[if_neg h4,if_neg (Ne.symm h4)]
   by_cases h5:x=t
   ·rw[if_pos h5,if_pos h5.symm,h5,h0]; omega
   ·rw[if_neg h5,if_neg (Ne.symm h5)]; omega
theorem moveH_ok{l:List AHold'}{f t:AUnit'}(hh:okHs l)(hl:l.length≤20)(h:(moveH l f t).2.1=0):
  f≠t∧okHs (moveH l f t).1∧∀x,lotsH (moveH l f t).1 x=if x=f then [] else if x=t then lotsH l f else lotsH l x:=by
 unfold moveH at h ⊢
 by_cases hi:isH l=true
 case neg=>rw[if_neg hi]at h; cases h
 rw[if_pos hi]at h ⊢
 by_cases hft:f=t
 case pos=>rw[if_pos hft]at h; cases h
 rw[if_neg hft]at h ⊢
 by_cases h0:lotsH l t=[]
 case neg=>rw[if_neg h0]at h; cases h
 rw[if_pos h0]
 have hs:=ypt hi
 refine⟨hft,yjh (yjh hh (by omega) hs f okT_nil) (by have:=yhn hs f []; omega) (zta hs f []) t (ysk hh.1 f),λx=>?_⟩
 show lotsH (setH (setH l f []) t (lotsH l f)) x=_
 rw[setH_of (zta hs f []),setH_of hs]
 by_cases h1:x=f
 ·rw[if_pos h1,if_pos h1,if_neg (λhh=>hft (h1.symm.trans hh))]
 ·rw[if_neg h1,if_neg h1]
structure GoneOk(s r:zae)(f t:AUnit'):Prop where
 st:∃b p h,r=goneS s (dropH (ch s) f) b p h
 b:okB (bk r)
 p:okF (pu r)∧(pu r).length≤22
 h:okHs (ho r)
 ne:f≠t
 e:emptyU s t
 ofb:∀x,ofB (bk r) x=if x=f then [] else if x=t then ofB (bk s) f else ofB (bk s) x
 get:∀x,getP (pu r) x=if x=f then 0 else if x=t then getP (pu s) f else getP (pu s) x
 lots:∀x,lotsH (ho r) x=if x=f then [] else if x=t then lotsH (ho s) f else lotsH (ho s) x
theorem port_ok{s:zae}(O:OkP s){f:AUnit'}(h:(portP s f).2.2.1=0):GoneOk s (portP s f).1 f (portP s f).2.1:=by
 unfold portP at h ⊢
 by_cases h1:(mayP s f).2.1=0
 case neg=>rw[if_neg h1]at h; exact absurd h h1
 rw[if_pos h1]at h ⊢
 by_cases h2:(portB s f).2.1=0
 case neg=>rw[if_neg h2]at h; exact absurd h h2
 rw[if_pos h2]at h ⊢
 by_cases h3:(portC s f).2.1=0
 case neg=>rw[if_neg h3]at h; exact absurd h h3
 rw[if_pos h3]at h ⊢
 by_cases h4:(portH s f).2.1=0
 case neg=>rw[if_neg h4]at h; exact absurd h h4
 rw[if_pos h4]
 obtain⟨_,hE⟩:=may_ok h1
 have hbl:=O.bl
 obtain⟨a1,a2,a3⟩:=moveH_ok O.hh O.hl h4
 obtain⟨b1,b2⟩:=moveL_ok a1 O.hb (by omega) hE.1 h2
 obtain⟨c1,c2⟩:=moveP_ok a1 O.pl hE.2.1 h3
 exact⟨⟨_,_,_,rfl⟩,b1,c1,a2,a1,hE,b2,c2,a3⟩
theorem port_bad{s:zae}{f:AUnit'}(h:(portP s f).2.2.1≠0):(portP s f).1=noS:=by
 unfold portP at h ⊢
 by_cases h1:(mayP s f).2.1=0
 case neg=>rw[if_neg h1]
 rw[if_pos h1]at h ⊢
 by_cases h2:(portB s f).2.1=0
 case neg=>rw[if_neg h2]
 rw[if_pos h2]at h ⊢
 by_cases h3:(portC s f).2.1=0
 case neg=>rw[if_neg h3]
 rw[if_pos h3]at h ⊢
 by_cases h4:(portH s f).2.1=0
 case neg=>rw[if_neg h4]
 rw[if_pos h4]at h
 exact absurd rfl h
theorem same29_no:ziv noS noS=some true:=yrr (s:=noS) (by simp[noS]) ⟨λx hx=>(by cases hx),by simp[noS]⟩ (by simp[noS,ch]) okB_nil (by simp[noS,pu]) ⟨λx hx=>(by cases hx),by simp[noS,ho]⟩
theorem drop_len(l:List zag)(f:AUnit'):(dropH l f).length≤l.length:=List.length_filter_le _ _
theorem port_same{s:zae}(O:OkP s)(f:AUnit'):ziv (portP s f).1 (portP s f).1=some true:=by
 by_cases h:(portP s f).2.2.1=0
 ·have R:=port_ok O h
  obtain⟨b,p,hh,e⟩:=R.st
  have m1:(portP s f).1.2.1=s.2.1:=by rw[e]; rfl
  have m2:(portP s f).1.2.2.2.2.1=s.2.2.2.2.1:=by rw[e]; rfl
  have m3:ch (portP s f).1=dropH (ch s) f:=by rw[e]; rfl
  have hm:=O.mL
  have hc:=O.cL
  have hd:=drop_len (ch s) f
  exact yrr (by rw[m1]; omega) (by rw[m2]; exact O.aA) (by rw[m3]; omega) R.b (by have:=R.p.2; omega) R.h
 ·rw[port_bad h]; exact same29_no
def lp0:zae:=(5,(((1,(0,(1,(6,()))))::((2,(9,(0,(0,()))))::[])),([],([],(((1,(1,(2,((2::[]),()))))::((3,(2,(4,((2::[]),()))))::[])),((((1,(2,())),((3,(2,())),(true,())))::[]),([],([],((((1,(2,())),(((1,((-9),()))::[]),()))::[]),([],((((1,(2,())),(7,()))::[]),([],()))))))))))))
def lp1:zae:=goneS lp0 [] [((3,(2,())),([(1,(-9,()))],()))] [((3,(2,())),(7,()))] []
theorem lp_ok:OkP lp0:=⟨by decide +kernel,by unfold I64; decide +kernel,⟨by decide +kernel,by decide +kernel⟩,by decide +kernel,by unfold SrtI; decide +kernel,by decide +kernel,⟨by unfold okL I64; decide +kernel,by decide +kernel⟩,by decide +kernel,by unfold okF I64; decide +kernel,by decide +kernel,⟨λx hx=>(by cases hx),by decide +kernel⟩,by decide +kernel⟩
theorem lp_go:portP lp0 (1,(2,()))=(lp1,((3,(2,())),(0,()))):=by unfold portP portC moveP; simp only[payP_e]; kernel_rfl
theorem yip:zsa=some true:=by
 show zia stdW=_
 unfold zia
 have e1:=r_port lp_ok (1,(2,()))
 rw[lp_go]at e1
 show stdW.call (znn lp0 (1,(2,()))) _=_
 rw[zaa e1,cnd_y (by rfl),cnd_y (by rfl),cnd_y (by rfl)]
 show stdW.idx [(((3,(2,())),([(1,(-9,()))],())):APos')] ((0:Nat):Int) _=_
 rw[idx_w (by simp)]
 show stdW.cnd true _ _=_
 rw[cnd_y rfl]; rfl
theorem yqd(x0:DT.den tAState)(x1:DT.den tAUnit)(o0:DT.okD tAState x0)(_:DT.okD tAUnit x1):zrj x0 x1=some true:=by
 show zfb stdW x0 x1=_
 unfold zfb
 obtain⟨t,et,O⟩:=few29_D o0
 rw[zaa et,zaa (r_port O x1),zaa (r_port29 O x1),zaa (port_same O x1),cnd_y rfl,cnd_y (by simp; rfl),cnd_y (by simp),zaa yip]
end Go.Proofs.YtllkmncnmlmefaaGreat
namespace Go.Proofs.YtllkmncnmlmefaaGreat
open Go Go.Vc Go.RowKit
end Go.Proofs.YtllkmncnmlmefaaGreat

namespace Go.Proofs.YtllkmncnmlmefaaGreat
open Go Go.Vc Go.RowKit Go.ChangeShapes Go.WideShapes Go.ChangeAt Go.Joins
theorem own:ownKnob Tryz.prog.godebug=none:=by kernel_rfl
theorem laidOut:laidOutB Tryz.prog=true:=by kernel_rfl
theorem yax{H:Type}{enc:TypeId×Value→H}{w:World}{spare:Nat→Bool}{held:Bool}{t:TypeId}{v:Value}{d:DataW H}{p:List MemPlace}(h:DataW.Trod enc Tryz.prog w 0 spare held t v d p):∀x∈p,x.block<w.heap.size:=by
 obtain⟨m,hm⟩:=h; exact DataW.trod_lt m _ _ _ hm
end Go.Proofs.YtllkmncnmlmefaaGreat
namespace Go.Vc
open Go
def closT(T:List (List Nat)):Nat→List Nat→List Nat→List Nat
 |0,_,seen=>seen.reverse
 |_,[],seen=>seen.reverse
 |n+1,f::todo,seen=>if seen.contains f then closT T n todo seen else closT T n ((T[f]?).getD []++todo) (f::seen)
theorem lead_eq{P:Program}{T:List (List Nat)}(hT:P.funcs.toList.map P.leadsTo=T)(f:Nat):(P.funcs[f]?).elim [] P.leadsTo=(T[f]?).getD []:=by
 subst hT
 rw[List.getElem?_map,Array.getElem?_toList]
 cases P.funcs[f]?<;>rfl
theorem zmn{P:Program}{T:List (List Nat)}(hT:P.funcs.toList.map P.leadsTo=T):∀n todo seen,P.closureVia n todo seen=closT T n todo seen
 |0,_,_=>by simp only[Program.closureVia,closT]
 |n+1,[],_=>by simp only[Program.closureVia,closT]
 |n+1,f::todo,seen=>by
  simp only[Program.closureVia,closT]
  rw[zmn hT n,zmn hT n,lead_eq hT f]
theorem zxq{P:Program}{T:List (List Nat)}(hT:P.funcs.toList.map P.leadsTo=T)(f:Nat):P.closure f=closT T (1+(T.map λl=>l.length+1).sum) [f] []:=by
 unfold Program.closure
 rw[zmn hT]
 subst hT
 rw[List.map_map]; rfl
end Go.Vc
namespace Go.Proofs.YtllkmncnmlmefaaGreat
open Go Go.Vc
def leadsT:List (List Nat):=[[],[],[1],[15,17,18,16,19],[20,15,18,21,22,23,23,21,23,19,22,18,16,19],[15,15,24,23,25,23,25,18,18,16,19],[26,27,28,29,31,32,30,31,32,30,33],[26,34,35,29,33],[26,27,34,37,37,36,37,37,36,38,38,36,33,39,39,40,40,40,40,38,38,36,33],[41,42,43,44,45],[41,42,44,45,46,46,46,46,47,48,45],[49,50,51,52,53,54,55,56,57,58,59],[49,60,61,62,63,56,64,56,64,59],[49,65,66,56,64,59],[49,65,59,67,68,70,69,51,51,70,70,71,36,72,72,36,38,38,36,59],[73,74,74,75,76,77],[],[78,79,80,81,82,83,83,84,85],[86,87,88,87,88,88,87,88,87,88,87,87,88,87,88,87,88,89,89,87,88,87,88,88],[90,17,21,23,90,17,16],[],[91,92,93,94,95,96,96,98,97,102,101,105,106,17,107],[108,109,110,110,111,112,113,113,114],[47,115,116,48,117,118,119,30,30,120,121],[122,123,124,125,126,127,128,129,130,131,132,132,133,134],[17,17,107],[77,135,136,137,74,74,75],[138,139,140],[141,141,142,143],[30,30,120],[144],[139],[142],[27,34,31,39],[145,146,147,148,140,140,149],[141,141,111,150,40,151,152,153,154,155,156,143,143,157,156,157,159,159,158],[71],[160,160,69],[70,69],[],[],[77,135,137,73,74,75,76],[161,163,162,164,165,149,166,167],[168,40,169,111,39,158,170,171],[47,48,117,30,120,121],[172,42],[40,40,144,39,39,173,173,121],[],[174],[77,175,137,75,76],[165,176],[39],[178,177,165,179],[173,180,70,39,70,69,156,159],[181,182,57,178,165,183,184],[111,112,173,70,39,70,71,156,159,114,159,185,70,36,159,186,156,187,159,188],[120,121],[],[],[65,64,39,173],[50,52,189,190],[51,53,191],[50,54,50],[51,55,51],[],[192,193,194,195,196,58,196],[68,68,63,68,197,61],[153,153,153],[],[199,198,200,201,198,201,198],[202,202,199],[157,69],[203,69],[],[204],[],[205],[],[],[206],[79,79,206,79,79,79,206,79,206,79,79,206],[79,79,79,79,207,208],[79,79,207,79,206,79,79,207,79,206,79],[79,207,79,79,206],[79,207,206,79,207,79,79,206],[209,210],[],[86],[211],[87,88,88],[],[210],[212],[214,213,216,215,219,218],[221,220,224,223],[226,225,228,227],[231,230],[212,233],[99,100],[92,92],[212],[212,233],[99,104,103],[212,233],[92,92,100],[233],[234,235,236,237,238,239,239,240],[],[241,242,243,154,244,245,245,246],[245,247,245,245,247],[245,247,141],[248],[249,248],[245],[],[250],[],[],[],[],[],[251],[],[],[],[],[],[],[],[],[],[],[252,253],[],[],[254],[255],[256],[257,257],[192,259,258],[257,163,162,261,262,263,264],[265,248],[153],[141,40,266,248],[],[146,138,181,163,268,267,269],[270,271],[272,273,273,275,274,276],[277,183],[183,181,278],[],[],[],[68],[],[70,70,279,70,70,71,279],[280],[198],[111,281,70,69,156,159,159],[],[151,70,69],[282,283,284],[285,277,268,179],[253],[257,148,140,140],[],[182,178,178,286,286],[124,288,287],[289,154,290,291,289,154,40,39,173,292,293,294],[141,295,143,143],[112,173,296,173,296],[],[],[],[],[297],[183],[298,299,179],[134],[300,302,301],[249,70,114,186,156,303,69,156,159],[304],[305,304],[300,300,306,301],[307,308,299,57,309,57,149],[70,310],[70,70,279],[112,311,312],[158],[],[54,149],[55,188],[314,315,313],[316,316],[62,317],[316,318,317],[60,317],[51,319,53,319,320,320,191],[],[],[],[],[],[70,69],[],[],[209,322,321],[79],[79],[],[],[86],[323,324,325,326],[212,233],[92,100,92,92],[212,233],[92,100,100,100,100,217],[212,233],[212,233],[92,100,100],[212,233],[92,92,92,92,222],[212,233],[212,233],[99,99,212],[212,233],[92,99,92,100,100],[212,233],[92,99,99,229,100,92,92,92],[92,100],[212,233],[99,229,232],[212,233],[],[316],[327,272,328,329],[330,330,331],[330,332,333,334],[330,330,332,334,333],[330,332,257],[335,335,307,181,182],[],[336,336],[],[],[153],[248],[150],[],[337,338],[339],[],[],[],[241,154],[340],[244,152],[341,304],[342],[260],[316,343],[304],[253],[],[344,345],[],[265,151,70,69,346],[],[],[347,260,348,349],[351,350],[130],[273,273,352,353],[],[354,300,354,355,355,356,358,357,359],[300,300,354,354,355,358,358,357],[300],[341],[181,360,361,362,179],[199,198],[202,69],[248],[363,348,364],[365],[363,348,349,366,367,368,369],[370],[134,304,134],[371],[],[152,153],[],[372],[141,40,373,70,69,156,159],[374,292],[70,70,69,70,36],[265,151,70,157,346],[248],[243,114],[305,307],[328,375],[],[276],[376,377],[186,70,279,378],[],[379,380],[376,376,300,376,377],[],[328,381],[182,382,383],[378,202,69],[112,173,384,296],[112,173,385,296],[342],[386],[],[],[],[387,50,387,388,189,389,389,190],[70,69,156,159],[390,391,70,36,392],[],[],[],[326,326],[],[],[],[393],[348,394],[],[304],[146],[],[],[330],[],[],[],[],[242,150],[],[],[395],[],[396],[156,159],[397,386],[398],[],[],[],[399],[],[358,400,400],[],[],[400,400],[],[],[401],[402,403],[],[347,260],[404],[405],[163,165,178],[257,163,406,179],[407,367],[408,179],[],[],[],[265,70,156,69,156,159],[68],[275,276],[356,356],[359],[198,202,71],[],[410,410,409],[275,411,300,302,301],[178,412,413],[178,414,413],[249,337,415,416],[249,337,415,70,70,69,156,159,416],[131],[179],[52,165],[417,179,418],[391,156],[70,69],[390,391,159,70,70,279,378,159],[],[419],[],[420,420,420],[],[422,421],[],[],[],[424,423],[304,304],[],[425,371],[277,176,179],[192,316],[],[],[426,426],[354,427,358,356,358,357],[428,429,380,134,430],[182,286],[428,429,380,134,431,179,134],[],[338],[408],[417,179,432,433,434],[],[],[],[],[435,436,437,438,439,440,441,442,423,423],[443,444],[],[],[445],[305,379],[],[],[446,447],[448],[424,449],[450,410,409],[],[451,451],[452,453],[454,454,454,455],[],[],[],[],[],[],[444],[],[456],[275,411,301],[457,458,459,460,461,462,463,464,449,449],[465,465],[],[424],[],[455],[466,466,466],[467,467,467],[],[468,468],[452,453],[469,469,469,470],[],[],[],[],[],[],[],[],[470],[471,471,471],[],[],[],[],[],[],[],[],[],[],[],[],[],[],[],[],[],[],[],[]]
set_option maxRecDepth 1000000 in
theorem yjx:Tryz.prog.funcs.toList.map Tryz.prog.leadsTo=leadsT:=by kernel_rfl
end Go.Proofs.YtllkmncnmlmefaaGreat