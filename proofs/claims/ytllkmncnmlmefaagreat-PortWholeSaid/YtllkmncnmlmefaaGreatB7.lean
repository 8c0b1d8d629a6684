import Derived.Test.YtllkmncnmlmefaaGreatB6
import Derived.Test.YtllkmncnmlmefaaGreatRows
import Derived.JoinedOf
namespace Go.Proofs.YtllkmncnmlmefaaGreat
open Go Go.Vc Go.RowKit
structure Few29(s t:zaf):Prop where
 mL:t.2.1.length≤10
 mI:∀m∈t.2.1,m∈s.2.1
 a:okAs t.2.2.2.2.1
 aL:t.2.2.2.2.1.length≤20
 aS:SrtI t.2.2.2.2.1
 c:ch t=(ch s).take 20
 b:bk t=few19 (bk s)
 p:pu t=(pu s).take 20
 h:ho t=few26 (ho s)
theorem r_few16{l:List zao}(hl:l.length≤9223372036854775807):zlq l=some (l.take 20):=by
 show znj stdW l=_
 unfold znj
 by_cases h:20<l.length
 ·rw[cnd_y (decide_eq_true (by omega)),bnd_w (by omega) (by omega)]; rfl
 ·rw[cnd_n (decide_eq_false (by omega)),List.take_of_length_le (by omega)]
theorem r_few29{s:zaf}(h1:s.2.1.length≤9223372036854775807)(h3l:s.2.2.2.2.1.length≤9223372036854775807)(h3:∀a∈s.2.2.2.2.1,a.2.2.2.1.length≤9223372036854775807)
  (hc:(ch s).length≤9223372036854775807) (h4:(bk s).length≤9223372036854775807) (h4m:∀p∈bk s,p.2.1.length≤9223372036854775807) (h6:(pu s).length≤9223372036854775807) (h7:(ho s).length≤9223372036854775807) (h7m:∀p∈ho s,p.2.1.length≤9223372036854775807):
  ∃t,zqt s=some t∧Few29 s t:=by
 show ∃t,zne stdW s=_∧_
 unfold zne
 rw[join_w]
 obtain⟨t14,e14,g14,g14m⟩:=r_table14m h1
 have e16:zlq s.2.2.2.2.2.1=some ((ch s).take 20):=r_few16 hc
 have e19:zln s.2.2.2.2.2.2.2.2.1=some (few19 (bk s)):=r_few19 _ h4 h4m
 have e17:zlp s.2.2.2.2.2.2.2.2.2.2.1=some ((pu s).take 20):=r_few17 _ h6
 have e26:zlm s.2.2.2.2.2.2.2.2.2.2.2.1=some (few26 (ho s)):=r_few26 h7 h7m
 have h3':∀i (h:i<s.2.2.2.2.1.length),s.2.2.2.2.1[i].2.2.2.1.length≤9223372036854775807:=fun i h=>h3 _ (List.getElem_mem h)
 generalize s.2.2.2.2.1=l at*
 refine loop_P (fun o=>∃t:zaf,o=some t∧Few29 s t) (fun z=>l.length+1 - z.1.toNat)
  (fun z=>∃(j:Nat) (acc:List zab),j≤l.length∧j≤20∧acc.length≤j∧(∀a∈acc,a.2.2.2.1.length≤20)∧z=((j:Int),(acc,()))) ⟨0,[],Nat.zero_le _,Nat.zero_le _,Nat.le_refl _,by simp,rfl⟩ (by show _ - (0:Int).toNat<_; omega) ?_
 rintro _ ⟨j,acc,hj,hj20,hacc,hok,rfl⟩ again ha
 have fin:∃t:zaf,(stdW.call (ziz s.2.1) fun v2=>stdW.call (ziv acc) fun v3=>stdW.call (zlq s.2.2.2.2.2.1) fun v4=>stdW.call (zln s.2.2.2.2.2.2.2.2.1) fun v5=>stdW.call (zlp s.2.2.2.2.2.2.2.2.2.2.1) fun v6=>stdW.call (zlm s.2.2.2.2.2.2.2.2.2.2.2.1) fun v7=>some (s.1,(v2,([],([],(v3,(v4,([],([],(v5,([],(v6,(v7,())))))))))))))=some t∧Few29 s t:=by
  obtain⟨t15,e15,g1,g2,g3⟩:=r_table15s (l:=acc) (fun x hx=>by have:=hok x hx; omega) (by omega)
  rw[zaa e14,zaa e15,zaa e16,zaa e19,zaa e17,zaa e26]
  exact⟨_,rfl,g14,g14m,⟨fun a ha=>by have:=hok a (g1 a ha); omega,by show t15.length≤1000; omega⟩,g2,g3,rfl,rfl,rfl,rfl⟩
 show ∃t:zaf,stdW.cnd (decide ((j:Int)<(l.length:Int))) (stdW.cnd (decide ((j:Int)<20)) _ _) _=_∧_
 by_cases h:j<l.length
 ·rw[cnd_lt h]
  by_cases h20:j<20
  ·rw[cnd_y (decide_eq_true (by omega))]
   show ∃t:zaf,stdW.idx l (j:Int) _=_∧_
   rw[idx_w h,zaa (r_short (h3' j h))]
   show ∃t:zaf,stdW.room (acc.length+1) 48 (again (IntKind.i64.wrap ((j:Int)+1),(acc++[ybv l[j]],())))=_∧_
   rw[room_w (by omega) (by omega),i64_s j (by omega)]
   refine ha _ ⟨j+1,acc++[ybv l[j]],by omega,by omega,by simp; omega,fun a hm=>?_,rfl⟩ (by show _ - ((j+1:Nat):Int).toNat<_ - ((j:Nat):Int).toNat; omega)
   rcases List.mem_append.1 hm with hm|hm
   ·exact hok a hm
   ·simp only[List.mem_singleton]at hm; subst hm
    show (l[j].2.2.2.1.take 20).length≤20
    rw[List.length_take]; omega
  ·rw[cnd_n (decide_eq_false (by omega))]; exact fin
 ·have:j=l.length:=by omega
  subst this
  rw[zaq]; exact fin
theorem few29_D{x:DT.den tAState}(o:DT.okD tAState x):∃t,zqt x=some t∧OkP t:=by
 obtain⟨⟨a1,_,_,a4,a5⟩,⟨b1,b2⟩,_,d1,d2⟩:=okD_st o
 obtain⟨_,o1,_,_,_,o5,_,_,_,_,_,o11,_⟩:=o
 have hm:maxLen=9223372036854775807:=zax
 have c1:(ch x).length≤9223372036854775807:=by have:=o5.2; rw[hm]at this; exact this
 have h1:(ho x).length≤9223372036854775807:=by have:=o11.2; rw[hm]at this; exact this
 have h2:∀p∈ho x,p.2.1.length≤9223372036854775807:=fun p hp=>by have:=(o11.1 p hp).2.1.2; rw[hm]at this; exact this
 have h3:∀p∈ho x,∀y∈p.2.1,I64 y.2.2.1:=fun p hp y hy=>wf_i64 ((o11.1 p hp).2.1.1 y hy).2.2.1
 obtain⟨t,e,F⟩:=r_few29 a1 a4 a5 c1 b1 (fun p hp=>(b2 p hp).2) d2 h1 h2
 refine⟨t,e,F.mL,fun m hm=>wf_i64 (o1.1 m (F.mI m hm)).2.1,F.a,F.aL,F.aS,?_,?_,?_,?_,?_,?_,?_⟩
 ·rw[F.c,List.length_take]; omega
 ·rw[F.b]; exact few19_ok fun p hp=>(b2 p hp).1
 ·rw[F.b]; unfold few19; rw[List.length_map,List.length_take]; omega
 ·rw[F.p]; exact d1.take 20
 ·rw[F.p,List.length_take]; omega
 ·rw[F.h]
  unfold few26
  refine⟨fun p hp=>?_,by rw[List.length_map,List.length_take]; omega⟩
  obtain⟨q,hq,rfl⟩:=List.mem_map.1 hp
  exact⟨by show (q.2.1.take 20).length≤20; rw[List.length_take]; omega,fun y hy=>h3 q (List.mem_of_mem_take hq) y (List.mem_of_mem_take hy)⟩
 ·rw[F.h]; unfold few26; rw[List.length_map,List.length_take]; omega
theorem ykn{a:List zad}(hl:a.length≤1000000):zmn a a=some true:=by
 show zja stdW a a=_
 unfold zja
 rw[cnd_n (by simp)]
 refine zbx (l:=a) (by omega) (s0:=()) (fun _ _=>True) (fun _ _=>some true) trivial ?_ ?_
 ·rintro _ again _
  rw[zaq]
 ·rintro i hi _ _ again ha
  rw[cnd_lt hi,idx_w hi,idx_w hi,nif_t,cnd_n (by simp)]
  show again (IntKind.i64.wrap ((i:Int)+1),())=_
  rw[i64_s i (by omega)]
  exact ha _ trivial
theorem r_same16{a:List zao}(hl:a.length≤1000000):zmk a a=some true:=by
 show ziu stdW a a=_
 unfold ziu
 rw[cnd_n (by simp)]
 refine zbx (l:=a) (by omega) (s0:=()) (fun _ _=>True) (fun _ _=>some true) trivial ?_ ?_
 ·rintro _ again _
  rw[zaq]
 ·rintro i hi _ _ again ha
  rw[cnd_lt hi,idx_w hi,idx_w hi,nif_t,cnd_n (by simp)]
  show again (IntKind.i64.wrap ((i:Int)+1),())=_
  rw[i64_s i (by omega)]
  exact ha _ trivial
theorem r_same18x{a:List zct}(hl:a.length≤1000000):zsf a a=some true:=by
 show zis stdW a a=_
 unfold zis
 rw[cnd_n (by simp)]
 refine zbx (l:=a) (by omega) (s0:=()) (fun _ _=>True) (fun _ _=>some true) trivial ?_ ?_
 ·rintro _ again _
  rw[zaq]
 ·rintro i hi _ _ again ha
  rw[cnd_lt hi,idx_w hi,idx_w hi,nif_t,cnd_n (by simp)]
  show again (IntKind.i64.wrap ((i:Int)+1),())=_
  rw[i64_s i (by omega)]
  exact ha _ trivial
theorem ykl{a:List AHold'}(hh:okHs a):zdq a a=some true:=by
 have hl:=hh.2
 show zip stdW a a=_
 unfold zip
 rw[cnd_n (by simp)]
 refine zbx (l:=a) (by omega) (s0:=()) (fun _ _=>True) (fun _ _=>some true) trivial ?_ ?_
 ·rintro _ again _
  rw[zaq]
 ·rintro i hi _ _ again ha
  rw[cnd_lt hi]
  refine join_g fun k hk=>?_
  have kk:k (false,())=some true:=by
   subst hk
   show again (IntKind.i64.wrap ((i:Int)+1),())=_
   rw[i64_s i (by omega)]
   exact ha _ trivial
  clear hk ha
  have h2:=(hh.1 _ (List.getElem_mem hi)).1
  rw[idx_w hi,idx_w hi,nif_t,cnd_n (by simp),idx_w hi,idx_w hi,zaa (r_same18x (by omega))]
  exact kk
theorem r_sameOne{a:zab}(hl:a.2.2.2.1.length≤1000):zix a a=some true:=by
 show zfc stdW a a=_
 unfold zfc
 refine join_g fun k hk=>?_
 have kk:k (false,())=some true:=by
  subst hk
  show stdW.cnd false _ _=_
  rw[cnd_n rfl]
  refine zbx (l:=a.2.2.2.1) (by omega) (s0:=()) (fun _ _=>True) (fun _ _=>some true) trivial ?_ ?_
  ·rintro _ again _
   rw[zaq]
  ·rintro i hi _ _ again ha
   rw[cnd_lt hi,idx_w hi,idx_w hi,cnd_n (by simp)]
   show again (IntKind.i64.wrap ((i:Int)+1),())=_
   rw[i64_s i (by omega)]
   exact ha _ trivial
 clear hk
 rw[cnd_n (by simp),cnd_n (by simp)]
 have e1:(a.2.2.1 != a.2.2.1)=false:=by simp
 have e2:((a.2.2.2.1.length:Int) != (a.2.2.2.1.length:Int))=false:=by simp
 simp only[e1,e2,cnd_n]
 exact kk
theorem ykm{a:List zab}(ha:okAs a):zml a a=some true:=by
 have hl:=ha.2
 show ziw stdW a a=_
 unfold ziw
 rw[cnd_n (by simp)]
 refine zbx (l:=a) (by omega) (s0:=()) (fun _ _=>True) (fun _ _=>some true) trivial ?_ ?_
 ·rintro _ again _
  rw[zaq]
 ·rintro i hi _ _ again hg
  rw[cnd_lt hi,idx_w hi,idx_w hi,zaa (r_sameOne (ha.1 _ (List.getElem_mem hi))),cnd_n (by rfl)]
  show again (IntKind.i64.wrap ((i:Int)+1),())=_
  rw[i64_s i (by omega)]
  exact hg _ trivial
theorem r_same29{s:zaf}(h1:s.2.1.length≤1000)(h2:okAs s.2.2.2.2.1)(h3:(ch s).length≤1000)(h4:okB (bk s))(h5:(pu s).length≤1000)(h6:okHs (ho s)):zhl s s=some true:=by
 show zio stdW s s=_
 unfold zio
 have e3:zmk s.2.2.2.2.2.1 s.2.2.2.2.2.1=some true:=r_same16 (by show (ch s).length≤_; omega)
 have e4:zmg s.2.2.2.2.2.2.2.2.1 s.2.2.2.2.2.2.2.2.1=some true:=r_same19 h4
 have e5:zmi s.2.2.2.2.2.2.2.2.2.2.1 s.2.2.2.2.2.2.2.2.2.2.1=some true:=r_same (by show (pu s).length≤_; omega)
 have e6:zdq s.2.2.2.2.2.2.2.2.2.2.2.1 s.2.2.2.2.2.2.2.2.2.2.2.1=some true:=ykl h6
 rw[cnd_y (by simp),zaa (ykn (by omega)),cnd_y rfl,zaa (ykm h2),cnd_y rfl,zaa e3,cnd_y rfl,zaa e4,cnd_y rfl,zaa e5,cnd_y rfl,zaa e6]
end Go.Proofs.YtllkmncnmlmefaaGreat
namespace Go.Proofs.YtllkmncnmlmefaaGreat
open Go Go.Vc Go.RowKit
end Go.Proofs.YtllkmncnmlmefaaGreat

namespace Go.Proofs.YtllkmncnmlmefaaGreat
open Go Go.Vc Go.RowKit
end Go.Proofs.YtllkmncnmlmefaaGreat

namespace Go.Proofs.YtllkmncnmlmefaaGreat
open Go Go.Vc Go.RowKit
set_option maxRecDepth 100000
set_option synthInstance.maxSize 100000
set_option synthInstance.maxHeartbeats 0
theorem payP_e(l fl:List AFlow'):payP l fl=if isP l=true then payGo (l++fl) ((l++fl).foldl (fun a x=>insA x.1 a) []) [] else ([],3,()):=by unfold payP; rw[ins_units]
end Go.Proofs.YtllkmncnmlmefaaGreat

namespace Go.Proofs.YtllkmncnmlmefaaGreat
open Go Go.Vc Go.RowKit
theorem moveL_ok{l:List APos'}{f t:AUnit'}(hft:f≠t)(hb:okB l)(hl:l.length≤80)(h0:ofB l t=[])(h:(moveL l f t (ofB l f)).2.1=0):
  okB (moveL l f t (ofB l f)).1∧∀x,ofB (moveL l f t (ofB l f)).1 x=if x=f then [] else if x=t then ofB l f else ofB l x:=by
 unfold moveL at h ⊢
 by_cases hp:isB l=true
 case neg=>rw[if_neg hp]at h; cases h
 rw[if_pos hp]at h ⊢
 by_cases hn:(negV (ofB l f)).2.1=0
 case neg=>rw[if_neg hn]at h; exact absurd h hn
 obtain⟨n1,n2,n3⟩:=negV_ok hn
 rw[if_pos hn]at h ⊢
 rw[n2]at h ⊢
 by_cases he:(shiftP l f (negL (ofB l f))).2.1=0
 case neg=>rw[if_neg he]at h; exact absurd h he
 rw[if_pos he]at h ⊢
 have S:=ybw he
 have T:=ybw h
 have hlen:=S.len
 have o1:=S.ok hb (by omega)
 have vn:VInv []:=⟨fun x hx=>(by cases hx),List.Pairwise.nil⟩
 have hB:=S.inv
 have e1:ofB (shiftP l f (negL (ofB l f))).1 f=[]:=V_ext (ofB_V S.inv' f) vn fun u=>by
  rw[S.own,yle]; show _=(0:Int); omega
 refine⟨T.ok o1 (by omega),fun x=>?_⟩
 by_cases h1:x=f
 ·rw[if_pos h1,h1,T.other f hft,e1]
 ·rw[if_neg h1]
  by_cases h2:x=t
  ·rw[if_pos h2,h2]
   refine V_ext (ofB_V T.inv' t) (ofB_V hB f) fun u=>?_
   rw[T.own,S.other t (Ne.symm hft),h0]
   show (0:Int)+_=_; omega
  ·rw[if_neg h2,T.other x h2,S.other x h1]
theorem moveP_ok{p:List AFlow'}{f t:AUnit'}(hft:f≠t)(hpl:p.length≤20)(h0:getP p t=0)(h:(moveP p f t (getP p f)).2.1=0):
  (okF (moveP p f t (getP p f)).1∧(moveP p f t (getP p f)).1.length≤22)∧∀x,getP (moveP p f t (getP p f)).1 x=if x=f then 0 else if x=t then getP p f else getP p x:=by
 unfold moveP at h ⊢
 by_cases hI:I64 (-(getP p f))
 case neg=>rw[if_neg hI]at h; split at h<;>cases h
 rw[if_pos hI]at h ⊢
 obtain⟨h1,h2,h3⟩:=payP_ok h
 rw[h2]
 refine⟨⟨resP_ok h3,?_⟩,fun x=>?_⟩
 ·have a:=resP_len (p++[(f,(-getP p f,())),(t,(getP p f,()))]) (zdi (p++[(f,(-getP p f,())),(t,(getP p f,()))]))
  have b:=yev (p++[(f,(-getP p f,())),(t,(getP p f,()))])
  rw[List.length_append]at b
  simp only[List.length_cons,List.length_nil]at b
  omega
 ·rw[resP_get,sumU_app,zhf,zhf,←yds (isP_nd h1)]
  show getP p x+((if f=x then -(getP p f) else 0)+((if t=x then getP p f else 0)+0))=_
  by_cases h4:x=f
  ·rw[if_pos h4,if_pos h4.symm,if_neg (fun hh=>hft (h4.symm.trans hh.symm)),h4]; omega
  ·rw[if_neg h4,if_neg (Ne.symm h4)]
   by_cases h5:x=t
   ·rw[if_pos h5,if_pos h5.symm,h5,h0]; omega
   ·rw[if_neg h5,if_neg (Ne.symm h5)]; omega
theorem moveH_ok{l:List AHold'}{f t:AUnit'}(hh:okHs l)(hl:l.length≤20)(h:(moveH l f t).2.1=0):
  f≠t∧okHs (moveH l f t).1∧∀x,lotsH (moveH l f t).1 x=if x=f then [] else if x=t then lotsH l f else lotsH l x:=by
 unfold moveH at h ⊢
 by_cases hi:isH l=true
 case neg=>rw[if_neg hi]at h; cases h
 rw[if_pos hi]at h ⊢
 by_cases hft:f=t
 case pos=>rw[if_pos hft]at h; cases h
 rw[if_neg hft]at h ⊢
 by_cases h0:lotsH l t=[]
 case neg=>rw[if_neg h0]at h; cases h
 rw[if_pos h0]
 have hs:=isH_srt hi
 refine⟨hft,yda (yda hh (by omega) hs f okT_nil) (by have:=ykd hs f []; omega) (zur hs f []) t (ydk hh.1 f),fun x=>?_⟩
 show lotsH (setH (setH l f []) t (lotsH l f)) x=_
 rw[setH_of (zur hs f []),setH_of hs]
 by_cases h1:x=f
 ·rw[if_pos h1,if_pos h1,if_neg (fun hh=>hft (h1.symm.trans hh))]
 ·rw[if_neg h1,if_neg h1]
structure GoneOk(s r:zaf)(f t:AUnit'):Prop where
 st:∃b p h,r=goneS s (dropH (ch s) f) b p h
 b:okB (bk r)
 p:okF (pu r)∧(pu r).length≤22
 h:okHs (ho r)
 ne:f≠t
 e:emptyU s t
 ofb:∀x,ofB (bk r) x=if x=f then [] else if x=t then ofB (bk s) f else ofB (bk s) x
 get:∀x,getP (pu r) x=if x=f then 0 else if x=t then getP (pu s) f else getP (pu s) x
 lots:∀x,lotsH (ho r) x=if x=f then [] else if x=t then lotsH (ho s) f else lotsH (ho s) x
theorem port_ok{s:zaf}(O:OkP s){f:AUnit'}(h:(portP s f).2.2.1=0):GoneOk s (portP s f).1 f (portP s f).2.1:=by
 unfold portP at h ⊢
 by_cases h1:(mayP s f).2.1=0
 case neg=>rw[if_neg h1]at h; exact absurd h h1
 rw[if_pos h1]at h ⊢
 by_cases h2:(portB s f).2.1=0
 case neg=>rw[if_neg h2]at h; exact absurd h h2
 rw[if_pos h2]at h ⊢
 by_cases h3:(portC s f).2.1=0
 case neg=>rw[if_neg h3]at h; exact absurd h h3
 rw[if_pos h3]at h ⊢
 by_cases h4:(portH s f).2.1=0
 case neg=>rw[if_neg h4]at h; exact absurd h h4
 rw[if_pos h4]
 obtain⟨_,hE⟩:=may_ok h1
 have hbl:=O.bl
 obtain⟨a1,a2,a3⟩:=moveH_ok O.hh O.hl h4
 obtain⟨b1,b2⟩:=moveL_ok a1 O.hb (by omega) hE.1 h2
 obtain⟨c1,c2⟩:=moveP_ok a1 O.pl hE.2.1 h3
 exact⟨⟨_,_,_,rfl⟩,b1,c1,a2,a1,hE,b2,c2,a3⟩
theorem port_bad{s:zaf}{f:AUnit'}(h:(portP s f).2.2.1≠0):(portP s f).1=noS:=by
 unfold portP at h ⊢
 by_cases h1:(mayP s f).2.1=0
 case neg=>rw[if_neg h1]
 rw[if_pos h1]at h ⊢
 by_cases h2:(portB s f).2.1=0
 case neg=>rw[if_neg h2]
 rw[if_pos h2]at h ⊢
 by_cases h3:(portC s f).2.1=0
 case neg=>rw[if_neg h3]
 rw[if_pos h3]at h ⊢
 by_cases h4:(portH s f).2.1=0
 case neg=>rw[if_neg h4]
 rw[if_pos h4]at h
 exact absurd rfl h
theorem same29_no:zhl noS noS=some true:=r_same29 (s:=noS) (by simp[noS]) ⟨fun x hx=>(by cases hx),by simp[noS]⟩ (by simp[noS,ch]) okB_nil (by simp[noS,pu]) ⟨fun x hx=>(by cases hx),by simp[noS,ho]⟩
def lp0:zaf:=(5,(((1,(0,(1,(6,()))))::((2,(9,(0,(0,()))))::[])),([],([],(((1,(1,(2,((2::[]),()))))::((3,(2,(4,((2::[]),()))))::[])),((((1,(2,())),((3,(2,())),(true,())))::[]),([],([],((((1,(2,())),(((1,((-9),()))::[]),()))::[]),([],((((1,(2,())),(7,()))::[]),([],()))))))))))))
def lp1:zaf:=goneS lp0 [] [((3,(2,())),([(1,(-9,()))],()))] [((3,(2,())),(7,()))] []
theorem lp_ok:OkP lp0:=⟨by decide +kernel,by unfold I64; decide +kernel,⟨by decide +kernel,by decide +kernel⟩,by decide +kernel,by unfold SrtI; decide +kernel,by decide +kernel,⟨by unfold okL I64; decide +kernel,by decide +kernel⟩,by decide +kernel,by unfold okF I64; decide +kernel,by decide +kernel,⟨fun x hx=>(by cases hx),by decide +kernel⟩,by decide +kernel⟩
theorem lp_go:portP lp0 (1,(2,()))=(lp1,((3,(2,())),(0,()))):=by unfold portP portC moveP; simp only[payP_e]; kernel_rfl
theorem zqf:zjv=some true:=by
 show zgr stdW=_
 unfold zgr
 have e1:=r_port lp_ok (1,(2,()))
 rw[lp_go]at e1
 show stdW.call (zlh lp0 (1,(2,()))) _=_
 rw[zaa e1,cnd_y (by rfl),cnd_y (by rfl),cnd_y (by rfl)]
 show stdW.idx [(((3,(2,())),([(1,(-9,()))],())):APos')] ((0:Nat):Int) _=_
 rw[idx_w (by simp)]
 show stdW.cnd true _ _=_
 rw[cnd_y rfl]; rfl
structure Lk(s:zaf):Prop where
 b:okB (bk s)
 p:(pu s).length≤1000
 h:okHs (ho s)
theorem lk_no:Lk noS:=⟨okB_nil,by simp[noS,pu],⟨fun x hx=>(by cases hx),by simp[noS,ho]⟩⟩
theorem ycl{s t:zaf}{u v:AUnit'}(S:Lk s)(T:Lk t)(h1:ofB (bk s) u=ofB (bk t) v)(h2:getP (pu s) u=getP (pu t) v)(h3:lotsH (ho s) u=lotsH (ho t) v):zdh s u t v=some true:=by
 show zmf stdW s u t v=_
 unfold zmf
 have sb:=S.b.2
 have tb:=T.b.2
 have sp:=S.p
 have tp:=T.p
 have a1:zmh s.2.2.2.2.2.2.2.2.1 u=some (ofB (bk s) u):=r_of19 (by show (bk s).length≤_; omega)
 have a2:zmh t.2.2.2.2.2.2.2.2.1 v=some (ofB (bk s) u):=by rw[h1]; exact r_of19 (by show (bk t).length≤_; omega)
 have a3:zhm s.2.2.2.2.2.2.2.2.2.2.1 u=some (getP (pu s) u):=r_get17 (by show (pu s).length≤_; omega)
 have a4:zhm t.2.2.2.2.2.2.2.2.2.2.1 v=some (getP (pu s) u):=by rw[h2]; exact r_get17 (by show (pu t).length≤_; omega)
 have a5:zew s.2.2.2.2.2.2.2.2.2.2.2.1 u=some (lotsH (ho s) u):=ykp S.h.2
 have a6:zew t.2.2.2.2.2.2.2.2.2.2.2.1 v=some (lotsH (ho s) u):=by rw[h3]; exact ykp T.h.2
 have a7:zhn (ofB (bk s) u) (ofB (bk s) u)=some true:=yko (by have:=(ofB_ok S.b u).2; omega)
 have a8:zdq [((0,(0,())),(lotsH (ho s) u,()))] [((0,(0,())),(lotsH (ho s) u,()))]=some true:=ykl ⟨fun p hp=>by simp only[List.mem_singleton]at hp; subst hp; exact ydk S.h.1 u,by simp⟩
 refine join_g fun k hk=>?_
 have kk:k (false,())=some true:=by
  subst hk
  show stdW.cnd false _ _=_
  rw[cnd_n rfl,zaa a5]
  have e:(stdW.call (zdq [((0,(0,())),(lotsH (ho s) u,()))] [((0,(0,())),(lotsH (ho s) u,()))]) fun v6=>some v6)=some true:=by rw[zaa a8]
  refine zyr ?_ ?_
  ·rw[zaa a6]; exact e
  ·rw[zaa a6]; exact zyr e e
 clear hk
 rw[zaa a1,zaa a2,zaa a7,cnd_n (by rfl),zaa a3,zaa a4,show (getP (pu s) u != getP (pu s) u)=false by simp]
 exact kk
theorem whole_true(x0:DT.den tAState)(x1:DT.den tAUnit)(x2:DT.den tAUnit)(o0:DT.okD tAState x0)(_:DT.okD tAUnit x1)(_:DT.okD tAUnit x2):zll x0 x1 x2=some true:=by
 show zea stdW x0 x1 x2=_
 unfold zea
 obtain⟨t,et,O⟩:=few29_D o0
 rw[zaa et,zaa (r_port O x1)]
 by_cases h:(portP t x1).2.2.1=0
 case neg=>
  rw[cnd_y (by simpa using h),port_bad h]
  show stdW.call (zhl noS noS) _=_
  rw[zaa same29_no,cnd_y rfl,zaa zqf]
 rw[cnd_n (by simpa using h)]
 have R:=port_ok O h
 have hpl:=O.pl
 have S:Lk t:=⟨O.hb,by omega,O.hh⟩
 have T:Lk (portP t x1).1:=⟨R.b,by have:=R.p.2; omega,R.h⟩
 obtain⟨b,p,hh,e⟩:=R.st
 have m0:(portP t x1).1.1=t.1:=by rw[e]; rfl
 have m1:(portP t x1).1.2.1=t.2.1:=by rw[e]; rfl
 have m2:(portP t x1).1.2.2.2.2.1=t.2.2.2.2.1:=by rw[e]; rfl
 have hm:=O.mL
 have A1:zdh (portP t x1).1 (portP t x1).2.1 t x1=some true:=by
  have n:=Ne.symm R.ne
  exact ycl T S (by rw[R.ofb,if_neg n,if_pos rfl]) (by rw[R.get,if_neg n,if_pos rfl]) (by rw[R.lots,if_neg n,if_pos rfl])
 have A2:zdh (portP t x1).1 x1 noS x1=some true:=ycl T lk_no (by rw[R.ofb,if_pos rfl]; rfl) (by rw[R.get,if_pos rfl]; rfl) (by rw[R.lots,if_pos rfl]; rfl)
 have A3:zdh t (portP t x1).2.1 noS (portP t x1).2.1=some true:=ycl S lk_no (by rw[R.e.1]; rfl) (by rw[R.e.2.1]; rfl) (by rw[R.e.2.2]; rfl)
 have A4:x2≠x1→x2≠(portP t x1).2.1→zdh (portP t x1).1 x2 t x2=some true:=fun n1 n2=>
  ycl T S (by rw[R.ofb,if_neg n1,if_neg n2]) (by rw[R.get,if_neg n1,if_neg n2]) (by rw[R.lots,if_neg n1,if_neg n2])
 refine join_g fun k12 h12=>?_
 have kk:k12 (false,())=some true:=by
  subst h12
  show stdW.cnd false _ _=_
  rw[cnd_n rfl]
  refine join_g fun k10 h10=>?_
  have k2:k10 (false,())=some true:=by
   subst h10
   show stdW.cnd false _ _=_
   rw[cnd_n rfl,m0,m1,m2,zaa (ykn (by omega)),cnd_y rfl,zaa (ykm O.aA),cnd_y rfl,cnd_y (by simp),zaa zqf]
  clear h10
  rw[nif_t,nif_t,eqA,eqA]
  by_cases n1:x2=x1
  ·rw[cnd_n (by simp[n1])]; exact k2
  rw[cnd_y (by simp[n1])]
  by_cases n2:x2=(portP t x1).2.1
  ·rw[cnd_n (by simp[←n2])]; exact k2
  rw[cnd_y (by simp[n2]),zaa (A4 n1 n2)]
  exact k2
 clear h12
 rw[zaa A1,cnd_n (by rfl)]
 show stdW.call (zdh (portP t x1).1 x1 noS x1) _=_
 rw[zaa A2,cnd_n (by rfl)]
 show stdW.call (zdh t (portP t x1).2.1 noS (portP t x1).2.1) _=_
 rw[zaa A3]
 exact kk
end Go.Proofs.YtllkmncnmlmefaaGreat
namespace Go.Proofs.YtllkmncnmlmefaaGreat
open Go Go.Vc Go.RowKit Go.ChangeShapes Go.WideShapes Go.ChangeAt Go.Joins
theorem own:ownKnob Tryz.prog.godebug=none:=by kernel_rfl
theorem yip:laidOutB Tryz.prog=true:=by kernel_rfl
theorem zol{H:Type}{enc:TypeId×Value→H}{w:World}{spare:Nat→Bool}{held:Bool}{t:TypeId}{v:Value}{d:DataW H}{p:List MemPlace}(h:DataW.Trod enc Tryz.prog w 0 spare held t v d p):∀x∈p,x.block<w.heap.size:=by
 obtain⟨m,hm⟩:=h; exact DataW.trod_lt m _ _ _ hm
end Go.Proofs.YtllkmncnmlmefaaGreat
namespace Go.Vc
open Go
def closT(T:List (List Nat)):Nat→List Nat→List Nat→List Nat
 |0,_,seen=>seen.reverse
 |_,[],seen=>seen.reverse
 |n+1,f::todo,seen=>if seen.contains f then closT T n todo seen else closT T n ((T[f]?).getD []++todo) (f::seen)
theorem lead_eq{P:Program}{T:List (List Nat)}(hT:P.funcs.toList.map P.leadsTo=T)(f:Nat):(P.funcs[f]?).elim [] P.leadsTo=(T[f]?).getD []:=by
 subst hT
 rw[List.getElem?_map,Array.getElem?_toList]
 cases P.funcs[f]?<;>rfl
theorem zki{P:Program}{T:List (List Nat)}(hT:P.funcs.toList.map P.leadsTo=T):∀n todo seen,P.closureVia n todo seen=closT T n todo seen
 |0,_,_=>by simp only[Program.closureVia,closT]
 |n+1,[],_=>by simp only[Program.closureVia,closT]
 |n+1,f::todo,seen=>by
  simp only[Program.closureVia,closT]
  rw[zki hT n,zki hT n,lead_eq hT f]
theorem ztn{P:Program}{T:List (List Nat)}(hT:P.funcs.toList.map P.leadsTo=T)(f:Nat):P.closure f=closT T (1+(T.map fun l=>l.length+1).sum) [f] []:=by
 unfold Program.closure
 rw[zki hT]
 subst hT
 rw[List.map_map]; rfl
end Go.Vc
namespace Go.Proofs.YtllkmncnmlmefaaGreat
open Go Go.Vc
def leadsT:List (List Nat):=[[],[],[1],[15,17,18,16,19],[20,15,18,21,22,23,23,21,23,19,22,18,16,19],[15,15,24,23,25,23,25,18,18,16,19],[26,27,28,29,31,32,30,31,32,30,33],[26,34,35,29,33],[26,27,34,37,37,36,37,37,36,38,38,36,33,39,39,40,40,40,40,38,38,36,33],[41,42,43,44,45],[41,42,44,45,46,46,46,46,47,48,45],[49,50,51,52,53,54,55,56,57,58,59],[49,60,61,62,63,56,64,56,64,59],[49,65,66,56,64,59],[49,65,59,67,68,70,69,51,51,70,70,71,36,72,72,36,38,38,36,59],[73,74,74,75,76,77],[],[78,79,80,81,82,83,83,84,85],[86,87,88,87,88,88,87,88,87,88,87,87,88,87,88,87,88,89,89,87,88,87,88,88],[90,17,21,23,90,17,16],[],[91,92,93,94,95,96,96,98,97,102,101,105,106,17,107],[108,109,110,110,111,112,113,113,114],[47,115,116,48,117,118,119,30,30,120,121],[122,123,124,125,126,127,128,129,130,131,132,132,133,134],[17,17,107],[77,135,136,137,74,74,75],[138,139,140],[141,141,142,143],[30,30,120],[144],[139],[142],[27,34,31,39],[145,146,147,148,140,140,149],[141,141,111,150,40,151,152,153,154,155,156,143,143,157,156,157,159,159,158],[71],[160,160,69],[70,69],[],[],[77,135,137,73,74,75,76],[161,163,162,164,165,149,166,167],[168,40,169,111,39,158,170,171],[47,48,117,30,120,121],[172,42],[40,40,144,39,39,173,173,121],[],[174],[77,175,137,75,76],[165,176],[39],[178,177,165,179],[173,180,70,39,70,69,156,159],[181,182,57,178,165,183,184],[111,112,173,70,39,70,71,156,159,114,159,185,70,36,159,186,156,187,159,188],[120,121],[],[],[65,64,39,173],[50,52,189,190],[51,53,191],[50,54,50],[51,55,51],[],[192,193,194,195,196,58,196],[68,68,63,68,197,61],[153,153,153],[],[199,198,200,201,198,201,198],[202,202,199],[157,69],[203,69],[],[204],[],[205],[],[],[206],[79,79,206,79,79,79,206,79,206,79,79,206],[79,79,79,79,207,208],[79,79,207,79,206,79,79,207,79,206,79],[79,207,79,79,206],[79,207,206,79,207,79,79,206],[209,210],[],[86],[211],[87,88,88],[],[210],[212],[214,213,216,215,219,218],[221,220,224,223],[226,225,228,227],[231,230],[212,233],[99,100],[92,92],[212],[212,233],[99,104,103],[212,233],[92,92,100],[233],[234,235,236,237,238,239,239,240],[],[241,242,243,154,244,245,245,246],[245,247,245,245,247],[245,247,141],[248],[249,248],[245],[],[250],[],[],[],[],[],[251],[],[],[],[],[],[],[],[],[],[],[252,253],[],[],[254],[255],[256],[257,257],[192,259,258],[257,163,162,261,262,263,264],[265,248],[153],[141,40,266,248],[],[146,138,181,163,268,267,269],[270,271],[272,273,273,275,274,276],[277,183],[183,181,278],[],[],[],[68],[],[70,70,279,70,70,71,279],[280],[198],[111,281,70,69,156,159,159],[],[151,70,69],[282,283,284],[285,277,268,179],[253],[257,148,140,140],[],[182,178,178,286,286],[124,288,287],[289,154,290,291,289,154,40,39,173,292,293,294],[141,295,143,143],[112,173,296,173,296],[],[],[],[],[297],[183],[298,299,179],[134],[300,302,301],[249,70,114,186,156,303,69,156,159],[304],[305,304],[300,300,306,301],[307,308,299,57,309,57,149],[70,310],[70,70,279],[112,311,312],[158],[],[54,149],[55,188],[314,315,313],[316,316],[62,317],[316,318,317],[60,317],[51,319,53,319,320,320,191],[],[],[],[],[],[70,69],[],[],[209,322,321],[79],[79],[],[],[86],[323,324,325,326],[212,233],[92,100,92,92],[212,233],[92,100,100,100,100,217],[212,233],[212,233],[92,100,100],[212,233],[92,92,92,92,222],[212,233],[212,233],[99,99,212],[212,233],[92,99,92,100,100],[212,233],[92,99,99,229,100,92,92,92],[92,100],[212,233],[99,229,232],[212,233],[],[316],[327,272,328,329],[330,330,331],[330,332,333,334],[330,330,332,334,333],[330,332,257],[335,335,307,181,182],[],[336,336],[],[],[153],[248],[150],[],[337,338],[339],[],[],[],[241,154],[340],[244,152],[341,304],[342],[260],[316,343],[304],[253],[],[344,345],[],[265,151,70,69,346],[],[],[347,260,348,349],[351,350],[130],[273,273,352,353],[],[354,300,354,355,355,356,358,357,359],[300,300,354,354,355,358,358,357],[300],[341],[181,360,361,362,179],[199,198],[202,69],[248],[363,348,364],[365],[363,348,349,366,367,368,369],[370],[134,304,134],[371],[],[152,153],[],[372],[141,40,373,70,69,156,159],[374,292],[70,70,69,70,36],[265,151,70,157,346],[248],[243,114],[305,307],[328,375],[],[276],[376,377],[186,70,279,378],[],[379,380],[376,376,300,376,377],[],[328,381],[182,382,383],[378,202,69],[112,173,384,296],[112,173,385,296],[342],[386],[],[],[],[387,50,387,388,189,389,389,190],[70,69,156,159],[390,391,70,36,392],[],[],[],[326,326],[],[],[],[393],[348,394],[],[304],[146],[],[],[330],[],[],[],[],[242,150],[],[],[395],[],[396],[156,159],[397,386],[398],[],[],[],[399],[],[358,400,400],[],[],[400,400],[],[],[401],[402,403],[],[347,260],[404],[405],[163,165,178],[257,163,406,179],[407,367],[408,179],[],[],[],[265,70,156,69,156,159],[68],[275,276],[356,356],[359],[198,202,71],[],[410,410,409],[275,411,300,302,301],[178,412,413],[178,414,413],[249,337,415,416],[249,337,415,70,70,69,156,159,416],[131],[179],[52,165],[417,179,418],[391,156],[70,69],[390,391,159,70,70,279,378,159],[],[419],[],[420,420,420],[],[422,421],[],[],[],[424,423],[304,304],[],[425,371],[277,176,179],[192,316],[],[],[426,426],[354,427,358,356,358,357],[428,429,380,134,430],[182,286],[428,429,380,134,431,179,134],[],[338],[408],[417,179,432,433,434],[],[],[],[],[435,436,437,438,439,440,441,442,423,423],[443,444],[],[],[445],[305,379],[],[],[446,447],[448],[424,449],[450,410,409],[],[451,451],[452,453],[454,454,454,455],[],[],[],[],[],[],[444],[],[456],[275,411,301],[457,458,459,460,461,462,463,464,449,449],[465,465],[],[424],[],[455],[466,466,466],[467,467,467],[],[468,468],[452,453],[469,469,469,470],[],[],[],[],[],[],[],[],[470],[471,471,471],[],[],[],[],[],[],[],[],[],[],[],[],[],[],[],[],[],[],[],[]]
set_option maxRecDepth 1000000 in
theorem ydo:Tryz.prog.funcs.toList.map Tryz.prog.leadsTo=leadsT:=by kernel_rfl
end Go.Proofs.YtllkmncnmlmefaaGreat