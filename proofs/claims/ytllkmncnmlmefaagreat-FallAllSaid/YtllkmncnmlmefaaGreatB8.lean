import Derived.Test.YtllkmncnmlmefaaGreatB7
namespace Go.Proofs.YtllkmncnmlmefaaGreat
open Go Go.Vc Go.RowKit
set_option synthInstance.maxSize 100000
set_option synthInstance.maxHeartbeats 0
set_option maxHeartbeats 2000000
theorem StR.mono{p:List AFlow'}{h:List AHold'}{d:List zbf}{n m:Nat}(S:StR p h d n)(hm:n≤m):StR p h d m:=by
 have a:=S.pl; have b:=S.hl; have c:=S.dl
 exact⟨S.f,by omega,S.hh,by omega,by omega⟩
abbrev PHO:=List AFlow'×List AHold'×List zbf
theorem zzg(s:zad){r:PHD}(h:r.2.2.2≠0):resD s r=(zS,([],(r.2.2.2,()))):=by unfold resD; rw[if_neg h]
theorem yey(s:zad){r:PHD}(h:r.2.2.2=0):resD s r=(updS s r.1 r.2.1,(r.2.2.1,(0,()))):=by unfold resD; rw[if_pos h]
theorem act31{s:zad}{r:PHD}{out:List zbf}{rest:List ActF}{K:zad×List zbf×Int×Unit→Option (zad×List zbf×Int×Unit)}
  (hK:r.2.2.2=0→K (updS s r.1 r.2.1,(r.2.2.1,(0,())))=some (resD s (runA rest r.1 r.2.1 (out++r.2.2.1)))) (hE:r.2.2.2≠0→K (zS,([],(r.2.2.2,())))=some (zS,([],(r.2.2.2,())))) {a:ActF} {p:List AFlow'} {h:List AHold'} (ha:a p h=r):
  K (resD s r)=some (resD s (runA (a::rest) p h out)):=by
 rw[runA,ha]
 by_cases he:r.2.2.2=0
 ·rw[if_pos he,yey s he]; exact hK he
 ·rw[if_neg he,zzg s he,zzg s (r:=([],[],[],r.2.2.2)) he]; exact hE he
def nr:Nat→Nat
 |0=>1200
 |1=>9200
 |_=>10000
theorem r_All31{s:zad}{p:List AFlow'}{h:List AHold'}{id:Int}(ha:∀a∈asS s,okA1 a)(hl1:(asS s).length≤1000)(hc:∀a∈s.2.2.2.2.1,a.2.2.2.1.length≤20)(hcL:s.2.2.2.2.1.length≤20)(S:StR p h [] 0):
  ycd (updS s p h) id=some (resD s (runA (waterA (asS s) (s.2.2.2.2.1.filter (isM id)) (allU (s.2.2.2.2.1.filter (isM id))) (houseU (s.2.2.2.2.1.filter (isM id)))) p h [])):=by
 show zkf stdW (updS s p h) id=_
 unfold zkf
 simp (config:={proj:=false}) only[two_w]
 refine zct (l:=s.2.2.2.2.1) (s0:=(([]:List AUnit'),([]:List AUnit'))) (by omega) (fun i (z:List AUnit'×List AUnit')=>((i:Int),(z.1,(z.2,())))) (fun i z=>z.1.length≤20*i∧z.2.length≤i)
  (fun l' z=>some (resD s (runA (waterA (asS s) (s.2.2.2.2.1.filter (isM id)) (z.1++allU (l'.filter (isM id))) (z.2++houseU (l'.filter (isM id)))) p h []))) rfl ⟨by simp,by simp⟩ ?_ ?_
 ·-- the actions
  rintro⟨us,hs⟩ ⟨u1,u2⟩ again
  dsimp only at u1 u2
  have e1:us++allU (List.filter (isM id) [])=us:=by simp[allU]
  have e2:hs++houseU (List.filter (isM id) [])=hs:=by simp[houseU]
  show stdW.cnd (decide ((s.2.2.2.2.1.length:Int)<(s.2.2.2.2.1.length:Int))) _ (stdW.loop _ ((0:Int),stT s p h (us,(hs,(([]:List zbf),())))))=some (resD s (runA (waterA (asS s) (s.2.2.2.2.1.filter (isM id)) (us++allU (List.filter (isM id) [])) (hs++houseU (List.filter (isM id) []))) p h []))
  rw[e1,e2,zaj]
  clear e1 e2
  unfold waterA
  refine zct (l:=us) (s0:=((p,h,[]):PHO)) (by omega) (fun i (z:PHO)=>((i:Int),stT s z.1 z.2.1 (us,(hs,(z.2.2,()))))) (fun i z=>StR z.1 z.2.1 z.2.2 i)
   (fun l' z=>some (resD s (runA (zbu (asS s) l'++(zar (asS s) (s.2.2.2.2.1.filter (isM id))++(zao (asS s) hs us++zao (asS s) [fU] us))) z.1 z.2.1 z.2.2))) rfl S ?_ ?_
  ·-- shared
   rintro⟨p1,h1,o1⟩ S1 again
   dsimp only at S1
   show stdW.cnd (decide ((us.length:Int)<(us.length:Int))) _ (stdW.loop _ ((0:Int),stT s p1 h1 (us,(hs,(o1,())))))=some (resD s (runA (zar (asS s) (s.2.2.2.2.1.filter (isM id))++(zao (asS s) hs us++zao (asS s) [fU] us)) p1 h1 o1))
   rw[zaj]
   have S1':=S1.mono (m:=400+40*0) (by omega)
   clear S1 again
   refine zct (l:=s.2.2.2.2.1) (s0:=((p1,h1,o1):PHO)) (by omega) (fun i (z:PHO)=>((i:Int),stT s z.1 z.2.1 (us,(hs,(z.2.2,()))))) (fun i z=>StR z.1 z.2.1 z.2.2 (400+40*i))
    (fun l' z=>some (resD s (runA (zar (asS s) (l'.filter (isM id))++(zao (asS s) hs us++zao (asS s) [fU] us)) z.1 z.2.1 z.2.2))) rfl S1' ?_ ?_
   ·-- rounds
    rintro⟨p2,h2,o2⟩ S2 again
    dsimp only at S2
    show stdW.cnd (decide ((s.2.2.2.2.1.length:Int)<((stT s p2 h2 (us,(hs,(o2,())))).2.2.2.2.1.length:Int))) _ (stdW.loop _ (hs,((0:Int),stT s p2 h2 (us,(o2,())))))=some (resD s (runA (zao (asS s) hs us++zao (asS s) [fU] us) p2 h2 o2))
    rw[show (stT s p2 h2 (us,(hs,(o2,())))).2.2.2.2.1=s.2.2.2.2.1 from rfl,zaj]
    have S2':=S2.mono (m:=nr 0) (by show _≤1200; omega)
    clear S2 S1' again
    have eR:zao (asS s) hs us++zao (asS s) [fU] us=[hs,[fU]].flatMap fun b=>zao (asS s) b us:=by simp
    rw[eR]
    have hbl:∀(r:Nat) (hr:r<[hs,[fU]].length),([hs,[fU]][r]).length≤20∧nr r+([hs,[fU]][r]).length*us.length≤nr (r+1)∧nr (r+1)≤10000:=by
     intro r hr
     have hm:hs.length*us.length≤20*400:=Nat.mul_le_mul (by omega) (by omega)
     match r,hr with
     |0,_=>exact⟨by show hs.length≤20; omega,by show 1200+hs.length*us.length≤9200; omega,by decide⟩
     |1,_=>exact⟨by show 1≤20; omega,by show 9200+1*us.length≤10000; omega,by decide⟩
    refine zct (l:=[hs,[fU]]) (s0:=((p2,h2,o2):PHO)) (by simp) (fun r (z:PHO)=>(hs,((r:Int),stT s z.1 z.2.1 (us,(z.2.2,()))))) (fun r z=>StR z.1 z.2.1 z.2.2 (nr r))
     (fun l' z=>some (resD s (runA (l'.flatMap fun b=>zao (asS s) b us) z.1 z.2.1 z.2.2))) rfl S2' ?_ ?_
    ·rintro⟨p3,h3,o3⟩ _ again
     show stdW.cnd (decide ((2:Int)<2)) _ (some (updS s p3 h3,(o3,(0,()))))=some (resD s (p3,h3,o3,0))
     rw[cnd_n (by decide),yey s rfl]
    ·rintro r hr ⟨p3,h3,o3⟩ S3 again hag
     dsimp only at S3
     obtain⟨b1,b2,b3⟩:=hbl r hr
     show stdW.cnd (decide ((r:Int)<2)) _ _=some (resD s (runA (zao (asS s) ([hs,[fU]][r]) us++([hs,[fU]].drop (r+1)).flatMap fun b=>zao (asS s) b us) p3 h3 o3))
     have hr2:r<2:=hr
     rw[cnd_y (decide_eq_true (by omega))]
     refine join_g fun k48 hk48=>?_
     have K48:∀by',by'=[hs,[fU]][r]→k48 (hs,(by',(us,(o3,()))))=some (resD s (runA (zao (asS s) ([hs,[fU]][r]) us++([hs,[fU]].drop (r+1)).flatMap fun b=>zao (asS s) b us) p3 h3 o3)):=by
      intro by' hby
      rw[←hby]at b1 b2 ⊢
      subst hk48
      generalize ([hs,[fU]].drop (r+1)).flatMap (fun b=>zao (asS s) b us)=RR at*
      show stdW.loop _ (hs,((0:Int),stT s p3 h3 (us,(o3,()))))=_
      refine zct (l:=us) (s0:=((p3,h3,o3):PHO)) (by omega) (fun i (z:PHO)=>(hs,((i:Int),stT s z.1 z.2.1 (us,(z.2.2,()))))) (fun i z=>StR z.1 z.2.1 z.2.2 (nr r+by'.length*i))
       (fun l' z=>some (resD s (runA (zao (asS s) by' l'++RR) z.1 z.2.1 z.2.2))) rfl S3 ?_ ?_
      ·rintro⟨p4,h4,o4⟩ S4 again4
       dsimp only at S4
       show stdW.cnd (decide ((us.length:Int)<(us.length:Int))) _ (again (hs,(IntKind.i64.wrap ((r:Int)+1),stT s p4 h4 (us,(o4,())))))=some (resD s (runA RR p4 h4 o4))
       rw[zaj,i64_s r (by omega)]
       exact hag (p4,h4,o4) (S4.mono b2)
      ·rintro i hi ⟨p4,h4,o4⟩ S4 again4 hag4
       dsimp only at S4
       have hmul:by'.length*i+by'.length≤by'.length*us.length:=by
        have:=Nat.mul_le_mul_left by'.length (show i+1≤us.length from hi)
        rwa [Nat.mul_succ]at this
       have hmul2:by'.length*(i+1)=by'.length*i+by'.length:=Nat.mul_succ ..
       have ep:zao (asS s) by' (us[i]::us.drop (i+1))=(by'.map fun b=>fun p h=>payF (asS s) p h b us[i])++zao (asS s) by' (us.drop (i+1)):=by unfold zao; rw[List.flatMap_cons]
       show stdW.cnd (decide ((i:Int)<(us.length:Int))) (stdW.loop _ (hs,((0:Int),stT s p4 h4 (us,(o4,()))))) _=some (resD s (runA (zao (asS s) by' (us[i]::us.drop (i+1))++RR) p4 h4 o4))
       rw[cnd_lt hi,ep,List.append_assoc]
       refine zct (l:=by') (s0:=((p4,h4,o4):PHO)) (by omega) (fun k (z:PHO)=>(hs,((k:Int),stT s z.1 z.2.1 (us,(z.2.2,()))))) (fun k z=>StR z.1 z.2.1 z.2.2 (nr r+by'.length*i+k))
        (fun l' z=>some (resD s (runA ((l'.map fun b=>fun p h=>payF (asS s) p h b us[i])++(zao (asS s) by' (us.drop (i+1))++RR)) z.1 z.2.1 z.2.2))) rfl S4 ?_ ?_
       ·rintro⟨p5,h5,o5⟩ S5 again5
        dsimp only at S5
        show stdW.cnd (decide ((by'.length:Int)<(by'.length:Int))) _ (again4 (hs,(IntKind.i64.wrap ((i:Int)+1),stT s p5 h5 (us,(o5,())))))=some (resD s (runA (zao (asS s) by' (us.drop (i+1))++RR) p5 h5 o5))
        rw[zaj,i64_s i (by omega)]
        exact hag4 (p5,h5,o5) (by rw[hmul2]; exact S5.mono (by omega))
       ·rintro k hk ⟨p5,h5,o5⟩ S5 again5 hag5
        dsimp only at S5
        have pl:=S5.pl; have hl:=S5.hl; have dl:=S5.dl
        show stdW.cnd (decide ((k:Int)<(by'.length:Int))) _ _=some (resD s (runA ((fun p h=>payF (asS s) p h by'[k] us[i])::(((by'.drop (k+1)).map fun b=>fun p h=>payF (asS s) p h b us[i])++(zao (asS s) by' (us.drop (i+1))++RR))) p5 h5 o5))
        rw[cnd_lt hk]
        have good:=yga (asS s) by'[k] us[i] p5 h5 o5 _ S5 (by omega)
        refine join_g fun k40 hk40=>?_
        have K40:∀p' h' o',StR p' h' o' (nr r+by'.length*i+k+1)→k40 (hs,stT s p' h' (us,(o',())))=some (resD s (runA (((by'.drop (k+1)).map fun b=>fun p h=>payF (asS s) p h b us[i])++(zao (asS s) by' (us.drop (i+1))++RR)) p' h' o')):=by
         intro p' h' o' S'
         subst hk40
         show again5 (hs,(IntKind.i64.wrap ((k:Int)+1),stT s p' h' (us,(o',()))))=_
         rw[i64_s k (by omega)]
         exact hag5 (p',h',o') S'
        clear hk40 hag5 hag4
        show stdW.idx by' (k:Int) _=_
        rw[idx_w hk]
        show stdW.idx us (i:Int) _=_
        rw[idx_w hi]
        show stdW.nth us (Int.toNat (i:Int)) _=_
        rw[nth_w hi]
        show stdW.call (ycb (updS s p5 h5) by'[k] us[i]) _=_
        rw[zaa (r_pay31 ha hl1 S5.hh (by omega) S5.f (by omega))]
        refine act31 (K:=fun v=>stdW.cnd (v.2.2.1 != 0) (some (zS,([],v.2.2))) (stdW.room (o5.length+v.2.1.length) 40 (k40 (hs,stT v.1 (pu v.1) (ho v.1) (us,(o5++v.2.1,())))))) (a:=fun p h=>payF (asS s) p h by'[k] us[i]) (r:=payF (asS s) p5 h5 by'[k] us[i]) (fun he=>?_) (fun he=>?_) rfl
        ·have G:=good he
         have gd:=G.dl
         rw[List.length_append]at gd
         dsimp only at G gd
         generalize payF (asS s) p5 h5 by'[k] us[i]=r5 at*
         show stdW.cnd ((0:Int) != 0) _ (stdW.room (o5.length+r5.2.2.1.length) 40 (k40 (hs,stT s r5.1 r5.2.1 (us,(o5++r5.2.2.1,())))))=_
         rw[cnd_n (by rfl),room_w (by omega) (by omega)]
         exact K40 _ _ _ G
        ·generalize payF (asS s) p5 h5 by'[k] us[i]=r5 at*
         show stdW.cnd (r5.2.2.2 != 0) (some (zS,([],(r5.2.2.2,())))) _=_
         rw[cnd_y (by simpa using he)]
     clear hk48
     show stdW.cnd ((r:Int)==1) (k48 (hs,([fU],(us,(o3,()))))) (k48 (hs,(hs,(us,(o3,())))))=_
     match r,hr2,K48 with
     |0,_,K48=>rw[cnd_n (by rfl)]; exact K48 hs rfl
     |1,_,K48=>rw[cnd_y (by rfl)]; exact K48 [fU] rfl
   ·-- one account
    rintro i hi ⟨p2,h2,o2⟩ S2 again hag
    dsimp only at S2
    have pl:=S2.pl; have hl:=S2.hl; have dl:=S2.dl
    have hu:=zgo (hc _ (List.getElem_mem hi))
    show stdW.cnd (decide ((i:Int)<((stT s p2 h2 (us,(hs,(o2,())))).2.2.2.2.1.length:Int))) _ _=some (resD s (runA (zar (asS s) ((s.2.2.2.2.1[i]::s.2.2.2.2.1.drop (i+1)).filter (isM id))++(zao (asS s) hs us++zao (asS s) [fU] us)) p2 h2 o2))
    rw[show (stT s p2 h2 (us,(hs,(o2,())))).2.2.2.2.1=s.2.2.2.2.1 from rfl,cnd_lt hi]
    refine join_g fun k21 hk21=>?_
    have K21:∀p' h' o',StR p' h' o' (400+40*i+40)→k21 (stT s p' h' (us,(hs,(o',()))))=some (resD s (runA (zar (asS s) ((s.2.2.2.2.1.drop (i+1)).filter (isM id))++(zao (asS s) hs us++zao (asS s) [fU] us)) p' h' o')):=by
     intro p' h' o' S'
     subst hk21
     show again (IntKind.i64.wrap ((i:Int)+1),stT s p' h' (us,(hs,(o',()))))=_
     rw[i64_s i (by omega)]
     exact hag (p',h',o') S'
    clear hk21 hag
    have Sk:=S2.mono (m:=400+40*i+40) (by omega)
    refine join_g fun k29 hk29=>?_
    have Kf:k29 (false,(us,(hs,(o2,()))))=some (resD s (runA (zar (asS s) ((s.2.2.2.2.1.drop (i+1)).filter (isM id))++(zao (asS s) hs us++zao (asS s) [fU] us)) p2 h2 o2)):=by
     subst hk29
     show stdW.cnd false _ (k21 (stT s p2 h2 (us,(hs,(o2,())))))=_
     rw[cnd_n (by rfl)]; exact K21 _ _ _ Sk
    have Kt:k29 (true,(us,(hs,(o2,()))))=some (resD s (runA (zcr (asS s) (unitsA s.2.2.2.2.1[i])::(zar (asS s) ((s.2.2.2.2.1.drop (i+1)).filter (isM id))++(zao (asS s) hs us++zao (asS s) [fU] us))) p2 h2 o2)):=by
     subst hk29
     show stdW.cnd true (stdW.idx s.2.2.2.2.1 (i:Int) _) _=_
     rw[cnd_y (by rfl),idx_w hi]
     show stdW.call (zin s.2.2.2.2.1[i]) _=_
     rw[zaa (zqf (a:=s.2.2.2.2.1[i]) (by have:=hc _ (List.getElem_mem hi); omega))]
     have S1:StR p2 h2 [] (400+40*i):=⟨S2.f,S2.pl,S2.hh,S2.hl,Nat.zero_le _⟩
     have good:=zuk (asS s) (unitsA s.2.2.2.2.1[i]) hu p2 h2 o2 _ S2 (by omega)
     show stdW.call (zsr (updS s p2 h2) (unitsA s.2.2.2.2.1[i])) _=_
     rw[zaa (r_shared31 ha hl1 hu S1 (by omega))]
     refine act31 (K:=fun v=>stdW.cnd (v.2.2.1 != 0) (some (zS,([],v.2.2))) (stdW.room (o2.length+v.2.1.length) 40 (k21 (stT v.1 (pu v.1) (ho v.1) (us,(hs,(o2++v.2.1,()))))))) (a:=zcr (asS s) (unitsA s.2.2.2.2.1[i])) (r:=zcr (asS s) (unitsA s.2.2.2.2.1[i]) p2 h2) (fun he=>?_) (fun he=>?_) rfl
     ·have G:=good he
      have gd:=G.dl
      rw[List.length_append]at gd
      dsimp only at G gd
      generalize zcr (asS s) (unitsA s.2.2.2.2.1[i]) p2 h2=r5 at*
      show stdW.cnd ((0:Int) != 0) _ (stdW.room (o2.length+r5.2.2.1.length) 40 (k21 (stT s r5.1 r5.2.1 (us,(hs,(o2++r5.2.2.1,()))))))=_
      rw[cnd_n (by rfl),room_w (by omega) (by omega)]
      exact K21 _ _ _ G
     ·generalize zcr (asS s) (unitsA s.2.2.2.2.1[i]) p2 h2=r5 at*
      show stdW.cnd (r5.2.2.2 != 0) (some (zS,([],(r5.2.2.2,())))) _=_
      rw[cnd_y (by simpa using he)]
    clear hk29
    show stdW.idx s.2.2.2.2.1 (i:Int) (fun x30=>stdW.cnd (x30.2.1==id) (stdW.idx s.2.2.2.2.1 (i:Int) fun x31=>k29 (x31.2.2.1==2,(us,(hs,(o2,()))))) (k29 (false,(us,(hs,(o2,()))))))=_
    rw[idx_w hi,List.filter_cons]
    by_cases hm:s.2.2.2.2.1[i].2.1=id
    ·rw[cnd_y (by simp[hm]),idx_w hi,if_pos (by unfold isM; simp[hm])]
     unfold zar at Kt Kf ⊢
     rw[List.filter_cons]
     by_cases hk2:s.2.2.2.2.1[i].2.2.1=2
     ·rw[if_pos (by simp[hk2]),show (s.2.2.2.2.1[i].2.2.1==2)=true by simp[hk2]]; exact Kt
     ·rw[if_neg (by simp[hk2]),show (s.2.2.2.2.1[i].2.2.1==2)=false by simp[hk2]]; exact Kf
    ·rw[cnd_n (by simpa using hm),if_neg (by unfold isM; simpa using hm)]; exact Kf
  ·-- one unit for itself
   rintro i hi ⟨p1,h1,o1⟩ S1 again hag
   dsimp only at S1
   have pl:=S1.pl; have hl:=S1.hl; have dl:=S1.dl
   show stdW.cnd (decide ((i:Int)<(us.length:Int))) _ _=some (resD s (runA ((fun p h=>ownF (asS s) p h us[i])::(zbu (asS s) (us.drop (i+1))++(zar (asS s) (s.2.2.2.2.1.filter (isM id))++(zao (asS s) hs us++zao (asS s) [fU] us)))) p1 h1 o1))
   rw[cnd_lt hi]
   have good:=ygb (asS s) us[i] p1 h1 o1 _ S1 (by omega)
   refine join_g fun k11 hk11=>?_
   have K11:∀p' h' o',StR p' h' o' (i+1)→k11 (stT s p' h' (us,(hs,(o',()))))=some (resD s (runA (zbu (asS s) (us.drop (i+1))++(zar (asS s) (s.2.2.2.2.1.filter (isM id))++(zao (asS s) hs us++zao (asS s) [fU] us))) p' h' o')):=by
    intro p' h' o' S'
    subst hk11
    show again (IntKind.i64.wrap ((i:Int)+1),stT s p' h' (us,(hs,(o',()))))=_
    rw[i64_s i (by omega)]
    exact hag (p',h',o') S'
   clear hk11 hag
   show stdW.idx us (i:Int) _=_
   rw[idx_w hi]
   show stdW.nth us (Int.toNat (i:Int)) _=_
   rw[nth_w hi]
   show stdW.call (ycc (updS s p1 h1) us[i]) _=_
   rw[zaa (r_own31 ha hl1 S1.hh (by omega) S1.f (by omega))]
   refine act31 (K:=fun v=>stdW.cnd (v.2.2.1 != 0) (some (zS,([],v.2.2))) (stdW.room (o1.length+v.2.1.length) 40 (k11 (stT v.1 (pu v.1) (ho v.1) (us,(hs,(o1++v.2.1,()))))))) (a:=fun p h=>ownF (asS s) p h us[i]) (r:=ownF (asS s) p1 h1 us[i]) (fun he=>?_) (fun he=>?_) rfl
   ·have G:=good he
    have gd:=G.dl
    rw[List.length_append]at gd
    dsimp only at G gd
    generalize ownF (asS s) p1 h1 us[i]=r5 at*
    show stdW.cnd ((0:Int) != 0) _ (stdW.room (o1.length+r5.2.2.1.length) 40 (k11 (stT s r5.1 r5.2.1 (us,(hs,(o1++r5.2.2.1,()))))))=_
    rw[cnd_n (by rfl),room_w (by omega) (by omega)]
    exact K11 _ _ _ G
   ·generalize ownF (asS s) p1 h1 us[i]=r5 at*
    show stdW.cnd (r5.2.2.2 != 0) (some (zS,([],(r5.2.2.2,())))) _=_
    rw[cnd_y (by simpa using he)]
 ·-- units and houses
  rintro i hi ⟨us,hs⟩ ⟨u1,u2⟩ again hag
  dsimp only at u1 u2
  have hu:=zgo (hc _ (List.getElem_mem hi))
  have ea:zin s.2.2.2.2.1[i]=some (unitsA s.2.2.2.2.1[i]):=zqf (a:=s.2.2.2.2.1[i]) (by have:=hc _ (List.getElem_mem hi); omega)
  show stdW.cnd (decide ((i:Int)<(s.2.2.2.2.1.length:Int))) _ _=some (resD s (runA (waterA (asS s) (s.2.2.2.2.1.filter (isM id)) (us++allU ((s.2.2.2.2.1[i]::s.2.2.2.2.1.drop (i+1)).filter (isM id))) (hs++houseU ((s.2.2.2.2.1[i]::s.2.2.2.2.1.drop (i+1)).filter (isM id)))) p h []))
  rw[cnd_lt hi]
  refine join_g fun k4 hk4=>?_
  have K4:∀us' hs',us'.length≤20*(i+1)→hs'.length≤i+1→k4 (us',(hs',()))=some (resD s (runA (waterA (asS s) (s.2.2.2.2.1.filter (isM id)) (us'++allU ((s.2.2.2.2.1.drop (i+1)).filter (isM id))) (hs'++houseU ((s.2.2.2.2.1.drop (i+1)).filter (isM id)))) p h [])):=by
   intro us' hs' g1 g2
   subst hk4
   show again (IntKind.i64.wrap ((i:Int)+1),(us',(hs',())))=_
   rw[i64_s i (by omega)]
   exact hag (us',hs') ⟨g1,g2⟩
  clear hk4 hag
  show stdW.idx s.2.2.2.2.1 (i:Int) (fun x5=>stdW.cnd (x5.2.1==id) (stdW.call (zin x5) fun v6=>stdW.room (us.length+v6.length) 16 (stdW.cnd (x5.2.2.1==1) (stdW.call (zin x5) fun v7=>stdW.room (hs.length+v7.length) 16 (k4 (us++v6,(hs++v7,())))) (k4 (us++v6,(hs,()))))) (k4 (us,(hs,()))))=_
  rw[idx_w hi,List.filter_cons]
  by_cases hm:s.2.2.2.2.1[i].2.1=id
  ·have e1:∀l:List zab,us++allU (s.2.2.2.2.1[i]::l)=us++unitsA s.2.2.2.2.1[i]++allU l:=fun l=>by unfold allU; rw[List.flatMap_cons,List.append_assoc]
   rw[cnd_y (by simp[hm]),if_pos (by unfold isM; simp[hm]),zaa ea,room_w (by omega) (by omega),e1,zvv]
   by_cases hk1:s.2.2.2.2.1[i].2.2.1=1
   ·have h1:=ydt hk1
    rw[cnd_y (by simp[hk1]),zaa ea,room_w (by omega) (by omega),if_pos hk1,K4 _ _ (by rw[List.length_append]; omega) (by rw[List.length_append]; omega),List.append_assoc hs]
   ·rw[cnd_n (by simp[hk1]),if_neg hk1,K4 _ _ (by rw[List.length_append]; omega) (by omega)]
  ·rw[cnd_n (by simpa using hm),if_neg (by unfold isM; simpa using hm),K4 _ _ (by omega) (by omega)]
end Go.Proofs.YtllkmncnmlmefaaGreat

namespace Go.Proofs.YtllkmncnmlmefaaGreat
open Go Go.Vc Go.RowKit
set_option synthInstance.maxSize 100000
set_option synthInstance.maxHeartbeats 0
theorem OkS.st{t:zad}(O:OkS t):StR (pu t) (ho t) [] 0:=⟨O.f,by have:=O.fL; omega,O.h,by have:=O.hL; omega,Nat.le_refl _⟩
theorem OkS.as{t:zad}(O:OkS t):okAs t.2.2.2.2.1:=⟨fun a ha=>by have:=(O.c a ha).2; omega,by have:=O.cL; omega⟩
theorem OkS.water{t:zad}(O:OkS t)(id:Int):ybm t (t.2.2.2.2.1.filter (isM id)):=
 ⟨O.a,by have:=O.aL; omega,fun a ha=>(O.c a (List.mem_filter.1 ha).1).2,Nat.le_trans (List.length_filter_le _ _) O.cL⟩
def zdf(t:zad)(id:Int):List ActF:=waterA (asS t) (t.2.2.2.2.1.filter (isM id)) (allU (t.2.2.2.2.1.filter (isM id))) (houseU (t.2.2.2.2.1.filter (isM id)))
theorem zxe(as:List zaf)(A:List zab):(zar as A).length≤A.length:=by
 unfold zar; rw[List.length_map]; exact List.length_filter_le _ _
theorem yhv{t:zad}(O:OkS t){id:Int}(he:(runA (zdf t id) (pu t) (ho t) []).2.2.2=0):
  StR (runA (zdf t id) (pu t) (ho t) []).1 (runA (zdf t id) (pu t) (ho t) []).2.1 (runA (zdf t id) (pu t) (ho t) []).2.2.1 10000:=by
 have W:=O.water id
 obtain⟨l1,l2⟩:=W.lens
 have cL:=W.cL
 unfold zdf at he ⊢
 generalize hA:t.2.2.2.2.1.filter (isM id)=A at*
 have hsl:=zxe (asS t) A
 have S1:=run_st (zbu (asS t) (allU A)) (yjk _ _) (st:=(pu t,ho t,[],0)) (n:=0) (fun _=>O.st) (by unfold zbu; rw[List.length_map]; omega)
 rw[show (zbu (asS t) (allU A)).length=(allU A).length by unfold zbu; rw[List.length_map]]at S1
 have S1':=S1.mono (m:=400) (by omega)
 have S2:=run_st (zar (asS t) A) (zul W.c) S1' (by omega)
 have S2':=S2.mono (m:=1200) (by omega)
 have hm:(houseU A).length*(allU A).length≤20*400:=Nat.mul_le_mul l2 l1
 have S3:=run_st (zao (asS t) (houseU A) (allU A)) (yaa _ _ _) S2' (by rw[zpf]; omega)
 rw[zpf]at S3
 have S3':=S3.mono (m:=9200) (by omega)
 have S4:=run_st (zao (asS t) [fU] (allU A)) (yaa _ _ _) S3' (by rw[zpf]; simp; omega)
 rw[zpf]at S4
 have S4':=S4.mono (m:=10000) (by simp; omega)
 have tot:runR (waterA (asS t) A (allU A) (houseU A)) (pu t,ho t,[],0)=runR (zao (asS t) [fU] (allU A)) (runR (zao (asS t) (houseU A) (allU A)) (runR (zar (asS t) A) (runR (zbu (asS t) (allU A)) (pu t,ho t,[],0)))):=by
  unfold waterA; rw[zeo,zeo,zeo]
 rw[←tot]at S4'
 obtain⟨_,r2,_⟩:=runR_A (waterA (asS t) A (allU A) (houseU A)) (pu t) (ho t) []
 rw[r2 he]at S4'
 exact S4' he
theorem ykv{t:zad}(O:OkS t)(id:Int):ykp t id=some (resD t (runA (zdf t id) (pu t) (ho t) [])):=by
 have:=r_All (s:=t) (p:=pu t) (h:=ho t) (id:=id) O.as (O.water id) O.st
 rwa [yhy]at this
theorem all_ref{t:zad}(O:OkS t)(id:Int):ycd t id=some (resD t (runA (zdf t id) (pu t) (ho t) [])):=by
 have:=r_All31 (s:=t) (p:=pu t) (h:=ho t) (id:=id) O.a (by have:=O.aL; omega) (fun a ha=>(O.c a ha).2) O.cL O.st
 rwa [yhy]at this
theorem all_plain{s t:zad}{id:Int}(e:zqn s=some t)(O:OkS t):zeh stdW s id=some true:=by
 unfold zeh
 have sm:zxx (resD t (runA (zdf t id) (pu t) (ho t) [])).1 (resD t (runA (zdf t id) (pu t) (ho t) [])).1=some true∧zmf (resD t (runA (zdf t id) (pu t) (ho t) [])).2.1 (resD t (runA (zdf t id) (pu t) (ho t) [])).2.1=some true:=by
  have S:=fun he=>yhv (t:=t) O (id:=id) he
  generalize runA (zdf t id) (pu t) (ho t) []=r at*
  unfold resD
  split
  ·next h=>
   have S:=S h
   have:=S.pl; have:=S.dl
   exact⟨yiv (by show r.1.length≤1000000; omega) S.hh,r_sameD (by show r.2.2.1.length≤1000000; omega)⟩
  ·exact⟨yiv (by simp[pu,zS]) zel,r_sameD (by simp)⟩
 rw[zaa e,zaa (ykv O id),zaa (all_ref O id),zaa sm.1,cnd_y (by rfl),zaa sm.2,cnd_y (by rfl),cnd_y (by simp),zaa zva]
theorem all_true(x0:DT.den tAState)(x1:DT.den (.int .i64))(o0:DT.okD tAState x0)(_:DT.okD (.int .i64) x1):zeh stdW x0 x1=some true:=by
 obtain⟨t,e,O⟩:=few31_D o0
 exact all_plain e O
end Go.Proofs.YtllkmncnmlmefaaGreat
