import Derived.Test.YtllkmncnmlmefaaGreatB7
namespace Go.Proofs.YtllkmncnmlmefaaGreat
open Go Go.Vc Go.RowKit
set_option synthInstance.maxSize 100000
set_option synthInstance.maxHeartbeats 0
set_option maxHeartbeats 2000000
theorem StR.mono{p:List AFlow'}{h:List AHold'}{d:List zbf}{n m:Nat}(S:StR p h d n)(hm:n≤m):StR p h d m:=by
 have a:=S.pl; have b:=S.hl; have c:=S.dl
 exact⟨S.f,by omega,S.hh,by omega,by omega⟩
abbrev PHO:=List AFlow'×List AHold'×List zbf
theorem zzg(s:zad){r:PHD}(h:r.2.2.2≠0):resD s r=(zS,([],(r.2.2.2,()))):=by unfold resD; rw[if_neg h]
theorem yey(s:zad){r:PHD}(h:r.2.2.2=0):resD s r=(updS s r.1 r.2.1,(r.2.2.1,(0,()))):=by unfold resD; rw[if_pos h]
theorem act31{s:zad}{r:PHD}{out:List zbf}{rest:List ActF}{K:zad×List zbf×Int×Unit→Option (zad×List zbf×Int×Unit)}
  (hK:r.2.2.2=0→K (updS s r.1 r.2.1,(r.2.2.1,(0,())))=some (resD s (runA rest r.1 r.2.1 (out++r.2.2.1)))) (hE:r.2.2.2≠0→K (zS,([],(r.2.2.2,())))=some (zS,([],(r.2.2.2,())))) {a:ActF} {p:List AFlow'} {h:List AHold'} (ha:a p h=r):
  K (resD s r)=some (resD s (runA (a::rest) p h out)):=by
 rw[runA,ha]
 by_cases he:r.2.2.2=0
 ·rw[if_pos he,yey s he]; exact hK he
 ·rw[if_neg he,zzg s he,zzg s (r:=([],[],[],r.2.2.2)) he]; exact hE he
def nr:Nat→Nat
 |0=>1200
 |1=>9200
 |_=>10000
theorem r_All31{s:zad}{p:List AFlow'}{h:List AHold'}{id:Int}(ha:∀a∈asS s,okA1 a)(hl1:(asS s).length≤1000)(hc:∀a∈s.2.2.2.2.1,a.2.2.2.1.length≤20)(hcL:s.2.2.2.2.1.length≤20)(S:StR p h [] 0):
  ycd (updS s p h) id=some (resD s (runA (waterA (asS s) (s.2.2.2.2.1.filter (isM id)) (allU (s.2.2.2.2.1.filter (isM id))) (houseU (s.2.2.2.2.1.filter (isM id)))) p h [])):=by
 show zkf stdW (updS s p h) id=_
 unfold zkf
 simp (config:={proj:=false}) only[two_w]
 refine zct (l:=s.2.2.2.2.1) (s0:=(([]:List AUnit'),([]:List AUnit'))) (by omega) (fun i (z:List AUnit'×List AUnit')=>((i:Int),(z.1,(z.2,())))) (fun i z=>z.1.length≤20*i∧z.2.length≤i)
  (fun l' z=>some (resD s (runA (waterA (asS s) (s.2.2.2.2.1.filter (isM id)) (z.1++allU (l'.filter (isM id))) (z.2++houseU (l'.filter (isM id)))) p h []))) rfl ⟨by simp,by simp⟩ ?_ ?_
 ·-- the actions
  rintro⟨us,hs⟩ ⟨u1,u2⟩ again
  dsimp only at u1 u2
  have e1:us++allU (List.filter (isM id) [])=us:=by simp[allU]
  have e2:hs++houseU (List.filter (isM id) [])=hs:=by simp[houseU]
  show stdW.cnd (decide ((s.2.2.2.2.1.length:Int)<(s.2.2.2.2.1.length:Int))) _ (stdW.loop _ ((0:Int),stT s p h (us,(hs,(([]:List zbf),())))))=some (resD s (runA (waterA (asS s) (s.2.2.2.2.1.filter (isM id)) (us++allU (List.filter (isM id) [])) (hs++houseU (List.filter (isM id) []))) p h []))
  rw[e1,e2,zaj]
  clear e1 e2
  unfold waterA
  refine zct (l:=us) (s0:=((p,h,[]):PHO)) (by omega) (fun i (z:PHO)=>((i:Int),stT s z.1 z.2.1 (us,(hs,(z.2.2,()))))) (fun i z=>StR z.1 z.2.1 z.2.2 i)
   (fun l' z=>some (resD s (runA (zbu (asS s) l'++(zar (asS s) (s.2.2.2.2.1.filter (isM id))++(zao (asS s) hs us++zao (asS s) [fU] us))) z.1 z.2.1 z.2.2))) rfl S ?_ ?_
  ·-- shared
   rintro⟨p1,h1,o1⟩ S1 again
   dsimp only at S1
   show stdW.cnd (decide ((us.length:Int)<(us.length:Int))) _ (stdW.loop _ ((0:Int),stT s p1 h1 (us,(hs,(o1,())))))=some (resD s (runA (zar (asS s) (s.2.2.2.2.1.filter (isM id))++(zao (asS s) hs us++zao (asS s) [fU] us)) p1 h1 o1))
   rw[zaj]
   have S1':=S1.mono (m:=400+40*0) (by omega)
   clear S1 again
   refine zct (l:=s.2.2.2.2.1) (s0:=((p1,h1,o1):PHO)) (by omega) (fun i (z:PHO)=>((i:Int),stT s z.1 z.2.1 (us,(hs,(z.2.2,()))))) (fun i z=>StR z.1 z.2.1 z.2.2 (400+40*i))
    (fun l' z=>some (resD s (runA (zar (asS s) (l'.filter (isM id))++(zao (asS s) hs us++zao (asS s) [fU] us)) z.1 z.2.1 z.2.2))) rfl S1' ?_ ?_
   ·-- rounds
    rintro⟨p2,h2,o2⟩ S2 again
    dsimp only at S2
    show stdW.cnd (decide ((s.2.2.2.2.1.length:Int)<((stT s p2 h2 (us,(hs,(o2,())))).2.2.2.2.1.length:Int))) _ (stdW.loop _ (hs,((0:Int),stT s p2 h2 (us,(o2,())))))=some (resD s (runA (zao (asS s) hs us++zao (asS s) [fU] us) p2 h2 o2))
    rw[show (stT s p2 h2 (us,(hs,(o2,())))).2.2.2.2.1=s.2.2.2.2.1 from rfl,zaj]
    have S2':=S2.mono (m:=nr 0) (by show _≤1200; omega)
    clear S2 S1' again
    have eR:zao (asS s) hs us++zao (asS s) [fU] us=[hs,[fU]].flatMap fun b=>zao (asS s) b us:=by simp
    rw[eR]
    have hbl:∀(r:Nat) (hr:r<[hs,[fU]].length),([hs,[fU]][r]).length≤20∧nr r+([hs,[fU]][r]).length*us.length≤nr (r+1)∧nr (r+1)≤10000:=by
     intro r hr
     have hm:hs.length*us.length≤20*400:=Nat.mul_le_mul (by omega) (by omega)
     match r,hr with
     |0,_=>exact⟨by show hs.length≤20; omega,by show 1200+hs.length*us.length≤9200; omega,by decide⟩
     |1,_=>exact⟨by show 1≤20; omega,by show 9200+1*us.length≤10000; omega,by decide⟩
    refine zct (l:=[hs,[fU]]) (s0:=((p2,h2,o2):PHO)) (by simp) (fun r (z:PHO)=>(hs,((r:Int),stT s z.1 z.2.1 (us,(z.2.2,()))))) (fun r z=>StR z.1 z.2.1 z.2.2 (nr r))
     (fun l' z=>some (resD s (runA (l'.flatMap fun b=>zao (asS s) b us) z.1 z.2.1 z.2.2))) rfl S2' ?_ ?_
    ·rintro⟨p3,h3,o3⟩ _ again
     show stdW.cnd (decide ((2:Int)<2)) _ (some (updS s p3 h3,(o3,(0,()))))=some (resD s (p3,h3,o3,0))
     rw[cnd_n (by decide),yey s rfl]
    ·rintro r hr ⟨p3,h3,o3⟩ S3 again hag
     dsimp only at S3
     obtain⟨b1,b2,b3⟩:=hbl r hr
     show stdW.cnd (decide ((r:Int)<2)) _ _=some (resD s (runA (zao (asS s) ([hs,[fU]][r]) us++([hs,[fU]].drop (r+1)).flatMap fun b=>zao (asS s) b us) p3 h3 o3))
     have hr2:r<2:=hr
     rw[cnd_y (decide_eq_true (by omega))]
     refine join_g fun k48 hk48=>?_
     have K48:∀by',by'=[hs,[fU]][r]→k48 (hs,(by',(us,(o3,()))))=some (resD s (runA (zao (asS s) ([hs,[fU]][r]) us++([hs,[fU]].drop (r+1)).flatMap fun b=>zao (asS s) b us) p3 h3 o3)):=by
      intro by' hby
      rw[←hby]at b1 b2 ⊢
      subst hk48
      generalize ([hs,[fU]].drop (r+1)).flatMap (fun b=>zao (asS s) b us)=RR at*
      show stdW.loop _ (hs,((0:Int),stT s p3 h3 (us,(o3,()))))=_
      refine zct (l:=us) (s0:=((p3,h3,o3):PHO)) (by omega) (fun i (z:PHO)=>(hs,((i:Int),stT s z.1 z.2.1 (us,(z.2.2,()))))) (fun i z=>StR z.1 z.2.1 z.2.2 (nr r+by'.length*i))
       (fun l' z=>some (resD s (runA (zao (asS s) by' l'++RR) z.1 z.2.1 z.2.2))) rfl S3 ?_ ?_
      ·rintro⟨p4,h4,o4⟩ S4 again4
       dsimp only at S4
       show stdW.cnd (decide ((us.length:Int)<(us.length:Int))) _ (again (hs,(IntKind.i64.wrap ((r:Int)+1),stT s p4 h4 (us,(o4,())))))=some (resD s (runA RR p4 h4 o4))
       rw[zaj,i64_s r (by omega)]
       exact hag (p4,h4,o4) (S4.mono b2)
      ·rintro i hi ⟨p4,h4,o4⟩ S4 again4 hag4
       dsimp only at S4
       have hmul:by'.length*i+by'.length≤by'.length*us.length:=by
        have:=Nat.mul_le_mul_left by'.length (show i+1≤us.length from hi)
        rwa [Nat.mul_succ]at this
       have hmul2:by'.length*(i+1)=by'.length*i+by'.length:=Nat.mul_succ ..
       have ep:zao (asS s) by' (us[i]::us.drop (i+1))=(by'.map fun b=>fun p h=>payF (asS s) p h b us[i])++zao (asS s) by' (us.drop (i+1)):=by unfold zao; rw[List.flatMap_cons]
       show stdW.cnd (decide ((i:Int)<(us.length:Int))) (stdW.loop _ (hs,((0:Int),stT s p4 h4 (us,(o4,()))))) _=some (resD s (runA (zao (asS s) by' (us[i]::us.drop (i+1))++RR) p4 h4 o4))
       rw[cnd_lt hi,ep,List.append_assoc]
       refine zct (l:=by') (s0:=((p4,h4,o4):PHO)) (by omega) (fun k (z:PHO)=>(hs,((k:Int),stT s z.1 z.2.1 (us,(z.2.2,()))))) (fun k z=>StR z.1 z.2.1 z.2.2 (nr r+by'.length*i+k))
        (fun l' z=>some (resD s (runA ((l'.map fun b=>fun p h=>payF (asS s) p h b us[i])++(zao (asS s) by' (us.drop (i+1))++RR)) z.1 z.2.1 z.2.2))) rfl S4 ?_ ?_
       ·rintro⟨p5,h5,o5⟩ S5 again5
        dsimp only at S5
        show stdW.cnd (decide ((by'.length:Int)<(by'.length:Int))) _ (again4 (hs,(IntKind.i64.wrap ((i:Int)+1),stT s p5 h5 (us,(o5,())))))=some (resD s (runA (zao (asS s) by' (us.drop (i+1))++RR) p5 h5 o5))
        rw[zaj,i64_s i (by omega)]
        exact hag4 (p5,h5,o5) (by rw[hmul2]; exact S5.mono (by omega))
       ·rintro k hk ⟨p5,h5,o5⟩ S5 again5 hag5
        dsimp only at S5
        have pl:=S5.pl; have hl:=S5.hl; have dl:=S5.dl
        show stdW.cnd (decide ((k:Int)<(by'.length:Int))) _ _=some (resD s (runA ((fun p h=>payF (asS s) p h by'[k] us[i])::(((by'.drop (k+1)).map fun b=>fun p h=>payF (asS s) p h b us[i])++(zao (asS s) by' (us.drop (i+1))++RR))) p5 h5 o5))
        rw[cnd_lt hk]
        have good:=yga (asS s) by'[k] us[i] p5 h5 o5 _ S5 (by omega)
        refine join_g fun k40 hk40=>?_
        have K40:∀p' h' o',StR p' h' o' (nr r+by'.length*i+k+1)→k40 (hs,stT s p' h' (us,(o',())))=some (resD s (runA (((by'.drop (k+1)).map fun b=>fun p h=>payF (asS s) p h b us[i])++(zao (asS s) by' (us.drop (i+1))++RR)) p' h' o')):=by
         intro p' h' o' S'
         subst hk40
         show again5 (hs,(IntKind.i64.wrap ((k:Int)+1),stT s p' h' (us,(o',()))))=_
         rw[i64_s k (by omega)]
         exact hag5 (p',h',o') S'
        clear hk40 hag5 hag4
        show stdW.idx by' (k:Int) _=_
        rw[idx_w hk]
        show stdW.idx us (i:Int) _=_
        rw[idx_w hi]
        show stdW.nth us (Int.toNat (i:Int)) _=_
        rw[nth_w hi]
        show stdW.call (ycb (updS s p5 h5) by'[k] us[i]) _=_
        rw[zaa (r_pay31 ha hl1 S5.hh (by omega) S5.f (by omega))]
        refine act31 (K:=fun v=>stdW.cnd (v.2.2.1 != 0) (some (zS,([],v.2.2))) (stdW.room (o5.length+v.2.1.length) 40 (k40 (hs,stT v.1 (pu v.1) (ho v.1) (us,(o5++v.2.1,())))))) (a:=fun p h=>payF (asS s) p h by'[k] us[i]) (r:=payF (asS s) p5 h5 by'[k] us[i]) (fun he=>?_) (fun he=>?_) rfl
        ·have G:=good he
         have gd:=G.dl
         rw[List.length_append]at gd
         dsimp only at G gd
         generalize payF (asS s) p5 h5 by'[k] us[i]=r5 at*
         show stdW.cnd ((0:Int) != 0) _ (stdW.room (o5.length+r5.2.2.1.length) 40 (k40 (hs,stT s r5.1 r5.2.1 (us,(o5++r5.2.2.1,())))))=_
         rw[cnd_n (by rfl),room_w (by omega) (by omega)]
         exact K40 _ _ _ G
        ·generalize payF (asS s) p5 h5 by'[k] us[i]=r5 at*
         show stdW.cnd (r5.2.2.2 != 0) (some (zS,([],(r5.2.2.2,())))) _=_
         rw[cnd_y (by simpa using he)]
     clear hk48
     show stdW.cnd ((r:Int)==1) (k48 (hs,([fU],(us,(o3,()))))) (k48 (hs,(hs,(us,(o3,())))))=_
     match r,hr2,K48 with
     |0,_,K48=>rw[cnd_n (by rfl)]; exact K48 hs rfl
     |1,_,K48=>rw[cnd_y (by rfl)]; exact K48 [fU] rfl
   ·-- one account
    rintro i hi ⟨p2,h2,o2⟩ S2 again hag
    dsimp only at S2
    have pl:=S2.pl; have hl:=S2.hl; have dl:=S2.dl
    have hu:=zgo (hc _ (List.getElem_mem hi))
    show stdW.cnd (decide ((i:Int)<((stT s p2 h2 (us,(hs,(o2,())))).2.2.2.2.1.length:Int))) _ _=some (resD s (runA (zar (asS s) ((s.2.2.2.2.1[i]::s.2.2.2.2.1.drop (i+1)).filter (isM id))++(zao (asS s) hs us++zao (asS s) [fU] us)) p2 h2 o2))
    rw[show (stT s p2 h2 (us,(hs,(o2,())))).2.2.2.2.1=s.2.2.2.2.1 from rfl,cnd_lt hi]
    refine join_g fun k21 hk21=>?_
    have K21:∀p' h' o',StR p' h' o' (400+40*i+40)→k21 (stT s p' h' (us,(hs,(o',()))))=some (resD s (runA (zar (asS s) ((s.2.2.2.2.1.drop (i+1)).filter (isM id))++(zao (asS s) hs us++zao (asS s) [fU] us)) p' h' o')):=by
     intro p' h' o' S'
     subst hk21
     show again (IntKind.i64.wrap ((i:Int)+1),stT s p' h' (us,(hs,(o',()))))=_
     rw[i64_s i (by omega)]
     exact hag (p',h',o') S'
    clear hk21 hag
    have Sk:=S2.mono (m:=400+40*i+40) (by omega)
    refine join_g fun k29 hk29=>?_
    have Kf:k29 (false,(us,(hs,(o2,()))))=some (resD s (runA (zar (asS s) ((s.2.2.2.2.1.drop (i+1)).filter (isM id))++(zao (asS s) hs us++zao (asS s) [fU] us)) p2 h2 o2)):=by
     subst hk29
     show stdW.cnd false _ (k21 (stT s p2 h2 (us,(hs,(o2,())))))=_
     rw[cnd_n (by rfl)]; exact K21 _ _ _ Sk
    have Kt:k29 (true,(us,(hs,(o2,()))))=some (resD s (runA (zcr (asS s) (unitsA s.2.2.2.2.1[i])::(zar (asS s) ((s.2.2.2.2.1.drop (i+1)).filter (isM id))++(zao (asS s) hs us++zao (asS s) [fU] us))) p2 h2 o2)):=by
     subst hk29
     show stdW.cnd true (stdW.idx s.2.2.2.2.1 (i:Int) _) _=_
     rw[cnd_y (by rfl),idx_w hi]
     show stdW.call (zin s.2.2.2.2.1[i]) _=_
     rw[zaa (zqf (a:=s.2.2.2.2.1[i]) (by have:=hc _ (List.getElem_mem hi); omega))]
     have S1:StR p2 h2 [] (400+40*i):=⟨S2.f,S2.pl,S2.hh,S2.hl,Nat.zero_le _⟩
     have good:=zuk (asS s) (unitsA s.2.2.2.2.1[i]) hu p2 h2 o2 _ S2 (by omega)
     show stdW.call (zsr (updS s p2 h2) (unitsA s.2.2.2.2.1[i])) _=_
     rw[zaa (r_shared31 ha hl1 hu S1 (by omega))]
     refine act31 (K:=fun v=>stdW.cnd (v.2.2.1 != 0) (some (zS,([],v.2.2))) (stdW.room (o2.length+v.2.1.length) 40 (k21 (stT v.1 (pu v.1) (ho v.1) (us,(hs,(o2++v.2.1,()))))))) (a:=zcr (asS s) (unitsA s.2.2.2.2.1[i])) (r:=zcr (asS s) (unitsA s.2.2.2.2.1[i]) p2 h2) (fun he=>?_) (fun he=>?_) rfl
     ·have G:=good he
      have gd:=G.dl
      rw[List.length_append]at gd
      dsimp only at G gd
      generalize zcr (asS s) (unitsA s.2.2.2.2.1[i]) p2 h2=r5 at*
      show stdW.cnd ((0:Int) != 0) _ (stdW.room (o2.length+r5.2.2.1.length) 40 (k21 (stT s r5.1 r5.2.1 (us,(hs,(o2++r5.2.2.1,()))))))=_
      rw[cnd_n (by rfl),room_w (by omega) (by omega)]
      exact K21 _ _ _ G
     ·generalize zcr (asS s) (unitsA s.2.2.2.2.1[i]) p2 h2=r5 at*
      show stdW.cnd (r5.2.2.2 != 0) (some (zS,([],(r5.2.2.2,())))) _=_
      rw[cnd_y (by simpa using he)]
    clear hk29
    show stdW.idx s.2.2.2.2.1 (i:Int) (fun x30=>stdW.cnd (x30.2.1==id) (stdW.idx s.2.2.2.2.1 (i:Int) fun x31=>k29 (x31.2.2.1==2,(us,(hs,(o2,()))))) (k29 (false,(us,(hs,(o2,()))))))=_
    rw[idx_w hi,List.filter_cons]
    by_cases hm:s.2.2.2.2.1[i].2.1=id
    ·rw[cnd_y (by simp[hm]),idx_w hi,if_pos (by unfold isM; simp[hm])]
     unfold zar at Kt Kf ⊢
     rw[List.filter_cons]
     by_cases hk2:s.2.2.2.2.1[i].2.2.1=2
     ·rw[if_pos (by simp[hk2]),show (s.2.2.2.2.1[i].2.2.1==2)=true by simp[hk2]]; exact Kt
     ·rw[if_neg (by simp[hk2]),show (s.2.2.2.2.1[i].2.2.1==2)=false by simp[hk2]]; exact Kf
    ·rw[cnd_n (by simpa using hm),if_neg (by unfold isM; simpa using hm)]; exact Kf
  ·-- one unit for itself
   rintro i hi ⟨p1,h1,o1⟩ S1 again hag
   dsimp only at S1
   have pl:=S1.pl; have hl:=S1.hl; have dl:=S1.dl
   show stdW.cnd (decide ((i:Int)<(us.length:Int))) _ _=some (resD s (runA ((fun p h=>ownF (asS s) p h us[i])::(zbu (asS s) (us.drop (i+1))++(zar (asS s) (s.2.2.2.2.1.filter (isM id))++(zao (asS s) hs us++zao (asS s) [fU] us)))) p1 h1 o1))
   rw[cnd_lt hi]
   have good:=ygb (asS s) us[i] p1 h1 o1 _ S1 (by omega)
   refine join_g fun k11 hk11=>?_
   have K11:∀p' h' o',StR p' h' o' (i+1)→k11 (stT s p' h' (us,(hs,(o',()))))=some (resD s (runA (zbu (asS s) (us.drop (i+1))++(zar (asS s) (s.2.2.2.2.1.filter (isM id))++(zao (asS s) hs us++zao (asS s) [fU] us))) p' h' o')):=by
    intro p' h' o' S'
    subst hk11
    show again (IntKind.i64.wrap ((i:Int)+1),stT s p' h' (us,(hs,(o',()))))=_
    rw[i64_s i (by omega)]
    exact hag (p',h',o') S'
   clear hk11 hag
   show stdW.idx us (i:Int) _=_
   rw[idx_w hi]
   show stdW.nth us (Int.toNat (i:Int)) _=_
   rw[nth_w hi]
   show stdW.call (ycc (updS s p1 h1) us[i]) _=_
   rw[zaa (r_own31 ha hl1 S1.hh (by omega) S1.f (by omega))]
   refine act31 (K:=fun v=>stdW.cnd (v.2.2.1 != 0) (some (zS,([],v.2.2))) (stdW.room (o1.length+v.2.1.length) 40 (k11 (stT v.1 (pu v.1) (ho v.1) (us,(hs,(o1++v.2.1,()))))))) (a:=fun p h=>ownF (asS s) p h us[i]) (r:=ownF (asS s) p1 h1 us[i]) (fun he=>?_) (fun he=>?_) rfl
   ·have G:=good he
    have gd:=G.dl
    rw[List.length_append]at gd
    dsimp only at G gd
    generalize ownF (asS s) p1 h1 us[i]=r5 at*
    show stdW.cnd ((0:Int) != 0) _ (stdW.room (o1.length+r5.2.2.1.length) 40 (k11 (stT s r5.1 r5.2.1 (us,(hs,(o1++r5.2.2.1,()))))))=_
    rw[cnd_n (by rfl),room_w (by omega) (by omega)]
    exact K11 _ _ _ G
   ·generalize ownF (asS s) p1 h1 us[i]=r5 at*
    show stdW.cnd (r5.2.2.2 != 0) (some (zS,([],(r5.2.2.2,())))) _=_
    rw[cnd_y (by simpa using he)]
 ·-- units and houses
  rintro i hi ⟨us,hs⟩ ⟨u1,u2⟩ again hag
  dsimp only at u1 u2
  have hu:=zgo (hc _ (List.getElem_mem hi))
  have ea:zin s.2.2.2.2.1[i]=some (unitsA s.2.2.2.2.1[i]):=zqf (a:=s.2.2.2.2.1[i]) (by have:=hc _ (List.getElem_mem hi); omega)
  show stdW.cnd (decide ((i:Int)<(s.2.2.2.2.1.length:Int))) _ _=some (resD s (runA (waterA (asS s) (s.2.2.2.2.1.filter (isM id)) (us++allU ((s.2.2.2.2.1[i]::s.2.2.2.2.1.drop (i+1)).filter (isM id))) (hs++houseU ((s.2.2.2.2.1[i]::s.2.2.2.2.1.drop (i+1)).filter (isM id)))) p h []))
  rw[cnd_lt hi]
  refine join_g fun k4 hk4=>?_
  have K4:∀us' hs',us'.length≤20*(i+1)→hs'.length≤i+1→k4 (us',(hs',()))=some (resD s (runA (waterA (asS s) (s.2.2.2.2.1.filter (isM id)) (us'++allU ((s.2.2.2.2.1.drop (i+1)).filter (isM id))) (hs'++houseU ((s.2.2.2.2.1.drop (i+1)).filter (isM id)))) p h [])):=by
   intro us' hs' g1 g2
   subst hk4
   show again (IntKind.i64.wrap ((i:Int)+1),(us',(hs',())))=_
   rw[i64_s i (by omega)]
   exact hag (us',hs') ⟨g1,g2⟩
  clear hk4 hag
  show stdW.idx s.2.2.2.2.1 (i:Int) (fun x5=>stdW.cnd (x5.2.1==id) (stdW.call (zin x5) fun v6=>stdW.room (us.length+v6.length) 16 (stdW.cnd (x5.2.2.1==1) (stdW.call (zin x5) fun v7=>stdW.room (hs.length+v7.length) 16 (k4 (us++v6,(hs++v7,())))) (k4 (us++v6,(hs,()))))) (k4 (us,(hs,()))))=_
  rw[idx_w hi,List.filter_cons]
  by_cases hm:s.2.2.2.2.1[i].2.1=id
  ·have e1:∀l:List zab,us++allU (s.2.2.2.2.1[i]::l)=us++unitsA s.2.2.2.2.1[i]++allU l:=fun l=>by unfold allU; rw[List.flatMap_cons,List.append_assoc]
   rw[cnd_y (by simp[hm]),if_pos (by unfold isM; simp[hm]),zaa ea,room_w (by omega) (by omega),e1,zvv]
   by_cases hk1:s.2.2.2.2.1[i].2.2.1=1
   ·have h1:=ydt hk1
    rw[cnd_y (by simp[hk1]),zaa ea,room_w (by omega) (by omega),if_pos hk1,K4 _ _ (by rw[List.length_append]; omega) (by rw[List.length_append]; omega),List.append_assoc hs]
   ·rw[cnd_n (by simp[hk1]),if_neg hk1,K4 _ _ (by rw[List.length_append]; omega) (by omega)]
  ·rw[cnd_n (by simpa using hm),if_neg (by unfold isM; simpa using hm),K4 _ _ (by omega) (by omega)]
end Go.Proofs.YtllkmncnmlmefaaGreat

namespace Go.Proofs.YtllkmncnmlmefaaGreat
open Go Go.Vc Go.RowKit
set_option synthInstance.maxSize 100000
set_option synthInstance.maxHeartbeats 0
theorem OkS.st{t:zad}(O:OkS t):StR (pu t) (ho t) [] 0:=⟨O.f,by have:=O.fL; omega,O.h,by have:=O.hL; omega,Nat.le_refl _⟩
theorem OkS.as{t:zad}(O:OkS t):okAs t.2.2.2.2.1:=⟨fun a ha=>by have:=(O.c a ha).2; omega,by have:=O.cL; omega⟩
theorem OkS.water{t:zad}(O:OkS t)(id:Int):ybm t (t.2.2.2.2.1.filter (isM id)):=
 ⟨O.a,by have:=O.aL; omega,fun a ha=>(O.c a (List.mem_filter.1 ha).1).2,Nat.le_trans (List.length_filter_le _ _) O.cL⟩
def zdf(t:zad)(id:Int):List ActF:=waterA (asS t) (t.2.2.2.2.1.filter (isM id)) (allU (t.2.2.2.2.1.filter (isM id))) (houseU (t.2.2.2.2.1.filter (isM id)))
theorem zxe(as:List zaf)(A:List zab):(zar as A).length≤A.length:=by
 unfold zar; rw[List.length_map]; exact List.length_filter_le _ _
theorem yhv{t:zad}(O:OkS t){id:Int}(he:(runA (zdf t id) (pu t) (ho t) []).2.2.2=0):
  StR (runA (zdf t id) (pu t) (ho t) []).1 (runA (zdf t id) (pu t) (ho t) []).2.1 (runA (zdf t id) (pu t) (ho t) []).2.2.1 10000:=by
 have W:=O.water id
 obtain⟨l1,l2⟩:=W.lens
 have cL:=W.cL
 unfold zdf at he ⊢
 generalize hA:t.2.2.2.2.1.filter (isM id)=A at*
 have hsl:=zxe (asS t) A
 have S1:=run_st (zbu (asS t) (allU A)) (yjk _ _) (st:=(pu t,ho t,[],0)) (n:=0) (fun _=>O.st) (by unfold zbu; rw[List.length_map]; omega)
 rw[show (zbu (asS t) (allU A)).length=(allU A).length by unfold zbu; rw[List.length_map]]at S1
 have S1':=S1.mono (m:=400) (by omega)
 have S2:=run_st (zar (asS t) A) (zul W.c) S1' (by omega)
 have S2':=S2.mono (m:=1200) (by omega)
 have hm:(houseU A).length*(allU A).length≤20*400:=Nat.mul_le_mul l2 l1
 have S3:=run_st (zao (asS t) (houseU A) (allU A)) (yaa _ _ _) S2' (by rw[zpf]; omega)
 rw[zpf]at S3
 have S3':=S3.mono (m:=9200) (by omega)
 have S4:=run_st (zao (asS t) [fU] (allU A)) (yaa _ _ _) S3' (by rw[zpf]; simp; omega)
 rw[zpf]at S4
 have S4':=S4.mono (m:=10000) (by simp; omega)
 have tot:runR (waterA (asS t) A (allU A) (houseU A)) (pu t,ho t,[],0)=runR (zao (asS t) [fU] (allU A)) (runR (zao (asS t) (houseU A) (allU A)) (runR (zar (asS t) A) (runR (zbu (asS t) (allU A)) (pu t,ho t,[],0)))):=by
  unfold waterA; rw[zeo,zeo,zeo]
 rw[←tot]at S4'
 obtain⟨_,r2,_⟩:=runR_A (waterA (asS t) A (allU A) (houseU A)) (pu t) (ho t) []
 rw[r2 he]at S4'
 exact S4' he
theorem ykv{t:zad}(O:OkS t)(id:Int):ykp t id=some (resD t (runA (zdf t id) (pu t) (ho t) [])):=by
 have:=r_All (s:=t) (p:=pu t) (h:=ho t) (id:=id) O.as (O.water id) O.st
 rwa [yhy]at this
theorem all_ref{t:zad}(O:OkS t)(id:Int):ycd t id=some (resD t (runA (zdf t id) (pu t) (ho t) [])):=by
 have:=r_All31 (s:=t) (p:=pu t) (h:=ho t) (id:=id) O.a (by have:=O.aL; omega) (fun a ha=>(O.c a ha).2) O.cL O.st
 rwa [yhy]at this
theorem all_plain{s t:zad}{id:Int}(e:zqn s=some t)(O:OkS t):zeh stdW s id=some true:=by
 unfold zeh
 have sm:zxx (resD t (runA (zdf t id) (pu t) (ho t) [])).1 (resD t (runA (zdf t id) (pu t) (ho t) [])).1=some true∧zmf (resD t (runA (zdf t id) (pu t) (ho t) [])).2.1 (resD t (runA (zdf t id) (pu t) (ho t) [])).2.1=some true:=by
  have S:=fun he=>yhv (t:=t) O (id:=id) he
  generalize runA (zdf t id) (pu t) (ho t) []=r at*
  unfold resD
  split
  ·next h=>
   have S:=S h
   have:=S.pl; have:=S.dl
   exact⟨yiv (by show r.1.length≤1000000; omega) S.hh,r_sameD (by show r.2.2.1.length≤1000000; omega)⟩
  ·exact⟨yiv (by simp[pu,zS]) zel,r_sameD (by simp)⟩
 rw[zaa e,zaa (ykv O id),zaa (all_ref O id),zaa sm.1,cnd_y (by rfl),zaa sm.2,cnd_y (by rfl),cnd_y (by simp),zaa zva]
theorem all_true(x0:DT.den tAState)(x1:DT.den (.int .i64))(o0:DT.okD tAState x0)(_:DT.okD (.int .i64) x1):zeh stdW x0 x1=some true:=by
 obtain⟨t,e,O⟩:=few31_D o0
 exact all_plain e O
end Go.Proofs.YtllkmncnmlmefaaGreat

namespace Go.Proofs.YtllkmncnmlmefaaGreat
open Go Go.Vc Go.RowKit
theorem yjp{p:List AFlow'}{f t:AUnit'}{n:Int}(h:(moveP p f t n).2.1=0):
  (∀v,getP (moveP p f t n).1 v=getP p v+((if f=v then -n else 0)+(if t=v then n else 0)))∧sumBy amt (moveP p f t n).1=sumBy amt p:=by
 obtain⟨_,e⟩:=yjo h
 rw[e]at h ⊢
 obtain⟨hp,e1,_⟩:=payP_ok h
 rw[e1]
 refine⟨fun v=>?_,?_⟩
 ·rw[resP_get,sumU_app,←yas (isP_nd hp),zic,zic]
  show _=_+((if f=v then -n else 0)+(if t=v then n else 0))
  have:sumU [] v=0:=rfl
  rw[this]
  simp only[amt,Int.add_zero]
 ·rw[resP_sum,zid,zba,zba,zfh]
  simp only[amt]; omega
def wL(w:Int→Int)(l:List ALot'):Int:=sumBy (fun y=>w y.1*y.2.2.1) l
def wH(w:Int→Int)(h:List AHold'):Int:=sumBy (fun y=>wL w y.2.1) h
theorem wL_nil(w:Int→Int):wL w []=0:=rfl
theorem zyq(w:Int→Int)(x:ALot')(l:List ALot'):wL w (x::l)=w x.1*x.2.2.1+wL w l:=zba ..
theorem wL_app(w:Int→Int)(a b:List ALot'):wL w (a++b)=wL w a+wL w b:=zid ..
theorem wL_set{l:List ALot'}(h:SrtL l)(x:ALot')(w:Int→Int):wL w (setL l x)=wL w l - w x.1*getL l x.1 x.2.1+w x.1*x.2.2.1:=by
 have e:wL w l=wL w (lowL x l)+(wL w (midK x l)+wL w (highL x l)):=by
  conv=>lhs; rw[cutL x h]
  rw[wL_app,wL_app]
 have em:wL w (midK x l)=w x.1*getL l x.1 x.2.1:=by
  rcases yjq h x with hm|⟨y,hm,hs,_⟩
  ·rw[hm,ydw hm,wL_nil,Int.mul_zero]
  ·rw[hm,ydv hm,zyq,wL_nil,hs.1,Int.add_zero]
 unfold setL
 rw[wL_app,wL_app,e,em]
 by_cases h0:x.2.2.1=0
 ·rw[if_pos h0,wL_nil,h0,Int.mul_zero]; omega
 ·rw[if_neg h0,zyq,wL_nil]; omega
theorem takeL_w{l:List ALot'}{x:ALot'}(h:(takeL l x).2.1=0)(w:Int→Int):rightL x∧wL w (takeL l x).1=wL w l - w x.1*x.2.2.1:=by
 unfold takeL at h ⊢
 by_cases h1:isL l=true
 ·rw[if_pos h1]at h ⊢
  by_cases h2:rightL x
  ·rw[if_pos h2]at h ⊢
   by_cases h3:getL l x.1 x.2.1<x.2.2.1
   ·rw[if_pos h3]at h; simp at h
   ·rw[if_neg h3]
    refine⟨h2,?_⟩
    show wL w (setL l (x.1,(x.2.1,(getL l x.1 x.2.1 - x.2.2.1,()))))=_
    rw[wL_set (of_decide_eq_true h1:LInv l).2.1]
    show wL w l - w x.1*getL l x.1 x.2.1+w x.1*(getL l x.1 x.2.1 - x.2.2.1)=_
    rw[Int.mul_sub]; omega
  ·rw[if_neg h2]at h; simp at h
 ·rw[if_neg h1]at h; simp at h
theorem putL_w{l:List ALot'}{x:ALot'}(h:(putL l x).2.1=0)(w:Int→Int):wL w (putL l x).1=wL w l+w x.1*x.2.2.1:=by
 unfold putL at h ⊢
 by_cases h1:isL l=true
 ·rw[if_pos h1]at h ⊢
  by_cases h2:rightL x
  ·rw[if_pos h2]at h ⊢
   by_cases h3:I64 (getL l x.1 x.2.1+x.2.2.1)
   ·rw[if_pos h3]at h ⊢
    by_cases h4:getL l x.1 x.2.1=0∧l.length=16
    ·rw[if_pos h4]at h; simp at h
    ·rw[if_neg h4]
     show wL w (setL l (x.1,(x.2.1,(getL l x.1 x.2.1+x.2.2.1,()))))=_
     rw[wL_set (of_decide_eq_true h1:LInv l).2.1]
     show wL w l - w x.1*getL l x.1 x.2.1+w x.1*(getL l x.1 x.2.1+x.2.2.1)=_
     rw[Int.mul_add]; omega
   ·rw[if_neg h3]at h; simp at h
  ·rw[if_neg h2]at h; simp at h
 ·rw[if_neg h1]at h; simp at h
theorem wH_app(w:Int→Int)(a b:List AHold'):wH w (a++b)=wH w a+wH w b:=zid ..
theorem wH_set{l:List AHold'}(h:SrtA (l.map (·.1)))(u:AUnit')(now:List ALot')(w:Int→Int):wH w (setH l u now)=wH w l - wL w (lotsH l u)+wL w now:=by
 have e:wH w l=wH w (lowH u l)+(wH w (midH u l)+wH w (highH u l)):=by
  conv=>lhs; rw[cutH u h]
  rw[wH_app,wH_app]
 have em:wH w (midH u l)=wL w (lotsH l u):=by
  rcases midH_cases h u with ⟨hm,_,h0⟩|⟨hm,_⟩
  ·rw[hm,h0]; rfl
  ·rw[hm]; unfold wH; rw[zba,zfh]; exact Int.add_zero _
 unfold setH
 rw[wH_app,wH_app,e,em]
 by_cases h0:now=[]
 ·rw[if_pos h0,h0,wL_nil]; show _+(0+_)=_; omega
 ·have e1:wH w [(u,(now,()))]=wL w now:=by unfold wH; rw[zba,zfh]; exact Int.add_zero _
  rw[if_neg h0,e1]; omega
theorem takeH_w{h:List AHold'}{u:AUnit'}{x:ALot'}(he:(takeH h u x).2.1=0):rightL x∧(∀v,v≠u→lotsH (takeH h u x).1 v=lotsH h v)∧
  ∀w,wL w (lotsH (takeH h u x).1 u)=wL w (lotsH h u) - w x.1*x.2.2.1∧wH w (takeH h u x).1=wH w h - w x.1*x.2.2.1:=by
 unfold takeH at he ⊢
 by_cases h1:isH h=true
 ·rw[if_pos h1]at he ⊢
  by_cases h2:(takeL (lotsH h u) x).2.1=0
  ·rw[if_pos h2]
   have hs:=isH_srt h1
   refine⟨(takeL_w h2 (fun _=>0)).1,fun v hv=>?_,fun w=>?_⟩
   ·show lotsH (setH h u (takeL (lotsH h u) x).1) v=_
    rw[yev hs,if_neg hv]
   ·have e:=(takeL_w h2 w).2
    refine⟨?_,?_⟩
    ·show wL w (lotsH (setH h u (takeL (lotsH h u) x).1) u)=_
     rw[yev hs,if_pos rfl,e]
    ·show wH w (setH h u (takeL (lotsH h u) x).1)=_
     rw[wH_set hs,e]; omega
  ·rw[if_neg h2]at he; exact absurd he h2
 ·rw[if_neg h1]at he; simp at he
theorem putH_w{h:List AHold'}{u:AUnit'}{x:ALot'}(he:(putH h u x).2.1=0):(∀v,v≠u→lotsH (putH h u x).1 v=lotsH h v)∧∀w,wH w (putH h u x).1=wH w h+w x.1*x.2.2.1:=by
 unfold putH at he ⊢
 by_cases h1:isH h=true
 ·rw[if_pos h1]at he ⊢
  by_cases h2:(putL (lotsH h u) x).2.1=0
  ·rw[if_pos h2]
   have hs:=isH_srt h1
   refine⟨fun v hv=>?_,fun w=>?_⟩
   ·show lotsH (setH h u (putL (lotsH h u) x).1) v=_
    rw[yev hs,if_neg hv]
   ·show wH w (setH h u (putL (lotsH h u) x).1)=_
    rw[wH_set hs,putL_w h2 w]; omega
  ·rw[if_neg h2]at he; exact absurd he h2
 ·rw[if_neg h1]at he; simp at he
theorem passH_w{h:List AHold'}{f t:AUnit'}{x:ALot'}{tag:Int}(he:(passH h f t x tag).2.1=0):rightL x∧(∀v,v≠f→v≠t→lotsH (passH h f t x tag).1 v=lotsH h v)∧
  ∀w,wL w (lotsH (passH h f t x tag).1 f)=wL w (lotsH h f) - w x.1*x.2.2.1∧wH w (passH h f t x tag).1=wH w h:=by
 unfold passH at he ⊢
 by_cases h1:isH h=true
 ·rw[if_pos h1]at he ⊢
  by_cases h2:f=t
  ·rw[if_pos h2]at he; simp at he
  ·rw[if_neg h2]at he ⊢
   by_cases h3:(takeH h f x).2.1=0
   ·rw[if_pos h3]at he ⊢
    obtain⟨a1,a2,a3⟩:=takeH_w h3
    obtain⟨b1,b2⟩:=putH_w he
    refine⟨a1,fun v hv ht=>?_,fun w=>?_⟩
    ·rw[b1 v ht,a2 v hv]
    ·obtain⟨c1,c2⟩:=a3 w
     refine⟨by rw[b1 f h2,c1],?_⟩
     rw[b2 w,c2]
     show wH w h - w x.1*x.2.2.1+w x.1*x.2.2.1=_
     omega
   ·rw[if_neg h3]at he; exact absurd he h3
 ·rw[if_neg h1]at he; simp at he
theorem fits64_ok{z:Int}(h:(fits64 z).2.1=0):(fits64 z).1=z∧I64 z:=by
 unfold fits64 at h ⊢
 split
 ·next g=>exact⟨rfl,g⟩
 ·next g=>rw[if_neg g]at h; simp at h
def prA(as:List zaf)(k:Int):Int:=zac (findA as k).1
def valA(as:List zaf)(l:List ALot'):Int:=wL (prA as) l
theorem prA_pos{as:List zaf}(ha:∀a∈as,okA1 a)(k:Int):0≤prA as k:=by
 unfold prA
 induction as with
 |nil=>exact Int.le_refl 0
 |cons a as ih=>
  rw[findA]
  split
  ·exact(ha a List.mem_cons_self).2.1.1
  ·exact ih fun b hb=>ha b (List.mem_cons_of_mem _ hb)
structure SellR(as:List zaf)(u:AUnit')(p:List AFlow')(h:List AHold')(p':List AFlow')(h':List AHold'):Prop where
 f:okF p→okF p'
 oth:∀v,v≠u→v≠tU→getP p' v=getP p v∧lotsH h' v=lotsH h v
 up:getP p u≤getP p' u
 val:valA as (lotsH h' u)+getP p' u=valA as (lotsH h u)+getP p u
 cash:sumBy amt p'=sumBy amt p
 qty:∀w,wH w h'=wH w h
theorem SellR.rfl'(as:List zaf)(u:AUnit')(p:List AFlow')(h:List AHold'):SellR as u p h p h:=⟨id,fun _ _ _=>⟨rfl,rfl⟩,Int.le_refl _,rfl,rfl,fun _=>rfl⟩
theorem SellR.trans{as:List zaf}{u:AUnit'}{p p1 p2:List AFlow'}{h h1 h2:List AHold'}(a:SellR as u p h p1 h1)(b:SellR as u p1 h1 p2 h2):SellR as u p h p2 h2:=
 ⟨fun x=>b.f (a.f x),fun v h1 h2=>⟨(b.oth v h1 h2).1.trans (a.oth v h1 h2).1,(b.oth v h1 h2).2.trans (a.oth v h1 h2).2⟩,Int.le_trans a.up b.up,b.val.trans a.val,b.cash.trans a.cash,fun w=>(b.qty w).trans (a.qty w)⟩
theorem upZ_le{m d:Int}(hd:0<d):m≤upZ m d*d:=by
 unfold upZ
 have:=Int.ediv_mul_le (-m) (Int.ne_of_gt hd)
 rw[Int.neg_mul]; omega
theorem sold_f{as:List zaf}(ha:∀a∈as,okA1 a){u:AUnit'}(hu:u≠tU){x:ALot'}{m:Int}{p:List AFlow'}{h:List AHold'}(he:(soldP as u x m p h).2.2=0):
  SellR as u p h (soldP as u x m p h).1 (soldP as u x m p h).2.1∧
  (getP p u+m≤getP (soldP as u x m p h).1 u∨valA as (lotsH (soldP as u x m p h).2.1 u)=valA as (lotsH h u) - prA as x.1*qtyOf x):=by
 have hpr:=prA_pos ha x.1
 unfold soldP at he ⊢
 by_cases h1:(findA as x.1).2.1=true
 ·rw[if_pos h1]at he ⊢
  by_cases h2:zac (findA as x.1).1=0
  ·rw[if_pos h2]
   refine⟨SellR.rfl' ..,.inr ?_⟩
   show valA as (lotsH h u)=_
   unfold prA
   rw[h2,Int.zero_mul]; omega
  ·rw[if_neg h2]at he ⊢
   by_cases h3:I64 (min (upZ m (zac (findA as x.1).1)) (qtyOf x)*zac (findA as x.1).1)
   ·rw[if_pos h3]at he ⊢
    by_cases h4:(passH h u tU (x.1,(x.2.1,(min (upZ m (zac (findA as x.1).1)) (qtyOf x),()))) 0).2.1=0
    ·rw[if_pos h4]at he ⊢
     by_cases h5:(moveP p tU u (min (upZ m (zac (findA as x.1).1)) (qtyOf x)*zac (findA as x.1).1)).2.1=0
     ·rw[if_pos h5]
      obtain⟨a1,a2,a3⟩:=passH_w h4
      obtain⟨b1,b2⟩:=yjp h5
      have hd:0<zac (findA as x.1).1:=by
       have:0≤zac (findA as x.1).1:=hpr
       omega
      have hup:=upZ_le (m:=m) hd
      have hq:0<min (upZ m (zac (findA as x.1).1)) (qtyOf x):=a1.2.2
      have hbu:=b1 u
      rw[if_neg (fun e=>hu e.symm),if_pos rfl]at hbu
      have hval:valA as (lotsH (passH h u tU (x.1,(x.2.1,(min (upZ m (zac (findA as x.1).1)) (qtyOf x),()))) 0).1 u)=valA as (lotsH h u) - prA as x.1*min (upZ m (zac (findA as x.1).1)) (qtyOf x):=(a3 (prA as)).1
      have hmul:prA as x.1*min (upZ m (zac (findA as x.1).1)) (qtyOf x)=min (upZ m (zac (findA as x.1).1)) (qtyOf x)*zac (findA as x.1).1:=Int.mul_comm ..
      have hpos:=Int.mul_pos hq hd
      refine⟨⟨fun _=>(ztu h5).1,fun v hv ht=>⟨?_,a2 v hv ht⟩,?_,?_,b2,fun w=>(a3 w).2⟩,?_⟩
      ·show getP (moveP p tU u _).1 v=_
       rw[b1 v,if_neg (fun e=>ht e.symm),if_neg (fun e=>hv e.symm)]; omega
      ·show _≤getP (moveP p tU u _).1 u
       rw[hbu]; omega
      ·show valA as _+getP (moveP p tU u _).1 u=_
       rw[hbu]
       show valA as (lotsH (passH h u tU _ 0).1 u)+_=_
       rw[hval,hmul]; omega
      ·show _≤getP (moveP p tU u _).1 u∨valA as (lotsH (passH h u tU _ 0).1 u)=_
       rw[hbu,hval]
       rcases Int.le_total (upZ m (zac (findA as x.1).1)) (qtyOf x) with hc|hc
       ·left
        rw[Int.min_eq_left hc]; omega
       ·right
        rw[Int.min_eq_right hc]
     ·rw[if_neg h5]at he; exact absurd he h5
    ·rw[if_neg h4]at he; exact absurd he h4
   ·rw[if_neg h3]at he; simp at he
 ·rw[if_neg h1]at he; simp at he
theorem zze{as:List zaf}(ha:∀a∈as,okA1 a){u:AUnit'}(hu:u≠tU)(c:Int):∀(l:List ALot') (p:List AFlow') (h:List AHold'),(sellGo as u c l p h).2.2=0→
  SellR as u p h (sellGo as u c l p h).1 (sellGo as u c l p h).2.1∧(c≤getP (sellGo as u c l p h).1 u∨valA as (lotsH (sellGo as u c l p h).2.1 u)=valA as (lotsH h u) - valA as l)
 |[],p,h,_=>⟨SellR.rfl' ..,.inr (by show _=_ - (0:Int); rw[Int.sub_zero]; rfl)⟩
 |x::l,p,h,he=>by
  rw[sellGo]at he ⊢
  by_cases hI:I64 (c - getP p u)
  ·rw[if_pos hI]at he ⊢
   have ev:valA as (x::l)=prA as x.1*qtyOf x+valA as l:=zyq ..
   by_cases h0:0<c - getP p u
   ·rw[if_pos h0]at he ⊢
    by_cases hs:(soldP as u x (c - getP p u) p h).2.2=0
    ·rw[if_pos hs]at he ⊢
     obtain⟨a,a1⟩:=sold_f ha hu hs
     obtain⟨b,b1⟩:=zze ha hu c l _ _ he
     refine⟨a.trans b,?_⟩
     rcases a1 with a1|a1
     ·left; have:=b.up; omega
     ·rcases b1 with b1|b1
      ·exact .inl b1
      ·right; rw[b1,a1,ev]; omega
    ·rw[if_neg hs]at he; exact absurd he hs
   ·rw[if_neg h0]at he ⊢
    obtain⟨b,b1⟩:=zze ha hu c l _ _ he
    refine⟨b,.inl ?_⟩
    have:=b.up; omega
  ·rw[if_neg hI]at he; simp at he
theorem sell_f{as:List zaf}(ha:∀a∈as,okA1 a){u:AUnit'}{c:Int}{p:List AFlow'}{h:List AHold'}(he:(sellP as p h u c).2.2=0):
  u≠tU∧SellR as u p h (sellP as p h u c).1 (sellP as p h u c).2.1∧(c≤getP (sellP as p h u c).1 u∨valA as (lotsH (sellP as p h u c).2.1 u)=0):=by
 unfold sellP at he ⊢
 by_cases h1:isP p=true∧isH h=true
 ·rw[if_pos h1]at he ⊢
  by_cases h2:u=tU
  ·rw[if_pos h2]at he; simp at he
  ·rw[if_neg h2]at he ⊢
   obtain⟨b,b1⟩:=zze ha h2 c _ _ _ he
   refine⟨h2,b,b1.imp id fun e=>?_⟩
   rw[e]; omega
 ·rw[if_neg h1]at he; simp at he
structure PayR(as:List zaf)(b t:AUnit')(n:Int)(p:List AFlow')(h:List AHold')(p':List AFlow')(h':List AHold'):Prop where
 f:okF p'
 oth:∀v,v≠b→v≠t→v≠tU→getP p' v=getP p v∧lotsH h' v=lotsH h v
 to:getP p' t=getP p t+n∧lotsH h' t=lotsH h t
 by':valA as (lotsH h' b)+getP p' b=valA as (lotsH h b)+getP p b - n∧(n≤valA as (lotsH h b)+getP p b→0≤getP p' b)
 bT:b≠tU
 cash:sumBy amt p'=sumBy amt p
 qty:∀w,wH w h'=wH w h
theorem pays_f{as:List zaf}(ha:∀a∈as,okA1 a){p:List AFlow'}{h:List AHold'}{b t:AUnit'}{n:Int}(hn:n≠0)(hbt:b≠t)(ht:t≠tU)(he:(paysP as p h b t n).2.2.2=0):
  PayR as b t n p h (paysP as p h b t n).1 (paysP as p h b t n).2.1∧(paysP as p h b t n).2.2.1=[(b,(t,(n,())))]:=by
 unfold paysP at he ⊢
 rw[if_neg hn]at he ⊢
 by_cases h1:(sellP as p h b n).2.2=0
 ·rw[if_pos h1]at he ⊢
  by_cases h2:(moveP (sellP as p h b n).1 b t n).2.1=0
  ·rw[if_pos h2]
   obtain⟨a0,a,a1⟩:=sell_f ha h1
   obtain⟨b1,b2⟩:=yjp h2
   have hb:=b1 b
   have htt:=b1 t
   rw[if_pos rfl,if_neg (fun e=>hbt e.symm)]at hb
   rw[if_neg hbt,if_pos rfl]at htt
   refine⟨⟨(ztu h2).1,fun v v1 v2 v3=>⟨?_,(a.oth v v1 v3).2⟩,⟨?_,(a.oth t (fun e=>hbt e.symm) ht).2⟩,⟨?_,fun hle=>?_⟩,a0,b2.trans a.cash,a.qty⟩,rfl⟩
   ·show getP (moveP _ b t n).1 v=_
    rw[b1 v,if_neg (fun e=>v1 e.symm),if_neg (fun e=>v2 e.symm),(a.oth v v1 v3).1]; omega
   ·show getP (moveP _ b t n).1 t=_
    rw[htt,(a.oth t (fun e=>hbt e.symm) ht).1]; omega
   ·show valA as (lotsH (sellP as p h b n).2.1 b)+getP (moveP _ b t n).1 b=_
    rw[hb]; have:=a.val; omega
   ·show 0≤getP (moveP _ b t n).1 b
    rw[hb]
    have:=a.val
    rcases a1 with a1|a1
    ·omega
    ·rw[a1]at this; omega
  ·rw[if_neg h2]at he; exact absurd he h2
 ·rw[if_neg h1]at he; exact absurd he h1
theorem yhw(as:List zaf):∀(l:List ALot') (acc:List Int),(valsGo as l acc).2.1=0→(valsGo as l acc).1.sum=acc.sum+valA as l
 |[],acc,_=>by show acc.sum=acc.sum+0; omega
 |x::l,acc,h=>by
  rw[valsGo]at h ⊢
  split
  ·next h1=>
   rw[if_pos h1]at h
   split
   ·next h2=>
    rw[if_pos h2]at h
    rw[yhw as l _ h,List.sum_append,List.sum_cons,List.sum_nil]
    have:valA as (x::l)=prA as x.1*qtyOf x+valA as l:=zyq ..
    rw[this,Int.mul_comm (prA as x.1)]
    unfold prA; omega
   ·next h2=>rw[if_neg h2]at h; simp at h
  ·next h1=>rw[if_neg h1]at h; simp at h
theorem room_f{as:List zaf}{p:List AFlow'}{h:List AHold'}{u:AUnit'}(he:(roomP as p h u).2.1=0):(roomP as p h u).1=max 0 (valA as (lotsH h u)+getP p u):=by
 unfold roomP at he ⊢
 by_cases h1:(worthP as (lotsH h u)).2.1=0
 ·rw[if_pos h1]at he ⊢
  have e:(worthP as (lotsH h u)).1=valA as (lotsH h u):=by
   unfold worthP at h1 ⊢
   split
   ·next g1=>
    rw[if_pos g1]at h1
    split
    ·next g2=>
     rw[if_pos g2]at h1
     have:=yhw as (lotsH h u) [] g2
     rw[(fits64_ok h1).1,this]; show 0+_=_; omega
    ·next g2=>rw[if_neg g2]at h1; exact absurd h1 g2
   ·next g1=>rw[if_neg g1]at h1; simp at h1
  rw[e]at he ⊢
  split
  ·rfl
  ·next g=>rw[if_neg g]at he; simp at he
 ·rw[if_neg h1]at he; exact absurd he h1
def owe(p:List AFlow')(u:AUnit'):Int:=(owesP p u).1
theorem owe_ok{p:List AFlow'}{u:AUnit'}(he:(owesP p u).2.1=0):getP p u ≠ -9223372036854775808∧owe p u=max 0 (- getP p u):=by
 unfold owe
 unfold owesP at he ⊢
 by_cases h1:getP p u = -9223372036854775808
 ·rw[if_pos h1]at he; simp at he
 ·rw[if_neg h1]
  refine⟨h1,?_⟩
  split
  ·show - getP p u=_; omega
  ·show (0:Int)=_; omega
theorem owe_of{p:List AFlow'}{u:AUnit'}(h:getP p u ≠ -9223372036854775808):owe p u=max 0 (- getP p u):=by
 unfold owe owesP
 rw[if_neg h]
 split
 ·show - getP p u=_; omega
 ·show (0:Int)=_; omega
theorem owe_eq{p q:List AFlow'}{u:AUnit'}(h:getP q u=getP p u):owe q u=owe p u:=by unfold owe owesP; rw[h]
def zcs(v:AUnit')(ds:List zbf):Int:=sumBy (fun d=>if d.2.1=v then d.2.2.1 else 0) ds
structure Fair(M:AUnit'→AUnit'→Prop)(p:List AFlow')(h:List AHold')(p':List AFlow')(h':List AHold')(ds:List zbf):Prop where
 ow:∀v,v≠tU→v≠fU→owe p v - owe p' v=zcs v ds
 may:∀d∈ds,(0<d.2.2.1∧I64 d.2.2.1)∧M d.1 d.2.1
 cash:sumBy amt p'=sumBy amt p
 qty:∀w,wH w h'=wH w h
theorem Fair.rfl'(M:AUnit'→AUnit'→Prop)(p:List AFlow')(h:List AHold'):Fair M p h p h []:=⟨fun v _ _=>by show _=(0:Int); omega,fun _ h=>(by cases h),rfl,fun _=>rfl⟩
theorem Fair.trans{M:AUnit'→AUnit'→Prop}{p p1 p2:List AFlow'}{h h1 h2:List AHold'}{d e:List zbf}(a:Fair M p h p1 h1 d)(b:Fair M p1 h1 p2 h2 e):Fair M p h p2 h2 (d++e):=
 ⟨fun v g1 g2=>by
  have x:=a.ow v g1 g2
  have y:=b.ow v g1 g2
  unfold zcs at*
  rw[zid]; omega,fun d hd=>(List.mem_append.1 hd).elim (a.may d) (b.may d),b.cash.trans a.cash,fun w=>(b.qty w).trans (a.qty w)⟩
structure Clean(as:List zaf)(U:AUnit'→Prop)(p:List AFlow')(h:List AHold'):Prop where
 f:okF p
 c:∀v,U v→v≠tU∧v≠fU∧(0≤getP p v∨valA as (lotsH h v)=0)
def FA(as:List zaf)(M:AUnit'→AUnit'→Prop)(U V:AUnit'→Prop)(a:ActF):Prop:=
 ∀p h,Clean as U p h→(a p h).2.2.2=0→Fair M p h (a p h).1 (a p h).2.1 (a p h).2.2.1∧Clean as V (a p h).1 (a p h).2.1
theorem own_fair{as:List zaf}(ha:∀a∈as,okA1 a){M:AUnit'→AUnit'→Prop}(hM:∀u,M u u){U:AUnit'→Prop}{u:AUnit'}(hu:u≠fU):
  FA as M U (fun v=>U v∨v=u) (fun p h=>ownF as p h u):=by
 intro p h C he
 dsimp only at he ⊢
 unfold ownF at he ⊢
 by_cases h1:(owesP p u).2.1=0
 ·rw[if_pos h1]at he ⊢
  by_cases h2:(sellP as p h u 0).2.2=0
  ·rw[if_pos h2]at he ⊢
   obtain⟨s0,s,s1⟩:=sell_f ha h2
   have hc:Clean as (fun v=>U v∨v=u) (sellP as p h u 0).1 (sellP as p h u 0).2.1:=⟨s.f C.f,fun v hv=>by
    by_cases hvu:v=u
    ·subst hvu; exact⟨s0,hu,s1⟩
    ·obtain⟨c1,c2,c3⟩:=C.c v (hv.resolve_right hvu)
     obtain⟨e1,e2⟩:=s.oth v hvu c1
     exact⟨c1,c2,by rw[e1,e2]; exact c3⟩⟩
   obtain⟨g1,g2⟩:=owe_ok h1
   have g3:getP (sellP as p h u 0).1 u ≠ -9223372036854775808:=by
    have:=s.up; have:=zjv C.f u; unfold I64 at this; omega
   have g4:=owe_of g3
   have g5:=s.up
   by_cases h3:(owesP p u).1=(owesP (sellP as p h u 0).1 u).1
   ·rw[if_pos h3]
    refine⟨⟨fun v v1 v2=>?_,fun _ h=>(by cases h),s.cash,s.qty⟩,hc⟩
    show owe p v - owe (sellP as p h u 0).1 v=(0:Int)
    by_cases hvu:v=u
    ·subst hvu; unfold owe; omega
    ·rw[owe_eq (s.oth v hvu v1).1]; omega
   ·rw[if_neg h3]
    refine⟨⟨fun v v1 v2=>?_,fun d hd=>?_,s.cash,s.qty⟩,hc⟩
    ·show owe p v - owe (sellP as p h u 0).1 v=zcs v [(u,(u,(owe p u - owe (sellP as p h u 0).1 u,())))]
     unfold zcs
     rw[zba,zfh]
     show _=(if u=v then owe p u - owe (sellP as p h u 0).1 u else 0)+0
     by_cases hvu:u=v
     ·subst hvu; rw[if_pos rfl]; omega
     ·rw[if_neg hvu,owe_eq (s.oth v (fun e=>hvu e.symm) v1).1]; omega
    ·rw[List.mem_singleton.1 hd]
     have o1:=zhi C.f u
     have o2:0≤owe (sellP as p h u 0).1 u:=by omega
     refine⟨?_,hM u⟩
     show 0<owe p u - owe (sellP as p h u 0).1 u∧I64 (owe p u - owe (sellP as p h u 0).1 u)
     unfold I64 at*
     have:(owesP p u).1=owe p u:=rfl
     have:owe p u≠owe (sellP as p h u 0).1 u:=h3
     omega
  ·rw[if_neg h2]at he; exact absurd he h2
 ·rw[if_neg h1]at he; exact absurd he h1
theorem pay_one{as:List zaf}(ha:∀a∈as,okA1 a){M:AUnit'→AUnit'→Prop}{U:AUnit'→Prop}{b t:AUnit'}{n:Int}{p:List AFlow'}{h:List AHold'}(C:Clean as U p h)(hM:M b t)
  (hn:0<n) (hbt:b≠t) (ht:t≠tU) (hto:n ≤ - getP p t) (h63:getP p t ≠ -9223372036854775808) (hb:b=fU∨0≤getP p b∧n≤valA as (lotsH h b)+getP p b) (he:(paysP as p h b t n).2.2.2=0):
  Fair M p h (paysP as p h b t n).1 (paysP as p h b t n).2.1 (paysP as p h b t n).2.2.1∧Clean as U (paysP as p h b t n).1 (paysP as p h b t n).2.1∧PayR as b t n p h (paysP as p h b t n).1 (paysP as p h b t n).2.1:=by
 obtain⟨r,ed⟩:=pays_f ha (Int.ne_of_gt hn) hbt ht he
 rw[ed]
 generalize (paysP as p h b t n).1=p' at*
 generalize (paysP as p h b t n).2.1=h' at*
 obtain⟨t1,t2⟩:=r.to
 obtain⟨b1,b2⟩:=r.by'
 have hI:=zjv C.f t
 refine⟨⟨fun v v1 v2=>?_,fun d hd=>?_,r.cash,r.qty⟩,⟨r.f,fun v hv=>?_⟩,r⟩
 ·unfold zcs
  rw[zba,zfh]
  show _=(if t=v then n else 0)+0
  by_cases hvt:t=v
  ·subst hvt
   rw[if_pos rfl,owe_of h63,owe_of (by rw[t1]; unfold I64 at hI; omega),t1]; omega
  ·rw[if_neg hvt]
   by_cases hvb:v=b
   ·subst hvb
    obtain⟨c1,c2⟩:=hb.resolve_left v2
    have:=b2 c2
    rw[owe_of (by omega),owe_of (by omega)]; omega
   ·rw[owe_eq (r.oth v hvb (fun e=>hvt e.symm) v1).1]; omega
 ·rw[List.mem_singleton.1 hd]
  exact⟨⟨hn,by show I64 n; unfold I64 at *; omega⟩,hM⟩
 ·obtain⟨c1,c2,c3⟩:=C.c v hv
  refine⟨c1,c2,?_⟩
  by_cases hvb:v=b
  ·subst hvb
   obtain⟨_,c5⟩:=hb.resolve_left c2
   exact .inl (b2 c5)
  ·by_cases hvt:v=t
   ·subst hvt
    rw[t1,t2]
    rcases c3 with c3|c3
    ·left; omega
    ·exact .inr c3
   ·obtain⟨e1,e2⟩:=r.oth v hvb hvt c1
    rw[e1,e2]; exact c3
theorem yjg{as:List zaf}(ha:∀a∈as,okA1 a){M:AUnit'→AUnit'→Prop}{U:AUnit'→Prop}{b t:AUnit'}(hM:M b t)(hb:b=fU∨U b)(ht:U t):
  FA as M U U (fun p h=>payF as p h b t):=by
 intro p h C he
 dsimp only at he ⊢
 unfold payF at he ⊢
 by_cases h1:(owesP p t).2.1=0
 ·rw[if_pos h1]at he ⊢
  by_cases h2:(roomP as p h b).2.1=0
  ·rw[if_pos h2]at he ⊢
   by_cases h3:b=t
   ·rw[if_pos h3]; exact⟨Fair.rfl' ..,C⟩
   ·rw[if_neg h3]at he ⊢
    obtain⟨g1,g2⟩:=owe_ok h1
    have g3:=room_f h2
    have g2':(owesP p t).1=max 0 (- getP p t):=g2
    generalize hn:min (owesP p t).1 (roomP as p h b).1=n at*
    rw[g2',g3]at hn
    by_cases h0:n=0
    ·subst h0
     have e:paysP as p h b t 0=(p,h,[],0):=by unfold paysP; rw[if_pos rfl]
     rw[e]; exact⟨Fair.rfl' ..,C⟩
    ·have ht':=C.c t ht
     have:=pay_one ha (M:=M) (b:=b) (t:=t) (n:=n) C hM (by omega) h3 ht'.1 (by omega) g1 (hb.imp id fun ub=>by
      obtain⟨_,_,c3⟩:=C.c b ub
      rcases c3 with c3|c3
      ·exact⟨c3,by omega⟩
      ·rw[c3]at hn ⊢; omega) he
     exact⟨this.1,this.2.1⟩
  ·rw[if_neg h2]at he; exact absurd he h2
 ·rw[if_neg h1]at he; exact absurd he h1
theorem yim{as:List zaf}{M:AUnit'→AUnit'→Prop}{U:AUnit'→Prop}:∀(l:List ActF),(∀a∈l,FA as M U U a)→∀(p:List AFlow') (h:List AHold') (d:List zbf),Clean as U p h→(runA l p h d).2.2.2=0→
  ∃ds,(runA l p h d).2.2.1=d++ds∧Fair M p h (runA l p h d).1 (runA l p h d).2.1 ds∧Clean as U (runA l p h d).1 (runA l p h d).2.1
 |[],_,p,h,d,C,_=>⟨[],by rw[List.append_nil]; rfl,Fair.rfl' ..,C⟩
 |a::l,hl,p,h,d,C,he=>by
  rw[runA]at he ⊢
  by_cases h1:(a p h).2.2.2=0
  ·rw[if_pos h1]at he ⊢
   obtain⟨f,C1⟩:=hl a List.mem_cons_self p h C h1
   obtain⟨ds,e,g,C2⟩:=yim l (fun b hb=>hl b (List.mem_cons_of_mem _ hb)) _ _ _ C1 he
   exact⟨(a p h).2.2.1++ds,by rw[e,List.append_assoc],f.trans g,C2⟩
  ·rw[if_neg h1]at he; exact absurd he h1
theorem own_run{as:List zaf}(ha:∀a∈as,okA1 a){M:AUnit'→AUnit'→Prop}(hM:∀u,M u u):∀(us:List AUnit') (U:AUnit'→Prop),(∀u∈us,u≠fU)→∀(p:List AFlow') (h:List AHold') (d:List zbf),Clean as U p h→(runA (zbu as us) p h d).2.2.2=0→
  ∃ds,(runA (zbu as us) p h d).2.2.1=d++ds∧Fair M p h (runA (zbu as us) p h d).1 (runA (zbu as us) p h d).2.1 ds∧Clean as (fun v=>U v∨v∈us) (runA (zbu as us) p h d).1 (runA (zbu as us) p h d).2.1
 |[],U,_,p,h,d,C,_=>⟨[],by rw[List.append_nil]; rfl,Fair.rfl' ..,⟨C.f,fun v hv=>C.c v (hv.resolve_right (fun h=>by cases h))⟩⟩
 |u::us,U,hu,p,h,d,C,he=>by
  unfold zbu at he ⊢
  rw[List.map_cons,runA]at he ⊢
  by_cases h1:(ownF as p h u).2.2.2=0
  ·rw[if_pos h1]at he ⊢
   obtain⟨f,C1⟩:=own_fair ha hM (U:=U) (hu u List.mem_cons_self) p h C h1
   obtain⟨ds,e,g,C2⟩:=own_run ha hM us _ (fun b hb=>hu b (List.mem_cons_of_mem _ hb)) _ _ _ C1 he
   refine⟨(ownF as p h u).2.2.1++ds,by rw[←List.append_assoc]; exact e,f.trans g,⟨C2.f,fun v hv=>C2.c v ?_⟩⟩
   rcases hv with hv|hv
   ·exact .inl (.inl hv)
   ·rcases List.mem_cons.1 hv with hv|hv
    ·exact .inl (.inr hv)
    ·exact .inr hv
  ·rw[if_neg h1]at he; exact absurd he h1
theorem getD_set(o:List Int)(i k:Nat)(v:Int):(o.set i v).getD k 0=if i=k∧i<o.length then v else o.getD k 0:=by
 by_cases h:i=k
 ·subst h
  by_cases h2:i<o.length
  ·rw[if_pos ⟨rfl,h2⟩]; simp[List.getD_eq_getElem?_getD,h2]
  ·rw[if_neg (fun h=>h2 h.2),List.set_eq_of_length_le (by omega)]
 ·rw[if_neg (fun h2=>h h2.1),ziu h]
theorem bump_le{B:List Int}:∀(qs:List KQ3) (o:List Int),(∀k,o.getD k 0≤B.getD k 0)→(∀q∈qs,0≤q.1∧o.getD q.1.toNat 0+1≤B.getD q.1.toNat 0)→(qs.Pairwise fun a b=>a.1≠b.1)→∀k,(bump qs o).getD k 0≤B.getD k 0
 |[],o,h,_,_=>h
 |q::qs,o,h,hq,hp=>by
  obtain⟨p1,p2⟩:=List.pairwise_cons.1 hp
  have hq0:=hq q List.mem_cons_self
  refine bump_le qs _ (fun k=>?_) (fun q' hq'=>?_) p2
  ·rw[getD_set]
   split
   ·next h1=>rw[←h1.1]; exact hq0.2
   ·exact h k
  ·have h1:=hq q' (List.mem_cons_of_mem _ hq')
   have h2:=p1 q' hq'
   refine⟨h1.1,?_⟩
   rw[ziu (by omega)]
   exact h1.2
theorem quo_le{T S w:Int}(hS:0<S)(hT:T≤S)(hw:0≤w):T*w / S≤w∧(0<T*w % S→T*w / S+1≤w):=by
 have a:=Int.mul_le_mul_of_nonneg_right hT hw
 have m:=Int.mul_ediv_add_emod (T*w) S
 have c:=Int.emod_nonneg (T*w) (Int.ne_of_gt hS)
 refine⟨?_,fun hp=>?_⟩
 ·rcases Int.lt_or_le w (T*w / S) with g|g
  ·have:=Int.mul_le_mul_of_nonneg_left (show w+1≤T*w / S by omega) (Int.le_of_lt hS)
   rw[Int.mul_add]at this; omega
  ·exact g
 ·rcases Int.lt_or_le w (T*w / S+1) with g|g
  ·have:=Int.mul_le_mul_of_nonneg_left (show w≤T*w / S by omega) (Int.le_of_lt hS)
   omega
  ·exact g
theorem yii{T:Int}{l:List Int}(h:OkW T l)(k:Nat):(splitP T l).getD k 0≤l.getD k 0:=by
 have nn:∀k,0≤l.getD k 0:=fun k=>by
  rw[List.getD_eq_getElem?_getD]
  cases e:l[k]? with
  |none=>simp
  |some v=>exact h.nn v (List.mem_of_getElem? e)
 unfold splitP
 by_cases hT:T=0
 ·rw[if_pos hT]
  have:(List.replicate l.length (0:Int)).getD k 0=0:=by
   rw[List.getD_eq_getElem?_getD]
   cases e:(List.replicate l.length (0:Int))[k]? with
   |none=>rfl
   |some v=>exact List.eq_of_mem_replicate (List.mem_of_getElem? e)
  rw[this]; exact nn k
 ·rw[if_neg hT]
  have K:=h.quo hT
  have hS:0<l.sum:=by have:=h.t0; have:=h.ts; omega
  refine bump_le _ _ (fun k=>?_) (fun q hq=>?_) ((zui (zvc _ _ _ _)).sublist (List.take_sublist _ _)) k
  ·by_cases hk:k<l.length
   ·have e:=zrs T l.sum l 0 k hk
    have hk':k<(zai (quoGo T l.sum l 0)).length:=by unfold zai; rw[List.length_map,ziq]; exact hk
    have e2:(zai (quoGo T l.sum l 0))[k]=T*l[k] / l.sum:=
     (List.getElem_map ..).trans (congrArg (fun q:KQ3=>q.2.1) e)
    rw[List.getD_eq_getElem?_getD,List.getElem?_eq_getElem hk',List.getD_eq_getElem?_getD,List.getElem?_eq_getElem hk,Option.getD_some,Option.getD_some,e2]
    exact(quo_le hS h.ts (h.nn _ (List.getElem_mem hk))).1
   ·have e2:(zai (quoGo T l.sum l 0)).getD k 0=0:=by
     rw[List.getD_eq_getElem?_getD,List.getElem?_eq_none (by unfold zai; rw[List.length_map,ziq]; omega)]; rfl
    rw[e2]; exact nn k
  ·have hp:=K.pos q hq
   have hm:=(zdt _).mem_iff.1 (List.mem_of_mem_take hq)
   have k0:=(K.q q hm).1
   refine⟨k0,?_⟩
   rw[(zod (n:=0) (quo_at _ _ _) hm).1]
   obtain⟨k,hk,rfl⟩:=List.getElem_of_mem hm
   rw[ziq]at hk
   rw[zrs T l.sum l 0 k hk]at hp ⊢
   show T*l[k] / l.sum+1≤l.getD (0+(k:Int)).toNat 0
   rw[show (0+(k:Int)).toNat=k by omega,List.getD_eq_getElem?_getD,List.getElem?_eq_getElem hk,Option.getD_some]
   exact(quo_le hS h.ts (h.nn _ (List.getElem_mem hk))).2 hp
structure GivesOk(as:List zaf)(U:AUnit'→Prop)(p:List AFlow')(h:List AHold')(gs:List UA):Prop where
 nd:(gs.map (·.1)).Nodup
 u:∀g∈gs,U g.1
 g:∀g∈gs,0≤g.2∧(0<g.2→0≤getP p g.1∧g.2≤valA as (lotsH h g.1)+getP p g.1)
structure TakesOk(U:AUnit'→Prop)(p:List AFlow')(ts:List UA):Prop where
 nd:(ts.map (·.1)).Nodup
 u:∀g∈ts,U g.1
 t:∀g∈ts,0≤g.2∧(0<g.2→getP p g.1 ≠ -9223372036854775808∧g.2 ≤ - getP p g.1)
theorem yib{as:List zaf}(ha:∀a∈as,okA1 a){M:AUnit'→AUnit'→Prop}{U:AUnit'→Prop}:∀(n:Nat) (gs ts:List UA),gs.length+ts.length≤n→(∀g∈gs,∀t∈ts,M g.1 t.1)→
  ∀(p:List AFlow') (h:List AHold') (d:List zbf),Clean as U p h→GivesOk as U p h gs→TakesOk U p ts→(runA ((twoGo gs ts).map (payAct as)) p h d).2.2.2=0→
  ∃ds,(runA ((twoGo gs ts).map (payAct as)) p h d).2.2.1=d++ds∧Fair M p h (runA ((twoGo gs ts).map (payAct as)) p h d).1 (runA ((twoGo gs ts).map (payAct as)) p h d).2.1 ds∧Clean as U (runA ((twoGo gs ts).map (payAct as)) p h d).1 (runA ((twoGo gs ts).map (payAct as)) p h d).2.1
 |_,[],ts,_,_,p,h,d,C,_,_,_=>by rw[twoGo]; exact⟨[],by rw[List.append_nil]; rfl,Fair.rfl' ..,C⟩
 |_,(u,x)::gs,[],_,_,p,h,d,C,_,_,_=>by rw[twoGo]; exact⟨[],by rw[List.append_nil]; rfl,Fair.rfl' ..,C⟩
 |n,(u,x)::gs,(v,y)::ts,hn,hM,p,h,d,C,G,T,he=>by
  obtain⟨m,rfl⟩:∃m,n=m+1:=⟨n - 1,by simp only[List.length_cons]at hn; omega⟩
  simp only[List.length_cons]at hn
  rw[twoGo,List.map_cons,runA]at he ⊢
  have hact:payAct as (u,v,min x y) p h=paysP as p h u v (min x y):=rfl
  rw[hact]at he ⊢
  obtain⟨gx0,gx⟩:=G.g (u,x) List.mem_cons_self
  obtain⟨ty0,ty⟩:=T.t (v,y) List.mem_cons_self
  have Gu:=G.u (u,x) List.mem_cons_self
  have Tv:=T.u (v,y) List.mem_cons_self
  have gnd:=List.nodup_cons.1 G.nd
  have tnd:=List.nodup_cons.1 T.nd
  have hMuv:M u v:=hM (u,x) List.mem_cons_self (v,y) List.mem_cons_self
  dsimp only at gx0 gx ty0 ty Gu Tv
  have main:∀p' h',(paysP as p h u v (min x y)).1=p'→(paysP as p h u v (min x y)).2.1=h'→(paysP as p h u v (min x y)).2.2.2=0→
    Fair M p h p' h' (paysP as p h u v (min x y)).2.2.1∧Clean as U p' h'∧(∀g∈gs,0<g.2→getP p' g.1=getP p g.1∧lotsH h' g.1=lotsH h g.1)∧(∀t∈ts,0<t.2→getP p' t.1=getP p t.1)∧
    (x≤y→0<y - x→getP p' v ≠ -9223372036854775808∧y - x ≤ - getP p' v)∧(¬x≤y→0<x - y→0≤getP p' u∧x - y≤valA as (lotsH h' u)+getP p' u):=by
   intro p' h' ep eh he1
   by_cases h0:min x y=0
   ·have e:paysP as p h u v (min x y)=(p,h,[],0):=by unfold paysP; rw[if_pos h0]
    rw[e]at ep eh ⊢
    obtain rfl:p=p':=ep
    obtain rfl:h=h':=eh
    refine⟨Fair.rfl' ..,C,fun _ _ _=>⟨rfl,rfl⟩,fun _ _ _=>rfl,fun h1 h2=>?_,fun h1 h2=>?_⟩
    ·have:=ty (by omega); exact⟨this.1,by omega⟩
    ·have:=gx (by omega); exact⟨this.1,by omega⟩
   ·obtain⟨g1,g2⟩:=gx (by omega)
    obtain⟨t1,t2⟩:=ty (by omega)
    have huv:u≠v:=fun e=>by rw[e]at g1; omega
    obtain⟨f,C1,r⟩:=pay_one ha C hMuv (n:=min x y) (by omega) huv (C.c v Tv).1 (by omega) t1 (.inr ⟨g1,by omega⟩) he1
    rw[ep,eh]at f C1 r
    obtain⟨r1,r2⟩:=r.to
    obtain⟨b1,b2⟩:=r.by'
    have b3:=b2 (by omega)
    have hI:=zjv C.f v
    unfold I64 at hI
    refine⟨f,C1,fun g hg hp=>?_,fun t ht hp=>?_,fun h1 h2=>?_,fun h1 h2=>?_⟩
    ·have k1:=(G.g g (List.mem_cons_of_mem _ hg)).2 hp
     refine r.oth g.1 (fun e=>gnd.1 (List.mem_map.2 ⟨g,hg,e⟩)) (fun e=>?_) (C.c g.1 (G.u g (List.mem_cons_of_mem _ hg))).1
     rw[e]at k1; omega
    ·have k1:=(T.t t (List.mem_cons_of_mem _ ht)).2 hp
     refine(r.oth t.1 (fun e=>?_) (fun e=>tnd.1 (List.mem_map.2 ⟨t,ht,e⟩)) (C.c t.1 (T.u t (List.mem_cons_of_mem _ ht))).1).1
     rw[e]at k1; omega
    ·rw[r1]; omega
    ·omega
  generalize hr:paysP as p h u v (min x y)=r at*
  obtain⟨p',h',ds0,e0⟩:=r
  dsimp only at he main ⊢
  by_cases h1:e0=0
  ·rw[if_pos h1]at he ⊢
   obtain⟨f,C1,m1,m2,m3,m4⟩:=main p' h' rfl rfl h1
   have Gt:GivesOk as U p' h' gs:=⟨gnd.2,fun g hg=>G.u g (List.mem_cons_of_mem _ hg),fun g hg=>⟨(G.g g (List.mem_cons_of_mem _ hg)).1,fun hp=>by
    obtain⟨a1,a2⟩:=m1 g hg hp
    rw[a1,a2]; exact(G.g g (List.mem_cons_of_mem _ hg)).2 hp⟩⟩
   have Tt:TakesOk U p' ts:=⟨tnd.2,fun g hg=>T.u g (List.mem_cons_of_mem _ hg),fun g hg=>⟨(T.t g (List.mem_cons_of_mem _ hg)).1,fun hp=>by
    rw[m2 g hg hp]; exact(T.t g (List.mem_cons_of_mem _ hg)).2 hp⟩⟩
   have fin:∀gs' ts',gs'.length+ts'.length≤m→(∀g∈gs',∀t∈ts',M g.1 t.1)→GivesOk as U p' h' gs'→TakesOk U p' ts'→(runA ((twoGo gs' ts').map (payAct as)) p' h' (d++ds0)).2.2.2=0→
     ∃ds,(runA ((twoGo gs' ts').map (payAct as)) p' h' (d++ds0)).2.2.1=d++ds∧Fair M p h (runA ((twoGo gs' ts').map (payAct as)) p' h' (d++ds0)).1 (runA ((twoGo gs' ts').map (payAct as)) p' h' (d++ds0)).2.1 ds∧Clean as U (runA ((twoGo gs' ts').map (payAct as)) p' h' (d++ds0)).1 (runA ((twoGo gs' ts').map (payAct as)) p' h' (d++ds0)).2.1:=by
    intro gs' ts' hl hM' G' T' he'
    obtain⟨ds,e1,f1,C2⟩:=yib ha m gs' ts' hl hM' p' h' (d++ds0) C1 G' T' he'
    exact⟨ds0++ds,by rw[e1,List.append_assoc],f.trans f1,C2⟩
   by_cases hc:x≤y
   ·rw[if_pos hc]at he ⊢
    refine fin gs ((v,y - x)::ts) (by simp only[List.length_cons]; omega) (fun g hg t ht=>?_) Gt ⟨List.nodup_cons.2 tnd,fun g hg=>?_,fun g hg=>?_⟩ he
    ·rcases List.mem_cons.1 ht with rfl|ht
     ·exact hM g (List.mem_cons_of_mem _ hg) (v,y) List.mem_cons_self
     ·exact hM g (List.mem_cons_of_mem _ hg) t (List.mem_cons_of_mem _ ht)
    ·rcases List.mem_cons.1 hg with rfl|hg
     ·exact Tv
     ·exact Tt.u g hg
    ·rcases List.mem_cons.1 hg with rfl|hg
     ·exact⟨by show 0≤y - x; omega,m3 hc⟩
     ·exact Tt.t g hg
   ·rw[if_neg hc]at he ⊢
    refine fin ((u,x - y)::gs) ts (by simp only[List.length_cons]; omega) (fun g hg t ht=>?_) ⟨List.nodup_cons.2 gnd,fun g hg=>?_,fun g hg=>?_⟩ Tt he
    ·rcases List.mem_cons.1 hg with rfl|hg
     ·exact hM (u,x) List.mem_cons_self t (List.mem_cons_of_mem _ ht)
     ·exact hM g (List.mem_cons_of_mem _ hg) t (List.mem_cons_of_mem _ ht)
    ·rcases List.mem_cons.1 hg with rfl|hg
     ·exact Gu
     ·exact Gt.u g hg
    ·rcases List.mem_cons.1 hg with rfl|hg
     ·exact⟨by show 0≤x - y; omega,m4 hc⟩
     ·exact Gt.g g hg
  ·rw[if_neg h1]at he; exact absurd he h1
theorem zip_get{l:List AUnit'}{t:List Int}(ht:t.length=l.length){g:UA}(hg:g∈l.zip t):∃(k:Nat) (hk:k<l.length),g.1=l[k]∧g.2=t.getD k 0:=by
 obtain⟨k,hk,rfl⟩:=List.getElem_of_mem hg
 have h1:k<l.length:=by rw[List.length_zip]at hk; omega
 refine⟨k,h1,by rw[List.getElem_zip],?_⟩
 rw[List.getElem_zip,List.getD_eq_getElem?_getD,List.getElem?_eq_getElem (by omega)]; rfl
theorem yjs{l:List AUnit'}(f:AUnit'→Int){k:Nat}(hk:k<l.length):(l.map f).getD k 0=f l[k]:=by
 rw[List.getD_eq_getElem?_getD,List.getElem?_eq_getElem (by rw[List.length_map]; exact hk),List.getElem_map]; rfl
theorem yet{as:List zaf}(ha:∀a∈as,okA1 a){M:AUnit'→AUnit'→Prop}{U:AUnit'→Prop}{l:List AUnit'}(hnd:l.Nodup)(hl:l.length≤1000)(hU:∀u∈l,U u)(hM:∀b∈l,∀t∈l,M b t):FA as M U U (zcr as l):=by
 intro p h C he
 unfold zcr at he ⊢
 by_cases e1:(eachP (owesP p) l []).2.2.1=0
 ·rw[if_pos e1]at he ⊢
  by_cases e2:(eachP (freeP as p h) l []).2.2.1=0
  ·rw[if_pos e2]at he ⊢
   obtain⟨w1,w2,c1,c2⟩:=zzb C.f hl e1 e2
   obtain⟨a1,_,_,a4⟩:=zwr e1
   obtain⟨b1,_,_,b4⟩:=zwr e2
   rw[List.nil_append]at a1 b1
   obtain⟨s1,s2⟩:=w1.split
   obtain⟨s3,s4⟩:=w2.split
   have l1:(giveP as p h l).length=l.length:=s1.trans c1
   have l2:(takeP as p h l).length=l.length:=s3.trans c2
   have lg:∀g∈l.zip (giveP as p h l),g.1∈l:=fun g hg=>(List.of_mem_zip (show (g.1,g.2)∈_ from hg)).1
   have lt:∀g∈l.zip (takeP as p h l),g.1∈l:=fun g hg=>(List.of_mem_zip (show (g.1,g.2)∈_ from hg)).1
   have pos:∀t:List Int,(∀x∈t,0≤x∧x≤dueP as p h l)→∀g∈l.zip t,0≤g.2:=fun t ht g hg=>(ht _ (List.of_mem_zip (show (g.1,g.2)∈l.zip t from hg)).2).1
   obtain⟨ds,f1,f2,f3⟩:=yib ha (M:=M) (U:=U) _ (l.zip (giveP as p h l)) (l.zip (takeP as p h l)) (Nat.le_refl _) (fun g hg t ht=>hM _ (lg g hg) _ (lt t ht)) p h [] C
    ⟨by rw[List.map_fst_zip (by omega)]; exact hnd,fun g hg=>hU _ (lg g hg),fun g hg=>⟨pos _ s2 g hg,fun hp=>by
     obtain⟨k,hk,k1,k2⟩:=zip_get l1 hg
     have hle:(giveP as p h l).getD k 0≤_:=yii w1 k
     rw[b1,yjs _ hk]at hle
     have hroom:=room_f (as:=as) (p:=p) (h:=h) (u:=l[k]) (b4 _ (List.getElem_mem hk))
     rw[k1]
     unfold freeP at hle
     rw[k2]at hp ⊢
     by_cases hc:getP p l[k]<0
     ·rw[if_pos hc]at hle; omega
     ·rw[if_neg hc,hroom]at hle; omega⟩⟩
    ⟨by rw[List.map_fst_zip (by omega)]; exact hnd,fun g hg=>hU _ (lt g hg),fun g hg=>⟨pos _ s4 g hg,fun hp=>by
     obtain⟨k,hk,k1,k2⟩:=zip_get l2 hg
     have hle:(takeP as p h l).getD k 0≤_:=yii w2 k
     rw[a1,yjs _ hk]at hle
     obtain⟨o1,o2⟩:=owe_ok (a4 _ (List.getElem_mem hk))
     rw[k1]
     unfold owe at o2
     rw[k2]at hp ⊢
     exact⟨o1,by omega⟩⟩⟩ he
   rw[List.nil_append]at f1
   rw[f1]
   exact⟨f2,f3⟩
  ·rw[if_neg e2]at he; exact absurd he e2
 ·rw[if_neg e1]at he; exact absurd he e1
def mayP(t:zad)(id:Int)(b v:AUnit'):Prop:=
 b=v∨b=fU∨∃a∈t.2.2.2.2.1,a.2.1=id∧(a.2.2.1=1∧b∈unitsA a∨a.2.2.1=2∧b∈unitsA a∧v∈unitsA a)
theorem units_1{a:zab}{u:AUnit'}(h:u∈unitsA a):u.1=a.1:=by
 unfold unitsA at h
 split at h
 ·rw[List.mem_singleton.1 h]
 ·obtain⟨c,_,rfl⟩:=List.mem_map.1 h; rfl
theorem units_nd{a:zab}(h:okAc a):(unitsA a).Nodup:=by
 unfold unitsA
 split
 ·simp
 ·refine List.nodup_iff_pairwise_ne.2 (List.pairwise_map.2 (h.2.imp fun hlt e=>?_))
  have:=congrArg (fun u:AUnit'=>u.2.1) e
  dsimp only at this
  omega
theorem Clean.mono{as:List zaf}{U V:AUnit'→Prop}{p:List AFlow'}{h:List AHold'}(C:Clean as U p h)(hv:∀u,V u→U u):Clean as V p h:=⟨C.f,fun v hV=>C.c v (hv v hV)⟩
theorem water_fair{t:zad}(O:OkS t)(id:Int)(he:(runA (zdf t id) (pu t) (ho t) []).2.2.2=0):
  Fair (mayP t id) (pu t) (ho t) (runA (zdf t id) (pu t) (ho t) []).1 (runA (zdf t id) (pu t) (ho t) []).2.1 (runA (zdf t id) (pu t) (ho t) []).2.2.1:=by
 unfold zdf waterA at he ⊢
 generalize hA:t.2.2.2.2.1.filter (isM id)=A at*
 have memA:∀a∈A,a∈t.2.2.2.2.1∧a.2.1=id:=fun a ha=>by
  rw[←hA]at ha
  obtain⟨h1,h2⟩:=List.mem_filter.1 ha
  exact⟨h1,of_decide_eq_true h2⟩
 have memU:∀u∈allU A,∃a∈A,u∈unitsA a:=fun u hu=>List.mem_flatMap.1 hu
 have memH:∀u∈houseU A,∃a∈A,a.2.2.1=1∧u∈unitsA a:=fun u hu=>by
  obtain⟨a,ha,hu⟩:=List.mem_flatMap.1 hu
  obtain⟨h1,h2⟩:=List.mem_filter.1 ha
  exact⟨a,h1,by simpa using h2,hu⟩
 have ne1:∀u∈allU A,u≠fU:=fun u hu e=>by
  obtain⟨a,ha,hu⟩:=memU u hu
  have h1:=units_1 hu
  have h2:=(O.c a (memA a ha).1).1.1
  rw[e]at h1
  have:(0:Int)=a.1:=h1
  omega
 have inU:∀a∈A,∀u∈unitsA a,u∈allU A:=fun a ha u hu=>List.mem_flatMap.2 ⟨a,ha,hu⟩
 have hMr:∀u,mayP t id u u:=fun u=>.inl rfl
 have ha:=O.a
 rw[zur]at he ⊢
 by_cases e1:(runA (zbu (asS t) (allU A)) (pu t) (ho t) []).2.2.2=0
 ·rw[if_pos e1]at he ⊢
  obtain⟨d1,h1,f1,C1⟩:=own_run ha hMr (allU A) (fun _=>False) ne1 (pu t) (ho t) [] ⟨O.f,fun v hv=>hv.elim⟩ e1
  have C1:=C1.mono (V:=fun v=>v∈allU A) fun u hu=>.inr hu
  rw[List.nil_append]at h1
  rw[h1]at he ⊢
  obtain⟨d2,h2,f2,C2⟩:=yim (M:=mayP t id) (zar (asS t) A++(zao (asS t) (houseU A) (allU A)++zao (asS t) [fU] (allU A))) (fun a haa=>by
   rcases List.mem_append.1 haa with haa|haa
   ·obtain⟨x,hx,rfl⟩:=List.mem_map.1 haa
    obtain⟨x1,x2⟩:=List.mem_filter.1 hx
    have hc:=O.c x (memA x x1).1
    exact yet ha (units_nd hc.1) (by have:=zgo hc.2; omega) (inU x x1) fun b hb v hv=>.inr (.inr ⟨x,(memA x x1).1,(memA x x1).2,.inr ⟨by simpa using x2,hb,hv⟩⟩)
   ·rcases List.mem_append.1 haa with haa|haa
    ·obtain⟨u,hu,hb⟩:=List.mem_flatMap.1 haa
     obtain⟨b,hb2,hb3⟩:=List.mem_map.1 hb
     subst hb3
     obtain⟨x,x1,x2,x3⟩:=memH b hb2
     exact yjg ha (.inr (.inr ⟨x,(memA x x1).1,(memA x x1).2,.inl ⟨x2,x3⟩⟩)) (.inr (inU x x1 b x3)) hu
    ·obtain⟨u,hu,hb⟩:=List.mem_flatMap.1 haa
     obtain⟨b,hb2,hb3⟩:=List.mem_map.1 hb
     subst hb3
     obtain rfl:=List.mem_singleton.1 hb2
     exact yjg ha (.inr (.inl rfl)) (.inl rfl) hu) _ _ d1 C1 he
  rw[h2]
  exact f1.trans f2
 ·rw[if_neg e1]at he; exact absurd he e1
end Go.Proofs.YtllkmncnmlmefaaGreat
namespace Go.Proofs.YtllkmncnmlmefaaGreat
open Go Go.Vc Go.RowKit
set_option synthInstance.maxSize 100000
set_option synthInstance.maxHeartbeats 0
set_option maxHeartbeats 1000000
theorem ycz{l:List AFlow'}(h:okF l)(hl:l.length≤1000000):zow l=some (big (sumBy amt l)):=by
 show zex stdW l=_
 unfold zex
 refine loop_n (N:=l.length) (by omega) (fun i s=>s=big (sumBy amt (l.take i))) (some (big (sumBy amt l))) (by rw[List.take_zero,zfh,big0]) ?_ ?_
 ·rintro _ again rfl
  rw[zaj,List.take_length]
 ·rintro i hi _ rfl again ha
  have h1:=(zyw (h.take i) (by rw[List.length_take]; omega)).1
  have h2:=h _ (List.getElem_mem hi)
  rw[cnd_lt hi]
  refine join_g fun k hk=>?_
  have kk:∀v:BigT,k v=again (((i+1:Nat):Int),v):=by intro v; rw[←i64_s i (by omega)]; subst hk; rfl
  clear hk
  rw[idx_w hi,two_w,zaa (r_of (n:=l[i].2.1) h2)]
  show stdW.call (zdi (big (sumBy amt (l.take i))) (big (l[i].2.1))) _=_
  rw[zaa (r_addB (b:=l[i].2.1) h1 (zcp h2)),kk]
  refine ha _ ?_
  rw[zxt _ _ _ hi]; rfl
def q1(k:Int)(x:ALot'):Int:=if x.1=k then x.2.2.1 else 0
theorem yfu(k:Int)(l:List ALot'):qtyL k l=sumBy (q1 k) l:=rfl
theorem q1_in{l:List ALot'}(h:∀x∈l,I64 x.2.2.1)(k:Int):∀x∈l,-9223372036854775808≤q1 k x∧q1 k x≤9223372036854775808:=fun x hx=>by
 have:=h x hx
 unfold q1 I64 at*
 split<;>omega
theorem qtyL_in{l:List ALot'}(h:okT l)(k:Int) : -184467440737095516160≤qtyL k l∧qtyL k l≤184467440737095516160:=by
 have h1:=znr (f:=q1 k) (B:=9223372036854775808) (l:=l) (q1_in h.2 k)
 have h2:=h.1
 rw[yfu]; omega
theorem okT.take{l:List ALot'}(h:okT l)(i:Nat):okT (l.take i):=⟨by rw[List.length_take]; have:=h.1; omega,fun x hx=>h.2 x (List.mem_of_mem_take hx)⟩
theorem yjd{l:List ALot'}(h:okT l)(k:Int):sml (qtyL k l):=by have:=qtyL_in h k; unfold sml; omega
theorem r_sum18{l:List ALot'}(h:okT l)(k:Int):ref18_Sum l k=some (big (qtyL k l)):=by
 have hl:=h.1
 show zki stdW l k=_
 unfold zki
 refine zsa (N:=l.length) (by omega) (fun i=>((i:Int),big (qtyL k (l.take i)))) _ (by rw[List.take_zero,show qtyL k []=0 from rfl,big0]; rfl) ?_ ?_
 ·intro again
  show stdW.cnd (decide ((l.length:Int)<(l.length:Int))) _ (some (big (qtyL k (l.take l.length))))=_
  rw[zaj,List.take_length]
 ·intro i hi again ha
  show stdW.cnd (decide ((i:Int)<(l.length:Int))) _ _=_
  rw[cnd_lt hi]
  refine join_g fun k4 hk=>?_
  have kk:k4 (big (qtyL k (l.take (i+1))))=some (big (qtyL k l)):=by
   subst hk
   show again (IntKind.i64.wrap ((i:Int)+1),big (qtyL k (l.take (i+1))))=_
   rw[i64_s i (by omega)]; exact ha
  clear hk ha
  show stdW.idx l (i:Int) _=_
  rw[idx_w hi]
  have hx:=h.2 _ (List.getElem_mem hi)
  have es:qtyL k (l.take (i+1))=qtyL k (l.take i)+q1 k l[i]:=by
   rw[yfu,yfu,List.take_succ_eq_append_getElem hi,zid,zba,zfh]; omega
  by_cases hk:l[i].1=k
  ·have e2:=r_addB (yjd (h.take i) k) (zcp hx)
   rw[es,q1,if_pos hk]at kk
   rw[cnd_y (by simpa using hk),idx_w hi,two_w,zaa (r_of hx)]
   show stdW.call (zdi (big (qtyL k (l.take i))) (big l[i].2.2.1)) _=_
   rw[zaa e2]; exact kk
  ·rw[cnd_n (by simpa using hk)]
   rw[es,q1,if_neg hk,Int.add_zero]at kk
   exact kk
theorem qtyH_in{l:List AHold'}(h:∀x∈l,okT x.2.1)(k:Int) : -(184467440737095516160*(l.length:Int))≤qtyH k l∧qtyH k l≤184467440737095516160*(l.length:Int):=
 znr (f:=fun h:AHold'=>qtyL k h.2.1) fun x hx=>qtyL_in (h x hx) k
theorem zzs{l:List AHold'}(h:∀x∈l,okT x.2.1)(hl:l.length≤400000)(k:Int):sml (qtyH k l):=by
 have:=qtyH_in h k
 unfold sml; omega
theorem ycy{l:List AHold'}(h:okHs l)(k:Int):zou l k=some (big (qtyH k l)):=by
 have hl:=h.2
 show zev stdW l k=_
 unfold zev
 refine zsa (N:=l.length) (by omega) (fun i=>((i:Int),big (qtyH k (l.take i)))) _ (by rw[List.take_zero,show qtyH k []=0 from rfl,big0]; rfl) ?_ ?_
 ·intro again
  show stdW.cnd (decide ((l.length:Int)<(l.length:Int))) _ (some (big (qtyH k (l.take l.length))))=_
  rw[zaj,List.take_length]
 ·intro i hi again ha
  show stdW.cnd (decide ((i:Int)<(l.length:Int))) _ _=_
  rw[cnd_lt hi]
  refine join_g fun k4 hk=>?_
  have kk:k4 (big (qtyH k (l.take (i+1))))=some (big (qtyH k l)):=by
   subst hk
   show again (IntKind.i64.wrap ((i:Int)+1),big (qtyH k (l.take (i+1))))=_
   rw[i64_s i (by omega)]; exact ha
  clear hk ha
  have hx:=h.1 _ (List.getElem_mem hi)
  have es:qtyH k (l.take (i+1))=qtyH k (l.take i)+qtyL k l[i].2.1:=by
   unfold qtyH
   rw[List.take_succ_eq_append_getElem hi,zid,zba,zfh]; omega
  have e2:=r_addB (zzs (fun x hx=>h.1 x (List.mem_of_mem_take hx)) (by rw[List.length_take]; omega) k) (yjd hx k) (a:=qtyH k (l.take i))
  show stdW.idx l (i:Int) _=_
  rw[idx_w hi,two_w,zaa (r_sum18 hx k)]
  show stdW.call (zdi (big (qtyH k (l.take i))) (big (qtyL k l[i].2.1))) _=_
  rw[zaa e2,←es]; exact kk
theorem r_has{a:zab}{u:AUnit'}(h:a.2.2.2.1.length≤1000):zuw a u=some (decide (u∈unitsA a)):=by
 show zed stdW a u=_
 unfold zed
 rw[zaa (zqf h)]
 have hl:(unitsA a).length≤1000:=by
  unfold unitsA; split
  ·simp
  ·rw[List.length_map]; exact h
 generalize unitsA a=l at*
 refine zct (l:=l) (s0:=()) (by omega) (fun i (_:Unit)=>((i:Int),(l,()))) (fun _ _=>True) (fun l' _=>some (decide (u∈l'))) rfl trivial ?_ ?_
 ·intro _ _ again
  show stdW.cnd (decide ((l.length:Int)<(l.length:Int))) _ (some false)=_
  rw[zaj]; simp
 ·intro i hi _ _ again ha
  show stdW.cnd (decide ((i:Int)<(l.length:Int))) (stdW.idx l (i:Int) _) _=_
  rw[cnd_lt hi,idx_w hi]
  show stdW.nth l (Int.toNat (i:Int)) _=_
  rw[nth_w hi,nif_f,eqA]
  by_cases he:l[i]=u
  ·rw[cnd_y (by simpa using he),he]; simp
  ·rw[cnd_n (by simpa using he)]
   show again (IntKind.i64.wrap ((i:Int)+1),(l,()))=_
   rw[i64_s i (by omega),ha () trivial]
   have hne:¬u=l[i]:=fun e=>he e.symm
   show some (decide (u∈l.drop (i+1)))=some (decide (u∈l[i]::l.drop (i+1)))
   refine congrArg some (decide_eq_decide.2 ?_)
   rw[List.mem_cons,or_iff_right hne]
theorem r_may31{t:zad}{id:Int}{d:zbf}(hc:∀a∈t.2.2.2.2.1,a.2.2.2.1.length≤1000)(hl:t.2.2.2.2.1.length≤1000)(h0:0<d.2.2.1)(hm:mayP t id d.1 d.2.1):law31_may t id d=some true:=by
 show zku stdW t id d=_
 unfold zku
 rw[cnd_n (decide_eq_false (by omega))]
 refine join_g fun k12 hk12=>?_
 have kt:k12 (true,())=some true:=by
  subst hk12
  show stdW.cnd true (some true) _=_
  rw[cnd_y (by rfl)]
 rw[nif_f,nif_f,eqA]
 by_cases h1:d.1=d.2.1
 ·rw[cnd_y (by simpa using h1)]; exact kt
 ·rw[cnd_n (by simpa using h1)]
  have e:(d.1.1==0&&d.1.2.1==0)=decide (d.1=fU):=eqA d.1 fU
  rw[e]
  by_cases h2:d.1=fU
  ·rw[decide_eq_true h2]; exact kt
  ·rw[decide_eq_false h2]
   obtain⟨a,ha,hid,hk⟩:=(hm.resolve_left h1).resolve_left h2
   obtain⟨n,hn,hna⟩:=List.getElem_of_mem ha
   subst hk12
   show stdW.cnd false (some true) _=_
   rw[cnd_n (by rfl)]
   generalize t.2.2.2.2.1=l at*
   refine loop_P (fun o=>o=some true) (fun z=>l.length+1 - z.1.toNat) (fun z=>∃j:Nat,j≤n∧z=((j:Int),())) ⟨0,Nat.zero_le _,rfl⟩ (by show _ - (0:Int).toNat<_; omega) ?_
   rintro _ ⟨j,hj,rfl⟩ again hag
   have h:j<l.length:=by omega
   show stdW.cnd (decide ((j:Int)<(l.length:Int))) (stdW.idx l (j:Int) _) _=_
   rw[cnd_lt h,idx_w h]
   refine join_g fun k6 hk6=>?_
   have k6t:k6 (true,())=some true:=by
    subst hk6
    show stdW.cnd true (some true) _=_
    rw[cnd_y (by rfl)]
   have k6f:j≠n→k6 (false,())=some true:=by
    intro hjn
    subst hk6
    show stdW.cnd false (some true) (again (IntKind.i64.wrap ((j:Int)+1),()))=_
    rw[cnd_n (by rfl),i64_s j (by omega)]
    exact hag _ ⟨j+1,by omega,rfl⟩ (by show _ - ((j+1:Nat):Int).toNat<_ - ((j:Nat):Int).toNat; omega)
   have k6b:∀b:Bool,(j=n→b=true)→k6 (b,())=some true:=by
    intro b hb
    cases b with
    |true=>exact k6t
    |false=>exact k6f fun e=>by cases hb e
   clear hk6 hag k6f
   have hh:=fun u=>r_has (a:=l[j]) (u:=u) (hc _ (List.getElem_mem h))
   have hj1:j=n→l[j]=a:=fun e=>by subst e; exact hna
   have net:∀K:AUnit'→AUnit'→Prop,(j=n→l[j].2.2.1≠1∨¬d.1∈unitsA l[j])→l[j].2.1=id→stdW.cnd (l[j].2.2.1==2) (stdW.call (zuw l[j] d.1) fun v8=>stdW.cnd v8 (stdW.call (zuw l[j] d.2.1) fun v9=>k6 (v9,())) (k6 (false,()))) (k6 (false,()))=some true:=by
    intro _ hno hidj
    have hk':j=n→l[j].2.2.1=2∧d.1∈unitsA l[j]∧d.2.1∈unitsA l[j]:=fun e=>by
     have e1:=hj1 e
     rw[e1]at hno ⊢
     rcases hk with ⟨g1,g2⟩|hk
     ·rcases hno e with g|g
      ·exact absurd g1 g
      ·exact absurd g2 g
     ·exact hk
    by_cases g2:l[j].2.2.1=2
    ·rw[cnd_y (by simpa using g2),zaa (hh _)]
     by_cases g3:d.1∈unitsA l[j]
     ·rw[cnd_y (by simpa using g3),zaa (hh _)]
      exact k6b _ fun e=>by simpa using(hk' e).2.2
     ·rw[cnd_n (by simpa using g3)]
      exact k6b _ fun e=>absurd (hk' e).2.1 g3
    ·rw[cnd_n (by simpa using g2)]
     exact k6b _ fun e=>absurd (hk' e).1 g2
   by_cases hidj:l[j].2.1=id
   ·rw[cnd_y (by simpa using hidj)]
    by_cases g1:l[j].2.2.1=1
    ·rw[cnd_y (by simpa using g1),zaa (hh _)]
     by_cases g2:d.1∈unitsA l[j]
     ·rw[cnd_y (by simpa using g2)]; exact k6t
     ·rw[cnd_n (by simpa using g2)]
      exact net (fun _ _=>True) (fun _=>.inr g2) hidj
    ·rw[cnd_n (by simpa using g1)]
     exact net (fun _ _=>True) (fun _=>.inl g1) hidj
   ·rw[cnd_n (by simpa using hidj)]
    exact k6b _ fun e=>by rw[hj1 e]at hidj; exact absurd hid hidj
end Go.Proofs.YtllkmncnmlmefaaGreat

namespace Go.Proofs.YtllkmncnmlmefaaGreat
open Go Go.Vc Go.RowKit
set_option synthInstance.maxSize 100000
set_option synthInstance.maxHeartbeats 0
set_option maxHeartbeats 1000000
theorem zmk {α : Type} {f g : α → Int} : ∀ {l : List α}, (∀ x ∈ l, f x = g x) → sumBy f l = sumBy g l
  | [], _ => rfl
  | x :: l, h => by rw [zba, zba, h x List.mem_cons_self, zmk fun y hy => h y (List.mem_cons_of_mem _ hy)]
theorem qtyH_w (k : Int) (h : List AHold') : qtyH k h = wH (fun a => if a = k then 1 else 0) h := by
  unfold qtyH wH
  refine zmk fun y _ => ?_
  unfold qtyL wL
  refine zmk fun x _ => ?_
  show (if x.1 = k then x.2.2.1 else 0) = (if x.1 = k then 1 else 0) * x.2.2.1
  split <;> simp
def pd (v : AUnit') (d : zbf) : Int := if d.2.1 = v then d.2.2.1 else 0
theorem paid_take (v : AUnit') (ds : List zbf) (j : Nat) (h : j < ds.length) : zcs v (ds.take (j + 1)) = zcs v (ds.take j) + pd v ds[j] := zxt (pd v) ds j h
theorem yji {v : AUnit'} {ds : List zbf} (h : ∀ d ∈ ds, I64 d.2.2.1) (hl : ds.length ≤ 1000000) (j : Nat) : sml (zcs v (ds.take j)) := by
  have h1 := znr (f := pd v) (B := 9223372036854775808) (l := ds.take j) fun d hd => by
    have := h d (List.mem_of_mem_take hd)
    unfold pd I64 at *
    split <;> omega
  have h2 : (ds.take j).length ≤ 1000000 := by rw [List.length_take]; omega
  have e : zcs v (ds.take j) = sumBy (pd v) (ds.take j) := rfl
  unfold sml; omega
theorem fair_plain {s t : zad} {id : Int} (e : zqn s = some t) (O : OkS t) : zdy stdW s id = some true := by
  unfold zdy
  rw [zaa e, zaa (ykv O id)]
  by_cases he : (runA (zdf t id) (pu t) (ho t) []).2.2.2 = 0
  · have F := water_fair O id he
    have St := yhv O he
    rw [yey t he]
    generalize runA (zdf t id) (pu t) (ho t) [] = r at *
    obtain ⟨p', h', ds, e0⟩ := r
    dsimp only at F St
    clear he e
    have pl := St.pl; have hl := St.hl; have dl := St.dl
    have cL := O.cL
    have fL := O.fL
    have dI : ∀ d ∈ ds, I64 d.2.2.1 := fun d hd => (F.may d hd).1.2
    show stdW.cnd ((0 : Int) != 0) _ (stdW.loop _ ((0 : Int), (ds, ()))) = _
    rw [cnd_n (by rfl)]
    refine zct (l := ds) (s0 := ()) (by omega) (fun i (_ : Unit) => ((i : Int), (ds, ()))) (fun _ _ => True) (fun _ _ => some true) rfl trivial ?_ ?_
    · intro _ _ again
      show stdW.cnd (decide ((ds.length : Int) < (ds.length : Int))) _ (stdW.loop _ ((0 : Int), (ds, ()))) = _
      rw [zaj]
      clear again
      refine zct (l := t.2.2.2.2.1) (s0 := ()) (by omega) (fun i (_ : Unit) => ((i : Int), (ds, ()))) (fun _ _ => True) (fun _ _ => some true) rfl trivial ?_ ?_
      · intro _ _ again
        show stdW.cnd (decide ((t.2.2.2.2.1.length : Int) < (t.2.2.2.2.1.length : Int))) _ (stdW.loop _ ((1 : Int), ())) = _
        rw [zaj]
        clear again
        refine loop_P (fun o => o = some true) (fun z => 6 - z.1.toNat) (fun z => ∃ j : Nat, j ≤ 5 ∧ z = ((j : Int), ())) ⟨1, by omega, rfl⟩ (by show 6 - (1 : Int).toNat < _; omega) ?_
        rintro _ ⟨j, hj, rfl⟩ again hag
        show stdW.cnd (decide ((j : Int) ≤ 4)) (stdW.call (zou h' (j : Int)) fun v48 => stdW.call (zou (ho t) (j : Int)) _) (stdW.call (zow p') fun v51 => stdW.call (zow (pu t)) _) = _
        by_cases h4 : j ≤ 4
        · have eq : qtyH (j : Int) h' = qtyH (j : Int) (ho t) := by rw [qtyH_w, qtyH_w]; exact F.qty _
          rw [cnd_y (decide_eq_true (by omega)), zaa (ycy St.hh _), zaa (ycy O.h _), zaa (r_cmpB (zzs St.hh.1 St.hh.2 _) (zzs O.h.1 O.h.2 _)), eq, if_pos (by omega), cnd_n (by rfl)]
          show again (IntKind.i64.wrap ((j : Int) + 1), ()) = _
          rw [i64_s j (by omega)]
          exact hag _ ⟨j + 1, by omega, rfl⟩ (by show 6 - ((j + 1 : Nat) : Int).toNat < 6 - ((j : Nat) : Int).toNat; omega)
        · have ec := F.cash
          rw [cnd_n (decide_eq_false (by omega)), zaa (ycz St.f (by omega)), zaa (ycz O.f (by omega)), zaa (r_cmpB (zyw St.f (by omega)).1 (zyw O.f (by omega)).1), ec, if_pos (by omega), cnd_y (by rfl), zaa zva]
      · intro i hi _ _ again hag
        have hag := hag () trivial
        have hc := O.c _ (List.getElem_mem hi)
        show stdW.cnd (decide ((i : Int) < (t.2.2.2.2.1.length : Int))) (stdW.idx t.2.2.2.2.1 (i : Int) _) _ = _
        rw [cnd_lt hi, idx_w hi, zaa (zqf (by omega))]
        have hul := zgo hc.2
        have hu1 : ∀ u ∈ unitsA t.2.2.2.2.1[i], u ≠ tU ∧ u ≠ fU := fun u hu => by
          have h1 := units_1 hu
          have h2 := hc.1.1
          refine ⟨fun e => ?_, fun e => ?_⟩ <;> (rw [e] at h1; have : (0 : Int) = _ := h1; omega)
        generalize unitsA t.2.2.2.2.1[i] = us at *
        refine zct (l := us) (s0 := ()) (by omega) (fun k (_ : Unit) => ((k : Int), (ds, (us, ())))) (fun _ _ => True) (fun _ _ => some true) rfl trivial ?_ ?_
        · intro _ _ again2
          show stdW.cnd (decide ((us.length : Int) < (us.length : Int))) _ (again (IntKind.i64.wrap ((i : Int) + 1), (ds, ()))) = _
          rw [zaj, i64_s i (by omega)]
          exact hag
        · intro k hk _ _ again2 hag2
          have hag2 := hag2 () trivial
          clear hag
          obtain ⟨n1, n2⟩ := hu1 _ (List.getElem_mem hk)
          show stdW.cnd (decide ((k : Int) < (us.length : Int))) (stdW.loop _ ((0 : Int), (false, (([] : List Int), (ds, (us, ())))))) _ = _
          rw [cnd_lt hk]
          refine zct (l := ds) (s0 := ()) (by omega) (fun j (_ : Unit) => ((j : Int), ((big (zcs us[k] (ds.take j))).1, ((big (zcs us[k] (ds.take j))).2.1, (ds, (us, ())))))) (fun _ _ => True) (fun _ _ => some true)
            (by have : zcs us[k] (ds.take 0) = 0 := rfl
                rw [this, big0]; rfl) trivial ?_ ?_
          · intro _ _ again3
            show stdW.cnd (decide ((ds.length : Int) < (ds.length : Int))) _ (stdW.idx us (k : Int) _) = _
            rw [zaj, idx_w hk]
            show stdW.nth us (Int.toNat (k : Int)) _ = _
            have a1 : zke (updS t p' h') us[k] = some (owesP p' us[k]) := znz (s := updS t p' h') St.f (by show p'.length ≤ _; omega)
            have a0 : zke t us[k] = some (owesP (pu t) us[k]) := znz O.f (by omega)
            rw [nth_w hk, zaa a0]
            show stdW.idx us (k : Int) _ = _
            rw [idx_w hk]
            show stdW.nth us (Int.toNat (k : Int)) _ = _
            rw [nth_w hk, zaa a1]
            have w0 := (zhi O.f us[k]).1
            have w1 := (zhi St.f us[k]).1
            have ow := F.ow us[k] n1 n2
            unfold owe at ow
            rw [zaa (r_of w0), zaa (r_of w1), zaa (r_subB (zcp w0) (zcp w1))]
            show stdW.call (zuz (big ((owesP (pu t) us[k]).1 - (owesP p' us[k]).1)) (big (zcs us[k] (ds.take ds.length)))) _ = _
            have sp := yji (v := us[k]) dI (by omega) ds.length
            rw [List.take_length] at sp ⊢
            rw [ow, zaa (r_cmpB sp sp), if_pos (by omega), cnd_n (by rfl)]
            show again2 (IntKind.i64.wrap ((k : Int) + 1), (ds, (us, ()))) = _
            rw [i64_s k (by omega)]
            exact hag2
          · intro j hj _ _ again3 hag3
            have hag3 := hag3 () trivial
            clear hag2
            show stdW.cnd (decide ((j : Int) < (ds.length : Int))) _ _ = _
            rw [cnd_lt hj]
            refine join_g fun k18 hk18 => ?_
            have K18 : k18 ((big (zcs us[k] (ds.take (j + 1)))).1, ((big (zcs us[k] (ds.take (j + 1)))).2.1, (ds, (us, ())))) = some true := by
              subst hk18
              show again3 (IntKind.i64.wrap ((j : Int) + 1), ((big (zcs us[k] (ds.take (j + 1)))).1, ((big (zcs us[k] (ds.take (j + 1)))).2.1, (ds, (us, ()))))) = _
              rw [i64_s j (by omega)]
              exact hag3
            clear hk18 hag3
            rw [paid_take _ _ _ hj] at K18
            have sp := yji (v := us[k]) dI (by omega) j
            have sd := dI _ (List.getElem_mem hj)
            refine join_g fun k29 hk29 => ?_
            have K29 : k29 (decide (ds[j].2.1 = us[k]), (ds, (us, ()))) = some true := by
              subst hk29
              show stdW.cnd (decide (ds[j].2.1 = us[k])) (stdW.idx ds (j : Int) _) (k18 ((big (zcs us[k] (ds.take j))).1, ((big (zcs us[k] (ds.take j))).2.1, (ds, (us, ()))))) = _
              by_cases hd : ds[j].2.1 = us[k]
              · rw [cnd_y (by simpa using hd), idx_w hj]
                have ep : pd us[k] ds[j] = ds[j].2.2.1 := if_pos hd
                rw [ep] at K18
                have one : (stdW.call (zjm ds[j].2.2.1) fun v25 => stdW.call (zdi ((big (zcs us[k] (ds.take j))).1, ((big (zcs us[k] (ds.take j))).2.1, ())) v25) fun v26 => k18 (v26.1, (v26.2.1, (ds, (us, ()))))) = some true := by
                  rw [zaa (r_of sd)]
                  show stdW.call (zdi (big (zcs us[k] (ds.take j))) (big ds[j].2.2.1)) _ = _
                  rw [zaa (r_addB sp (zcp sd))]
                  exact K18
                refine zbe ?_ ?_
                · show stdW.nth ds (Int.toNat (j : Int)) _ = _
                  rw [nth_w hj]; exact one
                · show stdW.nth ds (Int.toNat (j : Int)) _ = _
                  rw [nth_w hj]
                  exact zbe one one
              · rw [cnd_n (by simpa using hd)]
                have ep : pd us[k] ds[j] = 0 := if_neg hd
                rw [ep, Int.add_zero] at K18
                exact K18
            clear hk29
            show stdW.idx ds (j : Int) _ = _
            rw [idx_w hj]
            show stdW.idx us (k : Int) _ = _
            rw [idx_w hk]
            refine zbe ?_ ?_
            · show stdW.nth ds (Int.toNat (j : Int)) _ = _
              rw [nth_w hj]
              show stdW.nth us (Int.toNat (k : Int)) _ = _
              rw [nth_w hk, nif_f, eqA]; exact K29
            · show stdW.nth us (Int.toNat (k : Int)) _ = _
              rw [nth_w hk]
              show stdW.nth ds (Int.toNat (j : Int)) _ = _
              rw [nth_w hj, nif_f, eqA]; exact K29
    · intro i hi _ _ again hag
      have hag := hag () trivial
      show stdW.cnd (decide ((i : Int) < (ds.length : Int))) (stdW.idx ds (i : Int) _) _ = _
      rw [cnd_lt hi, idx_w hi]
      show stdW.nth ds (Int.toNat (i : Int)) _ = _
      obtain ⟨⟨m1, _⟩, m2⟩ := F.may _ (List.getElem_mem hi)
      rw [nth_w hi, zaa (r_may31 (fun a ha => by have := (O.c a ha).2; omega) (by omega) m1 m2), cnd_n (by rfl)]
      show again (IntKind.i64.wrap ((i : Int) + 1), (ds, ())) = _
      rw [i64_s i (by omega)]
      exact hag
  · rw [zzg t he]
    show stdW.cnd ((runA (zdf t id) (pu t) (ho t) []).2.2.2 != 0) (stdW.cnd ((([] : List zbf).length : Int) == 0) _ _) _ = _
    rw [cnd_y (by simpa using he), cnd_y (by rfl), zaa zva]
theorem fair_true (x0 : DT.den tAState) (x1 : DT.den (.int .i64)) (o0 : DT.okD tAState x0) (_ : DT.okD (.int .i64) x1) : zdy stdW x0 x1 = some true := by
  obtain ⟨t, e, O⟩ := few31_D o0
  exact fair_plain e O
end Go.Proofs.YtllkmncnmlmefaaGreat
