import Derived.Test.YthghpahghjppjaaGreatB5
import Derived.Laws.Bits64
import Derived.Laws.Bits64b
namespace Go.Proofs.YthghpahghjppjaaGreat
open Go Go.Vc Go.RowKit
set_option synthInstance.maxSize 100000
set_option synthInstance.maxHeartbeats 0
set_option maxHeartbeats 1000000
def yE(l:List aD):List ar:=l.flatMap bY
def px(l:List aD):List ar:=(l.filter λa=>a.2.2.1==1).flatMap bY
def JZ(as:List gT)(A:List aD)(us hs:List ar):List Gw:=yk as us++(jk as A++(oq as hs us++oq as [fU] us))
theorem UX{k}:∀{l:List aD},(∀a∈l,(bY a).length<=k)->(l.flatMap bY).length<=k*l.length
 |[],_=>by simp
 |a::l,h=>by
  have h1:=h a eH;have h2:=UX (l:=l) λb hb=>h b (cP _ hb)
  rw[cw,ap,aJ,wL];omega
theorem alp{a}(h:a.2.2.1=1):(bY a).length=1:=by unfold bY;rw[ah h];rfl
theorem alq(l):(px l).length<=l.length:=by
 unfold px;have h1:=UX (k:=1) (l:=l.filter λa=>a.2.2.1==1) λa ha=>by have:=(aM.1 ha).2;rw[alp (by simpa using this)];exact au _
 have h2:=cW (λa:aD=>a.2.2.1==1) l;omega
theorem aeh(a)(l):px (a::l)=if a.2.2.1=1 then bY a++px l else px l:=by
 unfold px;rw[bu];by_cases h:a.2.2.1=1
 .rw[ah (by simp[h]),ah h,cw]
 .rw[ag (by simp[h]),ag h]
theorem aqm{l}(hA:∀a∈l,a.2.2.2.1.length<=20)(hl:l.length<=1000):ag6 l=some (yE l,px l,()):=by
 show zi aj l=_;unfold zi;refine ni (l:=l) (s0:=(([]:List ar),([]:List ar))) (by omega) (λi (z:List ar×List ar)=>((i:Int),z.1,z.2,())) (λi z=>z.1.length<=20*i/\z.2.length<=20*i) (λl' z=>some (z.1++yE l',z.2++px l',())) rfl ⟨by simp,by simp⟩ ?_ ?_
 .rintro⟨a,b⟩ _ again;show aj.af (decide ((l.length:Int)<(l.length:Int))) _ (some (a,b,()))=some (a++[],b++[],());rw[dZ,cy,cy]
 .rintro i hi ⟨us,hs⟩ ⟨h1,h2⟩ again I2;dsimp only at h1 h2;have hu:=IU (hA _ (aG hi));have ea:=yr (a:=l[i]) (by have:=hA _ (aG hi);omega);show aj.af (decide ((i:Int)<(l.length:Int))) _ _=some (us++yE (l[i]::l.drop (i+1)),hs++px (l[i]::l.drop (i+1)),());have e1:us++yE (l[i]::l.drop (i+1))=us++bY l[i]++yE (l.drop (i+1)):=by unfold yE;rw[cw,bq]
  rw[dE hi,e1,aeh];refine bw λk hk=>?_
  have K:∀us' hs',us'.length<=20*(i+1)->hs'.length<=20*(i+1)->k (us',hs',())=some (us'++yE (l.drop (i+1)),hs'++px (l.drop (i+1)),()):=by intro us' hs' g1 g2;subst hk;dsimp only;rw[cU i (by omega)];exact I2 (us',hs') ⟨g1,g2⟩
  refine tix hi ?_;show aj.ae (xK l[i]) (λv6=>aj.bi (us.length+v6.length) 16 (aj.af (l[i].2.2.1==1) (aj.ae (xK l[i]) λv7=>aj.bi (hs.length+v7.length) 16 (k (us++v6,hs++v7,()))) (k (us++v6,hs,()))))=_;rw[ai ea,dm (by omega) (by omega)];by_cases hk1:l[i].2.2.1=1
  .rw[aQ (by simp[hk1]),ai ea,dm (by omega) (by omega),ah hk1,K _ _ (by rw[ap];omega) (by rw[ap];omega),bq hs]
  .rw[az (by simp[hk1]),ag hk1,K _ _ (by rw[ap];omega) (by omega)]
theorem aqn(as)(us):∀a∈yk as us,Gp a 1:=λa ha=>by obtain⟨u,_,rfl⟩:=aN.1 ha;exact ajc as u
theorem aei{as}{A}(hA:∀a∈A,a.2.2.2.1.length<=20):∀a∈jk as A,Gp a 40:=λa ha=>by obtain⟨x,hx,rfl⟩:=aN.1 ha;exact X' as (bY x) (IU (hA x (aM.1 hx).1))
theorem aqo(as)(by' us):∀a∈oq as by' us,Gp a 1:=λa ha=>by obtain⟨u,_,hu⟩:=eG.1 ha;obtain⟨b,_,rfl⟩:=aN.1 hu;exact ajb as b u
theorem aak(as)(by'):∀us,(oq as by' us).length=by'.length*us.length
 |[]=>by simp[oq]
 |u::us=>by have:=aak as by' us;unfold oq at this ⊢;rw[cw,ap,bh,this,aJ,wL];omega
structure RI(s:aV)(A:List aD):Prop where
 a:∀a∈iG s,qf a
 aL:(iG s).length<=1000
 c:∀a∈A,a.2.2.2.1.length<=20
 cL:A.length<=20
theorem RI.lens{s}{A}(O:RI s A):(yE A).length<=400/\(px A).length<=20:=by
 have h1:=UX (k:=20) (l:=A) λa ha=>IU (O.c a ha)
 have h2:=alq A;have h3:=O.cL;unfold yE;omega
theorem axH{s}{p}{h:List bg}{id:Int}(hAs:rC s.2.2.2.2.1)(O:RI s (s.2.2.2.2.1.filter (rz id)))(S:StR p h [] 0):
 Mi (gE s p h) id=some (qT s (o5 (JZ (iG s) (s.2.2.2.2.1.filter (rz id)) (yE (s.2.2.2.2.1.filter (rz id))) (px (s.2.2.2.2.1.filter (rz id)))) p h [])):=by
 obtain⟨l1,l2⟩:=O.lens;have cL:=O.cL;show E7 aj (gE s p h) id=_;unfold E7;show aj.ae (Yj s.2.2.2.2.1 id) _=_;rw[ai (aaP hAs)];generalize hA:s.2.2.2.2.1.filter (rz id)=A at *;have hsl:(jk (iG s) A).length<=20:=by unfold jk;rw[bh];have:=cW (λa:aD=>a.2.2.1==2) A;omega
 rw[ai (aqm O.c (by omega))];have S0:StO (p,h,[],0) 0:=λ_=>S
 have S1:=aag (yk (iG s) (yE A)) (aqn _ _) S0 (by unfold yk;rw[bh];omega);have e1:(yk (iG s) (yE A)).length=(yE A).length:=by unfold yk;rw[bh]
 rw[e1]at S1;have c1:=alo (st:=(p,h,[],0)) (l:=yE A) O.a O.aL S0 (by omega);generalize a1b:qZ (yk (iG s) (yE A)) (p,h,[],0)=st1 at *;have S1':=S1.mono (m:=400) (by omega);have c2:=aai (st:=st1) (l:=A) O.a O.aL O.c S1' (by omega);have S2:=aag (jk (iG s) A) (aei O.c) S1' (by omega);generalize a1c:qZ (jk (iG s) A) st1=st2 at *;have S2':=S2.mono (m:=1200) (by omega);have hm:=Nat.mul_le_mul l2 l1;have c3:=Ns (st:=st2) (l:=yE A) (by':=px A) O.a O.aL S2' (by omega) (by omega) (by omega);have S3:=aag (oq (iG s) (px A) (yE A)) (aqo _ _ _) S2' (by rw[aak];omega);rw[aak]at S3;generalize a1d:qZ (oq (iG s) (px A) (yE A)) st2=st3 at *;have S3':=S3.mono (m:=9200) (by omega);have c4:=Ns (st:=st3) (l:=yE A) (by':=[fU]) O.a O.aL S3' (by simp;omega) (by omega) (by simp);have tot:qZ (JZ (iG s) A (yE A) (px A)) (p,h,[],0)=qZ (oq (iG s) [fU] (yE A)) st3:=by unfold JZ;rw[CZ,CZ,CZ,a1b,a1c,a1d]
 generalize a1w:qZ (oq (iG s) [fU] (yE A)) st3=st4 at *;obtain⟨r1,r2,r3⟩:=aql (JZ (iG s) A (yE A) (px A)) p h [];rw[tot]at r1 r2;refine yu c1 ?_;refine yu c2 ?_;refine yu c3 ?_;rw[ai aeU];refine yu c4 ?_;show aj.af (st4.2.2.2 != 0) (some (zS,[],st4.2.2.2,())) (some (gE s st4.1 st4.2.1,st4.2.2.1,0,()))=_;unfold qT;by_cases he:(o5 (JZ (iG s) A (yE A) (px A)) p h []).2.2.2=0
 .rw[ah he,<-r2 he,az (by rw[r1,he];rfl)]
 .rw[ag he,aQ (by rw[r1];simpa using he),r1]
theorem O6{α}{n}{l:List α}{k:Nat}{x:α}(hk:k<=l.length)(hb:(l.length+1)*n<=140737488355328):JW n l (k:Int) [x]=some (l.take k++x::l.drop k,()):=by
 unfold JW;have e:(decide ((0:Int)<=(k:Int))&&decide ((k:Int)<=(l.length:Int))&&Nat.ble ((l.length+1)*n) 140737488355328)=true:=by rw[aq (by omega),aq (by omega),gS hb];rfl
 rw[e];rfl
theorem awI{α}{l:List α}{a b:Nat}(h:a<b)(hb:b<=l.length):VC l (a:Int) (b:Int)=some (l.take a++l.drop b,()):=by
  unfold VC
  have e:(decide ((0:Int)<=(a:Int))&&decide ((a:Int)<(b:Int))&&decide ((b:Int)<=(l.length:Int)))=true:=by
    rw[aq (by omega),aq (by omega),aq (by omega)];rfl
  rw[e]
  rfl
abbrev pW:=ar
def zw(l:List pW):Prop:=(∀x∈l,(1<=x.1/\x.1<=8)/\x.2.1≠0)/\(l.map (·.1)).Pairwise (· < ·)
instance (l:List pW):Decidable (zw l):=by unfold zw;infer_instance
def Fk(l:List pW):Bool:=decide (zw l)
theorem Z0{l:List pW}{i:Nat}(hi:i<l.length)(h:¬((1<=l[i].1/\l[i].1<=8)/\l[i].2.1≠0)):Fk l=false:=an λhp=>h (hp.1 _ (aG hi))
theorem aoX{l:List pW}{i:Nat}(hi:i<l.length)(h0:0<i)(h:¬(l[i-1]'(by omega)).1<l[i].1):Fk l=false:=an λhp=>h (by have:=bN.1 hp.2 (i-1) i (by simp;omega) (by simpa using hi) (by omega);simpa using this)
theorem aoY{l:List pW}{i:Nat}(hi:i<l.length)(inv:zw (l.take i))(h1:(1<=l[i].1/\l[i].1<=8)/\l[i].2.1≠0)(h2:∀h0:0<i,(l[i-1]'(by omega)).1<l[i].1):zw (l.take (i+1)):=by
 rw[ax hi];refine⟨λx hx=>?_,?_⟩
 .rcases aT.1 hx with hx|hx
  .exact inv.1 x hx
  .simp only[aC]at hx;rw[hx];exact h1
 .rw[cz];refine dM.2 ⟨inv.2,by simp,λa ha b hb=>?_⟩;simp only[bK,oF,aC]at hb;subst hb;obtain⟨k,hk,hka⟩:=dJ.1 ha;have uY:k<i:=by simp at hk;omega
  have h3:=h2 (by omega);by_cases hki:k=i-1
  .subst hki;rw[<-hka];simpa using h3
  .have h4:=bN.1 inv.2 k (i-1) (by simpa using hk) (by simp;omega) (by omega);rw[hka]at h4;refine F1 h4 ?_;simpa using h3
theorem as3{l:List pW}(h:zw (l.take l.length)):Fk l=true:=by rw[br]at h;exact aq h
def Qf(l:List pW)(i:Nat):Int:=if h:0<i/\i<=l.length then(l[i-1]'(by omega)).1 else 0
theorem as4{l:List pW}{i:Nat}(h:i<l.length):Qf l (i+1)=l[i].1:=by unfold Qf;rw[Aw ⟨by omega,by omega⟩];rfl
theorem aiz{l:List pW}(hl:l.length<=1000000):awM l=some (Fk l):=by
 show CU aj l=_;unfold CU;refine as2 (N:=l.length) (by omega) (λi=>(Qf l i,(i:Int),())) (λi=>zw (l.take i)) (some (Fk l)) (by unfold Qf;simp) (by simp[zw]) ?_ ?_
 .intro h again;refine IZ ?_;rw[as3 h]
 .intro i hi inv again ha;refine Jp hi ?_;rw[bO hi];refine bw λk hk=>?_
  have kt:k (true,())=some false:=by subst hk;rfl
  have kf:k (false,())=again (Qf l (i+1),((i+1:Nat):Int),()):=by rw[<-cU i (by omega),as4 hi];subst hk;rfl
  refine du (λh1=>?_) λh1=>?_
  .rw[kt];unfold Qf at h1;by_cases h0:0<i
   .rw[Aw ⟨h0,by omega⟩]at h1;rw[aoX hi h0 (by omega)]
   .rw[dif_neg (by omega)]at h1;rw[Z0 hi (by omega)]
  .refine du (λh2=>?_) λh2=>?_
   .rw[kt,Z0 hi (by omega)]
   .by_cases h3:l[i].2.1=0
    .rw[show(l[i].2.1==0)=true by simpa using h3,kt,Z0 hi (by simp[h3])]
    .rw[show(l[i].2.1==0)=false by simpa using h3,kf]
     have zu:1<=l[i].1:=by
      unfold Qf at h1;by_cases h0:0<i
      .rw[Aw ⟨h0,by omega⟩]at h1;have:=(inv.1 (l[i-1]'(by omega)) (dJ.2 ⟨i-1,by simp;omega,by simp⟩)).1.1;omega
      .rw[dif_neg (by omega)]at h1;omega
     refine ha (aoY hi inv ⟨⟨zu,by omega⟩,h3⟩ λh0=>?_);unfold Qf at h1;rw[Aw ⟨h0,by omega⟩]at h1;omega
def Z1(i:bF)(q:Int):Int:=(i.2.2.2.1-i.2.2.1)*i.2.1*q
theorem M4{a b A B}(ha : -A<=a/\a<=A)(hb : -B<=b/\b<=B) : -(A*B)<=a*b/\a*b<=A*B:=by
 have h1:a.natAbs<=A.toNat:=by omega
 have h2:b.natAbs<=B.toNat:=by omega
 have h3:(a*b).natAbs<=A.toNat*B.toNat:=by rw[Int.natAbs_mul];exact Nat.mul_le_mul h1 h2
 have h4:((A.toNat*B.toNat:Nat):Int)=A*B:=by rw[nH,tc (by omega),tc (by omega)]
 omega
theorem ai8{i}(h:okI i) : -140737488355328<=(i.2.2.2.1-i.2.2.1)*i.2.1/\(i.2.2.2.1-i.2.2.1)*i.2.1<=140737488355328:=by obtain⟨h1,h2,h3,_⟩:=h;exact M4 (A:=2147483648) (B:=65536) (by omega) (by omega)
theorem as5{i}(h:okI i){q:Int}(hq:cu q) : -1298074214633706907132624082305024<=Z1 i q/\Z1 i q<=1298074214633706907132624082305024:=by unfold cu at hq;exact M4 (A:=140737488355328) (B:=9223372036854775808) (ai8 h) (by omega)
theorem XK{t}{id}{i}(h:pq t id=some i):i∈t:=bT h
theorem VF.len{t}(h:VF t):t.length<=1000000:=by have:=h.2;omega
def Hy(t:List bF):List pW->Option Int
 |[]=>some 0
 |x::l=>match pq t x.1 with
  |none=>none
  |some i=>match Hy t l with
   |none=>none
   |some z=>some (Z1 i x.2.1+z)
def vP(t:List bF)(l:List pW):Int×Int×Unit:=if Fk l=true then(match Hy t l with|none=>(0,11,())|some z=>cZ z)else(0,3,())
def Vq(l:List pW):Prop:=∀x∈l,cu x.2.1
theorem azp{t}(ht:VF t){x:pW}(hq:cu x.2.1):aoZ t x=some (match pq t x.1 with|some i=>(wide (Z1 i x.2.1),0,())|none=>((0,0,()),11,())):=by
 show EM aj t x=_;unfold EM;rw[ai (Yp ht.len λi hi=>by have:=(ht.1 i hi).2.2.2;omega)];cases h:pq t x.1 with
 |none=>exact aQ (by decide) _ _
 |some i=>have hi:=ht.1 i (XK h);have hb:=ai8 hi;show aj.af (!true) _ (aj.ae (Eb (IntKind.i64.wrap (i.2.2.2.1-i.2.2.1)) i.2.1) _)=_;obtain⟨h1,h2,h3,_⟩:=hi;rw[az (by decide),bI _ (by omega),ai (Fp (by unfold cu;omega) (by unfold cu;omega)),ai (adb (by unfold cu;omega) hq)];rfl
theorem awN{t}(ht:VF t){l:List pW}(hq:Vq l)(hl:l.length<=1000):akE t l=some (vP t l):=by
 show BH aj t l=_;unfold BH vP;rw[ai (aiz (by omega))];by_cases hv:Fk l=true
 .rw[hv,az (by decide),ah rfl];have e0:(match Hy t l with|none=>(0,11,())|some z=>cZ z)=(match Hy t l with|none=>(0,11,())|some z=>cZ (0+z)):=by cases Hy t l<;>simp
  rw[e0];refine ib (l:=l) (by omega) (λi (s:List bU×Unit)=>s.1.length=i/\(∀w∈s.1,FH w) /\ -(1298074214633706907132624082305024*(i:Int))<=su s.1/\su s.1<=1298074214633706907132624082305024*(i:Int)) (s0:=(([]:List bU),())) (λl' (s:List bU×Unit)=>some (match Hy t l' with|none=>(0,11,())|some z=>cZ (su s.1+z))) ⟨rfl,by simp,by simp[su],by simp[su]⟩ ?_ ?_
  .rintro⟨ws,⟨⟩⟩ again ⟨h1,h2,h3,h4⟩;simp only at h1 h2 h3 h4;have hin:eN (su ws):=by unfold eN;omega
   have ea:yC ws=some (wide (su ws),0,()):=by rw[Su ws h2 (by omega)];unfold fit;rw[ah hin]
   rw[dZ];show aj.ae (yC ws) _=some (cZ (su ws+0));rw[ai ea,Int.add_zero];show aj.af ((0:Int) != 0) _ (aj.ae (M5 (wide (su ws))) _)=_;rw[az (by decide),ai (JU hin)]
  .rintro i hi ⟨ws,⟨⟩⟩ ⟨h1,h2,h3,h4⟩ again ha;simp only at h1 h2 h3 h4;have hqi:=hq _ (aG hi);rw[dE hi,bO hi,ai (azp ht hqi)];show _=some (match Hy t (l[i]::l.drop (i+1))with|none=>(0,11,())|some z=>cZ (su ws+z));rw[Hy];cases hf:pq t l[i].1 with
   |none=>show aj.af ((11:Int) != 0) _ _=_;rw[aQ (by decide)]
   |some x=>
    have hb:=as5 (ht.1 x (XK hf)) hqi;have hI:eN (Z1 x l[i].2.1):=by unfold eN;omega
    show aj.af ((0:Int) != 0) _ (aj.bi (ws.length+1) 16 (again (IntKind.i64.wrap ((i:Int)+1),ws++[wide (Z1 x l[i].2.1)],())))=_;have hs:su (ws++[wide (Z1 x l[i].2.1)])=su ws+Z1 x l[i].2.1:=by rw[adm,adn,tN]
    rw[az (by decide),dm (by omega) (by omega),cU i (by omega),ha (ws++[wide (Z1 x l[i].2.1)],()) ⟨by simp[h1],λw hw=>?_,by simp only[hs];omega,by simp only[hs];omega⟩]
    .dsimp only;rw[hs];cases Hy t (l.drop (i+1))with
     |none=>rfl
     |some z=>dsimp only;rw[Int.add_assoc]
    .rcases aT.1 hw with hw|hw
     .exact h2 w hw
     .simp only[aC]at hw;exact hw▸nL _ hI
 .have hv:Fk l=false:=by simpa using hv
  rw[hv,aQ (by decide),ag (by simp)]
def GX(l:List bC):Prop:=(∀p∈l,p.2.1≠[]/\zw p.2.1)/\jR (l.map (·.1))
instance (l:List bC):Decidable (GX l):=by unfold GX jR;infer_instance
def tn(l:List bC):Bool:=decide (GX l)
theorem ado{l:List bC}{i:Nat}(hi:i<l.length)(h:¬(l[i].2.1≠[]/\zw l[i].2.1)):tn l=false:=an λhp=>h (hp.1 _ (aG hi))
theorem apa{l:List bC}{i:Nat}(hi:i<l.length)(h0:0<i)(h:¬oJ (l[i-1]'(by omega)).1 l[i].1):tn l=false:=an λhp=>h (by have:=bN.1 hp.2 (i-1) i (by simp;omega) (by simpa using hi) (by omega);simpa using this)
theorem adp{l:List bC}{i:Nat}(hi:i<l.length)(inv:GX (l.take i))(h1:l[i].2.1≠[]/\zw l[i].2.1)(h2:∀h0:0<i,oJ (l[i-1]'(by omega)).1 l[i].1):GX (l.take (i+1)):=by
 rw[ax hi];refine⟨λx hx=>?_,?_⟩
 .rcases aT.1 hx with hx|hx
  .exact inv.1 x hx
  .simp only[aC]at hx;rw[hx];exact h1
 .rw[cz];refine dM.2 ⟨inv.2,by simp,λa ha b hb=>?_⟩;simp only[bK,oF,aC]at hb;subst hb;obtain⟨k,hk,hka⟩:=dJ.1 ha;have uY:k<i:=by simp at hk;omega
  have h3:=h2 (by omega);by_cases hki:k=i-1
  .subst hki;rw[<-hka];simpa using h3
  .have h4:=bN.1 inv.2 k (i-1) (by simpa using hk) (by simp;omega) (by omega);rw[hka]at h4;refine s7 h4 ?_;simpa using h3
theorem as6{l:List bC}(h:GX (l.take l.length)):tn l=true:=by rw[br]at h;exact aq h
def okB(l:List bC):Prop:=(∀p∈l,Vq p.2.1/\p.2.1.length<=100)/\l.length<=100
theorem GL{l:List bC}(hb:okB l):Yk l=some (tn l):=by
 have hl:=hb.2;show nU aj l=_;unfold nU;refine K6 (N:=l.length) (by omega) (λi _=>GX (l.take i)) (some (tn l)) (by simp[GX]) ?_ ?_
 .rintro _ again h;rw[dZ,as6 h]
 .rintro i hi _ inv again ha;rw[dE hi,bO hi];refine bw λk hk=>?_
  have kt:k (true,())=some false:=by subst hk;rfl
  have kf:k (false,())=again (((i+1:Nat):Int),()):=by rw[<-cU i (by omega)];subst hk;rfl
  have hli:=(hb.1 _ (aG hi)).2;by_cases h1:l[i].2.1=[]
  .rw[aQ (by simp[h1]),ja,kt,ado hi (by simp[h1])]
  rw[az (by simpa using h1),ai (aiz (by omega))];by_cases hv:zw l[i].2.1
  .rw[show Fk l[i].2.1=true from aq hv,az (by decide)];by_cases h0:0<i
   .rw[eR (by omega),Hs i h0 (by rw[ic];omega),bO (by omega),ai (CT _ _),ja];by_cases h2:oJ (l[i-1]'(by omega)).1 l[i].1
    .rw[aq h2];exact kf.trans (ha _ (adp hi inv ⟨h1,hv⟩ λ_=>h2))
    .rw[an h2,apa hi h0 h2];exact kt
   .rw[cY (by omega),ja];exact kf.trans (ha _ (adp hi inv ⟨h1,hv⟩ λh=>absurd h h0))
  .rw[show Fk l[i].2.1=false from an hv,aQ (by decide),ja,kt,ado hi λh=>hv h.2]
def rp(t:List bF):List bC->List aR->List aR×Int×Unit
 |[],acc=>(acc,0,())
 |p::l,acc=>if(vP t p.2.1).2.1=0 then(if(vP t p.2.1).1=0 then rp t l acc else rp t l (acc++[(p.1,(vP t p.2.1).1,())]))else([],(vP t p.2.1).2)
def tb(t:List bF)(l:List bC):List aR×Int×Unit:=if tn l=true then rp t l []else([],3,())
theorem XL{z}(h:(cZ z).2.1=0):(cZ z).1=z/\cu z:=by
 unfold cZ at h ⊢;by_cases hI:cu z
 .rw[ah hI];exact⟨rfl,hI⟩
 .rw[ag hI]at h;simp at h
theorem as7{t}{l}(h:(vP t l).2.1=0):∃z,Fk l=true/\Hy t l=some z/\(vP t l).1=z/\cu z:=by
 unfold vP at h ⊢;by_cases hv:Fk l=true
 .rw[ah hv]at h ⊢;cases hz:Hy t l with
  |none=>rw[hz]at h;simp at h
  |some z=>rw[hz]at h;obtain⟨h1,h2⟩:=XL h;exact⟨z,hv,rfl,h1,h2⟩
 .rw[ag hv]at h;simp at h
def gv(t:List bF)(p:bC):Int:=(vP t p.2.1).1
def gF(t:List bF)(p:bC):aR:=(p.1,gv t p,())
def gFs(t:List bF)(l:List bC):List aR:=(l.filter λp=>decide (gv t p≠0)).map (gF t)
theorem K9(t):∀(l:List bC) (acc:List aR),(rp t l acc).2.1=0->(rp t l acc).1=acc++gFs t l/\∀p∈l,(vP t p.2.1).2.1=0
 |[],acc,_=>by simp[rp,gFs]
 |p::l,acc,h=>by
  unfold rp at h ⊢;by_cases he:(vP t p.2.1).2.1=0
  .rw[ah he]at h ⊢;by_cases h0:(vP t p.2.1).1=0
   .rw[ah h0]at h ⊢;obtain⟨h1,h2⟩:=K9 t l _ h;refine⟨?_,λx hx=>?_⟩
    .rw[h1];unfold gFs;rw[bu,ag (by unfold gv;simp[h0])]
    .rcases aF.1 hx with rfl|hx
     .exact he
     .exact h2 x hx
   .rw[ag h0]at h ⊢;obtain⟨h1,h2⟩:=K9 t l _ h;refine⟨?_,λx hx=>?_⟩
    .rw[h1];unfold gFs;rw[bu,ah (by unfold gv;simp[h0])];simp;rfl
    .rcases aF.1 hx with rfl|hx
     .exact he
     .exact h2 x hx
  .rw[ag he]at h;exact absurd h he
theorem Hz(t):∀(l:List bC) (acc:List aR),(rp t l acc).1.length<=acc.length+l.length
 |[],acc=>by simp[rp]
 |p::l,acc=>by
  unfold rp;split
  .split
   .have:=Hz t l acc;simp;omega
   .have:=Hz t l (acc++[(p.1,(vP t p.2.1).1,())]);simp at this ⊢;omega
  .simp
theorem aby{t}{l}(h:(tb t l).2.1=0):tn l=true/\(tb t l).1=gFs t l/\∀p∈l,(vP t p.2.1).2.1=0:=by
 unfold tb at h ⊢;by_cases hp:tn l=true
 .rw[ah hp]at h ⊢;obtain⟨h1,h2⟩:=K9 t l _ h;exact⟨hp,by rw[h1,dA],h2⟩
 .rw[ag hp]at h;simp at h
theorem akF(t)(l):(tb t l).1.length<=l.length:=by
 unfold tb;split
 .have:=Hz t l [];simpa using this
 .simp
theorem akG{t}{l}(h:(tb t l).2.1=0):u7 (tb t l).1:=by obtain⟨_,h1,h2⟩:=aby h;rw[h1];intro x hx;obtain⟨p,hp,rfl⟩:=aN.1 hx;obtain⟨z,_,_,h3,h4⟩:=as7 (h2 p (aM.1 hp).1);show cu (vP t p.2.1).1;rw[h3];exact h4
def Ae(t:List bF)(l:List bC)(p:List aR):List aR×Int×Unit:=if ya p=true then(if(tb t l).2.1=0 then rI p (tb t l).1 else([],(tb t l).2))else([],3,())
theorem aj7{t}{l}{p}(h:(Ae t l p).2.1=0):ya p=true/\(tb t l).2.1=0/\Ae t l p=rI p (tb t l).1:=by
 unfold Ae at h ⊢;by_cases hp:ya p=true
 .rw[ah hp]at h ⊢;by_cases he:(tb t l).2.1=0
  .exact⟨hp,he,by rw[ah he]⟩
  .rw[ag he]at h;exact absurd h he
 .rw[ag hp]at h;simp at h
theorem as8{t}{l}(ht:VF t)(hb:okB l):afS t l=some (tb t l):=by
 have hl:=hb.2;show yU aj t l=_;unfold yU tb;rw[ai (GL hb)];by_cases hp:tn l=true
 .rw[hp,az (by decide),ah rfl];refine ib (l:=l) (by omega) (s0:=(([]:List aR),())) (λi (s:List aR×Unit)=>s.1.length<=i) (λl' (s:List aR×Unit)=>some (rp t l' s.1)) (au _) ?_ ?_
  .rintro⟨acc,⟨⟩⟩ again _;rw[dZ];rfl
  .rintro i hi ⟨acc,⟨⟩⟩ abn again ha;simp only at abn;rw[dE hi];refine bw λk hk=>?_
   have kk:∀v:List aR,v.length<=i+1->k (v,())=some (rp t (l.drop (i+1)) v):=by intro v hv;subst hk;dsimp only;rw[cU i (by omega)];exact ha (v,()) hv
   obtain⟨h1,h2⟩:=hb.1 _ (aG hi);rw[bO hi,ai (awN ht h1 (by omega))];show _=some (rp t (l[i]::l.drop (i+1)) acc);rw[rp];by_cases he:(vP t l[i].2.1).2.1=0
   .rw[az (by simp[he]),ah he];by_cases h0:(vP t l[i].2.1).1=0
    .rw[az (by simp[h0]),ah h0];exact kk acc (by omega)
    .rw[aQ (by simp[h0]),ag h0];show aj.bi (acc.length+1) 24 (k (acc++[(l[i].1,(vP t l[i].2.1).1,())],()))=_;rw[dm (by omega) (by omega)];exact kk _ (by simp;omega)
   .rw[aQ (by simp[he]),ag he]
 .have hp:tn l=false:=by simpa using hp
  rw[hp,aQ (by decide),ag (by simp)]
theorem adq{t}{l}{p}(ht:VF t)(hb:okB l)(hp:u7 p)(hl:p.length<=1000):HA t l p=some (Ae t l p):=by
 show vQ aj t l p=_;unfold vQ Ae;rw[ai (aaT (by omega))];by_cases h:ya p=true
 .rw[h,az (by decide),ah rfl,ai (as8 ht hb)];by_cases he:(tb t l).2.1=0
  .have:=akF t l;have:=hb.2;rw[az (by simp[he]),ah he,ai (adr hp (akG he) (by omega))]
  .rw[aQ (by simp[he]),ag he]
 .have h:ya p=false:=by simpa using h
  rw[h,aQ (by decide),ag (by simp)]
def gx:List pW->Int->Int
 |[],_=>0
 |x::l,k=>if x.1=k then x.2.1 else gx l k
theorem al3{l}{k}(hl:l.length<=1000000):ai2 l k=some (gx l k):=by
 show EN aj l k=_;unfold EN;refine ib (l:=l) (by omega) (s0:=()) (λ_ _=>True) (λl' _=>some (gx l' k)) trivial ?_ ?_
 .rintro _ again _;rw[dZ];rfl
 .rintro i hi _ _ again ha;rw[dE hi,bO hi];dsimp only;rw[gx];refine dQ (λh=>?_) λh=>?_
  .rw[ah h]
  .rw[ag h];show again (IntKind.i64.wrap ((i:Int)+1),())=_;rw[cU i (by omega)];exact ha _ trivial
theorem ai1{l}(h:Vq l)(k):cu (gx l k):=by
 induction l with
 |nil=>show cu 0;unfold cu;omega
 |cons x l ih=>
  rw[gx];split
  .exact h x (by simp)
  .exact ih λy hy=>h y (by simp[hy])
def lu(l:List bC)(k:Int):Int:=iM (λp=>gx p.2.1 k) l
def ks:List Int:=[1,2,3,4,5,6,7,8]
theorem afK(k):k∈ks↔1<=k/\k<=8:=by unfold ks;simp;omega
theorem awH{l}(h:zw l):(l.map (·.1)).Nodup:=h.2.imp λ{a b} (hab:a<b) e=>by omega
theorem Sf{l}(hl:l.length<=1000000):aoJ l=some (!Fk l):=by show xF aj l=_;unfold xF;rw[ai (aiz hl)]
theorem a0M{s}(hs:s.length<=1000000)(hl:∀l∈s,l.length<=1000000):∃i:Int,qX s=some (i,())/\decide (0<=i)=!(s.all Fk):=by
 show ∃i,ek aj s=_/\_;unfold ek;refine po (λo=>∃i:Int,o=some (i,())/\decide (0<=i)=!(s.all Fk)) (λz=>s.length+1-z.1.toNat) (λz=>∃j:Nat,j<=s.length/\z=((j:Int),())/\(s.take j).all Fk=true) ⟨0,bE _,rfl,by simp⟩ (by dsimp only;omega) ?_;rintro _ ⟨j,hj,rfl,hp⟩ again ha;show ∃i,aj.af (decide ((j:Int)<(s.length:Int))) _ _=_/\_;by_cases h:j<s.length
 .rw[dE h];show ∃i,aj.aI s (j:Int) _=_/\_;rw[bO h,ai (Sf (hl _ (aG h)))];by_cases hv:Fk s[j]=true
  .rw[hv,az (by decide)];dsimp only;rw[cU j (by omega)];refine ha _ ⟨j+1,by omega,rfl,?_⟩ (by dsimp only;omega);rw[ax h,List.all_append,hp];simp[hv]
  .have hv:Fk s[j]=false:=by simpa using hv
   rw[hv,aQ (by decide)];refine⟨(j:Int),rfl,?_⟩;have:s.all Fk=false:=by rw[List.all_eq_false];exact⟨s[j],aG h,by simp[hv]⟩
   rw[this,aq (by omega)];rfl
 .have:j=s.length:=by omega
  subst this;rw[dZ];rw[br]at hp;exact⟨-1,rfl,by rw[hp];rfl⟩
theorem a0N{s}(hs:s.length<=1000000)(hl:∀l∈s,l.length<=1000000):pT s=some (!(s.all Fk),()):=by show dF aj s=_;unfold dF;obtain⟨i,e,h⟩:=a0M hs hl;rw[ai e];dsimp only;rw[h]
def yR(l:List (List pW))(k:Int):Int:=(l.map λv=>gx v k).sum
def EH(l:List (List pW)):List Int->List pW->List pW×Int×Unit
 |[],acc=>(acc,0,())
 |k::ks,acc=>if cu (yR l k)then(if yR l k=0 then EH l ks acc else EH l ks (acc++[(k,yR l k,())]))else([],7,())
def wM(l:List (List pW)):List pW×Int×Unit:=if l.all Fk=true then EH l ks []else([],3,())
theorem asr{j}(h:j<8):ks.drop j=((j:Int)+1)::ks.drop (j+1):=by
 have:j=0\/j=1\/j=2\/j=3\/j=4\/j=5\/j=6\/j=7:=by omega
 rcases this with rfl|rfl|rfl|rfl|rfl|rfl|rfl|rfl<;>rfl
theorem afJ{l}(hs:l.length<=1000)(hl:∀v∈l,v.length<=1000)(ho:∀v∈l,Vq v):ai0 l=some (wM l):=by
 show BD aj l=_;unfold BD wM;rw[ai (a0N (by omega) λv hv=>by have:=hl v hv;omega)];by_cases hv:l.all Fk=true
 .rw[hv,az (by decide),ah rfl];refine(iH (λz=>10-z.1.toNat) (λz=>∃(j:Nat) (acc:List pW),j<=8/\acc.length<=j/\z=((j:Int)+1,acc,())) (λz=>some (EH l (ks.drop (z.1.toNat-1)) z.2.1)) ⟨0,[],by omega,au _,rfl⟩ (by dsimp only;omega) ?_);rintro _ ⟨j,acc,hj,abn,rfl⟩ again ha;have ej:(((j:Int)+1).toNat-1)=j:=by omega
  show aj.af (decide ((j:Int)+1<=8)) _ _=some (EH l (ks.drop (((j:Int)+1).toNat-1)) acc);rw[ej];by_cases h8:j<8
  .rw[eR (by omega),asr h8];refine bw λk5 hk=>?_
   have kk:∀v:List pW,v.length<=j+1->k5 (v,())=some (EH l (ks.drop (j+1)) v):=by
    intro v hv;subst hk;dsimp only;have e1:IntKind.i64.wrap ((j:Int)+1+1)=((j+1:Nat):Int)+1:=by rw[bI _ (by omega)];omega
    rw[e1,ha _ ⟨j+1,v,by omega,hv,rfl⟩ (by dsimp only;omega)];dsimp only;rw[show(((j+1:Nat):Int)+1).toNat-1=j+1 by omega]
   rw[EH];have hall:∀x∈l.map (λv=>gx v ((j:Int)+1)),cu x:=by intro x hx;obtain⟨v,hv,rfl⟩:=aN.1 hx;exact ai1 (ho v hv) _
   refine qi (N:=l.length) (by omega) (λi=>((i:Int),acc,(l.take i).map λv=>gx v ((j:Int)+1),())) _ rfl ?_ ?_
   .intro bp;show aj.af (decide ((l.length:Int)<(l.length:Int))) _ (aj.ae (Ih ((l.take l.length).map λv=>gx v ((j:Int)+1))) _)=_;rw[dZ,br,ai (tZ hall (by rw[bh];omega))];show aj.af ((cZ (yR l ((j:Int)+1))).2.1 != 0) (some ([],(cZ (yR l ((j:Int)+1))).2)) (aj.af ((cZ (yR l ((j:Int)+1))).1 != 0) (aj.bi (acc.length+1) 16 (k5 (acc++[((j:Int)+1,(cZ (yR l ((j:Int)+1))).1,())],()))) (k5 (acc,())))=_;unfold cZ;by_cases hI:cu (yR l ((j:Int)+1))
    .rw[ah hI,ah hI];show aj.af ((0:Int) != 0) _ (aj.af (yR l ((j:Int)+1) != 0) (aj.bi (acc.length+1) 16 (k5 (acc++[((j:Int)+1,yR l ((j:Int)+1),())],()))) (k5 (acc,())))=_;rw[az (by decide)];by_cases h0:yR l ((j:Int)+1)=0
     .rw[az (by simp[h0]),ah h0];exact kk acc (by omega)
     .rw[aQ (by simp[h0]),ag h0,dm (by omega) (by omega)];exact kk _ (by simp;omega)
    .rw[ag hI,ag hI];show aj.af ((7:Int) != 0) _ _=_;rw[aQ (by decide)]
   .intro i hi bp ha2;show aj.af (decide ((i:Int)<(l.length:Int))) (aj.aI l (i:Int) λx8=>aj.ae (ai2 x8 ((j:Int)+1)) λv9=>aj.bi (((l.take i).map λv=>gx v ((j:Int)+1)).length+1) 8 (bp (IntKind.i64.wrap ((i:Int)+1),acc,((l.take i).map λv=>gx v ((j:Int)+1))++[v9],()))) _=_;have h2:=hl _ (aG hi);rw[dE hi,bO hi,ai (al3 (by omega))];have:((l.take i).map λv=>gx v ((j:Int)+1)).length<=1000:=by rw[bh,aX];omega
    rw[dm (by omega) (by omega),cU i (by omega)];rw[ax hi,cz]at ha2;exact ha2
  .have:j=8:=by omega
   subst this;rw[cY (by omega)];rfl
 .have hv:l.all Fk=false:=by simpa using hv
  rw[hv,aQ (by decide),ag (by simp)]
theorem T'(l):∀(us:List Int) (acc:List pW),(EH l us acc).2.1=0->
 (EH l us acc).1=acc++(us.filter λu=>decide (yR l u≠0)).map (λu=>((u,yR l u,()):pW))/\∀u∈us,cu (yR l u)
 |[],acc,_=>by simp[EH]
 |u::us,acc,h=>by
  unfold EH at h ⊢;by_cases hI:cu (yR l u)
  .rw[ah hI]at h ⊢;by_cases h0:yR l u=0
   .rw[ah h0]at h ⊢;obtain⟨h1,h2⟩:=T' l us _ h;refine⟨?_,λx hx=>?_⟩
    .rw[h1,bu,ag (by simp[h0])]
    .rcases aF.1 hx with rfl|hx
     .exact hI
     .exact h2 x hx
   .rw[ag h0]at h ⊢;obtain⟨h1,h2⟩:=T' l us _ h;refine⟨?_,λx hx=>?_⟩
    .rw[h1,bu,ah (by simp[h0])];simp
    .rcases aF.1 hx with rfl|hx
     .exact hI
     .exact h2 x hx
  .rw[ag hI]at h;simp at h
def Ua(f:Int->Int):List pW:=(ks.filter λu=>decide (f u≠0)).map λu=>((u,f u,()):pW)
theorem Ub(f):(Ua f).length<=8:=by unfold Ua;rw[bh];exact cp (cW _ _) (by decide)
theorem ak6:ks.Pairwise (· < ·):=by decide
theorem YJ(f):zw (Ua f):=by
 refine⟨λx hx=>?_,?_⟩
 .obtain⟨u,hu,rfl⟩:=aN.1 hx;obtain⟨h1,h2⟩:=aM.1 hu;simp only[bb]at h2;exact⟨(afK u).1 h1,h2⟩
 .unfold Ua;rw[hJ];have:((λx:pW=>x.1) ∘ λu=>((u,f u,()):pW))=id:=rfl;rw[this,Dd];exact ak6.filter _
theorem Ip{l}{k}(h:∀x∈l,x.1≠k):gx l k=0:=by
 induction l with
 |nil=>rfl
 |cons x l ih=>rw[gx,ag (h x (by simp)),ih λy hy=>h y (by simp[hy])]
theorem Uc{l}(h:zw l){k:Int}(hk:k∉ks):gx l k=0:=by
 refine Ip λx hx e=>hk ?_
 rw[<-e,afK];exact(h.1 x hx).1
theorem aoK(f:Int->Int)(us:List Int)(k:Int):gx (us.map λu=>((u,f u,()):pW)) k=if k∈us then f k else 0:=by
 induction us with
 |nil=>rfl
 |cons u us ih=>
  rw[bK,gx,ih];by_cases h:u=k
  .subst h;simp
  .rw[ag h];by_cases hm:k∈us
   .rw[ah hm,ah (by simp[hm])]
   .rw[ag hm,ag (by simp[hm,jf h])]
theorem Ud(f:Int->Int)(k:Int)(hf:k∉ks->f k=0):gx (Ua f) k=f k:=by
 unfold Ua;rw[aoK];by_cases h:k∈ks
 .by_cases h0:f k=0
  .rw[ag (by simp[h0]),h0]
  .rw[ah (by simp[h,h0])]
 .rw[ag (by simp[h]),hf h]
theorem acV{α}{lt}(irr:∀a,¬lt a a)(tr:∀a b c,lt a b->lt b c->lt a c):∀{l m:List α},l.Pairwise lt->m.Pairwise lt->(∀x,x∈l↔x∈m)->l=m
 |[],[],_,_,_=>rfl
 |[],b::m,_,_,h=>absurd ((h b).2 (by simp)) (by simp)
 |a::l,[],_,_,h=>absurd ((h a).1 (by simp)) (by simp)
 |a::l,b::m,hl,hm,h=>by
  obtain⟨h1,h2⟩:=bD.1 hl;obtain⟨h3,h4⟩:=bD.1 hm
  have hab:a=b:=by
   rcases aF.1 ((h a).1 (by simp))with e|e
   .exact e
   .rcases aF.1 ((h b).2 (by simp))with e'|e'
    .exact e'.symm
    .exact absurd (tr _ _ _ (h3 a e) (h1 b e')) (irr b)
  subst hab;congr 1;refine acV irr tr h2 h4 λx=>?_
  constructor
  .intro hx;rcases aF.1 ((h x).1 (by simp[hx]))with e|e
   .subst e;exact absurd (h1 x hx) (irr x)
   .exact e
  .intro hx;rcases aF.1 ((h x).2 (by simp[hx]))with e|e
   .subst e;exact absurd (h3 x hx) (irr x)
   .exact e
theorem afL{l:List pW}(hn:(l.map (·.1)).Nodup):l=(l.map (·.1)).map λu=>((u,gx l u,()):pW):=by
 induction l with
 |nil=>rfl
 |cons x l ih=>
  obtain⟨h1,h2⟩:=gb.1 hn;rw[bK,bK,gx,ah rfl];congr 1
  have:(l.map (·.1)).map (λu=>((u,gx (x::l) u,()):pW))=(l.map (·.1)).map λu=>((u,gx l u,()):pW):=by
   refine tg λu hu=>?_
   rw[gx,ag λe=>h1 (by show x.1∈_;rw[e];exact hu)]
  rw[this];exact ih h2
theorem auD{l}(h:zw l)(u:Int):u∈l.map (·.1)↔gx l u≠0:=by
 constructor
 .intro hu e;obtain⟨x,hx,rfl⟩:=aN.1 hu;have h2:=afL (awH h);have h3:=(h.1 x hx).2;rw[h2]at hx;obtain⟨v,hv,hvx⟩:=aN.1 hx;rw[<-hvx]at h3 e;exact h3 e
 .intro hu;refine cQ λhn=>hu (Ip λx hx e=>hn (aN.2 ⟨x,hx,e⟩))
theorem auE{a b}(ha:zw a)(hb:zw b)(h:∀u,gx a u=gx b u):a=b:=by
 have e:=acV (lt:=λx y:Int=>x<y) (λa=>Int.lt_irrefl a) (λa b c=>F1) ha.2 hb.2 λu=>by rw[auD ha,auD hb,h]
 rw[afL (awH ha),afL (awH hb),e];exact tg λu _=>by rw[h]
theorem RK{l:List (List pW)}(h:(wM l).2.1=0):l.all Fk=true/\(wM l).1=Ua (yR l)/\(∀k∈ks,cu (yR l k))/\∀k,gx (wM l).1 k=yR l k:=by
 unfold wM at h ⊢;by_cases hv:l.all Fk=true
 .rw[ah hv]at h ⊢;obtain⟨h1,h2⟩:=T' l ks [] h;rw[dA]at h1;refine⟨hv,h1,h2,λk=>?_⟩;rw[h1];refine Ud _ k λhk=>?_
  unfold yR;have:∀x∈l.map (λv=>gx v k),x=0:=by intro x hx;obtain⟨v,hv',rfl⟩:=aN.1 hx;exact Uc (bM (mD.1 hv v hv')) hk
  generalize l.map (λv=>gx v k)=m at this;induction m with
  |nil=>rfl
  |cons x m ih=>rw[gN,this x (by simp),ih λy hy=>this y (by simp[hy])];rfl
 .rw[ag hv]at h;simp at h
theorem al5{k q}(hk:1<=k/\k<=8)(hq:q≠0)(hI:cu q)(hI2:cu (-q)):Yq [(k,q,())]=some ([(k,-q,())],0,()):=by
 show tp aj [(k,q,())]=_;unfold tp;have hv:Fk [((k,q,()):pW)]=true:=aq ⟨by intro x hx;simp only[aC]at hx;subst hx;exact⟨hk,hq⟩,by simp⟩;rw[ai (Sf (by simp)),hv,az (by decide)];refine qi (N:=1) (by omega) (λi=>((i:Int),([((k,-q,()):pW)]).take i,())) _ rfl ?_ ?_
 .intro again;show aj.af (decide ((1:Int)<(1:Int))) _ _=_;rw[az (by decide)];rfl
 .intro i hi again ha;have:i=0:=by omega
  subst this;have e:=JM (a:=0) (b:=q) (by unfold cu;omega) hI;rw[show(0:Int)-q = -q by omega]at e;show aj.af (decide ((0:Int)<(1:Int))) (aj.ae (ZT 0 q) _) _=_;rw[aQ (by decide),ai e];unfold cZ;rw[ah hI2];show aj.af ((0:Int) != 0) _ (aj.bi 1 16 (again (IntKind.i64.wrap (0+1),[(k,-q,())],())))=_;rw[az (by decide),dm (by omega) (by omega)];exact ha
def qB:List bC->ar->List pW
 |[],_=>[]
 |p::l,u=>if p.1=u then p.2.1 else qB l u
theorem acW{s}(h:s.length<=1000000):rm s=some s:=by
 show fE aj s=_;unfold fE;rw[Dy];refine yj ?_ λhe=>?_
 .refine AP (by decide) ?_;rw[dm (by omega) (by omega)];rfl
 .have:s=[]:=by simpa using he
  subst this;rfl
theorem Se{l}{u}(hb:okB l):L5 l u=some (qB l u):=by
 have hl:=hb.2;show rN aj l u=_;unfold rN;refine ib (l:=l) (by omega) (s0:=()) (λ_ _=>True) (λl' _=>some (qB l' u)) trivial ?_ ?_
 .rintro _ again _;rw[dZ];rfl
 .rintro i hi _ _ again ha;have h2:=(hb.1 _ (aG hi)).2;rw[dE hi,bO hi,Ue,eqA];show _=some (qB (l[i]::l.drop (i+1)) u);rw[qB];refine du (λh=>?_) λh=>?_
  .rw[ah h,ai (acW (by omega))]
  .rw[ag h];dsimp only;rw[cU i (by omega)];exact ha _ trivial
theorem aoL{l}(hb:okB l):acX l=some l:=by
 have hl:=hb.2;show vM aj l=_;unfold vM;refine qi (N:=l.length) (by omega) (λi=>((i:Int),l.take i,())) _ rfl ?_ ?_
 .intro again;refine IZ ?_;rw[br]
 .intro i hi again ha;have h2:=(hb.1 _ (aG hi)).2;show aj.af (decide ((i:Int)<(l.length:Int))) (aj.aI l (i:Int) λx3=>aj.ae (rm x3.2.1) λv4=>aj.bi ((l.take i).length+1) 40 (again (IntKind.i64.wrap ((i:Int)+1),l.take i++[(x3.1,v4,())],()))) _=_;have:(l.take i).length<=100:=by rw[aX];omega
  rw[dE hi,bO hi,ai (acW (by omega)),dm (by omega) (by omega),cU i (by omega)];rw[ax hi]at ha;exact ha
def o7(u:ar)(l:List bC):List bC:=l.filter λp=>decide (oJ p.1 u)
def Jc(u:ar)(l:List bC):List bC:=l.filter λp=>decide (p.1=u)
def w9(u:ar)(l:List bC):List bC:=l.filter λp=>decide (oJ u p.1)
theorem aoM(u):∀{l:List bC},jR (l.map (·.1))->l=o7 u l++(Jc u l++w9 u l)
 |[],_=>rfl
 |p::l,h=>by
  obtain⟨h1,h2⟩:=bD.1 h;have h1:∀x∈l,oJ p.1 x.1:=λx hx=>h1 _ (dp hx)
  have ih:=aoM u (l:=l) h2;unfold o7 Jc w9 at ih ⊢;rw[bu,bu,bu];by_cases hp:oJ p.1 u
  .have e1:¬p.1=u:=λe=>jv u (by rw[e]at hp;exact hp)
   have e2:¬oJ u p.1:=λe=>Dz hp e
   rw[ah (by simpa using hp),ag (by simpa using e1),ag (by simpa using e2),kh,<-ih]
  .by_cases hu:p.1=u
   .have e2:¬oJ u p.1:=by rw[hu];exact jv u
    have a1:∀x∈l,decide (oJ x.1 u)=false:=λx hx=>an λe=>Dz e (by rw[<-hu];exact h1 x hx)
    have a2:∀x∈l,decide (x.1=u)=false:=λx hx=>an λe=>jv u (by have:=h1 x hx;rw[hu,e]at this;exact this)
    have a3:∀x∈l,decide (oJ u x.1)=true:=λx hx=>aq (by rw[<-hu];exact h1 x hx)
    rw[ag (by simpa using hp),ah (by simpa using hu),ag (by simpa using e2),jW a1,jW a2,CI a3];rfl
   .have e2:=cQ λhn=>hu (Fx hp hn)
    have a1:∀x∈l,decide (oJ x.1 u)=false:=λx hx=>an λe=>Dz (s7 e2 (h1 x hx)) e
    have a2:∀x∈l,decide (x.1=u)=false:=λx hx=>an λe=>jv u (by have:=s7 e2 (h1 x hx);rw[e]at this;exact this)
    have a3:∀x∈l,decide (oJ u x.1)=true:=λx hx=>aq (s7 e2 (h1 x hx))
    rw[ag (by simpa using hp),ag (by simpa using hu),ah (by simpa using e2),jW a1,jW a2,CI a3];rfl
theorem amr{l:List bC}(h:jR (l.map (·.1))):(l.map (·.1)).Nodup:=Oh h
theorem RX{l}(h:(l.map (·.1)).Nodup){p}(hp:p∈l):qB l p.1=p.2.1:=by
 induction l with
 |nil=>cases hp
 |cons x l ih=>
  obtain⟨h1,h2⟩:=gb.1 h;rw[qB];rcases aF.1 hp with rfl|hp
  .rw[ah rfl]
  .rw[ag λe=>h1 (by show x.1∈_;rw[e];exact dp hp),ih h2 hp]
theorem M2{l}{u}(h:∀p∈l,p.1≠u):qB l u=[]:=by
 induction l with
 |nil=>rfl
 |cons x l ih=>rw[qB,ag (h x (by simp)),ih λy hy=>h y (by simp[hy])]
theorem O5{l:List bC}(h:jR (l.map (·.1)))(u:ar):(Jc u l=[]/\(∀p∈l,p.1≠u)/\qB l u=[])\/(Jc u l=[(u,qB l u,())]/\(u,qB l u,())∈l):=by
 by_cases hex:∃p∈l,p.1=u
 .right;obtain⟨p,hp,rfl⟩:=hex;have e:=RX (amr h) hp;have ep:((p.1,qB l p.1,()):bC)=p:=by rw[e]
  rw[ep];refine⟨?_,hp⟩;have hn:=amr h;clear h e ep;induction l with
  |nil=>cases hp
  |cons x l ih=>
   obtain⟨h1,h2⟩:=gb.1 hn;unfold Jc at ih ⊢;rw[bu];rcases aF.1 hp with rfl|hp
   .rw[ah (by simp),jW λy hy=>an λe=>h1 (by show p.1∈_;rw[<-e];exact dp hy)]
   .rw[ag (by simpa using λe=>h1 (by show x.1∈_;rw[e];exact dp hp)),ih hp h2]
 .left;have hne:∀p∈l,p.1≠u:=λp hp e=>hex ⟨p,hp,e⟩
  exact⟨jW λp hp=>an (hne p hp),hne,M2 hne⟩
def afM(l:List bC)(u:ar):Bool:=!(Jc u l).isEmpty
theorem ass{l}{u:ar}(hb:okB l)(h:jR (l.map (·.1))):afN l u=some (((o7 u l).length:Int),afM l u,()):=by
 have hl:=hb.2;have hc:=aoM u h;show yS aj l u=_;unfold yS;have VD:∀p∈o7 u l,oJ p.1 u:=λp hp=>by simpa using(aM.1 hp).2
 have anz:∀p∈Jc u l++w9 u l,¬oJ p.1 u:=λp hp=>by
  rcases aT.1 hp with hp|hp
  .have:p.1=u:=by simpa using(aM.1 hp).2
   rw[this];exact jv u
  .have:oJ u p.1:=by simpa using(aM.1 hp).2
   exact λe=>Dz this e
 have Wx:(o7 u l).length+(Jc u l++w9 u l).length=l.length:=by rw[<-ap,<-hc]
 have azd:∀i (hi:i<l.length),i<(o7 u l).length->oJ l[i].1 u:=λi hi hlt=>by
  refine VD _ ?_;have:l[i]?=(o7 u l++(Jc u l++w9 u l))[i]?:=by rw[<-hc]
  rw[bB hlt,aw hi,aw hlt]at this;rw[cJ this];exact aG hlt
 have aze:∀(hi:(o7 u l).length<l.length),(Jc u l++w9 u l)[0]?=some l[(o7 u l).length]:=λhi=>by
  have:l[(o7 u l).length]?=(o7 u l++(Jc u l++w9 u l))[(o7 u l).length]?:=by rw[<-hc]
  rw[dz (au _),Av,aw hi]at this;exact this.symm
 refine(iH (λz=>l.length+1-z.1.toNat) (λz=>∃i:Nat,i<=(o7 u l).length/\z=((i:Int),())) (λ_=>some (((o7 u l).length:Int),afM l u,())) ⟨0,bE _,rfl⟩ (by dsimp only;omega) ?_);rintro _ ⟨i,hi,rfl⟩ again ha;show aj.af (decide ((i:Int)<(l.length:Int))) (aj.aI l (i:Int) _) (some ((l.length:Int),false,()))=_;by_cases hlt:i<(o7 u l).length
 .have PS:i<l.length:=by omega
  rw[dE PS,bO PS,ai (CT _ _),aq (azd i PS hlt),az (by decide)];dsimp only;rw[cU i (by omega)];exact ha _ ⟨i+1,by omega,rfl⟩ (by dsimp only;omega)
 .have hie:i=(o7 u l).length:=by omega
  by_cases PS:i<l.length
  .subst hie;have h0:=aze PS;have hm:=anz l[(o7 u l).length] (kN h0);rw[dE PS,bO PS,ai (CT _ _),an hm,aQ (by decide),Ue,eqA];congr 3;unfold afM;cases ZU:Jc u l with
   |nil=>
    rw[ZU,dA]at h0;have:=kN h0;have:oJ u l[(o7 u l).length].1:=by simpa using(aM.1 this).2
    rw[an λe=>jv u (by rw[e]at this;exact this)];rfl
   |cons p m=>
    rw[ZU]at h0;have e:p=l[(o7 u l).length]:=by simpa using h0
    have hp:p∈Jc u l:=by rw[ZU];simp
    have:p.1=u:=by simpa using(aM.1 hp).2
    rw[<-e,aq this];rfl
  .have a0O:i=l.length:=by omega
   have:Jc u l++w9 u l=[]:=fx (by omega);have hm:=(List.append_eq_nil_iff.1 this).1;rw[cY (by omega)];unfold afM;rw[hm,<-hie,a0O];rfl
def M3(l:List bC)(u:ar)(now:List pW):List bC:=o7 u l++((if now=[]then[]else[(u,now,())])++w9 u l)
theorem acY{l}(h:jR (l.map (·.1)))(u:ar)(now:List pW):(M3 l u now).length<=l.length+1:=by have hc:=bA List.length (aoM u h);unfold M3;rw[ap,ap]at hc;rw[ap,ap];split<;>simp<;>omega
theorem vr{l}{u}{now}{p}:p∈M3 l u now↔(p∈l/\p.1≠u)\/(now≠[]/\p=(u,now,())):=by
 unfold M3 o7 w9;rw[aT,aT,aM,aM];constructor
 .rintro(⟨h1,h2⟩|h|⟨h1,h2⟩)
  .exact .inl ⟨h1,λe=>jv u (by simp only[bb]at h2;rw[e]at h2;exact h2)⟩
  .split at h
   .cases h
   .rename_i hn;exact .inr ⟨hn,by simpa using h⟩
  .exact .inl ⟨h1,λe=>jv u (by simp only[bb]at h2;rw[e]at h2;exact h2)⟩
 .rintro(⟨h1,h2⟩|⟨hn,rfl⟩)
  .by_cases hlt:oJ p.1 u
   .exact .inl ⟨h1,by simpa using hlt⟩
   .by_cases hgt:oJ u p.1
    .exact .inr (.inr ⟨h1,by simpa using hgt⟩)
    .exact absurd (Fx hlt hgt) h2
  .rw[ag hn];exact .inr (.inl (by simp))
theorem acZ{l}(h:jR (l.map (·.1)))(u:ar)(now:List pW):jR ((M3 l u now).map (·.1)):=by
 unfold M3;rw[cz,cz];have VD:∀x∈(o7 u l).map (·.1),oJ x u:=λx hx=>by obtain⟨p,hp,rfl⟩:=aN.1 hx;simpa using(aM.1 hp).2
 have PG:∀x∈(w9 u l).map (·.1),oJ u x:=λx hx=>by obtain⟨p,hp,rfl⟩:=aN.1 hx;simpa using(aM.1 hp).2
 have s1:jR ((o7 u l).map (·.1)):=dN ((fZ).map _) h;have s2:jR ((w9 u l).map (·.1)):=dN ((fZ).map _) h
 have ZU:∀x∈(if now=[]then([]:List bC)else[(u,now,())]).map (·.1),x=u:=λx hx=>by
  split at hx
  .cases hx
  .simpa using hx
 refine dM.2 ⟨s1,dM.2 ⟨?_,s2,λa ha b hb=>?_⟩,λa ha b hb=>?_⟩
 .split<;>simp
 .rw[ZU a ha];exact PG b hb
 .rcases aT.1 hb with hb|hb
  .rw[ZU b hb];exact VD a ha
  .exact s7 (VD a ha) (PG b hb)
theorem ams{l}(h:GX l)(u:ar){now:List pW}(hv:zw now):GX (M3 l u now):=
 ⟨λp hp=>by
  rcases vr.1 hp with⟨h1,_⟩|⟨hn,rfl⟩
  .exact h.1 p h1
  .exact⟨hn,hv⟩,acZ h.2 u now⟩
theorem ai3{l}(h:jR (l.map (·.1)))(u:ar)(now:List pW)(x:ar):qB (M3 l u now) x=if x=u then now else qB l x:=by
 have hn:=amr (acZ h u now);by_cases hx:x=u
 .subst hx;rw[ah rfl];by_cases h0:now=[]
  .rw[h0];refine M2 λp hp=>?_
   rcases vr.1 hp with⟨_,h2⟩|⟨h2,_⟩
   .exact h2
   .exact absurd rfl h2
  .exact RX hn (p:=(x,now,())) (vr.2 (.inr ⟨h0,rfl⟩))
 .rw[ag hx];by_cases hex:∃p∈l,p.1=x
  .obtain⟨p,hp,rfl⟩:=hex;rw[RX (amr h) hp,RX hn (vr.2 (.inl ⟨hp,hx⟩))]
  .have hne:∀p∈l,p.1≠x:=λp hp e=>hex ⟨p,hp,e⟩
   rw[M2 hne];refine M2 λp hp=>?_
   rcases vr.1 hp with⟨h1,_⟩|⟨_,rfl⟩
   .exact hne p h1
   .exact jf hx
theorem ast{l}(h:jR (l.map (·.1)))(u:ar)(now:List pW)(k:Int):lu (M3 l u now) k=lu l k-gx (qB l u) k+gx now k:=by
 have e:lu l k=lu (o7 u l) k+(lu (Jc u l) k+lu (w9 u l) k):=by have:=bA (λm=>lu m k) (aoM u h);unfold lu at this ⊢;rw[sm,sm]at this;exact this
 have e2:lu (Jc u l) k=gx (qB l u) k:=by
  rcases O5 h u with⟨h1,_,h3⟩|⟨h1,_⟩
  .rw[h1,h3];rfl
  .rw[h1];show gx (qB l u) k+0=_;omega
 have e3:lu (M3 l u now) k=lu (o7 u l) k+(gx now k+lu (w9 u l) k):=by
  unfold M3 lu;rw[sm,sm];by_cases h0:now=[]
  .rw[ah h0,h0];rfl
  .rw[ag h0];show _+((gx now k+0)+_)=_;omega
 rw[e3,e,e2];omega
def fD(l:List bC)(u:ar)(eT:List pW):List bC×Int×Unit:=if tn l=true then(if(wM [qB l u,eT]).2.1=0 then(M3 l u (wM [qB l u,eT]).1,0,())else([],(wM [qB l u,eT]).2))else([],3,())
theorem N4{l}(hb:okB l)(u):Vq (qB l u)/\(qB l u).length<=100:=by
 have:∀l:List bC,(∀p∈l,Vq p.2.1/\p.2.1.length<=100)->Vq (qB l u)/\(qB l u).length<=100:=by
  intro l;induction l with
  |nil=>intro _;exact⟨(λx hx=>by cases hx),by simp[qB]⟩
  |cons p l ih=>
   intro h;rw[qB];split
   .exact h p (by simp)
   .exact ih λq hq=>h q (by simp[hq])
 exact this l hb.1
theorem Fo{l}{u:ar}{eT:List pW}(hb:okB l)(hl:l.length<=90)(ho:Vq eT)(hg:eT.length<=100):xi l u eT=some (fD l u eT):=by
 show nT aj l u eT=_;unfold nT fD;rw[ai (GL hb)];by_cases hp:tn l=true
 .have hB:=bM hp;obtain⟨h1,h2⟩:=N4 hb u
  rw[hp,az (by decide),ah rfl,ai (Se hb),ai (afJ (l:=[qB l u,eT]) (by simp) (λv hv=>by
   simp only[aF,dV,lO]at hv;rcases hv with rfl|rfl<;>omega) λv hv=>by
   simp only[aF,dV,lO]at hv;rcases hv with rfl|rfl
   .exact h1
   .exact ho)]
  by_cases he:(wM [qB l u,eT]).2.1=0
  .have a0P:=(RK he).2.1;have hnl:=Ub (yR [qB l u,eT]);rw[<-a0P]at hnl;rw[az (by simp[he]),ah he,ai (ass hb hB.2),ai (aoL hb)];have hc:=aoM u hB.2;have hcl:=bA List.length hc;rw[ap,ap]at hcl;refine bw λva hk=>?_
   have kk:∀o:List bC,o=o7 u l++w9 u l->va ((wM [qB l u,eT]).1,o,())=some (M3 l u (wM [qB l u,eT]).1,0,()):=by
    intro o ho';subst hk;refine bw λk8 hk8=>?_
    have k8':∀o',k8 (o',())=some (o',0,()):=by intro o';subst hk8;rfl
    show aj.af (decide ((0:Int)<((wM [qB l u,eT]).1.length:Int))) (aj.ae (Es o ((o7 u l).length:Int) [(u,(wM [qB l u,eT]).1,())]) λv9=>k8 (v9.1,())) (k8 (o,()))=_;unfold M3;by_cases h0:(wM [qB l u,eT]).1=[]
    .rw[cY (by rw[h0];simp),k8',ah h0,ho'];rfl
    .have zu:=ga.2 h0;have e:Es o ((o7 u l).length:Int) [(u,(wM [qB l u,eT]).1,())]=some (o7 u l++(u,(wM [qB l u,eT]).1,())::w9 u l,()):=by have:=O6 (n:=40) (l:=o) (k:=(o7 u l).length) (x:=(u,(wM [qB l u,eT]).1,())) (by rw[ho',ap];omega) (by rw[ho',ap];omega);rw[ho',List.take_left,List.drop_left]at this;rw[ho'];exact this
     rw[eR (by omega),ai e,ag h0];exact k8' _
   show aj.af (afM l u) (aj.ae (Er l ((o7 u l).length:Int) (IntKind.i64.wrap (((o7 u l).length:Int)+1))) λv11=>va ((wM [qB l u,eT]).1,v11.1,())) (va ((wM [qB l u,eT]).1,l,()))=_;rcases O5 hB.2 u with⟨h3,_,_⟩|⟨h3,_⟩
   .rw[az (by unfold afM;rw[h3];rfl)];rw[h3,dA]at hc;exact kk l hc
   .rw[h3]at hc hcl;rw[aQ (by unfold afM;rw[h3];rfl),cU _ (by simp at hcl;omega)]
    have e:Er l ((o7 u l).length:Int) (((o7 u l).length+1:Nat):Int)=some (o7 u l++w9 u l,()):=by
     refine(awI (l:=l) (a:=(o7 u l).length) (b:=(o7 u l).length+1) (by omega) (by simp at hcl;omega)).trans ?_;congr 2
     have e1:l.take (o7 u l).length=o7 u l:=by
      have:=bA (List.take (o7 u l).length) hc
      rwa [List.take_left]at this
     have e2:l.drop ((o7 u l).length+1)=w9 u l:=by have:=bA (List.drop ((o7 u l).length+1)) hc;rw[Fj,wF (Nat.le_succ _),Nat.add_sub_cancel_left]at this;exact this
     rw[e1,e2]
    rw[ai e];exact kk _ rfl
  .rw[aQ (by simp[he]),ag he]
 .have hp:tn l=false:=by simpa using hp
  rw[hp,aQ (by decide),ag (by simp)]
theorem Ht(p):ada p=some (decide (0<=p/\p<=2147483647)):=by
 show lT aj p=_;unfold lT;refine du (λh=>?_) λh=>?_
 .congr 1;exact eF.2 (by omega)
 .rw[an (by omega)]
def SC(m:Int):Bool:=decide (m < -2147483647)||decide (2147483647<m)
theorem azf(m):aoN m=some (SC m):=by
 show EI aj m=_;unfold EI SC;refine du (λh=>?_) λh=>?_
 .rw[aq h];rfl
 .rw[an h];rfl
theorem azg{s}(hs:s.length<=1000000):∃i:Int,ta s=some (i,())/\decide (0<=i)=s.any SC:=by
 show ∃i,eU aj s=_/\_;unfold eU;refine po (λo=>∃i:Int,o=some (i,())/\decide (0<=i)=s.any SC) (λz=>s.length+1-z.1.toNat) (λz=>∃j:Nat,j<=s.length/\z=((j:Int),())/\(s.take j).any SC=false) ⟨0,bE _,rfl,by simp⟩ (by dsimp only;omega) ?_;rintro _ ⟨j,hj,rfl,hp⟩ again ha;show ∃i,aj.af (decide ((j:Int)<(s.length:Int))) _ _=_/\_;by_cases h:j<s.length
 .rw[dE h];show ∃i,aj.aI s (j:Int) _=_/\_;rw[bO h,ai (azf _)];cases hv:SC s[j]with
  |false=>rw[az rfl];dsimp only;rw[cU j (by omega)];refine ha _ ⟨j+1,by omega,rfl,?_⟩ (by dsimp only;omega);rw[ax h,Gs,hp];simp[hv]
  |true=>rw[aQ rfl];refine⟨(j:Int),rfl,?_⟩;have:=jr.2 ⟨s[j],aG h,hv⟩;rw[this,aq (by omega)]
 .have:j=s.length:=by omega
  subst this;rw[dZ];rw[br]at hp;exact⟨-1,rfl,by rw[hp];rfl⟩
theorem azh{s}(hs:s.length<=1000000):ry s=some (s.any SC,()):=by show eB aj s=_;unfold eB;obtain⟨i,e,h⟩:=azg hs;rw[ai e];dsimp only;rw[h]
def Rw(i:bF):Prop:=(1<=i.1/\i.1<=8)/\(1<=i.2.1/\i.2.1<=65536)/\(0<=i.2.2.1/\i.2.2.1<=2147483647)/\(0<=i.2.2.2.1/\i.2.2.2.1<=2147483647)/\i.2.2.2.2.1.length<=8/\i.2.2.2.2.1.any SC=false
instance (i:bF):Decidable (Rw i):=by unfold Rw;infer_instance
theorem RY{i}(hm:i.2.2.2.2.1.length<=1000000):afO i=some (if Rw i then 0 else 2):=by
 show p8 aj i=_;unfold p8;refine bw λk7 I0=>?_
 have bad:¬Rw i->(2:Int)=if Rw i then 0 else 2:=λh=>(ag h).symm
 have ZV:¬Rw i->k7 (false,())=some (if Rw i then 0 else 2):=by
  intro h;rw[<-bad h];subst I0;refine bw λk3 hk3=>?_
  have k3t:k3 (true,())=some 2:=by subst hk3;rfl
  refine VA rfl ?_;rw[k3t]
 have k7t:(1<=i.1/\i.1<=8)->(1<=i.2.1/\i.2.1<=65536)->k7 (true,())=some (if Rw i then 0 else 2):=by
  intro c1 c2;subst I0;refine bw λk3 hk3=>?_
  have k3t:k3 (true,())=some 2:=by subst hk3;rfl
  have k3f:k3 (false,())=some 0:=by subst hk3;rfl
  refine AP rfl ?_;rw[ai (Ht _)];by_cases h3:0<=i.2.2.1/\i.2.2.1<=2147483647
  .rw[aq h3,az (by decide),ai (Ht _)];by_cases h4:0<=i.2.2.2.1/\i.2.2.2.1<=2147483647
   .rw[aq h4,az (by decide)];by_cases h5:i.2.2.2.2.1.length<=8
    .rw[cY (by omega),ai (azh hm)];cases h6:i.2.2.2.2.1.any SC with
     |true=>rw[<-bad λh=>by rw[h.2.2.2.2.2]at h6;cases h6];exact k3t
     |false=>rw[ah ⟨c1,c2,h3,h4,h5,h6⟩];exact k3f
    .rw[eR (by omega),k3t,<-bad λh=>h5 h.2.2.2.2.1]
   .rw[an h4,aQ (by decide),k3t,<-bad λh=>h4 h.2.2.2.1]
  .rw[an h3,aQ (by decide),k3t,<-bad λh=>h3 h.2.2.1]
 refine du (λh1=>?_) λh1=>?_
 .refine du (λh2=>?_) λh2=>?_
  .refine du (λh3=>?_) λh3=>?_
   .by_cases h4:i.2.1<=65536
    .rw[aq h4];exact k7t ⟨h1,h2⟩ ⟨h3,h4⟩
    .rw[an h4];exact ZV λh=>h4 h.2.1.2
   .exact ZV λh=>h3 h.2.1.1
  .exact ZV λh=>h2 h.1.2
 .exact ZV λh=>h1 h.1.1
def Hu(i:bF)(q p:Int):Prop:=Rw i/\(0<=p/\p<=2147483647)/\q≠0 /\ -1099511627776<=q/\q<=1099511627776
instance (i:bF) (q p:Int):Decidable (Hu i q p):=by unfold Hu;infer_instance
def gZ(i:bF)(q a b:Int):Int:=(b-a)*i.2.1*q
theorem azi{i}(h:Rw i){q a b:Int}(hq:cu q)(ha:0<=a/\a<=2147483647)(hb:0<=b/\b<=2147483647) : -1298074214633706907132624082305024<=gZ i q a b/\gZ i q a b<=1298074214633706907132624082305024:=by unfold cu at hq;obtain⟨_,h2,_⟩:=h;have h1 : -140737488355328<=(b-a)*i.2.1/\(b-a)*i.2.1<=140737488355328:=M4 (A:=2147483648) (B:=65536) (by omega) (by omega);exact M4 (A:=140737488355328) (B:=9223372036854775808) h1 (by omega)
theorem ahc{i}{q a b:Int}(hm:i.2.2.2.2.1.length<=1000000)(h:Rw i)(hq:cu q)(ha:0<=a/\a<=2147483647)(hb:0<=b/\b<=2147483647):ak7 i q a b=some (cZ (gZ i q a b)):=by
 show xG aj i q a b=_;unfold xG;have e:=RY hm;have hbd:=azi h hq ha hb;have h2:=h.2.1;have h1 : -140737488355328<=(b-a)*i.2.1/\(b-a)*i.2.1<=140737488355328:=M4 (A:=2147483648) (B:=65536) (by omega) (by omega);refine bw λk5 hk=>?_
 have kf:k5 (false,())=some (cZ (gZ i q a b)):=by subst hk;refine AP rfl ?_;rw[bI _ (by omega),ai (Fp (by unfold cu;omega) (by unfold cu;omega)),ai (adb (by unfold cu;omega) hq)];show aj.af ((0:Int) != 0) _ (aj.ae (M5 (wide (gZ i q a b))) _)=_;rw[az (by decide),ai (JU (by unfold eN;omega))]
 rw[ai e,ah h,az (by decide),ai (Ht _),aq ha,az (by decide),ai (Ht _),aq hb];exact kf
structure a0Q(l l':List bC)(u:ar)(eT:List pW):Prop where
 inv:GX l
 azj:GX l'
 other:∀x,x≠u->qB l' x=qB l x
 own:∀j,gx (qB l' u) j=gx (qB l u) j+gx eT j
 opn:∀j,lu l' j=lu l j+gx eT j
 len:l'.length<=l.length+1
 ok:okB l->l.length<=99->okB l'
theorem amu(a b)(k):yR [a,b] k=gx a k+gx b k:=by show gx a k+(gx b k+0)=_;omega
theorem qA{l}{u}{eT}(h:(fD l u eT).2.1=0):a0Q l (fD l u eT).1 u eT:=by
 unfold fD at h ⊢;by_cases hp:tn l=true
 .have hB:=bM hp;rw[ah hp]at h ⊢;by_cases he:(wM [qB l u,eT]).2.1=0
  .rw[ah he]at h ⊢;obtain⟨h1,h2,h3,h4⟩:=RK he;have hV:zw (wM [qB l u,eT]).1:=by rw[h2];exact YJ _
   refine⟨hB,ams hB u hV,λx hx=>by rw[ai3 hB.2,ag hx],λj=>by rw[ai3 hB.2,ah rfl,h4,amu],λj=>by rw[ast hB.2,h4,amu];omega,acY hB.2 u _,λhb hl=>⟨λp hp=>?_,by dsimp only;have:=acY hB.2 u (wM [qB l u,eT]).1;omega⟩⟩;rcases vr.1 hp with⟨h5,_⟩|⟨_,rfl⟩
   .exact hb.1 p h5
   .refine⟨λx hx=>?_,?_⟩
    .show cu x.2.1;have hx:=hx;rw[h2]at hx;obtain⟨v,hv,rfl⟩:=aN.1 hx;exact h3 v (aM.1 hv).1
    .dsimp only;rw[h2];exact cp (Ub _) (by decide)
  .rw[ag he]at h;exact absurd h he
 .rw[ag hp]at h;simp at h
def zL(l:List bC)(f t:ar)(k q:Int):List bC×Int×Unit:=if tn l=true then(if(fD l f [(k,-q,())]).2.1=0 then fD (fD l f [(k,-q,())]).1 t [(k,q,())]else([],(fD l f [(k,-q,())]).2))else([],3,())
theorem aq3{k q}(h:cu q):Vq [((k,q,()):pW)]:=λx hx=>by simp only[aC]at hx;subst hx;exact h
theorem asu{l}{f t}{k q:Int}(hb:okB l)(hl:l.length<=80)(hk:1<=k/\k<=8)(hq:q≠0)(hI:cu q)(hI2:cu (-q)):IM l f t [(k,q,())]=some (zL l f t k q):=by
 show rO aj l f t [(k,q,())]=_;unfold rO zL;rw[ai (GL hb)];by_cases hp:tn l=true
 .rw[hp,az (by decide),ah rfl,ai (al5 hk hq hI hI2)];show aj.af ((0:Int) != 0) _ (aj.ae (xi l f [(k,-q,())]) _)=_;rw[az (by decide),ai (Fo hb (by omega) (aq3 hI2) (by simp))];by_cases he:(fD l f [(k,-q,())]).2.1=0
  .have S:=qA he;have hlen:=S.len;rw[az (by simp[he]),ah he,ai (Fo (S.ok hb (by omega)) (by omega) (aq3 hI) (by simp))]
  .rw[aQ (by simp[he]),ag he]
 .have hp:tn l=false:=by simpa using hp
  rw[hp,aQ (by decide),ag (by simp)]
structure azk(l l':List bC)(f t:ar)(k q:Int):Prop where
 inv:GX l
 azj:GX l'
 of:∀x j,gx (qB l' x) j=gx (qB l x) j+(if x=f then gx [((k,-q,()):pW)] j else 0)+(if x=t then gx [((k,q,()):pW)] j else 0)
 other:∀x,x≠f->x≠t->qB l' x=qB l x
 opn:∀j,lu l' j=lu l j
 len:l'.length<=l.length+2
 ok:okB l->l.length<=90->okB l'
theorem ah2{l}{f t}{k q}(h:(zL l f t k q).2.1=0):azk l (zL l f t k q).1 f t k q:=by
 unfold zL at h ⊢;by_cases hp:tn l=true
 .rw[ah hp]at h ⊢;by_cases he:(fD l f [(k,-q,())]).2.1=0
  .rw[ah he]at h ⊢;have S:=qA he;have T:=qA h;refine⟨S.inv,T.azj,λx j=>?_,λx h1 h2=>by rw[T.other x h2,S.other x h1],λj=>?_,by have:=S.len;have:=T.len;omega,λhb hl=>T.ok (S.ok hb (by omega)) (by have:=S.len;omega)⟩
   .by_cases ht:x=t
    .subst ht;rw[T.own,ah rfl];by_cases hf:x=f
     .subst hf;rw[S.own,ah rfl]
     .rw[S.other x hf,ag hf];omega
    .rw[T.other x ht,ag ht];by_cases hf:x=f
     .subst hf;rw[S.own,ah rfl];omega
     .rw[S.other x hf,ag hf];omega
   .rw[T.opn,S.opn];have:gx [((k,-q,()):pW)] j+gx [((k,q,()):pW)] j=0:=by simp only[gx];split<;>omega
    omega
  .rw[ag he]at h;exact absurd h he
 .rw[ag hp]at h;simp at h
theorem aoO{i}{q p}(hm:i.2.2.2.2.1.length<=1000000):Uf i q p=some (decide (Hu i q p)):=by
 show yT aj i q p=_;unfold yT;have e:=RY hm;rw[ai e];by_cases h0:Rw i
 .rw[ah h0,aQ (by decide)];refine du (λh1=>?_) λh1=>?_
  .refine du (λh2=>?_) λh2=>?_
   .by_cases h3:q=0
    .rw[az (by simp[h3]),an λh=>h.2.2.1 h3]
    .rw[aQ (by simp[h3])];by_cases h4 : -1099511627776<=q
     .rw[eR h4];congr 1;exact eF.2 ⟨λh=>⟨h0,⟨h1,h2⟩,h3,h4,h⟩,λh=>h.2.2.2.2⟩
     .rw[cY h4,an λh=>h4 h.2.2.2.1]
   .rw[an λh=>h2 h.2.1.2]
  .rw[an λh=>h1 h.2.1.1]
 .rw[ag h0,az (by decide),an λh=>h0 h.1]
def noD:uz:=([],[],())
def atP(d:uz)(i:bF)(f t:ar)(q p:Int):uz×Int×Unit:=if tn d.1=true/\ya d.2.1=true then(if Hu i q p then(if f=t then(noD,24,())else(if cu (gZ i q p i.2.2.1)then(if(zL d.1 f t i.1 q).2.1=0 then(if(jh d.2.1 f t (gZ i q p i.2.2.1)).2.1=0 then(((zL d.1 f t i.1 q).1,(jh d.2.1 f t (gZ i q p i.2.2.1)).1,()),0,())else(noD,(jh d.2.1 f t (gZ i q p i.2.2.1)).2))else(noD,(zL d.1 f t i.1 q).2))else(noD,7,())))else(noD,2,()))else(noD,3,())
def a0R(d:uz)(n:Nat):Prop:=(okB d.1/\d.1.length<=n)/\(u7 d.2.1/\d.2.1.length<=n)
theorem aoP{d}(hd:a0R d 100):asv d=some (tn d.1&&ya d.2.1):=by
 show Hv aj d=_;unfold Hv;rw[ai (GL hd.1.1)];cases tn d.1 with
 |true=>rw[aQ rfl,ai (aaT (by have:=hd.2.2;omega))];rfl
 |false=>rw[az rfl];rfl
theorem a0S{d}{i}{f t:ar}{q p:Int}(hd:(okB d.1/\d.1.length<=64)/\(u7 d.2.1/\d.2.1.length<=94))(hm:i.2.2.2.2.1.length<=1000000)(hq:cu q):ai4 d i f t q p=some (atP d i f t q p):=by
 show Hw aj d i f t q p=_;unfold Hw atP;obtain⟨⟨hb,u9⟩,hf,N1⟩:=hd;have e1:=aoP (d:=d) ⟨⟨hb,by omega⟩,hf,by omega⟩;have e2:Uf i q p=some (decide (Hu i q p)):=aoO hm;rw[ai e1];by_cases h1:tn d.1=true/\ya d.2.1=true
 .rw[ah h1,h1.1,h1.2,az (by decide),ai e2];by_cases h2:Hu i q p
  .rw[ah h2,aq h2,az (by decide),Ue,eqA];by_cases h3:f=t
   .rw[ah h3,eR h3];rfl
   .have e3:=ahc hm h2.1 hq h2.2.1 h2.1.2.2.1;rw[ag h3,cY h3,ai e3];unfold cZ;by_cases h4:cu (gZ i q p i.2.2.1)
    .rw[ah h4,ah h4];show aj.af ((0:Int) != 0) _ (aj.ae (IM d.1 f t [(i.1,q,())]) λv4=>aj.af (v4.2.1 != 0) (some (noD,v4.2)) (aj.ae (rD d.2.1 f t (gZ i q p i.2.2.1)) λv5=>aj.af (v5.2.1 != 0) (some (noD,v5.2)) (some ((v4.1,v5.1,()),0,()))))=_;rw[az (by decide),ai (asu hb (by omega) h2.1.1 h2.2.2.1 hq (by have:=h2.2.2.2;unfold cu;omega))];by_cases h5:(zL d.1 f t i.1 q).2.1=0
     .rw[ah h5,az (by simp[h5]),ai (N5 hf h4 (by omega))];by_cases h6:(jh d.2.1 f t (gZ i q p i.2.2.1)).2.1=0
      .rw[ah h6,az (by simp[h6])]
      .rw[ag h6,aQ (by simp[h6])]
     .rw[ag h5,aQ (by simp[h5])]
    .rw[ag h4,ag h4];exact VA (by decide) rfl
  .rw[ag h2,an h2,aQ (by decide)];rfl
 .have e:(tn d.1&&ya d.2.1)=false:=by cases hb':tn d.1<;>cases hp':ya d.2.1<;>simp_all
  rw[ag h1,e,aQ (by decide)];rfl
structure a0T(d d':uz)(i:bF)(f t:ar)(q p:Int):Prop where
 right:Hu i q p
 ne:f≠t
 fit:cu (gZ i q p i.2.2.1)
 bk:azk d.1 d'.1 f t i.1 q
 ip:ya d.2.1=true
 ip':ya d'.2.1=true
 get:∀x,ig d'.2.1 x=ig d.2.1 x+(if x=f then -(gZ i q p i.2.2.1)else 0)+(if x=t then gZ i q p i.2.2.1 else 0)
 tot:iM Vw d'.2.1=iM Vw d.2.1
 T0:u7 d'.2.1
 len:d'.2.1.length<=d.2.1.length+2
theorem atF{d}{i}{f t}{q p}(h:(atP d i f t q p).2.1=0):a0T d (atP d i f t q p).1 i f t q p:=by
 unfold atP at h ⊢;by_cases h1:tn d.1=true/\ya d.2.1=true
 .rw[ah h1]at h ⊢;by_cases h2:Hu i q p
  .rw[ah h2]at h ⊢;by_cases h3:f=t
   .rw[ah h3]at h;simp at h
   .rw[ag h3]at h ⊢;by_cases h4:cu (gZ i q p i.2.2.1)
    .rw[ah h4]at h ⊢;by_cases h5:(zL d.1 f t i.1 q).2.1=0
     .rw[ah h5]at h ⊢;by_cases h6:(jh d.2.1 f t (gZ i q p i.2.2.1)).2.1=0
      .rw[ah h6]at h ⊢;have hz:∃g,g=gZ i q p i.2.2.1:=⟨_,rfl⟩;obtain⟨g,hz⟩:=hz;rw[<-hz]at h4 h6 ⊢
       have hmv:jh d.2.1 f t g=rI d.2.1 [(f,-g,()),(t,g,())]:=by
        unfold jh at h6 ⊢;by_cases hI:cu (-g)
        .rw[ah hI]
        .rw[ag hI]at h6;split at h6<;>simp at h6
       rw[hmv]at h6 ⊢;obtain⟨h7,h8,h9⟩:=RF h6;have hlen:(rI d.2.1 [(f,-g,()),(t,g,())]).1.length<=d.2.1.length+2:=Sy _ _;refine⟨h2,h3,hz▸h4,ah2 h5,h1.2,?_,λx=>?_,?_,?_,hlen⟩
       .dsimp only;rw[h8];exact RJ (xr _)
       .dsimp only;rw[h8,ade,adf,uA,uA,M6 (YI h7),<-hz];show _+((if f=x then -g else 0)+((if t=x then g else 0)+0))=_
        have e1:(if f=x then -g else 0)=if x=f then -g else 0:=by
         by_cases e:f=x
         .rw[ah e,ah e.symm]
         .rw[ag e,ag (jf e)]
        have e2:(if t=x then g else 0)=if x=t then g else 0:=by
         by_cases e:t=x
         .rw[ah e,ah e.symm]
         .rw[ag e,ag (jf e)]
        rw[e1,e2];omega
       .dsimp only;rw[h8,adg,sm,gB,gB,EJ];show iM Vw d.2.1+(-g+(g+0))=iM Vw d.2.1;omega
       .dsimp only;rw[h8];exact YH h9
      .rw[ag h6]at h;exact absurd h h6
     .rw[ag h5]at h;exact absurd h h5
    .rw[ag h4]at h;simp at h
  .rw[ag h2]at h;simp at h
 .rw[ag h1]at h;simp at h
theorem azl{l}(h:GX l)(u:ar):zw (qB l u):=by
 rcases O5 h.2 u with⟨_,_,h3⟩|⟨_,h3⟩
 .rw[h3];exact⟨λx hx=>(by cases hx),by simp⟩
 .exact(h.1 _ h3).2
theorem IN{p}(h:u7 p)(u):cu (ig p u):=by
 induction p with
 |nil=>show cu 0;unfold cu;omega
 |cons x p ih=>
  rw[ig];split
  .exact h x (by simp)
  .exact ih λy hy=>h y (by simp[hy])
def goV(f:Int->Int):List Int->List pW->List pW×Int×Unit
 |[],acc=>(acc,0,())
 |k::us,acc=>if cu (f k)then(if f k=0 then goV f us acc else goV f us (acc++[(k,f k,())]))else([],7,())
theorem ZW(l):∀(us:List Int) (acc:List pW),goV (yR l) us acc=EH l us acc
 |[],_=>rfl
 |k::us,acc=>by rw[goV,EH,ZW l us,ZW l us]
def bk(s:aV):List bC:=s.2.2.2.2.2.2.2.2.1
def sa(s:aV):List bC:=s.2.2.2.2.2.2.2.2.2.1
def JG:aV:=(0,[],[],[],[],[],[],[],[],[],[],[],())
def auO(s:aV)(b a:List bC)(p:List aR):aV:=(s.1,s.2.1,s.2.2.1,s.2.2.2.1,s.2.2.2.2.1,s.2.2.2.2.2.1,s.2.2.2.2.2.2.1,s.2.2.2.2.2.2.2.1,b,a,p,s.2.2.2.2.2.2.2.2.2.2.2.1,())
def AN(a:aD)(u:ar):Bool:=decide (u∈bY a)
def DZ(t:List aD)(id:Int)(u:ar):Bool:=t.any λa=>rz id a&&AN a u
def gA(own:ar->Bool):List bC->List bC->List bC->List bC×List bC×Int
 |[],pp,stays=>(pp,stays,0)
 |p::l,pp,stays=>if own p.1=true then(if(fD pp p.1 p.2.1).2.1=0 then gA own l (fD pp p.1 p.2.1).1 stays else([],[],(fD pp p.1 p.2.1).2.1))else gA own l pp (stays++[p])
def JH(s:aV)(id:Int):aV×Int×Unit:=if tn (bk s)=true/\tn (sa s)=true then(if(gA (DZ s.2.2.2.2.1 id) (bk s) (sa s) []).2.2=0 then(auO s (gA (DZ s.2.2.2.2.1 id) (bk s) (sa s) []).2.1 (gA (DZ s.2.2.2.2.1 id) (bk s) (sa s) []).1 (pu s),0,())else(JG,(gA (DZ s.2.2.2.2.1 id) (bk s) (sa s) []).2.2,()))else(JG,3,())
def aaQ(s:aV)(id:Int):List bC:=(sa s).filter λp=>DZ s.2.2.2.2.1 id p.1
theorem alw(a b)(k):lu (a++b) k=lu a k+lu b k:=by unfold lu;rw[sm]
theorem N0(p)(b)(k):lu (p::b) k=gx p.2.1 k+lu b k:=by unfold lu;rw[gB]
theorem at4{s}{u}(hl:s.length<=1000000):yq s u=some (zX (λx=>decide (u=x)) s):=by
 show gd aj s u=_;unfold gd;refine ni (l:=s) (s0:=()) (by omega) (λi (_:Unit)=>((i:Int),())) (λi _=>∀j,∀h:j<s.length,j<i->decide (u=s[j])=false) (λ_ _=>some (zX (λx=>decide (u=x)) s)) rfl (λj _ h=>by omega) ?_ ?_
 .intro _ NX again;refine IZ ?_;have:s.findIdx? (λx=>decide (u=x))=none:=by rw[gz];intro x hx;obtain⟨j,hj,rfl⟩:=dJ.1 hx;exact NX j hj hj
  unfold zX;rw[this]
 .intro i hi _ NX again ha;refine Jp hi ?_;rw[bO hi,vd];refine du (λhp=>?_) λhp=>?_
  .have:s.findIdx? (λx=>decide (u=x))=some i:=by rw[eM];exact⟨hi,aq hp,λj hj=>by rw[NX j (by omega) hj];simp⟩
   unfold zX;rw[this]
  .dsimp only;rw[cU i (by omega)]
   exact ha () λj hj R8=>by
    by_cases auP:j=i
    .subst auP;exact an hp
    .exact NX j hj (by omega)
theorem aqy(u)(s:List ar):s.any (λx=>decide (u=x))=decide (u∈s):=by
 by_cases h:u∈s
 .rw[aq h];exact jr.2 ⟨u,h,by simp⟩
 .rw[an h,kS];intro x hx;simp;rintro rfl;exact h hx
theorem R9{a}{u:ar}(h:a.2.2.2.1.length<=1000):alx a u=some (AN a u):=by
 show sq aj a u=_;unfold sq;have hl:=Fm h;have e:nK (bY a) u=some (AN a u):=by show cT aj (bY a) u=_;unfold cT;rw[ai (at4 (by omega)),agX,aqy];rfl
 rw[ai (yr h),ai e]
theorem Sa{α}(p q):∀l:List α,(l.filter p).any q=l.any λx=>p x&&q x
 |[]=>rfl
 |x::l=>by
  rw[bu,List.any_cons,<-Sa p q l];cases h:p x
  .simp
  .simp
theorem aly{s}{id}{u}(h:rC s.2.2.2.2.1):Wy s id u=some (DZ s.2.2.2.2.1 id u):=by
 show xh aj s id u=_;unfold xh;have hl:=h.2;have hm:∀a∈s.2.2.2.2.1.filter (rz id),a.2.2.2.1.length<=1000:=λa ha=>h.1 a (aM.1 ha).1
 have N1:(s.2.2.2.2.1.filter (rz id)).length<=1000:=cp (cW _ _) hl;rw[ai (aaP h)]
 have e:kZ u.1 u.2.1 (s.2.2.2.2.1.filter (rz id))=some (DZ s.2.2.2.2.1 id u,u):=by
  show cR aj _ _ _=_;unfold cR
  have e2:mi u.1 u.2.1 (s.2.2.2.2.1.filter (rz id))=some (zX (λa=>AN a u) (s.2.2.2.2.1.filter (rz id)),u):=by
   show cX aj _ _ _=_;unfold cX;refine ve (by omega) (λa=>AN a u) (λa (c:ar)=>aaR c.1 c.2.1 a) u λx hx=>?_
   show vf aj u.1 u.2.1 x=_;unfold vf;rw[ai (R9 (hm x hx))]
  rw[ai e2,agX,Sa];rfl
 rw[ai e]
theorem agY{s}(hb:okB (bk s))(hs:okB (sa s)):aeE s=some (tn (bk s)&&tn (sa s)):=by
 show uq aj s=_;unfold uq;have e1:Yk s.2.2.2.2.2.2.2.2.1=some (tn (bk s)):=GL hb;have e2:Yk s.2.2.2.2.2.2.2.2.2.1=some (tn (sa s)):=GL hs;rw[ai e1];cases tn (bk s)
 .rfl
 .rw[aQ rfl,ai e2];rfl
abbrev StZ:=Int×Int×List aW×List bF×List gT×List aD×List bz×List bP×List bZ×List bC×List bC×List aR×List bg×List bC×Unit
def stZ(s:aV)(i:Int)(z:List bC×List bC):StZ:=(i,s.1,s.2.1,s.2.2.1,s.2.2.2.1,s.2.2.2.2.1,s.2.2.2.2.2.1,s.2.2.2.2.2.2.1,s.2.2.2.2.2.2.2.1,s.2.2.2.2.2.2.2.2.1,z.1,s.2.2.2.2.2.2.2.2.2.2.1,s.2.2.2.2.2.2.2.2.2.2.2.1,z.2,())
def at5(s:aV)(a:List bC):aV:=(s.1,s.2.1,s.2.2.1,s.2.2.2.1,s.2.2.2.2.1,s.2.2.2.2.2.1,s.2.2.2.2.2.2.1,s.2.2.2.2.2.2.2.1,s.2.2.2.2.2.2.2.2.1,a,s.2.2.2.2.2.2.2.2.2.2.1,s.2.2.2.2.2.2.2.2.2.2.2.1,())
def aeF(s:aV)(r:List bC×List bC×Int):aV×Int×Unit:=if r.2.2=0 then(auO s r.2.1 r.1 (pu s),0,())else(JG,r.2.2,())
theorem Yl{own}{p}{l pp stays}(ho:own p.1=true)(hs:(fD pp p.1 p.2.1).2.1≠0):gA own (p::l) pp stays=([],[],(fD pp p.1 p.2.1).2.1):=by unfold gA;rw[ah ho,ag hs]
theorem Ym{own}{p}{l pp stays}(ho:own p.1=true)(hs:(fD pp p.1 p.2.1).2.1=0):gA own (p::l) pp stays=gA own l (fD pp p.1 p.2.1).1 stays:=by
 conv=>lhs;unfold gA
 rw[ah ho,ah hs]
theorem Yn{own}{p}{l pp stays}(ho:own p.1=false):gA own (p::l) pp stays=gA own l pp (stays++[p]):=by
 conv=>lhs;unfold gA
 rw[ag (by rw[ho];decide)]
theorem aqz{s}{id}(hA:rC s.2.2.2.2.1)(hb:okB (bk s))(hs:okB (sa s))(hbs:(bk s).length+(sa s).length<=90):JI s id=some (JH s id):=by
 show yt aj s id=_;unfold yt JH;rw[ai (agY hb hs)];by_cases hB:tn (bk s)=true/\tn (sa s)=true
 .rw[ah hB,hB.1,hB.2,az (by decide)];refine ni (l:=bk s) (s0:=(sa s,[])) (by omega) (λi z=>stZ s (i:Int) z) (λi z=>okB z.1/\z.1.length<=(sa s).length+i/\z.2.length<=i) (λl z=>some (aeF s (gA (DZ s.2.2.2.2.1 id) l z.1 z.2))) rfl ⟨hs,by dsimp only;omega,au _⟩ ?_ ?_
  .intro z _ again;refine IZ ?_;rfl
  .intro i hi z ⟨z1,z2,z3⟩ again ha;refine Jp hi ?_;refine bw λk hk=>?_
   have kk:∀z':List bC×List bC,(okB z'.1/\z'.1.length<=(sa s).length+(i+1)/\z'.2.length<=i+1)->k (stZ s 0 z').2=some (aeF s (gA (DZ s.2.2.2.2.1 id) ((bk s).drop (i+1)) z'.1 z'.2)):=by intro z' Wz;rw[<-ha z' Wz];subst hk;show again (IntKind.i64.wrap ((i:Int)+1),(stZ s 0 z').2)=_;rw[cU i (by omega)];rfl
   clear hk ha;show aj.aI (bk s) (i:Int) _=_;have eo:Wy (at5 s z.1) id (bk s)[i].1=some (DZ s.2.2.2.2.1 id (bk s)[i].1):=aly (s:=at5 s z.1) hA;rw[bO hi];refine yu eo ?_;have hp:=hb.1 _ (aG hi);cases ho:DZ s.2.2.2.2.1 id (bk s)[i].1 with
   |false=>rw[Yn ho,aQ (by rfl)];show aj.bi (z.2.length+1) 40 (k (stZ s 0 (z.1,z.2++[(bk s)[i]])).2)=_;rw[dm (by omega) (by omega)];exact kk (z.1,z.2++[(bk s)[i]]) ⟨z1,by dsimp only;omega,by rw[ap];simp;omega⟩
   |true=>
    rw[az (by rfl)];show aj.ae (xi z.1 (bk s)[i].1 (bk s)[i].2.1) _=_;rw[ai (Fo z1 (by omega) hp.1 hp.2)];by_cases he:(fD z.1 (bk s)[i].1 (bk s)[i].2.1).2.1=0
    .rw[Ym ho he,az (by simp[he])];have S:=qA he;have hlen:=S.len;exact kk ((fD z.1 (bk s)[i].1 (bk s)[i].2.1).1,z.2) ⟨S.ok z1 (by omega),by dsimp only;omega,by dsimp only;omega⟩
    .rw[Yl ho he,aQ (by simp[he])];unfold aeF;rw[ag he];rfl
 .rw[ag hB];have:(tn (bk s)&&tn (sa s))=false:=by cases h1:tn (bk s)<;>cases h2:tn (sa s)<;>simp_all
  rw[this,aQ (by decide)];rfl
theorem auQ{s}{id}(hA:rC s.2.2.2.2.1)(hsl:(sa s).length<=100):N2 s id=some (aaQ s id):=by
 show AO aj s id=_;unfold AO aaQ;refine(ni (l:=sa s) (s0:=[]) (by omega) (λi (z:List bC)=>((i:Int),z,())) (λi z=>z.length<=i) (λl z=>some (z++l.filter λp=>DZ s.2.2.2.2.1 id p.1)) rfl (au _) ?_ ?_).trans (by rw[dA])
 .intro z _ again;refine IZ ?_;rw[qN,cy]
 .intro i hi z hz again ha;refine Jp hi ?_;refine bw λk hk=>?_
  have kk:∀z':List bC,z'.length<=i+1->k (z',())=some (z'++((sa s).drop (i+1)).filter λp=>DZ s.2.2.2.2.1 id p.1):=by intro z' Wz;rw[<-ha z' Wz];subst hk;dsimp only;rw[cU i (by omega)]
  show aj.aI (sa s) (i:Int) _=_;rw[bO hi,ai (aly hA),bu];by_cases ho:DZ s.2.2.2.2.1 id (sa s)[i].1=true
  .rw[ho,aQ rfl,ah rfl];show aj.bi (z.length+1) 40 (k (z++[(sa s)[i]],()))=_;rw[dm (by omega) (by omega),kk _ (by rw[ap];simp;omega),bq];rfl
  .have ho:DZ s.2.2.2.2.1 id (sa s)[i].1=false:=by simpa using ho
   rw[ho,az rfl,ag (by decide)];exact kk z (by omega)
def aq0(t:List bF):Prop:=(∀i∈t,Rw i)/\t.length<=10
theorem ajl{α}(f:α->Int)(x:α)(t:List α)(id:Int):(x::t).find? (λa=>f a==id)=if f x=id then some x else t.find? (λa=>f a==id):=by
 rw[List.find?_cons];by_cases h:f x=id
 .simp[h]
 .rw[ag h,show(f x==id)=false by simpa using h]
def mG(t:List aW)(id:Int):Option aW:=t.find? λa=>a.1==id
def CE:aW:=(0,0,0,0,())
theorem ur{t}{id}(hl:t.length<=1000000):yv t id=some (match mG t id with|some i=>(i,true,())|none=>(CE,false,())):=by
 show iz aj t id=_;unfold iz;have e1:iv id t=some (zX (λm=>m.1==id) t,id,()):=by show cf aj id t=_;unfold cf;exact ve hl (λm=>m.1==id) (λm (c:Int×Unit)=>PC c.1 m) (id,()) λx _=>rfl
 have e0:WA t id=some (zX (λm=>m.1==id) t):=by show qd aj t id=_;unfold qd;rw[ai e1]
 rw[ai e0];unfold mG;rcases lx (λm:aW=>m.1==id) t with⟨h1,h2⟩|⟨k,hk,h1,h2,_⟩
 .rw[h1,h2,aQ (by decide)];rfl
 .rw[h1,h2,cY (by omega),bO hk]
def Yo(l:List aD):Prop:=(l.map (·.1)).Pairwise (· < ·)
def gP(t:List aD)(id:Int):Option aD:=t.find? λa=>a.1==id
def wU:aD:=(0,0,0,[],())
theorem JJ(x:aD)(t:List aD)(id:Int):gP (x::t) id=if x.1=id then some x else gP t id:=ajl (λa:aD=>a.1) x t id
theorem Sb{id}:∀{t:List aD},(∀a∈t,id<a.1)->gP t id=none
 |[],_=>rfl
 |x::t,h=>by have:=h x (by simp);rw[JJ,ag (by omega),Sb λa ha=>h a (by simp[ha])]
theorem alz{t}{id:Int}(hl:t.length<=1000000)(hs:Yo t):
 (∃k:Nat,∃h:k<t.length,JK t id=some ((k:Int),true,())/\gP t id=some t[k])\/(∃z,JK t id=some (z,false,())/\gP t id=none):=by
 show(∃k:Nat,∃h:k<t.length,l7 aj t id=_/\_)\/(∃z,l7 aj t id=_/\_);unfold l7;refine po (λo=>(∃k:Nat,∃h:k<t.length,o=some ((k:Int),true,())/\gP t id=some t[k])\/(∃z,o=some (z,false,())/\gP t id=none)) (λz=>t.length+1-z.1.toNat) (λz=>∃j:Nat,j<=t.length/\z=((j:Int),())/\gP t id=gP (t.drop j) id) ⟨0,bE _,rfl,rfl⟩ (by dsimp only;omega) ?_;rintro _ ⟨j,hj,rfl,Vo⟩ again ha;show(∃k:Nat,∃h:k<t.length,aj.af (decide ((j:Int)<(t.length:Int))) _ _=_/\_)\/(∃z,aj.af (decide ((j:Int)<(t.length:Int))) _ _=_/\_);by_cases h:j<t.length
 .have hd:=ck h;rw[hd,JJ]at Vo;rw[dE h];show(∃k:Nat,∃h:k<t.length,aj.aI t (j:Int) _=_/\_)\/(∃z,aj.aI t (j:Int) _=_/\_);rw[bO h];by_cases h1:id<=t[j].1
  .rw[aQ (aq h1)];by_cases h2:t[j].1=id
   .rw[ah h2]at Vo;refine .inl ⟨j,h,?_,Vo⟩;rw[show(t[j].1==id)=true by simpa using h2]
   .rw[ag h2]at Vo;refine .inr ⟨(j:Int),?_,Vo.trans (Sb λa ham=>?_)⟩
    .rw[show(t[j].1==id)=false by simpa using h2]
    .have hs':((t.drop j).map (·.1)).Pairwise (· < ·):=by rw[List.map_drop];exact dN (Db _ _) hs
     rw[hd,bK]at hs';have:=(bD.1 hs').1 a.1 (dp ham);omega
  .rw[az (an h1)];rw[ag (by omega)]at Vo;dsimp only;rw[cU j (by omega)];exact ha _ ⟨j+1,by omega,rfl,Vo⟩ (by dsimp only;omega)
 .have:j=t.length:=by omega
  subst this;rw[fH]at Vo;rw[dZ];exact .inr ⟨_,rfl,Vo⟩
theorem H'{t}{id:Int}(ht:rC t)(hs:Yo t):N3 t id=some (match gP t id with|some i=>(i,true,())|none=>(wU,false,())):=by
 show mJ aj t id=_;unfold mJ;have hl:=ht.2;rcases alz (id:=id) (by omega) hs with⟨k,hk,h1,h2⟩|⟨z,h1,h2⟩
 .rw[ai h1,h2,az (by rfl)];show aj.aI t (k:Int) _=_;have e1:LZ t[k]=some t[k]:=by show nF aj t[k]=_;unfold nF;rw[ai (L3 (by have:=ht.1 _ (aG hk);omega))]
  rw[bO hk,ai e1]
 .rw[ai h1,h2,aQ (by rfl)];rfl
open Go.Lib
open Go.IntKind (i64 u64)
theorem asw(z)(h : -9223372036854775808<=z/\z<9223372036854775808):i64.wrap z=z:=bI z (by omega)
def D2(u:Nat):List Int:=if h:u<128 then[(u:Int)]else((u % 128+128:Nat):Int)::D2 (u / 128)
termination_by u
decreasing_by omega
theorem Rz{u:Nat}(h:u<128):D2 u=[(u:Int)]:=by rw[D2,Aw h]
theorem RA{u:Nat}(h:128<=u):D2 u=((u % 128+128:Nat):Int)::D2 (u / 128):=by rw[D2,dif_neg (by omega)]
theorem adh:∀(k u:Nat),u<128 ^ (k+1)->(D2 u).length<=k+1
 |k,u,h=>by
  rcases dS u 128 with hu|hu
  .rw[Rz hu];simp
  .rw[RA hu];cases k with
   |zero=>simp at h;omega
   |succ k=>have:=adh k (u / 128) (by rw[Nat.pow_succ]at h;omega);simp;omega
theorem Ug{u}(h:u<18446744073709551616):(D2 u).length<=10:=adh 9 u (by omega)
theorem a0U(z)(h:0<=z/\z<18446744073709551616):u64.wrap z=z:=IntWalk.u64_in z (by omega)
theorem u8c(z)(h:0<=z/\z<256):IntKind.u8.wrap z=z:=IntWalk.u8_in z (by omega)
def fold(n:Int):Nat:=if 0<=n then 2*n.toNat else 2*(-(n+1)).toNat+1
theorem ai5(n)(hn : -9223372036854775808<=n/\n<=9223372036854775807):fold n<18446744073709551616:=by unfold fold;split<;>omega
def o4(l:List Int):List Int:=l.flatMap λn=>D2 (fold n)
def uO(n:Int):Prop := -9223372036854775808<=n/\n<=9223372036854775807
def M7(sh u:Nat)(b:Int):Nat:=u ||| (b.toNat % 128*2 ^ sh % 18446744073709551616)
theorem Uh{sh u}{b}(hu:u<18446744073709551616):M7 sh u b<18446744073709551616:=by
 have h1:b.toNat % 128*2 ^ sh % 18446744073709551616<2 ^ 64:=by omega
 have:=Nat.or_lt_two_pow (show u<2 ^ 64 by omega) h1;unfold M7;omega
theorem afP{sh u:Nat}{b:Int}(hu:u<18446744073709551616)(hs:sh<=63)(hb:0<=b/\b<256):
 bits BinOp.or u64 (u:Int) (u64.wrap (u64.wrap (bits BinOp.and IntKind.u8 b 127)*2 ^ min (Int.toNat (sh:Int)) u64.bits))=(M7 sh u b:Int):=by
 have h:∀n:Fin 256,bits BinOp.and IntKind.u8 ((n.val:Nat):Int) 127=((n.val % 128:Nat):Int):=by decide +kernel
 have h1:=h ⟨b.toNat,by omega⟩;have hbn:((b.toNat:Nat):Int)=b:=by omega
 dsimp only at h1;rw[hbn]at h1
 have hm:min (Int.toNat (sh:Int)) u64.bits=sh:=by
  have:u64.bits=64:=by decide +kernel
  rw[this,aU];exact jQ (by omega)
 rw[h1,hm,a0U ((b.toNat % 128:Nat):Int) (by omega),bW]
 have e:(((b.toNat % 128:Nat):Int)*2 ^ sh % 18446744073709551616)=((b.toNat % 128*2 ^ sh % 18446744073709551616:Nat):Int):=by
  have e0:((2 ^ sh:Nat):Int)=(2:Int) ^ sh:=by rw[Int.natCast_pow];rfl
  rw[<-e0,<-nH];omega
 rw[e,bits_or_u64_nat _ _ hu (by omega)];rfl
def uP:Nat->Nat->List Int->Option Nat×List Int×Int
 |_,_,[]=>(none,[],4)
 |sh,u,b::r=>if 63<sh\/(sh=63/\1<b)\/(b=0/\0<sh)then(none,[],3)else if b<128 then(some (M7 sh u b),r,0)else uP (sh+7) (M7 sh u b) r
def unf(u:Nat):Int:=if u % 2=0 then((u / 2:Nat):Int)else -((u / 2:Nat):Int)-1
theorem ak8(a:Nat)(h:a<9223372036854775808):bits .xor .i64 (a:Int) 0=(a:Int):=by
 have h1:(BitVec.ofInt 64 (a:Int)).toNat=a:=by rw[BitVec.ofInt_natCast,uo];exact kg (by omega)
 show i64.wrap ((BitVec.ofInt 64 (a:Int) ^^^ BitVec.ofInt 64 0).toNat:Int)=_;have h2:BitVec.ofInt 64 0=0#64:=by decide
 rw[h2,BitVec.xor_zero,h1,asw _ (by omega)]
theorem ak9(a:Nat)(h:a<9223372036854775808):bits .xor .i64 (a:Int) (-1) = -(a:Int)-1:=by
 have h1:(BitVec.ofInt 64 (a:Int)).toNat=a:=by rw[BitVec.ofInt_natCast,uo];exact kg (by omega)
 show i64.wrap ((BitVec.ofInt 64 (a:Int) ^^^ BitVec.ofInt 64 (-1)).toNat:Int)=_;have h2:BitVec.ofInt 64 (-1)=BitVec.allOnes 64:=by decide
 rw[h2,BitVec.xor_allOnes,xZ,h1,dW];omega
theorem aoQ(u:Nat)(hu:u<18446744073709551616):bits BinOp.xor i64 (i64.wrap ((u:Int).fdiv (2 ^ min (Int.toNat 1) u64.bits))) (i64.wrap (0-i64.wrap (bits BinOp.and u64 (u:Int) 1)))=unf u:=by
 have e:(2:Int) ^ min (Int.toNat 1) u64.bits=2:=by decide +kernel
 have e1:bits BinOp.and u64 (u:Int) 1=((u % 2:Nat):Int):=by have:=bits_and_u64_nat u 1 hu (by decide);rw[Nat.and_one_is_mod]at this;exact this
 rw[e,e1,eO _ (by omega),show(u:Int) / 2=((u / 2:Nat):Int)by omega,asw ((u / 2:Nat):Int) (by omega),asw ((u % 2:Nat):Int) (by omega),asw _ (by omega)];unfold unf;by_cases h:u % 2=0
 .rw[ah h,h];exact ak8 _ (by omega)
 .have h1:u % 2=1:=by omega
  rw[ag h,h1];exact ak9 _ (by omega)
def wV(bs:List Int)(e lo hi:Int):Int×List Int×Int:=
 if e≠0 then(0,bs,e)else
 match uP 0 0 bs with
 |(none,r,e')=>(0,r,e')
 |(some u,r,e')=>if unf u<lo\/hi<unf u then(0,[],7)else(unf u,r,e')
theorem Yt:∀(bs:List Int) (sh u:Nat),u<18446744073709551616->∀x,(uP sh u bs).1=some x->x<18446744073709551616
 |[],sh,u,hu,x,h=>by simp[uP]at h
 |b::r,sh,u,hu,x,h=>by
  unfold uP at h;split at h
  .simp at h
  .split at h
   .simp at h;rw[<-h];exact Uh hu
   .exact Yt r _ _ (Uh hu) x h
theorem awJ(acc x k)(h:acc<2 ^ k):acc ||| (x*2 ^ k)=acc+x*2 ^ k:=by rw[kB,Nat.or_comm,<-Nat.two_pow_add_eq_or_of_lt h,Nat.add_comm]
theorem akA{sh acc b:Nat}(ha:acc<2 ^ sh)(hx:b % 128*2 ^ sh<18446744073709551616):M7 sh acc (b:Int)=acc+b % 128*2 ^ sh:=by unfold M7;rw[aU,kg hx,awJ _ _ _ ha]
theorem akB(sh:Nat)(h:sh<=64):2 ^ (64-sh)*2 ^ sh=18446744073709551616:=by rw[<-uN,Nat.sub_add_cancel h]
theorem awK(v P acc:Nat):acc+v % 128*P+v / 128*(128*P)=acc+v*P:=by
 have h:v*P=(128*(v / 128)+v % 128)*P:=by congr 1;omega
 have h2:v / 128*(128*P)=128*(v / 128)*P:=by rw[<-DU,kB (v / 128) 128]
 rw[h,h2,im];omega
theorem Ui:∀(bs:List Int) (k acc u:Nat) (r:List Int) (e:Int),(∀b∈bs,0<=b/\b<256)->k<=10->acc<2 ^ (7*k)->uP (7*k) acc bs=(some u,r,e)->
 ∃v,bs=D2 v++r/\u=acc+v*2 ^ (7*k)/\(0<k->0<v)/\k<=9/\v<2 ^ (64-7*k)/\e=0
 |[],_,_,_,_,_,_,_,_,h=>by simp[uP]at h
 |b::bs,k,acc,u,r,e,hb,hk,ha,h=>by
  have hb0:=hb b (by simp);obtain⟨n,rfl⟩:=cS hb0.1;unfold uP at h;split at h
  .simp at h
  .rename_i hc;have RC:k<=9:=by omega
   have hbound:n % 128*2 ^ (7*k)<18446744073709551616:=by
    rcases dS k 9 with h9|h9
    .have h1:n % 128*2 ^ (7*k)<=127*2 ^ (7*k):=dL _ (by omega);have h2:2 ^ (7*k)<=2 ^ 56:=zk (by decide) (by omega);have h3:(2:Nat) ^ 56=72057594037927936:=by decide
     omega
    .have:k=9:=by omega
     subst this;have hn1:n<=1:=by omega
     have h3:(2:Nat) ^ (7*9)=9223372036854775808:=by decide
     rw[h3];omega
   rw[akA ha hbound]at h;split at h
   .rename_i hlt;simp only[bV,ak]at h;obtain⟨rfl,rfl,rfl⟩:=h;have hn:n<128:=by omega
    refine⟨n,by rw[Rz hn];rfl,by rw[kg hn],by omega,RC,?_,rfl⟩;rw[kg hn,<-akB (7*k) (by omega)]at hbound;exact Nat.lt_of_mul_lt_mul_right hbound
   .rename_i hge;have hn:128<=n/\n<256:=by omega
    have azm:2 ^ (7*(k+1))=128*2 ^ (7*k):=by rw[show 7*(k+1)=7+7*k by omega,uN]
    have abn:acc+n % 128*2 ^ (7*k)<2 ^ (7*(k+1)):=by rw[azm];have:n % 128*2 ^ (7*k)<=127*2 ^ (7*k):=dL _ (by omega);omega
    rw[show 7*k+7=7*(k+1)by omega]at h;obtain⟨v,h1,h2,h3,h4,h5,h6⟩:=Ui bs (k+1) _ u r e (λb hb'=>hb b (by simp[hb'])) (by omega) abn h;have hv0:=h3 (by omega);refine⟨128*v+(n-128),?_,?_,λ_=>by omega,RC,?_,h6⟩
    .rw[RA (by omega),h1];have e1:(128*v+(n-128)) % 128+128=n:=by omega
     have e2:(128*v+(n-128)) / 128=v:=by omega
     rw[e1,e2];rfl
    .rw[h2,azm];have e1:n % 128=(128*v+(n-128)) % 128:=by omega
     have e2:v=(128*v+(n-128)) / 128:=by omega
     have:=awK (128*v+(n-128)) (2 ^ (7*k)) acc;rw[<-e1,<-e2]at this;exact this
    .have h7:2 ^ (64-7*k)=128*2 ^ (64-7*(k+1)):=by rw[show 64-7*k=7+(64-7*(k+1))by omega,uN]
     rw[h7];omega
theorem aoR(u):fold (unf u)=u:=by unfold unf fold;split<;>split<;>omega
theorem al7(u)(h:u<18446744073709551616):uO (unf u):=by unfold unf uO;split<;>omega
theorem N6:∀(bs:List Int) (sh u:Nat) (r:List Int),uP sh u bs=(none,r,0)->False
 |[],sh,u,r,h=>by simp[uP]at h
 |b::bs,sh,u,r,h=>by
  unfold uP at h;split at h
  .simp at h
  .split at h
   .simp at h
   .exact N6 bs _ _ r h
theorem adi(bs)(hb:∀b∈bs,0<=b/\b<256)(n)(r)(lo hi)(h:wV bs 0 lo hi=(n,r,0)):bs=D2 (fold n)++r/\uO n:=by
 unfold wV at h;rw[ag (by simp)]at h;cases hN:uP 0 0 bs with
 |mk o p=>
  obtain⟨r',e'⟩:=p;rw[hN]at h;cases o with
  |none=>simp only[bV]at h;obtain⟨_,rfl,rfl⟩:=h;exfalso;exact N6 bs 0 0 _ hN
  |some u=>
   simp only at h;split at h
   .simp at h
   .simp only[bV]at h;obtain⟨rfl,rfl,rfl⟩:=h;obtain⟨v,h1,h2,_,_,h5,_⟩:=Ui bs 0 0 u r' 0 hb (by omega) (by decide) hN;simp only[Nat.mul_zero,Nat.pow_zero,H9,cg]at h2;subst h2;exact⟨by rw[aoR];exact h1,al7 _ (by simpa using h5)⟩
theorem Ys(bs)(e lo hi)(hb:∀b∈bs,0<=b/\b<256)(he:e=0)(h:(wV bs e lo hi).2.2=0):bs=D2 (fold (wV bs e lo hi).1)++(wV bs e lo hi).2.1/\uO (wV bs e lo hi).1:=by subst he;refine adi bs hb _ _ lo hi ?_;exact jd rfl (jd rfl h)
theorem adj:∀(bs:List Int) (sh u:Nat),∀z∈(uP sh u bs).2.1,z∈bs
 |[],sh,u,z,h=>by simp[uP]at h
 |b::bs,sh,u,z,h=>by
  unfold uP at h;split at h
  .simp at h
  .split at h
   .exact aF.2 (.inr h)
   .exact aF.2 (.inr (adj bs _ _ z h))
theorem aaV(bs)(e lo hi)(hb:∀z∈bs,0<=z/\z<256):∀z∈(wV bs e lo hi).2.1,0<=z/\z<256:=by
 intro z hz;refine hb z ?_;have hs:=adj bs 0 0 z;unfold wV at hz;split at hz
 .exact hz
 .cases hN:uP 0 0 bs with
  |mk o p=>
   rw[hN]at hz hs;cases o with
   |none=>exact hs hz
   |some u=>
    simp only at hz;split at hz
    .simp at hz
    .exact hs hz
theorem ajq(bs)(e lo hi)(h:(wV bs e lo hi).2.2=0):e=0:=by
 unfold wV at h;split at h
 .exact h
 .omega
theorem aoS(x)(h:x<18446744073709551616):x ^^^ 18446744073709551615=18446744073709551615-x:=by
 have h1:(BitVec.ofNat 64 x ^^^ BitVec.allOnes 64).toNat=x ^^^ 18446744073709551615:=by rw[BitVec.toNat_xor,uo,BitVec.toNat_allOnes,kg (by simpa using h)]
 have h2:BitVec.ofNat 64 x ^^^ BitVec.allOnes 64 = ~~~ BitVec.ofNat 64 x:=by rw[BitVec.xor_allOnes]
 rw[<-h1,h2,xZ,uo,kg (by simpa using h)]
theorem akC(n)(hn:uO n):bits BinOp.xor u64 (u64.wrap (i64.wrap (n*2 ^ min (Int.toNat 1) i64.bits))) (u64.wrap (n.fdiv (2 ^ min (Int.toNat 63) i64.bits)))=(fold n:Int):=by
 have e1:(2:Int) ^ min (Int.toNat 1) i64.bits=2:=by decide +kernel
 have e2:(2:Int) ^ min (Int.toNat 63) i64.bits=9223372036854775808:=by decide +kernel
 unfold uO at hn;rw[e1,e2,dW,bW,bW,eO _ (by omega)];unfold fold;by_cases h:0<=n
 .rw[ah h];have a1:n / 9223372036854775808 % 18446744073709551616=((0:Nat):Int):=by omega
  rw[a1,show((n*2+9223372036854775808) % 18446744073709551616-9223372036854775808) % 18446744073709551616=((2*n.toNat:Nat):Int)by omega,bits_xor_u64_nat _ _ (by omega) (by omega),Nat.xor_zero]
 .rw[ag h];have a1:n / 9223372036854775808 % 18446744073709551616=((18446744073709551615:Nat):Int):=by omega
  rw[a1,show((n*2+9223372036854775808) % 18446744073709551616-9223372036854775808) % 18446744073709551616=(((n*2+18446744073709551616).toNat:Nat):Int)by omega,bits_xor_u64_nat _ _ (by omega) (by omega),aoS _ (by omega)];omega
theorem azn(u:Nat):bits BinOp.or IntKind.u8 (IntKind.u8.wrap (u:Int)) 128=((u % 128+128:Nat):Int):=by
 have h:∀n:Fin 256,bits BinOp.or IntKind.u8 ((n.val:Nat):Int) 128=((n.val % 128+128:Nat):Int):=by decide +kernel
 have h1:=h ⟨u % 256,by omega⟩;rw[IntKind.wrap_u8,show(u:Int) % 256=((u % 256:Nat):Int)by omega,h1];dsimp only;omega
theorem ai6{β}{k}{f}(b)(h:∀K:Bool×Unit->Option β,f K=K (b,())):aj.aH k f=k (b,()):=h k
theorem azo{α β}{x}{l:List α}(K:α->Option β):aj.aI (x::l) 0 K=K x:=by dsimp only;unfold acu;simp
def Bt(l:List Int):Prop:=∀b∈l,0<=b/\b<256
theorem Uj(u:Nat)(hu:u<18446744073709551616):VS (u:Int)=some (unf u):=by show rP aj u=_;unfold rP;rw[vj (by omega),aoQ u hu]
theorem aoT{n}(hn:uO n):adk n=some (fold n:Int):=by show vN aj n=_;unfold vN;rw[vj (by omega),vj (by omega),akC n hn]
def aoU(x:Option Nat×List Int×Int):Option ((Int×Bool×Unit)×(Bool×(List Int)×Int×Unit)):=some ((((x.1.getD 0:Nat):Int),x.1.isSome,()),true,x.2.1,x.2.2,())
theorem aoV{bs}(hb:Bt bs)(hl:bs.length<9223372036854775807):BE true bs 0=aoU (uP 0 0 bs):=by
 show lE aj true bs 0=_;unfold lE;refine(iH (λz=>z.2.2.2.1.length) (λz=>∃(u sh:Nat) (l:List Int),z=((u:Int),(sh:Int),true,l,0,())/\u<18446744073709551616/\sh<=70/\Bt l/\l.length<9223372036854775807) (λz=>aoU (uP z.2.1.toNat z.1.toNat z.2.2.2.1)) ⟨0,0,bs,rfl,by omega,by omega,hb,hl⟩ (by dsimp only;omega) ?_);rintro _ ⟨u,sh,l,rfl,hu,hsh,hbt,hlen⟩ again ha;cases l with
 |nil=>rw[aQ (by rfl),dX (show EK true [] 0 4=some ((),true,[],4,())from rfl)];dsimp only;unfold uP;rfl
 |cons b r=>
  have h0:=hbt b (by simp);have hr:Bt r:=λx hx=>hbt x (by simp[hx])
  show aj.af (((b::r).length:Int)==0) _ _=aoU (uP sh u (b::r));rw[az (by simp;omega)];show aj.aI (b::r) 0 _=_;rw[azo,Jo (by omega) (by simp;omega)];refine(ai6 (decide (63<sh\/(sh=63/\1<b)\/(b=0/\0<sh))) λK=>?_).trans ?_
  .show aj.af (decide ((63:Int)<(sh:Int))) _ _=_;by_cases h1:63<sh
   .rw[aQ (by simpa using by omega),aq (.inl h1)]
   .rw[az (by simpa using by omega)];show aj.af ((sh:Int)==63) _ _=_;by_cases h2:sh=63
    .rw[aQ (by simp[h2])];refine du (λh3=>?_) λh3=>?_
     .rw[aq (.inr (.inl ⟨h2,h3⟩))]
     .by_cases h4:b=0
      .rw[aQ (by simp[h4]),aq (show 63<sh\/(sh=63/\1<b)\/(b=0/\0<sh)from .inr (.inr ⟨h4,by omega⟩))];show K (decide ((0:Int)<(sh:Int)),())=_;rw[aq (by omega)]
      .rw[az (by simp[h4]),an (by omega)]
    .rw[az (by simp;omega)];by_cases h4:b=0
     .rw[aQ (by simp[h4])];show K (decide ((0:Int)<(sh:Int)),())=_;congr 2;apply eF.2;omega
     .rw[az (by simp[h4]),an (by omega)]
  .have ed:(List.take (b::r).length (b::r)).drop (Int.toNat 1)=r:=by simp
   by_cases asx:63<sh\/(sh=63/\1<b)\/(b=0/\0<sh)
   .rw[aq asx];show aj.af true _ _=_;rw[aQ (by rfl),dX (show EK true _ 0 3=some ((),true,[],3,())from rfl)];unfold uP;rw[ah asx];rfl
   .rw[an asx];show aj.af false _ _=_;rw[az (by rfl)];show aj.i7 (sh:Int) _=_;rw[vj (by omega)];unfold uP;rw[ag asx];have ub:=afP (sh:=sh) (u:=u) (b:=b) hu (by omega) h0;refine du (λawL=>?_) λawL=>?_
    .rw[ah awL];show some ((Go.bits Go.BinOp.or Go.IntKind.u64 (u:Int) (IntKind.u64.wrap ((IntKind.u64.wrap (Go.bits Go.BinOp.and Go.IntKind.u8 b 127))*(2 ^ (min (Int.toNat (sh:Int)) (Go.IntKind.bits Go.IntKind.u64))))),true,()),true,(List.take (b::r).length (b::r)).drop (Int.toNat 1),0,())=_;rw[ub,ed];rfl
    .rw[ag awL];show again (Go.bits Go.BinOp.or Go.IntKind.u64 (u:Int) (IntKind.u64.wrap ((IntKind.u64.wrap (Go.bits Go.BinOp.and Go.IntKind.u8 b 127))*(2 ^ (min (Int.toNat (sh:Int)) (Go.IntKind.bits Go.IntKind.u64))))),IntKind.i64.wrap ((sh:Int)+7),true,(List.take (b::r).length (b::r)).drop (Int.toNat 1),0,())=_;rw[ub,ed];have es:IntKind.i64.wrap ((sh:Int)+7)=((sh+7:Nat):Int):=by rw[bI _ (by omega)];omega
     rw[es];exact ha _ ⟨M7 sh u b,sh+7,r,rfl,Uh hu,by omega,hr,by simp at hlen;omega⟩ (by show r.length<(b::r).length;simp)
theorem aaW:∀(bs:List Int) (sh u:Nat),(uP sh u bs).2.1.length<=bs.length
 |[],sh,u=>by simp[uP]
 |b::r,sh,u=>by
  unfold uP;split
  .simp
  .split
   .simp
   .have:=aaW r (sh+7) (M7 sh u b);simp;omega
def rd(lo hi:Int)(s:List Int×Int):Int×(List Int×Int):=((wV s.1 s.2 lo hi).1,(wV s.1 s.2 lo hi).2.1,(wV s.1 s.2 lo hi).2.2)
theorem Sl{lo hi}{s:List Int×Int}(hb:Bt s.1)(hl:s.1.length<9223372036854775807):Rf true s.1 s.2 lo hi=some ((rd lo hi s).1,true,(rd lo hi s).2.1,(rd lo hi s).2.2,()):=by
 obtain⟨bs,e⟩:=s;show iC aj true bs e lo hi=_;unfold iC rd wV;rw[dX (show O7 true bs e=some (e==0,true,bs,e,())from rfl)];by_cases he:e=0
 .subst he;rw[az (by rfl)];rw[ag (by simp)];show aj.ae (BE true bs 0) _=_;rw[aoV hb hl];have hlt:=Yt bs 0 0 (by decide);rcases hN:uP 0 0 bs with⟨_|u,r,e'⟩
  .rw[dX (show aoU (none,r,e')=some ((((0:Nat):Int),false,()),true,r,e',())from rfl)];refine(dX (Uj 0 (by decide)) _).trans ?_;rw[aQ (by rfl)]
  .rw[hN]at hlt;rw[dX (show aoU (some u,r,e')=some (((u:Int),true,()),true,r,e',())from rfl)];refine(dX (Uj u (hlt u rfl)) _).trans ?_;rw[az (by rfl)];refine(ai6 (decide (unf u<lo\/hi<unf u)) λK=>?_).trans ?_
   .refine du (λh1=>?_) λh1=>?_
    .rw[aq (.inl h1)]
    .congr 2;apply eF.2;simp[h1]
   .refine du (λh1=>?_) λh1=>?_
    .dsimp only;rw[ah h1];rfl
    .dsimp only;rw[ag h1]
 .rw[aQ (by simp[he])];rw[ah he]
theorem fd7(u:Nat):(u:Int).fdiv (2 ^ (min (Int.toNat 7) (Go.IntKind.bits Go.IntKind.u64)))=((u / 128:Nat):Int):=by
 have e:(2:Int) ^ (min (Int.toNat 7) (Go.IntKind.bits Go.IntKind.u64))=128:=by decide +kernel
 rw[e,eO _ (by omega)];omega
theorem asy{u:Nat}{b:List Int}(hu:u<18446744073709551616)(hb:b.length<=100000000):Rg true b (u:Int)=some ((),true,b++D2 u,()):=by
 show pA aj true b u=_;unfold pA;refine(iH (λz=>z.1.toNat) (λz=>∃(v:Nat) (l:List Int),z=((v:Int),true,l,())/\v<18446744073709551616/\l.length+(D2 v).length<=100000020) (λz=>some ((),true,z.2.2.1++D2 z.1.toNat,())) ⟨u,b,rfl,hu,by have:=Ug hu;omega⟩ (by dsimp only;omega) ?_);rintro _ ⟨v,l,rfl,hv,hl⟩ again ha;show aj.af (decide ((128:Int)<=(v:Int))) _ _=some ((),true,l++D2 (v:Int).toNat,());rw[aU];by_cases h:128<=v
 .rw[eR (by omega)];rw[RA h]at hl ⊢;simp only[aJ]at hl;rw[dm (by simp only[aJ,eJ];omega) (by simp only[aJ,eJ];omega),vj (by omega)];dsimp only;rw[fd7,azn];refine(ha _ ⟨v / 128,_,rfl,by omega,by simp only[ap,aJ,eJ];omega⟩ (by dsimp only;omega)).trans ?_;rw[aU,bq];rfl
 .rw[cY (by omega)];rw[Rz (by omega)]at hl ⊢;rw[dm (by simp only[aJ,eJ]at hl ⊢;omega) (by simp only[aJ,eJ]at hl ⊢;omega)];dsimp only;rw[u8c _ (by omega)]
theorem D3(a b:List Int):o4 (a++b)=o4 a++o4 b:=by unfold o4;rw[jK]
theorem yz(n:Int):o4 [n]=D2 (fold n):=by unfold o4;simp
theorem GQ{l:List Int}(h:∀n∈l,uO n):(o4 l).length<=10*l.length:=by
 induction l with
 |nil=>simp[o4]
 |cons x l ih=>
  have h1:=Ug (ai5 x (h x (by simp)));have h2:=ih λn hn=>h n (by simp[hn])
  unfold o4 at h2 ⊢;rw[cw,ap,aJ];omega
theorem Ry{l b:List Int}(hl:∀n∈l,uO n)(hn:l.length<=1000000)(hb:b.length<=50000000):zt true b l=some ((),true,b++o4 l,()):=by
 show dU aj true b l=_;unfold dU;rw[xk,dX (show Hx true b=some (true,true,b,())from rfl),aQ (by rfl)];refine ib (l:=l) (by omega) (λi s=>s=(true,b++o4 (l.take i),())) (λ_ _=>some ((),true,b++o4 l,())) (by simp[o4]) ?_ ?_
 .rintro _ again rfl;rw[dZ,br]
 .rintro i hi _ rfl again ha;have hx:=hl _ (aG hi);have hlen:(o4 (l.take i)).length<=10*(l.take i).length:=GQ λn hn=>hl n (fh hn)
  rw[aX]at hlen;rw[dE hi,bO hi,dX (aoT hx)];refine(dX (asy (ai5 _ hx) (by rw[ap];omega)) _).trans ?_;rw[cU i (by omega)];refine ha _ ?_;rw[show l.take (i+1)=l.take i++[l[i]]by simp,D3,yz,bq]
theorem ai7{l}(hl:l.length<=100000000):GC l=some l:=by
 show iD aj l=_;unfold iD;rw[Dy];refine yj ?_ ?_
 .rw[az (by rfl),dm (by omega) (by omega)];rfl
 .intro h;rw[aQ (by rfl),xW.1 h]
theorem avb{l}(hl:l.length<=100000000):akD l=some ((),true,l,0,()):=by show BF aj l=_;unfold BF;rw[dX (ai7 hl)]
theorem avg{l}(hl:l.length<=100000000):O8 true l=some (l,true,l,()):=by show kP aj true l=_;unfold kP;rw[dX (show Hx true l=some (true,true,l,())from rfl),az (by rfl)];exact(dX (ai7 hl) _).trans rfl
def Yu(s:List Int×Int):Int:=if s.2≠0 then s.2 else if 0<s.1.length then 5 else 0
theorem avc(s):Rh true s.1 s.2=some (Yu s,true,s.1,s.2,()):=by
 obtain⟨l,e⟩:=s;show pB aj true l e=_;unfold pB Yu;rw[dX (show F7 true l e=some (e,true,l,e,())from rfl)];by_cases he:e=0
 .subst he;rw[az (by rfl)];by_cases h:0<l.length
  .rw[eR (by show(0:Int)<(l.length:Int);omega)];simp[h]
  .rw[cY (by show ¬(0:Int)<(l.length:Int);omega)];simp[h]
 .rw[aQ (by simp[he])];simp[he]
structure OkS(t:aV):Prop where
 a:∀a∈iG t,qf a
 aL:(iG t).length<=8
 c:∀a∈t.2.2.2.2.1,a0b a/\a.2.2.2.1.length<=20
 cL:t.2.2.2.2.1.length<=20
 f:u7 (pu t)
 fL:(pu t).length<=94
 h:lc (ho t)
 hL:(ho t).length<=94
set_option maxRecDepth 1000000
set_option maxHeartbeats 2000000
theorem OkS.st{t}(O:OkS t):StR (pu t) (ho t) [] 0:=⟨O.f,by have:=O.fL;omega,O.h,by have:=O.hL;omega,au _⟩
theorem OkS.as{t}(O:OkS t):rC t.2.2.2.2.1:=⟨λa ha=>by have:=(O.c a ha).2;omega,by have:=O.cL;omega⟩
theorem OkS.axG{t}(O:OkS t)(id):RI t (t.2.2.2.2.1.filter (rz id)):=⟨O.a,by have:=O.aL;omega,λa ha=>(O.c a (aM.1 ha).1).2,cp (cW _ _) O.cL⟩
def Im(t:aV)(id:Int):List Gw:=JZ (iG t) (t.2.2.2.2.1.filter (rz id)) (yE (t.2.2.2.2.1.filter (rz id))) (px (t.2.2.2.2.1.filter (rz id)))
theorem amq{t}(O:OkS t)(id):Mi t id=some (qT t (o5 (Im t id) (pu t) (ho t) [])):=by
 have:=axH (s:=t) (p:=pu t) (h:=ho t) (id:=id) O.as (O.axG id) O.st
 rwa [amm]at this
theorem aqK{a}{u}(h:u∈bY a):u.1=a.1:=by
 unfold bY at h;split at h
 .rw[aC.1 h]
 .obtain⟨c,_,rfl⟩:=aN.1 h;rfl
def Zp(n:Nat)(q:Nat->Bool):Bool:=(List.range' 0 n).all q
theorem aoG{X β}{n}(hn:n<9223372036854775808){F}(st:Nat->X)(q:Nat->Bool){r no:Option β}{z0:X}(hz:z0=st 0)
 (Dw:∀again:X->Option β,F (st n) again=r)
 (tC:∀i,i<n->∀again:X->Option β,F (st i) again=bif q i then again (st (i+1))else no):
 aj.aY F z0=bif Zp n q then r else no:=by
 subst hz
 have key:∀(m k i:Nat),i+m=n->m<k->yO k F (st i)=bif (List.range' i m).all q then r else no:=by
  intro m;induction m with
  |zero=>
   intro k i hi hk;cases k with
   |zero=>omega
   |succ k=>
    have:i=n:=by omega
    subst this;exact Dw _
  |succ m ih=>
   intro k i hi hk;cases k with
   |zero=>omega
   |succ k=>show F (st i) (yO k F)=_;rw[tC i (by omega),ih k (i+1) (by omega) (by omega),xX,List.all_cons];cases q i<;>rfl
 exact key n FU 0 (by omega) (by rw[PZ];omega)
theorem aoH{n}{q}:Zp n q=true↔∀i,i<n->q i=true:=by unfold Zp;rw[mD];exact⟨λh i hi=>h i (by rw[List.mem_range'_1];omega),λh i hi=>h i (by rw[List.mem_range'_1]at hi;omega)⟩
def Af(m:aW):Prop:=1<=m.1/\m.1<=8/\0<=m.2.1/\m.2.1<=4611686018427387904/\0<=m.2.2.1/\m.2.2.1<=3/\0<=m.2.2.2.1/\m.2.2.2.1<=2097152
instance (m:aW):Decidable (Af m):=by unfold Af;infer_instance
theorem KZ(m):ZS m=some (if Af m then 0 else 2):=by
 show oS aj m=_;unfold oS;refine bw λk hk=>?_
 have kt:k (true,())=some 2:=by subst hk;rfl
 have kb:∀c,k (c,())=if c=true then some 2 else some 0:=by intro c;subst hk;cases c<;>rfl
 simp only[Bool.cond_decide,kt,kb,bb];by_cases h:Af m
 .rw[ah h];unfold Af at h;repeat' split
  all_goals first|rfl|(exfalso;omega)
 .rw[ag h];unfold Af at h;repeat' split
  all_goals first|rfl|(exfalso;omega)
theorem afH(a):PD a=some (if qf a then 0 else 2):=by
 show kr aj a=_;unfold kr;refine bw λk hk=>?_
 have kt:k (true,())=some 2:=by subst hk;rfl
 have kb:∀c,k (c,())=if c=true then some 2 else some 0:=by intro c;subst hk;cases c<;>rfl
 have e:ko aj a.2.1=_:=Sp _;rw[e];show(bif _ then _ else bif _ then _ else bif _ then _ else bif _ then _ else _)=_;simp only[Bool.cond_decide,Bool.cond_not,Bool.cond_eq_ite,kt,kb,bb,jF,aB,Bool.and_eq_false_iff,pQ];by_cases h:qf a
 .rw[ah h];unfold qf at h;repeat' split
  all_goals first|rfl|(exfalso;omega)
 .rw[ag h];unfold qf at h;repeat' split
  all_goals first|rfl|(exfalso;omega)
def Dx{α:Type}(l:List α)(p:Nat->α->Bool):Bool:=Zp l.length λi=>if h:i<l.length then p i l[i]else true
theorem acT{X α β}{l}(hn:l.length<9223372036854775808){F}(st:Nat->X)(p:Nat->α->Bool){r no:Option β}{z0:X}(hz:z0=st 0)
 (Dw:∀again:X->Option β,F (st l.length) again=r)
 (tC:∀i (hi:i<l.length),∀again:X->Option β,F (st i) again=bif p i l[i]then again (st (i+1))else no):
 aj.aY F z0=bif Dx l p then r else no:=
 aoG hn st _ hz Dw λi hi again=>by rw[Aw hi];exact tC i hi again
theorem G3{α}{l:List α}{p:Nat->α->Bool}:Dx l p=true↔∀i (h:i<l.length),p i l[i]=true:=by
 unfold Dx;rw[aoH];constructor
 .intro h i hi;have:=h i hi;rwa [Aw hi]at this
 .intro h i hi;rw[Aw hi];exact h i hi
theorem ak4{X α β:Type}{l:List α}(hn:l.length<9223372036854775808){F:X->(X->Option β)->Option β}(st:Nat->X)(p:α->Bool)(e:Nat->Option β){r:Option β}{z0:X}(hz:z0=st 0)
 (Dw:∀again:X->Option β,F (st l.length) again=r)
 (tC:∀i (hi:i<l.length),∀again:X->Option β,F (st i) again=bif p l[i]then e i else again (st (i+1))):
 (l.any p=true/\∃i,i<l.length/\aj.aY F z0=e i)\/(l.any p=false/\aj.aY F z0=r):=by
 subst hz
 have key:∀(m k i:Nat),i+m=l.length->m<k->((l.drop i).any p=true/\∃j,j<l.length/\yO k F (st i)=e j)\/((l.drop i).any p=false/\yO k F (st i)=r):=by
  intro m;induction m with
  |zero=>
   intro k i hi hk;cases k with
   |zero=>omega
   |succ k=>
    have:i=l.length:=by omega
    subst this;exact .inr ⟨by rw[fH];rfl,Dw _⟩
  |succ m ih=>
   intro k i hi hk;cases k with
   |zero=>omega
   |succ k=>
    have PS:i<l.length:=by omega
    have e1:yO (k+1) F (st i)=bif p l[i]then e i else yO k F (st (i+1)):=tC i PS _;rw[e1,ck PS,List.any_cons];cases hp:p l[i]with
    |true=>exact .inl ⟨rfl,i,PS,rfl⟩
    |false=>rw[DQ];exact ih k (i+1) (by omega) (by omega)
 have:=key l.length FU 0 (by omega) (by rw[PZ];omega)
 rwa [sj]at this
def prv(l:List Int)(i:Nat):Int:=if i=0 then 0 else l.getD (i-1) 0
theorem abA{l}{i}(hi:i<l.length):prv l (i+1)=l[i]:=by unfold prv;rw[ag (by omega),show i+1-1=i by omega,eQ,aw hi];rfl
def Oj(l:List Int)(i:Nat)(c:Int):Bool:=decide (1<=c/\c<=16/\(0<i->prv l i<c))
def aso(l:List Int)(i:Nat)(c:Int):Bool:=decide (prv l i<c/\c<=16)
theorem awF(l):Dx l (aso l)=Dx l (Oj l):=by
 apply tW.2;rw[G3,G3];unfold aso Oj;simp only[bb];constructor
 .intro h
  have pos:∀i (hi:i<l.length),1<=l[i]:=by
   intro i;induction i with
   |zero=>intro hi;have:=(h 0 hi).1;unfold prv at this;rw[ah rfl]at this;omega
   |succ i ih=>intro hi;have:=(h (i+1) hi).1;rw[abA (by omega)]at this;have:=ih (by omega);omega
  exact λi hi=>⟨pos i hi,(h i hi).2,λ_=>(h i hi).1⟩
 .intro h i hi;refine⟨?_,(h i hi).2.1⟩;by_cases h0:i=0
  .subst h0;have:=(h 0 hi).1;unfold prv;rw[ah rfl];omega
  .exact(h i hi).2.2 (by omega)
theorem asq{l}(h:Dx l (Oj l)=true):l.length<=16:=by
 rw[G3]at h;unfold Oj at h;simp only[bb]at h
 have up:∀i (hi:i<l.length),(i:Int)+1<=l[i]:=by
  intro i;induction i with
  |zero=>intro hi;have:=(h 0 hi).1;omega
  |succ i ih=>intro hi;have:=(h (i+1) hi).2.2 (by omega);rw[abA (by omega)]at this;have:=ih (by omega);omega
 by_cases h0:l.length=0
 .omega
 .have:=up (l.length-1) (by omega);have:=(h (l.length-1) (by omega)).2.1;omega
def ajC(a:aD):Prop:=(1<=a.1/\a.1<=16)/\(1<=a.2.1/\a.2.1<=8)/\(1<=a.2.2.1/\a.2.2.1<=4)/\(a.2.2.1=1->a.2.2.2.1.length=0)/\(a.2.2.1=4->a.2.2.2.1.length<=1)
instance (a:aD):Decidable (ajC a):=by unfold ajC;infer_instance
def okA(a:aD):Bool:=decide (ajC a)&&Dx a.2.2.2.1 (Oj a.2.2.2.1)
theorem aix(k):XH k=some (if k=1 then 0 else if k=4 then 1 else 16):=by
 show uj aj k=_;unfold uj;by_cases h1:k=1
 .rw[aQ (by simp[h1]),ah h1]
 .rw[az (by simp[h1]),ag h1];by_cases h4:k=4
  .rw[aQ (by simp[h4]),ah h4]
  .rw[az (by simp[h4]),ag h4]
theorem O4{a}(hl:a.2.2.2.1.length<=1000000):afI a=some (if okA a=true then 0 else 2):=by
 show rM aj a=_;unfold rM;have e1:uj aj a.2.2.1=_:=aix _;rw[e1];refine bw λva OA=>?_
 have kf:va (false,())=some 2:=by subst OA;rfl
 have kt:va (true,())=if(1<=a.2.2.1/\a.2.2.1<=4)/\((a.2.2.2.1.length:Int)<=if a.2.2.1=1 then 0 else if a.2.2.1=4 then 1 else 16)/\Dx a.2.2.2.1 (Oj a.2.2.2.1)=true then some 0 else some 2:=by
  subst OA;show aj.aH _ _=_;refine bw λk8 hk8=>?_
  have k8t:k8 (true,())=some 2:=by subst hk8;exact aQ rfl _ _
  have k8f:k8 (false,())=if Dx a.2.2.2.1 (Oj a.2.2.2.1)=true then some 0 else some 2:=by
   subst hk8;refine(az (c:=false) rfl _ _).trans ?_;refine(acT (l:=a.2.2.2.1) (by omega) (λi=>(prv a.2.2.2.1 i,(i:Int),())) (aso a.2.2.2.1) (r:=some 0) (no:=some 2) rfl (λagain=>dZ _ _) λi hi again=>?_).trans ?_
   .refine Jp hi ?_;rw[bO hi];refine bw λk hk=>?_
    have k1:k (true,())=some 2:=by subst hk;rfl
    have k2:k (false,())=again (prv a.2.2.2.1 (i+1),((i+1:Nat):Int),()):=by rw[<-cU i (by omega),abA hi];subst hk;rfl
    dsimp only;unfold aso;refine du (λh1=>?_) λh1=>?_
    .rw[k1,an (by omega)];rfl
    .by_cases h2:16<a.2.2.2.1[i]
     .rw[aq h2,k1,an (by omega)];rfl
     .rw[an h2,k2,aq (by omega)];rfl
   .rw[awF];cases Dx a.2.2.2.1 (Oj a.2.2.2.1)<;>rfl
  refine(az (c:=!true) rfl _ _).trans ?_;by_cases h1:a.2.2.1<1
  .rw[eR h1,k8t,ag (by omega)]
  rw[cY h1];by_cases h2:4<a.2.2.1
  .rw[eR h2,k8t,ag (by omega)]
  rw[cY h2,ai rfl];generalize (if a.2.2.1=1 then(0:Int)else if a.2.2.1=4 then 1 else 16)=mo;by_cases h3:mo<(a.2.2.2.1.length:Int)
  .rw[aq h3,k8t,ag (by omega)]
  .rw[an h3,k8f];by_cases h4:Dx a.2.2.2.1 (Oj a.2.2.2.1)=true
   .rw[ah h4,ah ⟨by omega,by omega,h4⟩]
   .rw[ag h4,ag λh=>h4 h.2.2]
 clear OA
 have e:(if okA a=true then(0:Int)else 2)=if((1<=a.1/\a.1<=16)/\(1<=a.2.1/\a.2.1<=8))/\(1<=a.2.2.1/\a.2.2.1<=4)/\((a.2.2.2.1.length:Int)<=if a.2.2.1=1 then 0 else if a.2.2.1=4 then 1 else 16)/\Dx a.2.2.2.1 (Oj a.2.2.2.1)=true then 0 else 2:=by
  by_cases h:okA a=true
  .rw[ah h];have h':=h;unfold okA at h';rw[aB,bb]at h';have hc:=asq h'.2;have hh:=h'.1;unfold ajC at hh;rw[ah ⟨⟨hh.1,hh.2.1⟩,hh.2.2.1,by split<;>(try split)<;>omega,h'.2⟩]
  .rw[ag h,ag];rintro⟨⟨h1,h2⟩,h3,h4,h5⟩;refine h ?_;unfold okA;rw[aB,bb];refine⟨?_,h5⟩;unfold ajC;refine⟨h1,h2,h3,λhk=>?_,λhk=>?_⟩
   .rw[ah hk]at h4;omega
   .rw[ag (by omega),ah hk]at h4;omega
 rw[e];refine du (λh1=>?_) λh1=>?_
 .refine du (λh2=>?_) λh2=>?_
  .refine du (λh3=>?_) λh3=>?_
   .by_cases h4:a.2.1<=8
    .rw[aq h4,kt];by_cases h:(1<=a.2.2.1/\a.2.2.1<=4)/\((a.2.2.2.1.length:Int)<=if a.2.2.1=1 then 0 else if a.2.2.1=4 then 1 else 16)/\Dx a.2.2.2.1 (Oj a.2.2.2.1)=true
     .rw[ah h,ah ⟨⟨⟨h1,h2⟩,h3,h4⟩,h⟩]
     .rw[ag h,ag λg=>h g.2]
    .rw[an h4,kf,ag λg=>h4 g.1.2.2]
   .rw[kf,ag λg=>h3 g.1.2.1]
  .rw[kf,ag λg=>h2 g.1.1.2]
 .rw[kf,ag λg=>h1 g.1.1.1]
theorem awG{X α γ:Type}{l:List α}(hn:l.length<9223372036854775808){F:X->(X->Option (γ×Bool×Unit))->Option (γ×Bool×Unit)}(st:Nat->X)(p:α->Bool)(e:Nat->γ){d:γ}{z0:X}(hz:z0=st 0)
 (Dw:∀again:X->Option (γ×Bool×Unit),F (st l.length) again=some (d,false,()))
 (tC:∀i (hi:i<l.length),∀again:X->Option (γ×Bool×Unit),F (st i) again=bif p l[i]then some (e i,true,())else again (st (i+1))):
 ∃x,aj.aY F z0=some (x,l.any p,()):=by
 rcases ak4 hn st p (λi=>some (e i,true,())) hz Dw tC with⟨h1,i,h2,h3⟩|⟨h1,h3⟩
 .exact⟨_,by rw[h1];exact h3⟩
 .exact⟨_,by rw[h1];exact h3⟩
theorem XI{l:List bf}{id:Int}(hl:l.length<=1000000):∃x,JT l id=some (x,l.any λy=>y.1==id,()):=by
 show ∃x,jM aj l id=_;unfold jM;refine awG (l:=l) (by omega) (λi=>((i:Int),())) (λy=>y.1==id) (λi=>l.getD i default) (z0:=(0,())) rfl (λagain=>dZ _ _) (λi hi again=>?_);show aj.af (decide ((i:Int)<(l.length:Int))) (aj.aI l (i:Int) _) _=_;have e:l.getD i default=l[i]:=by rw[eQ,aw hi];rfl
 rw[dE hi,bO hi,cU i (by omega),e]
theorem acU{a}(h:a.2.2.2.1.length<=1000):(bY a).length<=1000:=by
 unfold bY;split
 .simp
 .rw[bh];exact h
theorem ak5{l:List aD}(hc:∀a∈l,a.2.2.2.1.length<=1000):(l.flatMap bY).length<=1000*l.length:=by
 induction l with
 |nil=>simp
 |cons a l ih=>
  rw[cw,ap,aJ];have h1:=acU (hc a eH);have h2:=ih λb hb=>hc b (cP _ hb)
  omega
def chP(l:List bz)(i:Nat)(x:bz):Bool:=decide (x.1≠x.2.1/\(∀(h0:0<i) (hi:i-1<l.length),oJ l[i-1].1 x.1))
theorem azc(a b:ar):(dq false ((a.1==b.1)&&(a.2.1==b.2.1)))=decide (a=b):=by obtain⟨a1,a2,_⟩:=a;obtain⟨b1,b2,_⟩:=b;apply tW.2;rw[bb];show((a1==b1)&&(a2==b2))=true↔_;simp
theorem aiy{l:List bz}(hl:l.length<=1000000):aoI l=some (Dx l (chP l)):=by
 show AK aj l=_;unfold AK;refine(acT (l:=l) (by omega) (λi=>((i:Int),())) (chP l) (r:=some true) (no:=some false) rfl (λagain=>dZ _ _) λi hi again=>?_).trans (by cases Dx l (chP l)<;>rfl);refine Jp hi ?_;rw[bO hi];refine bw λk hk=>?_
 have k1:k (true,())=some false:=by subst hk;rfl
 have k2:k (false,())=again (((i+1:Nat):Int),()):=by rw[<-cU i (by omega)];subst hk;rfl
 show aj.af (dq false ((l[i].1.1==l[i].2.1.1)&&(l[i].1.2.1==l[i].2.1.2.1))) _ _=_;rw[azc];unfold chP;refine du (λh1=>?_) λh1=>?_
 .rw[k1,an (λh=>h.1 h1)];rfl
 .by_cases h0:0<i
  .rw[eR (by show(0:Int)<(i:Int);omega)];show aj.aI _ (IntKind.i64.wrap ((i:Int)-1)) _=_;rw[Hs i h0 (by rw[ic];omega),bO (by omega),ai (CT _ _)];by_cases h3:oJ l[i-1].1 l[i].1
   .rw[aq h3];refine k2.trans ?_;rw[aq ⟨h1,λ_ _=>h3⟩];rfl
   .rw[an h3];refine k1.trans ?_;rw[an λh=>h3 (h.2 h0 (by omega))];rfl
  .rw[cY (by show ¬(0:Int)<(i:Int);omega),k2,aq ⟨h1,λh=>absurd h h0⟩];rfl
theorem ai9(z):0<=km z:=by unfold km;split<;>omega
theorem IP{z}(h:¬cu z):cZ z=(0,7,()):=by unfold cZ;rw[ag h]
theorem IQ{z}(h:cu z):cZ z=(z,0,()):=by unfold cZ;rw[ah h]
theorem azr{a}(h:cu a):Md a=some (cZ (km a)):=by
 show vo aj a=_;unfold vo km;by_cases h0:a<0
 .have e:=JM (a:=0) (b:=a) (by unfold cu;omega) h;rw[As]at e;rw[eR h0,ah h0,ai e]
 .rw[cY h0,ag h0,IQ h]
def FJ(l:List pW):Int:=iM (λx=>km x.2.1) l
theorem Uo{α}{f}:∀{l:List α},(∀x∈l,0<=f x)->0<=iM f l
 |[],_=>by rw[EJ];omega
 |x::l,h=>by
  have:=h x (by simp);have:=Uo (l:=l) λy hy=>h y (by simp[hy])
  rw[gB];omega
theorem Up(l):0<=FJ l:=Uo λx _=>ai9 _
def afT(l:List pW):Int×Int×Unit:=if Fk l=true then cZ (FJ l)else(0,3,())
theorem aiA{z}(h:9223372036854775807<z):¬cu z:=by unfold cu;omega
theorem as9{l}(ho:Vq l)(hl:l.length<=1000):akH l=some (afT l):=by
 show BI aj l=_;unfold BI afT;rw[ai (Sf (l:=l) (by omega))];cases hv:Fk l with
 |false=>rw[aQ (by rfl)];rfl
 |true=>
  rw[az (by rfl),ah rfl];refine(ni (l:=l) (s0:=[]) (by omega) (λi (z:List Int)=>((i:Int),z,())) (λi z=>z.length<=i/\(∀x∈z,cu x)/\0<=z.sum) (λl' z=>some (cZ (z.sum+FJ l'))) rfl ⟨au _,by simp,by simp⟩ ?_ ?_).trans ?_
  .rintro z ⟨h1,h2,h3⟩ again;refine IZ ?_;rw[ai (tZ h2 (by omega))];show some (cZ z.sum)=some (cZ (z.sum+0));rw[Int.add_zero]
  .rintro i hi z ⟨h1,h2,h3⟩ again ha;show aj.af (decide ((i:Int)<(l.length:Int))) (aj.aI l (i:Int) _) _=_;have hx:=ho _ (aG hi);have hn:=ai9 l[i].2.1;have hg:=Up (l.drop (i+1));rw[dE hi,bO hi];show aj.ae (Md l[i].2.1) _=some (cZ (z.sum+(km l[i].2.1+FJ (l.drop (i+1)))));rw[ai (azr hx)];by_cases hI:cu (km l[i].2.1)
   .rw[IQ hI,az (by rfl)];show aj.bi (z.length+1) 8 (again (IntKind.i64.wrap ((i:Int)+1),z++[km l[i].2.1],()))=_;rw[dm (by omega) (by omega),cU i (by omega)];refine(ha (z++[km l[i].2.1]) ⟨by simp;omega,λx hx=>?_,by simp;omega⟩).trans ?_
    .rcases aT.1 hx with hx|hx
     .exact h2 x hx
     .simp only[aC]at hx;subst hx;exact hI
    .rw[nJ,gN,F5];congr 2;omega
   .rw[IP hI,aQ (by rfl),IP (aiA (by unfold cu at hI;omega))]
  .rw[F5,sP]
def aiB(l:List bC)(us:List ar):Int:=iM (λu=>FJ (qB l u)) us
def zQ(l:List bC)(us:List ar):Int×Int×Unit:=if tn l=true then cZ (aiB l us)else(0,3,())
theorem aiC{l}(h:tn l=true)(u):Fk (qB l u)=true:=aq (azl (bM h) u)
theorem asA(l)(us):0<=aiB l us:=Uo λu _=>Up _
theorem apb{l}{us}(hb:okB l)(hl:us.length<=100000):Pa l us=some (zQ l us):=by
 show xI aj l us=_;unfold xI zQ;rw[ai (GL hb)];cases hv:tn l with
 |false=>rw[aQ (by rfl)];rfl
 |true=>
  rw[az (by rfl),ah rfl];refine(ni (l:=us) (s0:=[]) (by omega) (λi (z:List Int)=>((i:Int),z,())) (λi z=>z.length<=i/\(∀x∈z,cu x)/\0<=z.sum) (λl' z=>some (cZ (z.sum+aiB l l'))) rfl ⟨au _,by simp,by simp⟩ ?_ ?_).trans ?_
  .rintro z ⟨h1,h2,h3⟩ again;refine IZ ?_;rw[ai (tZ h2 (by omega))];show some (cZ z.sum)=some (cZ (z.sum+0));rw[Int.add_zero]
  .rintro i hi z ⟨h1,h2,h3⟩ again ha;show aj.af (decide ((i:Int)<(us.length:Int))) (aj.aI us (i:Int) _) _=_;obtain⟨o1,o2⟩:=N4 hb us[i];have hn:=Up (qB l us[i]);have hg:=asA l (us.drop (i+1));rw[dE hi,bO hi,ai (Se hb),ai (as9 o1 (by omega))];show _=some (cZ (z.sum+(FJ (qB l us[i])+aiB l (us.drop (i+1)))));unfold afT;rw[ah (aiC hv _)];by_cases hI:cu (FJ (qB l us[i]))
   .rw[IQ hI,az (by rfl)];show aj.bi (z.length+1) 8 (again (IntKind.i64.wrap ((i:Int)+1),z++[FJ (qB l us[i])],()))=_;rw[dm (by omega) (by omega),cU i (by omega)];refine(ha (z++[FJ (qB l us[i])]) ⟨by simp;omega,λx hx=>?_,by simp;omega⟩).trans ?_
    .rcases aT.1 hx with hx|hx
     .exact h2 x hx
     .simp only[aC]at hx;subst hx;exact hI
    .rw[nJ,gN,F5];congr 2;omega
   .rw[IP hI,aQ (by rfl),IP (aiA (by unfold cu at hI;omega))]
  .rw[F5,sP]
def vu(id:Int)(l:List aD):List ar:=(l.filter (rz id)).flatMap bY
theorem afU{id}{l}(h:∀a∈l,a.2.2.2.1.length<=1000)(hl:l.length<=20):(vu id l).length<=20000:=by
 have h1:=ak5 (l:=l.filter (rz id)) λa ha=>h a (aM.1 ha).1
 have h2:=cW (rz id) l;unfold vu;omega
theorem apc{s}{id}(hA:rC s.2.2.2.2.1)(hl:s.2.2.2.2.1.length<=20):afV s id=some (vu id s.2.2.2.2.1):=by
 show yV aj s id=_;unfold yV;have hm:∀a∈s.2.2.2.2.1.filter (rz id),a.2.2.2.1.length<=1000:=λa ha=>hA.1 a (aM.1 ha).1
 have N1:(s.2.2.2.2.1.filter (rz id)).length<=20:=cp (cW _ _) hl;rw[ai (aaP hA)];unfold vu;generalize s.2.2.2.2.1.filter (rz id)=l at *;refine(ni (l:=l) (s0:=[]) (by omega) (λi (z:List ar)=>((i:Int),l,z,())) (λi z=>z.length<=1000*i) (λl' z=>some (z++l'.flatMap bY)) rfl (au _) ?_ ?_).trans (by rw[dA])
 .intro z _ again;refine IZ ?_;rw[List.flatMap_nil,cy]
 .intro i hi z hz again ha;show aj.af (decide ((i:Int)<(l.length:Int))) (aj.aI l (i:Int) λ_=>aj.cr l (Int.toNat (i:Int)) _) _=_;have hc:=hm _ (aG hi);have hul:=Fm hc;rw[dE hi,bO hi,iR hi,ai (yr hc)];show aj.bi (z.length+(bY l[i]).length) 16 (again (IntKind.i64.wrap ((i:Int)+1),l,z++bY l[i],()))=_;rw[dm (by omega) (by omega),cU i (by omega),ha _ (by rw[ap];omega),cw,bq]
def uC(s:aV)(id:Int):Int×Int×Unit:=zQ (bk s) (vu id s.2.2.2.2.1)
theorem afW{s}{id}(hA:rC s.2.2.2.2.1)(hl:s.2.2.2.2.1.length<=20)(hb:okB (bk s)):Pb s id=some (uC s id):=by show uk aj s id=_;unfold uk;have:=afU (id:=id) hA.1 hl;have e:Pa s.2.2.2.2.2.2.2.2.1 (vu id s.2.2.2.2.1)=some (uC s id):=apb hb (by omega);rw[ai (apc hA hl),ai e]
def ch(s:aV):List bz:=s.2.2.2.2.2.1
def aiD(l:List bz)(u:ar):Option bz:=l.find? λc=>decide (c.1=u)
def abO:bz:=((0,0,()),(0,0,()),false,())
theorem asB{l}{u}(hl:l.length<=1000000):afX l u=some (match aiD l u with|some i=>(i,true,())|none=>(abO,false,())):=by
 show yW aj l u=_;unfold yW
 have e1:iN u.1 u.2.1 l=some (zX (λc=>decide (c.1=u)) l,u):=by
  show cj aj u.1 u.2.1 l=_;unfold cj;refine ve hl (λc=>decide (c.1=u)) (λm (c:ar)=>Uq c.1 c.2.1 m) u λx _=>?_
  show some (dq false ((x.1.1==u.1)&&(x.1.2.1==u.2.1)),u)=_;rw[vd]
 have e0:ads l u=some (zX (λc=>decide (c.1=u)) l):=by show uD aj l u=_;unfold uD;rw[ai e1]
 rw[ai e0];unfold aiD;rcases lx (λc:bz=>decide (c.1=u)) l with⟨h1,h2⟩|⟨k,hk,h1,h2,_⟩
 .rw[h1,h2,aQ (by decide)];rfl
 .rw[h1,h2,cY (by omega),bO hk]
def BJ(l:List bz)(u:ar):ar×Int×Unit:=
 match aiD l u with
 |none=>((0,0,()),19,())
 |some c=>if c.2.2.1=true then(c.2.1,0,())else((0,0,()),20,())
theorem asC{l}{u}(hl:l.length<=1000000):Qg l u=some (BJ l u):=by
 show vR aj l u=_;unfold vR BJ;rw[ai (asB hl)];cases aiD l u with
 |none=>rfl
 |some c=>refine AP (by rfl) ?_;cases h:c.2.2.1<;>simp only[h]<;>rfl
def apd(m:aW)(day:Int):Int:=if m.2.2.1=1/\day<=m.2.2.2.1 then 0 else 18
theorem asD(m)(day):afY m day=some (apd m day):=by
 show yX aj m day=_;unfold yX apd
 have e:∃n,afZ m day=some n/\(n=0↔¬(m.2.2.1=1/\day<=m.2.2.2.1)):=by
  show ∃n,yY aj m day=some n/\_;unfold yY;by_cases h1:m.2.2.1=1
  .by_cases h2:m.2.2.2.1<day
   .refine⟨0,zr true (λk=>?_) rfl,by omega⟩;rw[iZ h1,aq h2]
   .refine⟨_,zr false (λk=>?_) rfl,?_⟩
    .rw[iZ h1,an h2]
    .split<;>omega
  .refine⟨0,zr true (λk=>fV h1 _ _) rfl,by omega⟩
 obtain⟨n,e1,e2⟩:=e;rw[ai e1];refine dQ (λh=>?_) λh=>?_
 .rw[ag (e2.1 h)]
 .rw[ah (Dh.1 λhh=>h (e2.2 hh))]
def aiE(cap used more:Int):Int:=if used<0\/more<0 then 2 else if cap<used+more then 16 else 0
theorem asE{m}{used more}(hu:cu used)(hm:cu more)(hc:cu m.2.1):Qh m used more=some (aiE m.2.1 used more):=by
 show vS aj m used more=_;unfold vS aiE
 have e:XM used [more]=some (if more<used then more else used):=by
  show rQ aj used [more]=_;unfold rQ;refine ni (l:=[more]) (s0:=()) (by simp) (λi (_:Unit)=>((if i=0 then used else if more<used then more else used),(i:Int),())) (λ_ _=>True) (λ_ _=>some (if more<used then more else used)) rfl trivial ?_ ?_
  .intro _ _ again;rfl
  .intro i hi _ _ again ha;have:i=0:=by simp at hi;exact hi
   subst this;exact ha () trivial
 rw[ai e];by_cases h1:used<0\/more<0
 .rw[eR (by split<;>omega),ah h1]
 .have e2:=tZ (l:=[used,more]) (λx hx=>by
   simp only[aF,dV,lO]at hx;rcases hx with rfl|rfl
   .exact hu
   .exact hm) (by simp)
  have es:[used,more].sum=used+more:=by simp
  rw[es]at e2;rw[cY (by split<;>omega),ag h1,ai e2];refine zr (decide (m.2.1<used+more)) (λk=>?_) ?_
  .by_cases hI:cu (used+more)
   .rw[IQ hI];rfl
   .rw[IP hI,aQ (by rfl),aq (by unfold cu at *;omega)]
  .show aj.af (decide (m.2.1<used+more)) (some 16) (some 0)=_;rw[azs];split<;>rfl
instance (a b:bf):Decidable (CG a b):=by unfold CG;infer_instance
instance (x:bf):Decidable (mK x):=by unfold mK;infer_instance
instance (l:List bf):Decidable (Fs l):=by unfold Fs;infer_instance
instance (l:List bg):Decidable (YG l):=by unfold YG jR;infer_instance
def XU(p:List aR)(h:List bg)(u:ar):fS:=(u,max 0 (ig p u),eL h u,())
abbrev PHR:=List aR×List bg×List fS
def sU(z:PHR)(u:ar):PHR:=if max 0 (ig z.1 u)=0/\eL z.2.1 u=[]then z else((rI z.1 [(u,-(max 0 (ig z.1 u)),())]).1,eI z.2.1 u,z.2.2++[XU z.1 z.2.1 u])
theorem SA{p}(hp:ya p=true)(hf:u7 p)(u)(c)(hc:c=max 0 (ig p u)):
 (rI p [(u,-c,())]).2.1=0/\ya (rI p [(u,-c,())]).1=true/\u7 (rI p [(u,-c,())]).1/\
 (rI p [(u,-c,())]).1.length<=p.length+1/\
 (∀x,ig (rI p [(u,-c,())]).1 x=if x=u then ig p u-c else ig p x)/\
 iM Vw (rI p [(u,-c,())]).1+c=iM Vw p:=by
 have hs:∀x,mR (p++[(u,-c,())]) x=if x=u then ig p u-c else ig p x:=λx=>by
  rw[adf,uA,<-M6 (YI hp)];show ig p x+((if u=x then -c else 0)+0)=_;by_cases h:x=u
  .subst h;rw[ah rfl,ah rfl];omega
  .rw[ag (jf h),ag h];omega
 have hI:∀x,cu (mR (p++[(u,-c,())]) x):=λx=>by
  have h1:=IN hf x;have h2:=IN hf u;rw[hs x];split
  .unfold cu at *;omega
  .exact h1
 have h0:(rI p [(u,-c,())]).2.1=0:=by unfold rI;rw[ah hp];exact Ld _ λx _=>hI x
 obtain⟨_,h8,h9⟩:=RF h0;refine⟨h0,by rw[h8];exact RJ (xr _),by rw[h8];exact YH h9,Sy _ _,λx=>by rw[h8,ade,hs x],?_⟩;rw[h8,adg,sm,gB,EJ];show iM Vw p+(-c+0)+c=iM Vw p;omega
structure GOk(p0:List aR)(h0:List bg)(z:PHR)(us:List ar):Prop where
 p:ya z.1=true
 f:u7 z.1
 h:HS z.2.1
 lp:z.1.length<=p0.length+us.length
 lh:z.2.1.length<=h0.length
 cash:iM Vw z.1+iM (λr:fS=>r.2.1) z.2.2=iM Vw p0
 je:∀k,adC k z.2.1+iM (λr:fS=>asR k r.2.2.1) z.2.2=adC k h0
 get:∀x,x∉us->ig z.1 x=ig p0 x/\eL z.2.1 x=eL h0 x
 len:z.2.2.length<=us.length
 ret:∀r∈z.2.2,0<=r.2.1/\r.2.1<=9223372036854775807/\uS r.2.2.1
theorem akR{p0}{h0}{z}{us}(G:GOk p0 h0 z us)(u):GOk p0 h0 (sU z u) (us++[u]):=by
 have hap:(us++[u]).length=us.length+1:=by simp
 have az6:=qF G.h.2 u;unfold sU;split
 .exact⟨G.p,G.f,G.h,by have:=G.lp;omega,G.lh,G.cash,G.je,λx hx=>G.get x λh=>hx (by simp[h]),by have:=G.len;omega,G.ret⟩
 .obtain⟨_,b2,b3,b4,b5,b6⟩:=SA G.p G.f u _ rfl;have hg:=IN G.f u;refine⟨b2,b3,adB G.h u,by dsimp only;have:=G.lp;omega,cp (cW _ _) G.lh,?_,λk=>?_,λx hx=>?_,by rw[ap];have:=G.len;simp;omega,λr hr=>?_⟩
  .dsimp only;rw[sm,gB,EJ];have:=G.cash;show iM Vw (rI z.1 _).1+(iM _ z.2.2+(max 0 (ig z.1 u)+0))=_;omega
  .dsimp only;rw[sm,gB,EJ];have h1:=G.je k;have h2:=adD G.h.1 u k;show adC k (eI z.2.1 u)+(iM _ z.2.2+(asR k (eL z.2.1 u)+0))=_;omega
  .have hxu:x≠u:=λe=>hx (by simp[e])
   have:=G.get x λh=>hx (by simp[h])
   refine⟨?_,?_⟩
   .rw[<-this.1];dsimp only;rw[b5,ag hxu]
   .rw[<-this.2];dsimp only;rw[Z5,ag hxu]
  .rcases aT.1 hr with hr|hr
   .exact G.ret r hr
   .simp only[aC]at hr;subst hr;refine⟨?_,?_,az6⟩
    .show 0<=max 0 (ig z.1 u);omega
    .show max 0 (ig z.1 u)<=_;unfold cu at hg;omega
theorem aiN{p0}{h0}:∀(vs us:List ar) {z:PHR},GOk p0 h0 z us->GOk p0 h0 (vs.foldl sU z) (us++vs)
 |[],us,z,G=>by rw[cy];exact G
 |u::vs,us,z,G=>by have:=aiN vs (us++[u]) (akR G u);rw[bq]at this;exact this
theorem agi{p0}{h0:List bg}(hp:ya p0=true)(hf:u7 p0)(hh:HS h0):GOk p0 h0 (p0,h0,[]) []:=⟨hp,hf,hh,by simp,au _,by show iM Vw p0+0=_;omega,λk=>by show adC k h0+0=_;omega,λx _=>⟨rfl,rfl⟩,au _,λr hr=>by cases hr⟩
theorem ap0{s}{u}(hp:(pu s).length<=1000000)(hh:lc (ho s)):Z6 s u=some (XU (pu s) (ho s) u):=by
 show HC aj s u=_;unfold HC;have e1:pw s.2.2.2.2.2.2.2.2.2.2.1 u=some (ig (pu s) u):=Jq hp;have e2:Il s.2.2.2.2.2.2.2.2.2.2.2.1 u=some (eL (ho s) u):=Ac hh;rw[ai e1,ai e2];unfold XU;have:(if ig (pu s) u>0 then ig (pu s) u else 0)=max 0 (ig (pu s) u):=by split<;>omega
 rw[this]
def zst(s:aV)(w:List aD)(p:List aR)(h:List bg)(out:List fS):=(s.1,s.2.1,s.2.2.1,s.2.2.2.1,s.2.2.2.2.1,s.2.2.2.2.2.1,s.2.2.2.2.2.2.1,s.2.2.2.2.2.2.2.1,s.2.2.2.2.2.2.2.2.1,s.2.2.2.2.2.2.2.2.2.1,p,h,w,out,())
def zsu(s:aV)(w:List aD)(p:List aR)(h:List bg)(out:List fS)(v:List ar):=(s.1,s.2.1,s.2.2.1,s.2.2.2.1,s.2.2.2.2.1,s.2.2.2.2.2.1,s.2.2.2.2.2.2.1,s.2.2.2.2.2.2.2.1,s.2.2.2.2.2.2.2.2.1,s.2.2.2.2.2.2.2.2.2.1,p,h,w,out,v,())
theorem asT{l}{u}(h:lc l)(hi:DY l=true):adF l u []=some (eI l u,0,()):=by
 show EQ aj l u []=_;unfold EQ;have e1:RH l=some true:=by rw[JX h,hi]
 have e2:aiO []=some true:=Sr (by simp);refine bw λk hk=>?_
 have kk:k (0,())=some (eI l u,0,()):=by
  subst hk;show aj.ae (GW l u [] 0) _=_;have e3:GW l u [] 0=some (eI l u,0,()):=by show lQ aj l u [] 0=_;unfold lQ;rw[ai e1,az (by rfl),az (by rfl),ai (axa h)]
  rw[ai e3]
 rw[ai e2,az (by rfl)];exact kk
theorem agj{s}{u}{c}{ab2}(hp:ya (pu s)=true)(hi:DY (ho s)=true)(hf:u7 (pu s))(hl:(pu s).length<=900000)(hh:lc (ho s))(hc:c=max 0 (ig (pu s) u)):
 Nd s (u,c,ab2,())=some (gE s (rI (pu s) [(u,-c,())]).1 (eI (ho s) u),0,()):=by
 show tD aj s (u,c,ab2,())=_;unfold tD;have hg:=IN hf u;have hcI:cu (-c):=by unfold cu at *;omega
 have ew:IntKind.i64.wrap (0-c) = -c:=by rw[bI _ (by unfold cu at hg;omega)];omega
 have e1:AL s.2.2.2.2.2.2.2.2.2.2.1 [(u,-c,())]=some (rI (pu s) [(u,-c,())]):=adr hf (λx hx=>by simp only[aC]at hx;subst hx;exact hcI) (by show(pu s).length+1<=_;omega);obtain⟨b0,_⟩:=SA hp hf u c hc;have e2:adF s.2.2.2.2.2.2.2.2.2.2.2.1 u []=some (eI (ho s) u,0,()):=asT (l:=ho s) (u:=u) hh hi;show aj.ae (AL s.2.2.2.2.2.2.2.2.2.2.1 [(u,IntKind.i64.wrap (0-c),())]) _=_;rw[ew,ai e1];refine bw λk hk=>?_
 rw[aQ (by rw[b0];rfl)];refine yu e2 ?_;subst hk;rfl
theorem asU{z}(h:DY z.2.1=true)(u):DY (sU z u).2.1=true:=by
 unfold sU;split
 .exact h
 .exact akS h u
theorem ap1:∀(vs:List ar) {z:PHR},DY z.2.1=true->DY (vs.foldl sU z).2.1=true
 |[],_,h=>h
 |u::vs,z,h=>ap1 vs (asU h u)
def az7:aV:=(0,[],[],[],[],[],[],[],[],[],[],[],())
def ki(s:aV)(us:List ar):PHR:=us.foldl sU (pu s,ho s,[])
def SU(s:aV)(id:Int):aV×(List fS)×Int×Unit:=if ya (pu s)=true/\DY (ho s)=true then(gE s (ki s (vu id s.2.2.2.2.1)).1 (ki s (vu id s.2.2.2.2.1)).2.1,(ki s (vu id s.2.2.2.2.1)).2.2,0,())else(az7,[],3,())
theorem agk(s)(us)(u):ki s (us++[u])=sU (ki s us) u:=by unfold ki;rw[Dj];rfl
theorem agl(l:List aD)(i:Nat)(hi:i<l.length):(l.take (i+1)).flatMap bY=(l.take i).flatMap bY++bY l[i]:=by rw[ax hi,jK];simp
theorem Qi{l:List aD}(h:∀a∈l,a.2.2.2.1.length<=20)(hl:l.length<=20):(l.flatMap bY).length<=400:=by
 have key:∀(l:List aD),(∀a∈l,a.2.2.2.1.length<=20)->(l.flatMap bY).length<=20*l.length:=by
  intro l;induction l with
  |nil=>intro _;simp
  |cons a l ih=>
   intro h;have h1:=ih λx hx=>h x (by simp[hx])
   have h2:(bY a).length<=20:=by
    unfold bY;split
    .simp
    .rw[bh];exact h a (by simp)
   rw[cw,ap,aJ];omega
 have:=key l h;omega
theorem akT{s}(hp:ya (pu s)=true)(hi:DY (ho s)=true)(hf:u7 (pu s))(hl:(pu s).length<=1000)(hh:lc (ho s)){us:List ar}(hu:us.length<=1000):
 ya (ki s us).1=true/\DY (ki s us).2.1=true/\u7 (ki s us).1/\(ki s us).1.length<=2000/\lc (ki s us).2.1/\(ki s us).2.2.length<=1000/\jR ((ki s us).2.1.map (·.1)):=by
 have G:=aiN us [] (agi hp hf ⟨(bM hi).2,hh.1⟩);rw[dA]at G;exact⟨G.p,ap1 us hi,G.f,by have:=G.lp;show(us.foldl sU _).1.length<=_;omega,⟨G.h.2,cp G.lh hh.2⟩,cp G.len hu,G.h.1⟩
theorem aqU{s:aV}{id:Int}(hf:u7 (pu s))(hl:(pu s).length<=1000)(hh:lc (ho s))(hA:∀a∈s.2.2.2.2.1,a.2.2.2.1.length<=20)(hAl:s.2.2.2.2.1.length<=20):Is s id=some (SU s id):=by
 show BP aj s id=_;unfold BP;have hAs:rC s.2.2.2.2.1:=⟨λa ha=>by have:=hA a ha;omega,by omega⟩;have e1:L4 s.2.2.2.2.2.2.2.2.2.2.1=some (ya (pu s)):=aaT (by show(pu s).length<=_;omega);have e2':RH s.2.2.2.2.2.2.2.2.2.2.2.1=some (DY (ho s)):=JX hh;refine bw λk17 hk=>?_
 have kt:¬(ya (pu s)=true/\DY (ho s)=true)->k17 (true,())=some (SU s id):=by intro hn;subst hk;unfold SU;rw[ag hn];rfl
 have kf:ya (pu s)=true->DY (ho s)=true->k17 (false,())=some (SU s id):=by
  intro hp hi;subst hk;unfold SU;rw[ah ⟨hp,hi⟩];show aj.af false _ (aj.ae (Yj s.2.2.2.2.1 id) _)=_;rw[az rfl,ai (aaP hAs)];unfold vu;have Vv:∀a∈s.2.2.2.2.1.filter (rz id),a.2.2.2.1.length<=20:=λa ha=>hA a (aM.1 ha).1
  have a0W:(s.2.2.2.2.1.filter (rz id)).length<=20:=cp (cW _ _) hAl;generalize s.2.2.2.2.1.filter (rz id)=v2 at *;have hul:=Qi Vv a0W;refine qi (N:=v2.length) (by omega) (λi=>((i:Int),zst s v2 (ki s ((v2.take i).flatMap bY)).1 (ki s ((v2.take i).flatMap bY)).2.1 (ki s ((v2.take i).flatMap bY)).2.2)) _ rfl ?_ ?_
  .intro again;show aj.af (decide ((v2.length:Int)<(v2.length:Int))) _ _=_;rw[dZ,br];rfl
  .intro i hi2 again ha;show aj.af (decide ((i:Int)<(v2.length:Int))) _ _=_;rw[dE hi2];show aj.aI v2 (i:Int) _=_;have XV:=Vv _ (aG hi2);rw[bO hi2];show aj.cr v2 (Int.toNat (i:Int)) _=_;rw[iR hi2,ai (yr (by omega))];have hlt:((v2.take i).flatMap bY).length<=400:=Qi (λa ha=>Vv a (fh ha)) (by rw[aX];omega);rw[agl v2 i hi2]at ha
   have hvl:(bY v2[i]).length<=20:=by
    unfold bY;split
    .simp
    .rw[bh];exact XV
   generalize bY v2[i]=v6 at *;generalize (v2.take i).flatMap bY=us at *;refine qi (N:=v6.length) (by omega) (λk=>((k:Int),zsu s v2 (ki s (us++v6.take k)).1 (ki s (us++v6.take k)).2.1 (ki s (us++v6.take k)).2.2 v6)) _ (by rw[List.take_zero,cy];rfl) ?_ ?_
   .intro bp;show aj.af (decide ((v6.length:Int)<(v6.length:Int))) _ _=_;rw[dZ,br];dsimp only;rw[cU i (by omega)];exact ha
   .intro k yd bp ha2;show aj.af (decide ((k:Int)<(v6.length:Int))) _ _=_;rw[dE yd];refine bw λva OA=>?_
    have es:us++v6.take (k+1)=(us++v6.take k)++[v6[k]]:=by rw[ax yd,bq]
    have asV:va (zsu s v2 (sU (ki s (us++v6.take k)) v6[k]).1 (sU (ki s (us++v6.take k)) v6[k]).2.1 (sU (ki s (us++v6.take k)) v6[k]).2.2 v6)=some (gE s (ki s (v2.flatMap bY)).1 (ki s (v2.flatMap bY)).2.1,(ki s (v2.flatMap bY)).2.2,0,()):=by subst OA;rw[es,agk]at ha2;dsimp only;rw[cU k (by omega)];exact ha2
    clear OA ha2 ha;show aj.aI v6 (k:Int) _=_;rw[bO yd];show aj.cr v6 (Int.toNat (k:Int)) _=_;rw[iR yd];have hlen:(us++v6.take k).length<=1000:=by rw[ap,aX];omega
    obtain⟨gp,gi,gf,gl,gh,go,_⟩:=akT hp hi hf hl hh hlen;generalize ki s (us++v6.take k)=Z at *;obtain⟨p,h,out⟩:=Z;generalize v6[k]=u at *;simp only at gp gi gf gl gh go;have e3:Z6 (gE s p h) u=some (XU p h u):=ap0 (s:=gE s p h) (by show p.length<=_;omega) gh;show aj.ae (Z6 (gE s p h) u) _=_;rw[ai e3];refine bw λk16 az8=>?_
    have az9:¬(max 0 (ig p u)=0/\eL h u=[])->k16 (v2,out,v6,())=some (gE s (ki s (v2.flatMap bY)).1 (ki s (v2.flatMap bY)).2.1,(ki s (v2.flatMap bY)).2.2,0,()):=by
     intro hne;subst az8;show aj.ae (Nd (gE s p h) (u,max 0 (ig p u),eL h u,())) _=_;have h2:=agj (s:=gE s p h) (u:=u) (c:=max 0 (ig p u)) (ab2:=eL h u) gp gi gf (by show p.length<=_;omega) gh (show max 0 (ig p u)=max 0 (ig (pu (gE s p h)) u)from rfl);rw[ai h2,az (by rfl)];show aj.bi (out.length+1) 48 (va (zsu s v2 (rI p [(u,-(max 0 (ig p u)),())]).1 (eI h u) (out++[XU p h u]) v6))=_;rw[dm (by omega) (by omega)];have:sU (p,h,out) u=((rI p [(u,-(max 0 (ig p u)),())]).1,eI h u,out++[XU p h u]):=by unfold sU;rw[ag hne]
     rw[this]at asV;exact asV
    clear az8
    have skip:(max 0 (ig p u)=0/\eL h u=[])->va (zsu s v2 p h out v6)=some (gE s (ki s (v2.flatMap bY)).1 (ki s (v2.flatMap bY)).2.1,(ki s (v2.flatMap bY)).2.2,0,()):=by
     intro hy;have:sU (p,h,out) u=(p,h,out):=by unfold sU;rw[ah hy]
     rw[this]at asV;exact asV
    show aj.af (max 0 (ig p u)==0) (aj.af (((eL h u).length:Int)==0) (va (zsu s v2 p h out v6)) (k16 (v2,out,v6,()))) (k16 (v2,out,v6,()))=_;refine dQ (λh1=>?_) λh1=>?_
    .by_cases h2:eL h u=[]
     .rw[aQ (by rw[h2];rfl)];exact skip ⟨h1,h2⟩
     .rw[az (by
       cases hl:eL h u with
       |nil=>exact absurd hl h2
       |cons x xs=>simp;omega)]
      exact az9 λhh=>h2 hh.2
    .exact az9 λhh=>h1 hh.1
 clear hk;rw[ai e1];cases hp:ya (pu s)with
 |false=>rw[aQ (by rfl)];exact kt λh=>by rw[hp]at h;cases h.1
 |true=>
  rw[az (by rfl),ai e2'];cases hi:DY (ho s)with
  |false=>exact kt λh=>by rw[hi]at h;cases h.2
  |true=>exact kf hp hi
theorem asG{l}{f t}(h:lc l)(hl:l.length<=900):Pc l f t=some (PI l f t):=by
 show BM aj l f t=_;unfold BM PI;have hf:=qF h.1 f;rw[ai (JX h)];by_cases hi:DY l=true
 .have hs:=asF hi;rw[hi,az (by rfl),ah rfl,vd];by_cases TX:f=t
  .rw[aq TX,aQ rfl,ah TX]
  .rw[an TX,az rfl,ag TX,ai (Ac h)];by_cases h0:eL l t=[]
   .rw[ah h0,az (by rw[h0];rfl),ai (Ac h),ai (YE h hs (by simp)),ai (YE (Sw h (by omega) hs f Ad) (ab3 hs f []) (by have:=hf.1;omega))]
   .rw[ag h0,eR (by
     cases hh:eL l t with
     |nil=>exact absurd hh h0
     |cons x xs=>simp<;>omega)]
 .have hi:DY l=false:=by simpa using hi
  rw[hi,aQ (by rfl),ag (by decide)]
def vx(s:aV)(u:ar):Int:=
 match gP s.2.2.2.2.1 u.1 with
 |none=>11
 |some a=>if AN a u=true then(if a.2.2.1=1 then 17 else 0)else 11
def La(s:aV)(u:ar):aD:=(gP s.2.2.2.2.1 u.1).getD wU
structure OkP(s:aV):Prop where
 mL:s.2.1.length<=10
 mI:∀m∈s.2.1,cu m.2.1
 aA:rC s.2.2.2.2.1
 aL:s.2.2.2.2.1.length<=20
 aS:Yo s.2.2.2.2.1
 cL:(ch s).length<=100
 hb:okB (bk s)
 bl:(bk s).length<=64
 pf:u7 (pu s)
 pl:(pu s).length<=94
 hh:lc (ho s)
 hl:(ho s).length<=94
theorem ape{t}{id}{m}(h:mG t id=some m):m∈t:=bT h
theorem apf{t}{id}{a}(h:gP t id=some a):a∈t:=bT h
theorem adt{s}(O:OkP s)(u):adu s u=some (if vx s u=0 then(La s u,0,())else(wU,vx s u,())):=by
 show sD aj s u=_;unfold sD vx La;rw[ai (H' O.aA O.aS)];cases hc:gP s.2.2.2.2.1 u.1 with
 |none=>exact zr true (λk=>aQ (by rfl) _ _) rfl
 |some a=>
  have ha:=O.aA.1 _ (apf hc);refine zr (!(AN a u)) (λk=>?_) ?_
  .refine AP (by rfl) ?_;rw[ai (R9 ha)]
  .show aj.af (!(AN a u)) (some (wU,11,())) (aj.af (a.2.2.1==1) (some (wU,17,())) (some (a,0,())))=some (if(if AN a u=true then(if a.2.2.1=1 then(17:Int)else 0)else 11)=0 then(a,(0:Int),())else(wU,(if AN a u=true then(if a.2.2.1=1 then(17:Int)else 0)else 11),()));by_cases h1:AN a u=true
   .rw[h1,az (by rfl)];refine dQ (λh2=>?_) λh2=>?_
    .rw[ah rfl,ah h2,ag (by decide)]
    .rw[ah rfl,ag h2,ah rfl]
   .rw[ag h1,ag (by decide),aQ (by simpa using h1)]
def It(s:aV)(f:ar):Int:=if vx s f=0 then(match mG s.2.1 (La s f).2.1 with|none=>18|some m=>apd m s.1)else vx s f
theorem apg{s}(O:OkP s)(f):adv s f=some (It s f):=by
 show vU aj s f=_;unfold vU It;have hml:=O.mL;rw[ai (adt O f)];by_cases h:vx s f=0
 .rw[ah h,ah h,az (by rfl)];refine yu (ur (by omega)) ?_;cases mG s.2.1 (La s f).2.1 with
  |none=>rfl
  |some m=>refine AP (by rfl) ?_;rw[ai (asD m s.1)]
 .rw[ag h,ag h,fV h]
def FK(s:aV)(u:ar):Prop:=qB (bk s) u=[]/\ig (pu s) u=0/\eL (ho s) u=[]
instance (s:aV) (u:ar):Decidable (FK s u):=by unfold FK;infer_instance
theorem azt{α}(l:List α):((l.length:Int)==0)=decide (l=[]):=by
 cases l with
 |nil=>rfl
 |cons x xs=>simp;omega
theorem asH{s}(O:OkP s)(u:ar):Ur s u=some (decide (FK s u)):=by
 show yZ aj s u=_;unfold yZ;have Vz:=O.pl;have e1:L5 s.2.2.2.2.2.2.2.2.1 u=some (qB (bk s) u):=Se O.hb;have e2:pw s.2.2.2.2.2.2.2.2.2.2.1 u=some (ig (pu s) u):=Jq (by show(pu s).length<=_;omega);have e3:Il s.2.2.2.2.2.2.2.2.2.2.2.1 u=some (eL (ho s) u):=Ac O.hh;rw[ai e1,azt];by_cases h1:qB (bk s) u=[]
 .rw[aq h1,aQ rfl,ai e2];refine dQ (λh2=>?_) λh2=>?_
  .rw[ai e3,azt];congr 1;exact eF.2 ⟨λh=>⟨h1,h2,h⟩,λh=>h.2.2⟩
  .rw[an (p:=FK s u) λh=>h2 h.2.1]
 .rw[an h1,az rfl,an (p:=FK s u) λh=>h1 h.1]
def J5(s:aV)(f t:ar):Int:=
 if vx s t=0 then(
  match mG s.2.1 (La s t).2.1 with
  |none=>15
  |some m=>if m.2.2.1=0 then(if FK s t then(if(zQ (bk s) [f]).2.1=0 then(if(uC s m.1).2.1=0 then aiE m.2.1 (uC s m.1).1 (zQ (bk s) [f]).1 else(uC s m.1).2.1)else(zQ (bk s) [f]).2.1)else 21)else 15)
 else vx s t
theorem azu(z):cu (cZ z).1:=by
 unfold cZ;split
 .assumption
 .unfold cu;simp
theorem auF(l)(us):cu (zQ l us).1:=by
 unfold zQ;split
 .exact azu _
 .unfold cu;simp
theorem asI{s}(O:OkP s)(f t):agc s f t=some (J5 s f t):=by
 show y5 aj s f t=_;unfold y5 J5;have hml:=O.mL;rw[ai (adt O t)];by_cases h:vx s t=0;case neg=>rw[ag h,ag h,fV h]
 rw[ah h,ah h,az (by rfl)];show aj.ae (yv s.2.1 (La s t).2.1) _=_;rw[ai (ur (by omega))];cases hm:mG s.2.1 (La s t).2.1 with
 |none=>exact zr true (λk=>aQ (by rfl) _ _) rfl
 |some m=>
 have e:qe m=some (if m.2.2.1=0 then 0 else 15):=by
  show iQ aj m=_;unfold iQ;refine iY (λh3=>?_) λh3=>?_
  .rw[ah h3]
  .rw[ag h3]
 refine zr (!decide (m.2.2.1=0)) (λk=>?_) ?_
 .show aj.af (!true) _ (aj.ae (qe m) _)=_;rw[az (by rfl),ai e];by_cases h3:m.2.2.1=0
  .rw[ah h3,aq h3];rfl
  .rw[ag h3,an h3];rfl
 show aj.af (!decide (m.2.2.1=0)) (some (15:Int)) (aj.ae (Ur s t) _)=some (if m.2.2.1=0 then(if FK s t then(if(zQ (bk s) [f]).2.1=0 then(if(uC s m.1).2.1=0 then aiE m.2.1 (uC s m.1).1 (zQ (bk s) [f]).1 else(uC s m.1).2.1)else(zQ (bk s) [f]).2.1)else 21)else 15);by_cases h3:m.2.2.1=0;case neg=>rw[an h3,aQ (by rfl),ag h3]
 rw[aq h3,az (by rfl),ah h3,ai (asH O t)];by_cases h4:FK s t;case neg=>rw[an h4,aQ (by rfl),ag h4]
 have e5:Pa s.2.2.2.2.2.2.2.2.1 [f]=some (zQ (bk s) [f]):=apb O.hb (by simp);rw[aq h4,az (by rfl),ah h4,ai e5];by_cases h5:(zQ (bk s) [f]).2.1=0;case neg=>rw[fV h5,ag h5]
 rw[iZ h5,ah h5];show aj.ae (Pb s m.1) _=_;rw[ai (afW O.aA O.aL O.hb)];by_cases h6:(uC s m.1).2.1=0;case neg=>rw[fV h6,ag h6]
 rw[az (by simpa using h6),ah h6];show aj.ae (Qh m (uC s m.1).1 (zQ (bk s) [f]).1) _=_;rw[ai (asE (used:=(uC s m.1).1) (more:=(zQ (bk s) [f]).1) (auF _ _) (auF _ _) (O.mI m (ape hm)))]
def zUn:ar:=(0,0,())
def qG(s:aV)(f:ar):ar×Int×Unit:=if It s f=0 then(if(BJ (ch s) f).2.1=0 then(if J5 s f (BJ (ch s) f).1=0 then((BJ (ch s) f).1,0,())else(zUn,J5 s f (BJ (ch s) f).1,()))else(zUn,(BJ (ch s) f).2.1,()))else(zUn,It s f,())
theorem azv{s}(O:OkP s)(f):aph s f=some (qG s f):=by
 show EO aj s f=_;unfold EO qG;have hcl:=O.cL;rw[ai (apg O f)];by_cases h1:It s f=0;case neg=>rw[fV h1,ag h1];rfl
 have e:Qg s.2.2.2.2.2.1 f=some (BJ (ch s) f):=asC (by show(ch s).length<=_;omega);rw[iZ h1,ah h1,ai e];by_cases h2:(BJ (ch s) f).2.1=0;case neg=>rw[fV h2,ag h2];rfl
 rw[iZ h2,ah h2,ai (asI O f _)];by_cases h3:J5 s f (BJ (ch s) f).1=0;case neg=>rw[fV h3,ag h3];rfl
 rw[az (by simpa using h3),ah h3]
def Je(u:ar)(c:bz):Bool:=decide (c.1≠u)
theorem aiH(c)(u):Nb u.1 u.2.1 c=some (!(Je u c),u):=by show some (dq false ((c.1.1==u.1)&&(c.1.2.1==u.2.1)),u)=_;rw[vd];unfold Je;by_cases h:c.1=u<;>simp[h]
theorem azw{l}{u}(hl:l.length<=1000000):
 (ft u.1 u.2.1 l=some (-1,u)/\∀a∈l,Je u a=true)\/
 ∃i:Nat,i<l.length/\ft u.1 u.2.1 l=some ((i:Int),u)/\(∀a∈l.take i,Je u a=true)/\∀h:i<l.length,Je u l[i]=false:=by
 have e:ft u.1 u.2.1 l=some (zX (λc=>!(Je u c)) l,u):=by show de aj u.1 u.2.1 l=_;unfold de;exact ve hl (λc=>!(Je u c)) (λm (c:ar)=>Nb c.1 c.2.1 m) u λx _=>aiH x u
 rw[e];unfold zX;cases h:l.findIdx? λc=>!(Je u c)with
 |none=>rw[gz]at h;exact .inl ⟨rfl,λa ha=>by simpa using h a ha⟩
 |some k=>obtain⟨h1,h2,h3⟩:=eM.1 h;refine .inr ⟨k,h1,rfl,λa ha=>?_,λ_=>by simpa using h2⟩;obtain⟨j,hj,rfl⟩:=dJ.1 ha;rw[aX]at hj;have:=h3 j (by omega);rw[kW];simpa using this
theorem awP{l}{u}(hl:l.length<=1000000):ml u.1 u.2.1 l=some (l.filter (Je u),u):=by
 show da aj u.1 u.2.1 l=_;unfold da;rcases azw (u:=u) hl with⟨e,hall⟩|⟨i0,hi0,e,hp,hn⟩
 .rw[ai e,aQ (by rfl),lN.2 hall]
 .rw[ai e,az (show((i0:Int) == -1)=false by simp)];have auN:i0+1<=l.length:=hi0;have hf0:(l.take (i0+1)).filter (Je u)=l.take i0:=by rw[ax hi0,fu,lN.2 hp,bu,hn hi0];simp
  have hz:((i0:Int),IntKind.i64.wrap ((i0:Int)+1),u.1,u.2.1,l,())=(((i0:Nat):Int),((i0+1:Nat):Int),u.1,u.2.1,l,()):=by rw[cU i0 (by omega)]
  show aj.aY _ ((i0:Int),IntKind.i64.wrap ((i0:Int)+1),u.1,u.2.1,l,())=_;rw[hz];refine(iH (λz=>l.length+1-z.2.1.toNat) (λz=>∃(i j:Nat) (s:List bz),i<j/\j<=l.length/\s.length=l.length/\s.take i=(l.take j).filter (Je u)/\s.drop j=l.drop j/\z=((i:Int),(j:Int),u.1,u.2.1,s,())) (λ_=>some (l.filter (Je u),u)) ⟨i0,i0+1,l,by omega,auN,rfl,hf0.symm,rfl,rfl⟩ (by dsimp only;omega) ?_);rintro _ ⟨i,j,s,hij,hj,hs,ht,hd,rfl⟩ again ha;show aj.af (decide ((j:Int)<(s.length:Int))) _ _=_;by_cases h:j<s.length
  .have LY:j<l.length:=by omega
   have hx:s[j]=l[j]:=by
    have h1:(s.drop j)[0]?=(l.drop j)[0]?:=by rw[hd]
    rw[cF,cF,gY,aw h,aw LY]at h1;exact cJ h1
   rw[dE h];refine bw λk5 DX=>?_
   have kk:∀(i':Nat) (s':List bz),i'<j+1->s'.length=l.length->s'.take i'=(l.take (j+1)).filter (Je u)->s'.drop (j+1)=l.drop (j+1)->k5 ((i':Int),u.1,u.2.1,s',())=some (l.filter (Je u),u):=by intro i' s' g1 g2 g3 g4;subst DX;dsimp only;rw[cU j (by omega)];exact ha _ ⟨i',j+1,s',by omega,by omega,g2,g3,g4,rfl⟩ (by dsimp only;omega)
   clear DX ha
   have hd1:s.drop (j+1)=l.drop (j+1):=by
    have:=bA (List.drop 1) hd
    rwa [na,na]at this
   have il:i<s.length:=by omega
   show aj.aI s (j:Int) _=_;rw[bO h];show aj.cr s (Int.toNat (j:Int)) _=_;rw[iR h,hx,ai (aiH _ _)];by_cases hv:Je u l[j]=true
   .rw[hv,aQ (by rfl)];show aj.aI s (i:Int) _=_;rw[bO il];show aj.cr s (Int.toNat (i:Int)) _=_;rw[iR il];dsimp only;rw[aU,cU i (by omega)];refine kk (i+1) (s.set i l[j]) (by omega) (by rw[fG];exact hs) ?_ ?_
    .rw[ax LY,fu,<-ht,bu,hv,qN,ah rfl];have h1:i<(s.set i l[j]).length:=by rw[fG];exact il
     rw[ax h1,q6];congr 1;rw[zT (au _)]
    .rw[zU (by omega)];exact hd1
   .have hv:Je u l[j]=false:=by simpa using hv
    rw[hv,az (by rfl)];refine kk i s (by omega) hs ?_ hd1;rw[ax LY,fu,bu,hv,ht];simp
  .have:j=s.length:=by omega
   subst this;have Wx:s.length=l.length:=hs;rw[dZ];show aj.kY (i:Int) s.length _=_;rw[Jo (by omega) (by omega),aU];show aj.kY (i:Int) s.length _=_;rw[Jo (by omega) (by omega),aU];show aj.kY (i:Int) (s.take i++List.replicate (s.length-i) ((0,0,()),(0,0,()),false,())).length _=_;have hlt:(s.take i).length=i:=by rw[aX];omega
   rw[Jo (by omega) (by rw[ap,hlt];omega),aU];dsimp only;rw[kL (by omega),Cf,Nat.min_self,ht,Wx,br]
theorem adw{s}(h:s.length<=1000000):uZ s=some s:=by
 show eC aj s=_;unfold eC;rw[Dy];refine yj ?_ λhe=>?_
 .refine AP (by decide) ?_;rw[dm (by omega) (by omega)];rfl
 .have:s=[]:=by simpa using he
  subst this;rfl
theorem aiI{l}{u}(hl:l.length<=1000000):FL l u=some (G9 l u):=by show uE aj l u=_;unfold uE;rw[ai (adw hl),ai (awP hl)];rfl
theorem Nc{f}:∀(us:List Int) (acc:List pW),(∀u∈us,cu (f u))->goV f us acc=(acc++(us.filter λu=>decide (f u≠0)).map λu=>((u,f u,()):pW),0,())
 |[],acc,_=>by simp[goV]
 |k::us,acc,h=>by
  rw[goV,ah (h k (by simp)),bu];by_cases h0:f k=0
  .rw[ah h0,Nc us acc λu hu=>h u (by simp[hu]),ag (by simpa using h0)]
  .rw[ag h0,Nc us _ λu hu=>h u (by simp[hu]),ah (by simpa using h0),bq];rfl
theorem Z3{f}:∀(us:List Int) (acc:List pW),(∃u∈us,¬cu (f u))->goV f us acc=([],7,())
 |[],acc,h=>by obtain⟨u,hu,_⟩:=h;cases hu
 |k::us,acc,h=>by
  rw[goV];by_cases hk:cu (f k)
  .have h':∃u∈us,¬cu (f u):=by
    obtain⟨u,hu,hn⟩:=h;rcases aF.1 hu with rfl|hu
    .exact absurd hk hn
    .exact⟨u,hu,hn⟩
   rw[ah hk,Z3 us _ h',Z3 us _ h'];split<;>rfl
  .rw[ag hk]
def I3(l:List pW):List pW×Int×Unit:=if Fk l=true then goV (λj => -(gx l j)) ks []else([],3,())
def Sz(l:List pW):List pW:=l.map λx=>((x.1,-x.2.1,()):pW)
theorem awQ{l}(h:zw l):zw (Sz l):=by
 refine⟨λx hx=>?_,?_⟩
 .obtain⟨y,hy,rfl⟩:=aN.1 hx;have:=h.1 y hy;exact⟨this.1,by have:=this.2;dsimp only;omega⟩
 .unfold Sz;rw[hJ];exact h.2
theorem ab0(l)(k):gx (Sz l) k = -(gx l k):=by
 induction l with
 |nil=>rfl
 |cons x l ih=>show gx ((x.1,-x.2.1,())::Sz l) k = -(gx (x::l) k);rw[gx,gx,ih];dsimp only;split<;>rfl
theorem XN{l}(h:zw l){x:pW}(hx:x∈l):gx l x.1=x.2.1:=by
 have hn:(l.map (·.1)).Nodup:=h.2.imp λ{a b} (hab:a<b) e=>by omega
 clear h;induction l with
 |nil=>cases hx
 |cons y l ih=>
  obtain⟨h1,h2⟩:=gb.1 hn;rw[gx];rcases aF.1 hx with rfl|hx
  .rw[ah rfl]
  .rw[ag λe=>h1 (by show y.1∈_;rw[e];exact dp hx),ih hx h2]
theorem XO{l:List pW}(hv:Fk l=true)(h:∀x∈l,cu (-x.2.1)):I3 l=(Sz l,0,()):=by
 have hV:=bM hv
 have hg:∀u,cu (-(gx l u)):=λu=>by
  by_cases hu:u∈l.map (·.1)
  .obtain⟨x,hx,rfl⟩:=aN.1 hu;rw[XN hV hx];exact h x hx
  .rw[Ip λx hx e=>hu (aN.2 ⟨x,hx,e⟩)];unfold cu;omega
 unfold I3;rw[ah hv,Nc ks [] λu _=>hg u,dA];congr 1;refine auE (YJ λj => -(gx l j)) (awQ hV) λu=>?_
 show gx (Ua λj => -(gx l j)) u=_;rw[ab0,Ud];intro hk;show -(gx l u)=0;rw[Uc hV hk];rfl
theorem adx{l}(hv:Fk l=true){x:pW}(hx:x∈l)(h:¬cu (-x.2.1)):I3 l=([],7,()):=by have hV:=bM hv;unfold I3;rw[ah hv];refine Z3 ks [] ⟨x.1,(afK _).2 (hV.1 x hx).1,?_⟩;rw[XN hV hx];exact h
theorem awR{l}(ho:Vq l)(hl:l.length<=1000):Yq l=some (I3 l):=by
 show tp aj l=_;unfold tp;rw[ai (Sf (l:=l) (by omega))];by_cases hv:Fk l=true
 case neg=>
  have hv':Fk l=false:=by simpa using hv
  rw[hv',aQ (by rfl)];unfold I3;rw[ag hv]
 rw[hv,az (by rfl)]
 have CA:∀x∈l,ZT 0 x.2.1=some (cZ (-x.2.1)):=λx hx=>by
  have e:=JM (a:=0) (b:=x.2.1) (by unfold cu;omega) (ho x hx)
  rwa [As]at e
 by_cases hall:∀x∈l,cu (-x.2.1)
 .rw[XO hv hall];refine(ni (l:=l) (s0:=[]) (by omega) (λi (z:List pW)=>((i:Int),z,())) (λi z=>z.length<=i) (λl' z=>some (z++Sz l',0,())) rfl (au _) ?_ ?_).trans (by rw[dA])
  .intro z _ again;show aj.af (decide ((l.length:Int)<(l.length:Int))) _ _=some (z++[],0,());rw[dZ,cy]
  .intro i hi z hz again ha;have hx:=aG hi;refine Jp hi ?_;rw[bO hi,ai (CA _ hx),IQ (hall _ hx),az (by rfl)];show aj.bi (z.length+1) 16 (again (IntKind.i64.wrap ((i:Int)+1),z++[(l[i].1,-l[i].2.1,())],()))=_;rw[dm (by omega) (by omega),cU i (by omega),ha _ (by rw[ap];simp;omega),bq];rfl
 .have hex:∃x∈l,¬cu (-x.2.1):=cQ λh=>hall λx hx=>cQ λhn=>h ⟨x,hx,hn⟩
  obtain⟨x,hx,hn⟩:=hex;rw[adx hv hx hn];refine ni (l:=l) (s0:=[]) (by omega) (λi (z:List pW)=>((i:Int),z,())) (λi z=>z.length<=i/\∃y∈l.drop i,¬cu (-y.2.1)) (λl' z=>some ([],7,())) rfl ⟨au _,x,hx,hn⟩ ?_ ?_
  .rintro z ⟨_,y,hy,_⟩ again;rw[fH]at hy;cases hy
  .rintro i hi z ⟨hz,y,hy,hny⟩ again ha;have hxi:=aG hi;refine Jp hi ?_;rw[bO hi,ai (CA _ hxi)];by_cases hI:cu (-l[i].2.1)
   .rw[IQ hI,az (by rfl)];show aj.bi (z.length+1) 16 (again (IntKind.i64.wrap ((i:Int)+1),z++[(l[i].1,-l[i].2.1,())],()))=_;rw[ck hi]at hy;have hy':=(aF.1 hy).resolve_left λe=>hny (by rw[e];exact hI)
    rw[dm (by omega) (by omega),cU i (by omega),ha _ ⟨by rw[ap];simp;omega,y,hy',hny⟩]
   .rw[IP hI,aQ (by rfl)]
def Jr(l:List bC)(f t:ar)(eT:List pW):List bC×Int×Unit:=if tn l=true then(if(I3 eT).2.1=0 then(if(fD l f (I3 eT).1).2.1=0 then fD (fD l f (I3 eT).1).1 t eT else([],(fD l f (I3 eT).1).2))else([],(I3 eT).2))else([],3,())
theorem ahw{l}(h:(I3 l).2.1=0):Fk l=true/\(I3 l).1=Sz l/\Vq (Sz l):=by
 by_cases hv:Fk l=true;case neg=>unfold I3 at h;rw[ag hv]at h;cases h
 by_cases hall:∀x∈l,cu (-x.2.1)
 .rw[XO hv hall];exact⟨hv,rfl,λx hx=>by obtain⟨y,hy,rfl⟩:=aN.1 hx;exact hall y hy⟩
 .have hex:∃x∈l,¬cu (-x.2.1):=cQ λh=>hall λx hx=>cQ λhn=>h ⟨x,hx,hn⟩
  obtain⟨x,hx,hn⟩:=hex;rw[adx hv hx hn]at h;cases h
theorem api{l}{f t}{eT}(hb:okB l)(hl:l.length<=80)(ho:Vq eT)(hg:eT.length<=100):IM l f t eT=some (Jr l f t eT):=by
 show rO aj l f t eT=_;unfold rO Jr;rw[ai (GL hb)];by_cases hp:tn l=true
 case neg=>
  have hp':tn l=false:=by simpa using hp
  rw[ag hp,hp',aQ (by rfl)]
 rw[ah hp,hp,az (by rfl),ai (awR ho (by omega))];by_cases hn:(I3 eT).2.1=0;case neg=>rw[ag hn,fV hn]
 obtain⟨_,n2,n3⟩:=ahw hn;rw[ah hn,iZ hn,n2,ai (Fo hb (by omega) n3 (by unfold Sz;rw[bh];exact hg))];by_cases he:(fD l f (Sz eT)).2.1=0;case neg=>rw[ag he,fV he]
 have S:=qA he;have hlen:=S.len;rw[ah he,iZ he,ai (Fo (S.ok hb (by omega)) (by omega) ho hg)]
def yJ(s:aV)(c:List bz)(b:List bC)(p:List aR)(h:List bg):aV:=(s.1,s.2.1,s.2.2.1,s.2.2.2.1,s.2.2.2.2.1,c,s.2.2.2.2.2.2.1,s.2.2.2.2.2.2.2.1,b,s.2.2.2.2.2.2.2.2.2.1,p,h,())
def yK(s:aV)(f:ar):List bC×Int×Unit:=Jr (bk s) f (qG s f).1 (qB (bk s) f)
def Gb(s:aV)(f:ar):List aR×Int×Unit:=jh (pu s) f (qG s f).1 (ig (pu s) f)
def Bh(s:aV)(f:ar):List bg×Int×Unit:=PI (ho s) f (qG s f).1
def Mt(s:aV)(f:ar):aV×ar×Int×Unit:=if(qG s f).2.1=0 then(if(yK s f).2.1=0 then(if(Gb s f).2.1=0 then(if(Bh s f).2.1=0 then(yJ s (G9 (ch s) f) (yK s f).1 (Gb s f).1 (Bh s f).1,(qG s f).1,0,())else(JG,zUn,(Bh s f).2.1,()))else(JG,zUn,(Gb s f).2.1,()))else(JG,zUn,(yK s f).2.1,()))else(JG,zUn,(qG s f).2.1,())
theorem awS{s}{f}(h:(qG s f).2.1=0):tn (bk s)=true/\FK s (qG s f).1:=by
 unfold qG at h ⊢;split;case isFalse hl=>rw[ag hl]at h;exact absurd h hl
 rename_i hl;rw[ah hl]at h;split;case isFalse hr=>rw[ag hr]at h;exact absurd h hr
 rename_i hr;rw[ah hr]at h;split;case isFalse hc=>rw[ag hc]at h;exact absurd h hc
 rename_i hc;generalize (BJ (ch s) f).1=t at *;unfold J5 at hc;split at hc;case isFalse h4=>exact absurd hc h4
 split at hc
 .cases hc
 split at hc;case isFalse=>cases hc
 split at hc;case isFalse=>cases hc
 rename_i he;split at hc;case isFalse h7=>exact absurd hc h7
 rename_i h7;refine⟨?_,he⟩;unfold zQ at h7;split at h7
 .assumption
 .cases h7
theorem apj{l}(hv:Fk l=true)(ho:Vq l):wM [l]=(l,0,()):=by
 have hV:=bM hv;have hs:∀k,yR [l] k=gx l k:=λk=>by show gx l k+0=_;omega
 unfold wM;rw[ah (by simp[hv]),<-ZW,Nc ks [] λu _=>by rw[hs];exact ai1 ho u,dA];congr 1;refine auE (YJ (yR [l])) hV λu=>?_
 show gx (Ua (yR [l])) u=_;rw[Ud,hs];intro hk;rw[hs,Uc hV hk]
theorem awT{s}(O:OkP s)(f):akK s f=some (Mt s f):=by
 show xJ aj s f=_;unfold xJ Mt;have u9:=O.bl;have Vz:=O.pl;have hhl:=O.hl;have hcl:=O.cL;rw[ai (azv O f)];by_cases h1:(qG s f).2.1=0;case neg=>rw[fV h1,ag h1];rfl
 obtain⟨hB,hE⟩:=awS h1;obtain⟨o1,o2⟩:=N4 O.hb f;have hv:=aiC hB f;have e1:L5 s.2.2.2.2.2.2.2.2.1 f=some (qB (bk s) f):=Se O.hb;rw[iZ h1,ah h1,ai e1,ai (afJ (l:=[qB (bk s) f]) (by simp) (λv hm=>by simp only[aC]at hm;subst hm;omega) λv hm=>by simp only[aC]at hm;subst hm;exact o1),apj hv o1]
 have fin:∀(k8:Int×aV->Option (aV×ar×Int×Unit)),(k8=λz6=>aj.af (z6.1 != 0) (some (JG,zUn,z6.1,())) (aj.ae (FL (ch z6.2) f) λv7=>some (yJ z6.2 v7 (bk z6.2) (pu z6.2) (ho z6.2),(qG s f).1,0,())))->
  (∀st,ch st=ch s->k8 (0,st)=some (yJ st (G9 (ch s) f) (bk st) (pu st) (ho st),(qG s f).1,0,()))/\∀e,e≠0->∀st,k8 (e,st)=some (JG,zUn,e,()):=by
  intro k8 hk;subst hk;refine⟨λst NY=>?_,λe he st=>?_⟩
  .show aj.af false _ (aj.ae (FL (ch st) f) _)=_;rw[az rfl,NY,ai (aiI (by omega))]
  .show aj.af (e != 0) _ _=_;rw[aQ (by simpa using he)]
 have hold:∀(va:Int×aV->Option (aV×ar×Int×Unit)),(va=λz5=>aj.aH (λz6:Int×aV=>aj.af (z6.1 != 0) (some (JG,zUn,z6.1,())) (aj.ae (FL (ch z6.2) f) λv7=>some (yJ z6.2 v7 (bk z6.2) (pu z6.2) (ho z6.2),(qG s f).1,0,()))) λk8=>aj.af (z5.1==0) (aj.ae (Pc (ho z5.2) f (qG s f).1) λv9=>k8 (v9.2.1,yJ z5.2 (ch z5.2) (bk z5.2) (pu z5.2) v9.1)) (k8 z5))->
  (∀st,ch st=ch s->ho st=ho s->va (0,st)=some (if(Bh s f).2.1=0 then(yJ st (G9 (ch s) f) (bk st) (pu st) (Bh s f).1,(qG s f).1,0,())else(JG,zUn,(Bh s f).2.1,())))/\∀e,e≠0->∀st,va (e,st)=some (JG,zUn,e,()):=by
  intro va hk;subst hk;refine⟨λst NY hho=>?_,λe he st=>?_⟩
  .refine bw λk hk=>?_
   obtain⟨a1,a2⟩:=fin k hk;show aj.af true (aj.ae (Pc (ho st) f (qG s f).1) λv9=>k (v9.2.1,yJ st (ch st) (bk st) (pu st) v9.1)) _=_;rw[aQ rfl,hho,ai (asG O.hh (by omega))];show k ((Bh s f).2.1,yJ st (ch st) (bk st) (pu st) (Bh s f).1)=_;by_cases h:(Bh s f).2.1=0
   .rw[ah h,h,a1 (yJ st (ch st) (bk st) (pu st) (Bh s f).1) NY];rfl
   .rw[ag h,a2 _ h]
  .refine bw λk hk=>?_
   obtain⟨a1,a2⟩:=fin k hk;show aj.af (e==0) _ (k (e,st))=_;rw[az (by simpa using he),a2 _ he]
 have hg:cu (ig (pu s) f):=IN O.pf f;refine bw λk17 h17=>?_
 show aj.af true (aj.ae (IM (bk s) f (qG s f).1 (qB (bk s) f)) λv18=>k17 (v18.2.1,yJ s (ch s) v18.1 (pu s) (ho s))) _=_;rw[aQ rfl,ai (api O.hb (by omega) o1 o2)];show k17 ((yK s f).2.1,yJ s (ch s) (yK s f).1 (pu s) (ho s))=_;by_cases h2:(yK s f).2.1=0
 .rw[ah h2,h2];subst h17;refine bw λk hk=>?_
  obtain⟨a1,a2⟩:=hold k hk;have e2:pw (pu s) f=some (ig (pu s) f):=Jq (by omega)
  have one:(aj.ae (pw (pu s) f) λv11=>aj.ae (rD (pu s) f (qG s f).1 v11) λv12=>k (v12.2.1,yJ s (ch s) (yK s f).1 v12.1 (ho s)))=some (if(Gb s f).2.1=0 then(if(Bh s f).2.1=0 then(yJ s (G9 (ch s) f) (yK s f).1 (Gb s f).1 (Bh s f).1,(qG s f).1,0,())else(JG,zUn,(Bh s f).2.1,()))else(JG,zUn,(Gb s f).2.1,())):=by
   rw[ai e2,ai (N5 O.pf hg (by omega))];show k ((Gb s f).2.1,yJ s (ch s) (yK s f).1 (Gb s f).1 (ho s))=_;by_cases h3:(Gb s f).2.1=0
   .rw[ah h3,h3,a1 (yJ s (ch s) (yK s f).1 (Gb s f).1 (ho s)) rfl rfl];rfl
   .rw[ag h3,a2 _ h3]
  exact jV one one
 .rw[ag h2];subst h17;refine bw λk hk=>?_
  obtain⟨a1,a2⟩:=hold k hk;show aj.af ((yK s f).2.1==0) _ (k ((yK s f).2.1,yJ s (ch s) (yK s f).1 (pu s) (ho s)))=_;rw[az (by simpa using h2),a2 _ h2]
theorem abc(i:Nat)(h0:0<i)(h:i<9223372036854775807):IntKind.i64.wrap ((i:Int)-1)=((i-1:Nat):Int):=by rw[bI _ (by omega)];omega
abbrev S:=List Int×Int
abbrev LO:Int := -9223372036854775808
abbrev HI:Int:=9223372036854775807
theorem zY{lo hi}{s}(h:(rd lo hi s).2.2=0):s.2=0:=ajq s.1 s.2 lo hi h
theorem CF{lo hi}{s:S}(h:Bt s.1):Bt (rd lo hi s).2.1:=aaV s.1 s.2 lo hi h
theorem AS{lo hi}{s:S}(hb:Bt s.1)(h:(rd lo hi s).2.2=0):s.1=D2 (fold (rd lo hi s).1)++(rd lo hi s).2.1/\uO (rd lo hi s).1:=Ys s.1 s.2 lo hi hb (zY h) h
theorem GM{lo hi}{s}:(rd lo hi s).2.1.length<=s.1.length:=by
 unfold rd wV;have hl:=aaW s.1 0 0;split
 .exact au _
 .rcases hN:uP 0 0 s.1 with⟨_|u,r,e'⟩
  .rw[hN]at hl;exact hl
  .rw[hN]at hl;dsimp only;split
   .simp
   .exact hl
theorem JN{lo hi}{s}(h:(rd lo hi s).2.2=0):lo<=(rd lo hi s).1/\(rd lo hi s).1<=hi:=by
 have h0:=zY h;unfold rd wV at h ⊢;rw[ag (by simpa using h0)]at h ⊢;rcases hN:uP 0 0 s.1 with⟨_|u,r,e'⟩
 .rw[hN]at h;dsimp only at h;subst h;exact(N6 s.1 0 0 r hN).elim
 .rw[hN]at h;dsimp only at h ⊢;split at h
  .simp at h
  .rename_i h1;rw[ag h1];dsimp only;omega
theorem L7{lo hi}{s}(h:(rd lo hi s).2.2=0):rd LO HI s=rd lo hi s:=by
 have h0:=zY h;unfold rd wV at h ⊢;rw[ag (by simpa using h0)]at h;rw[ag (by simpa using h0),ag (by simpa using h0)];have hlt:=Yt s.1 0 0 (by decide);rcases hN:uP 0 0 s.1 with⟨_|u,r,e'⟩
 .rfl
 .rw[hN]at h hlt;have hu:=al7 u (hlt u rfl);unfold uO at hu;dsimp only at h ⊢;split at h
  .simp at h
  .rename_i h1;rw[ag h1,ag (by unfold LO HI;omega)]
inductive Lt where|M|U|O|I|A|T|D|Q|P|N
instance:DecidableEq Lt:=λa b=>by cases a<;>cases b<;>first|exact isTrue rfl|exact isFalse (λh=>by cases h)
def Lt.code:Lt->Nat | .M=>77 | .U=>85 | .O=>79 | .I=>73 | .A=>65 | .T=>84 | .D=>68 | .Q=>81 | .P=>80 | .N=>78
def fm:Lt->cm->List Int
 | .M,c=>[c.2.2.1]
 | .U,c=>[c.2.2.2.1.1,c.2.2.2.1.2.1]
 | .O,c=>[c.2.2.2.2.1.1,c.2.2.2.2.1.2.1]
 | .I,c=>[c.2.2.2.2.2.1]
 | .A,c=>[c.2.2.2.2.2.2.1]
 | .T,c=>[c.2.2.2.2.2.2.2.1]
 | .D,c=>[c.2.2.2.2.2.2.2.2.1]
 | .Q,c=>[c.2.2.2.2.2.2.2.2.2.1]
 | .P,c=>[c.2.2.2.2.2.2.2.2.2.2.1]
 | .N,c=>(c.2.2.2.2.2.2.2.2.2.2.2.1.length:Int)::c.2.2.2.2.2.2.2.2.2.2.2.1
def g0(l:List Int):Int:=l.headD 0
def g1(l:List Int):Int:=l.tail.headD 0
def put:Lt->List Int->cm->cm
 | .M,v,c=>(c.1,c.2.1,g0 v,c.2.2.2)
 | .U,v,c=>(c.1,c.2.1,c.2.2.1,(g0 v,g1 v,()),c.2.2.2.2)
 | .O,v,c=>(c.1,c.2.1,c.2.2.1,c.2.2.2.1,(g0 v,g1 v,()),c.2.2.2.2.2)
 | .I,v,c=>(c.1,c.2.1,c.2.2.1,c.2.2.2.1,c.2.2.2.2.1,g0 v,c.2.2.2.2.2.2)
 | .A,v,c=>(c.1,c.2.1,c.2.2.1,c.2.2.2.1,c.2.2.2.2.1,c.2.2.2.2.2.1,g0 v,c.2.2.2.2.2.2.2)
 | .T,v,c=>(c.1,c.2.1,c.2.2.1,c.2.2.2.1,c.2.2.2.2.1,c.2.2.2.2.2.1,c.2.2.2.2.2.2.1,g0 v,c.2.2.2.2.2.2.2.2)
 | .D,v,c=>(c.1,c.2.1,c.2.2.1,c.2.2.2.1,c.2.2.2.2.1,c.2.2.2.2.2.1,c.2.2.2.2.2.2.1,c.2.2.2.2.2.2.2.1,g0 v,c.2.2.2.2.2.2.2.2.2)
 | .Q,v,c=>(c.1,c.2.1,c.2.2.1,c.2.2.2.1,c.2.2.2.2.1,c.2.2.2.2.2.1,c.2.2.2.2.2.2.1,c.2.2.2.2.2.2.2.1,c.2.2.2.2.2.2.2.2.1,g0 v,c.2.2.2.2.2.2.2.2.2.2)
 | .P,v,c=>(c.1,c.2.1,c.2.2.1,c.2.2.2.1,c.2.2.2.2.1,c.2.2.2.2.2.1,c.2.2.2.2.2.2.1,c.2.2.2.2.2.2.2.1,c.2.2.2.2.2.2.2.2.1,c.2.2.2.2.2.2.2.2.2.1,g0 v,c.2.2.2.2.2.2.2.2.2.2.2)
 | .N,v,c=>(c.1,c.2.1,c.2.2.1,c.2.2.2.1,c.2.2.2.2.1,c.2.2.2.2.2.1,c.2.2.2.2.2.2.1,c.2.2.2.2.2.2.2.1,c.2.2.2.2.2.2.2.2.1,c.2.2.2.2.2.2.2.2.2.1,c.2.2.2.2.2.2.2.2.2.2.1,v.tail,())
theorem aaX{L L'}(h:L≠L')(v)(c):fm L' (put L v c)=fm L' c:=by cases L<;>cases L'<;>first|exact absurd rfl h|rfl
def shape:Lt->List Int->Prop
 | .U,v=>v.length=2
 | .O,v=>v.length=2
 | .N,v=>∃l:List Int,v=(l.length:Int)::l
 |_,v=>v.length=1
theorem azW{v:List Int}(h:v.length=1):∃a,v=[a]:=by
 match v,h with
 |[a],_=>exact⟨a,rfl⟩
theorem ax5{v:List Int}(h:v.length=2):∃a b,v=[a,b]:=by
 match v,h with
 |[a,b],_=>exact⟨a,b,rfl⟩
theorem al8{L:Lt}{v:List Int}(h:shape L v)(c:cm):fm L (put L v c)=v:=by
 cases L<;>first
  |(obtain⟨a,rfl⟩:=azW h;rfl)
  |(obtain⟨a,b,rfl⟩:=ax5 h;rfl)
  |(obtain⟨l,rfl⟩:=h;rfl)
def one(lo hi:Int)(s:S):List Int×S:=([(rd lo hi s).1],(rd lo hi s).2)
def two(lo hi:Int)(s:S):List Int×S:=([(rd lo hi s).1,(rd lo hi (rd lo hi s).2).1],(rd lo hi (rd lo hi s).2).2)
def N7:Nat->S->List Int->List Int×S
 |0,s,acc=>(acc,s)
 |n+1,s,acc=>if s.2=0 then N7 n (rd LO HI s).2 (acc++[(rd LO HI s).1])else(acc,s)
def nR:Nat->S->List Int->List Int×S
 |0,s,acc=>(acc,s)
 |n+1,s,acc=>nR n (rd LO HI s).2 (acc++[(rd LO HI s).1])
def GN(s:S):List Int×S:=((rd 0 32 s).1::(N7 (rd 0 32 s).1.toNat (rd 0 32 s).2 []).1,(N7 (rd 0 32 s).1.toNat (rd 0 32 s).2 []).2)
def al9(s:S):List Int×S:=((rd 0 32 s).1::(nR (rd 0 32 s).1.toNat (rd 0 32 s).2 []).1,(nR (rd 0 32 s).1.toNat (rd 0 32 s).2 []).2)
def top:Lt->Int | .M=>8 | .U=>16 | .O=>16 | .I=>8 | .A=>4 | .T=>255 | .D=>1048576|_=>0
def uQ:Lt->S->List Int×S
 | .U,s=>two 0 16 s
 | .O,s=>two 0 16 s
 | .Q,s=>one LO HI s
 | .P,s=>one LO HI s
 | .N,s=>GN s
 |L,s=>one 0 (top L) s
def alA:Lt->S->List Int×S
 | .U,s=>two LO HI s
 | .O,s=>two LO HI s
 | .N,s=>al9 s
 |_,s=>one LO HI s
def okV:Lt->List Int->Prop
 | .Q,_=>True
 | .P,_=>True
 | .N,v=>v.tail.length<=32
 |L,v=>∀x∈v,0<=x/\x<=top L
theorem aeJ{lo hi}{s}(h:(one lo hi s).2.2=0):one LO HI s=one lo hi s/\(lo<=(rd lo hi s).1/\(rd lo hi s).1<=hi)/\s.2=0:=by unfold one at h ⊢;rw[L7 h];exact⟨rfl,JN h,zY h⟩
theorem auX{lo hi}{s}(h:(two lo hi s).2.2=0):two LO HI s=two lo hi s/\(lo<=(rd lo hi s).1/\(rd lo hi s).1<=hi)/\(lo<=(rd lo hi (rd lo hi s).2).1/\(rd lo hi (rd lo hi s).2).1<=hi)/\s.2=0:=by unfold two at h ⊢;have h1:=zY h;rw[L7 h1,L7 h];exact⟨rfl,JN h1,JN h,zY h1⟩
theorem N8:∀(n:Nat) (s:S) (acc:List Int),(N7 n s acc).2.2=0->s.2=0
 |0,s,acc,h=>h
 |n+1,s,acc,h=>by
  unfold N7 at h;split at h
  .assumption
  .exact h
theorem ax6:∀(n:Nat) (s:S) (acc:List Int),(N7 n s acc).2.2=0->nR n s acc=N7 n s acc
 |0,s,acc,h=>rfl
 |n+1,s,acc,h=>by have h0:=N8 (n+1) s acc h;unfold N7 at h;unfold N7 nR;rw[ah h0]at h ⊢;exact ax6 n _ _ h
theorem aaY:∀(n:Nat) (s:S) (acc:List Int),Bt s.1->(N7 n s acc).2.2=0->∃l:List Int,(N7 n s acc).1=acc++l/\l.length=n/\s.1=o4 l++(N7 n s acc).2.1/\∀x∈l,uO x
 |0,s,acc,hb,h=>⟨[],by simp[N7],rfl,by simp[N7,o4],by simp⟩
 |n+1,s,acc,hb,h=>by
  have h0:=N8 (n+1) s acc h;unfold N7 at h ⊢;rw[ah h0]at h ⊢;have h1:=N8 n _ _ h;obtain⟨l,e1,e2,e3,e4⟩:=aaY n _ _ (CF hb) h;obtain⟨c1,c2⟩:=AS hb h1;refine⟨(rd LO HI s).1::l,by rw[e1];simp,by simp[e2],?_,λx hx=>?_⟩
  .rw[c1,e3,show(rd LO HI s).1::l=[(rd LO HI s).1]++l from rfl,D3,yz,bq]
  .rcases aF.1 hx with rfl|hx
   .exact c2
   .exact e4 x hx
theorem at6:∀(n:Nat) (s:S) (acc:List Int),Bt s.1->Bt (N7 n s acc).2.1
 |0,s,acc,hb=>hb
 |n+1,s,acc,hb=>by
  unfold N7;split
  .exact at6 n _ _ (CF hb)
  .exact hb
theorem ahe{L:Lt}{s:S}(h:(uQ L s).2.2=0):alA L s=uQ L s/\okV L (uQ L s).1/\s.2=0:=by
 have a1:∀hi:Int,(one 0 hi s).2.2=0->one LO HI s=one 0 hi s/\(∀x∈(one 0 hi s).1,0<=x/\x<=hi)/\s.2=0:=λhi h=>by obtain⟨h1,h2,h3⟩:=aeJ h;exact⟨h1,λx hx=>by simp only[one,aC]at hx;subst hx;exact h2,h3⟩
 have a2:(two 0 16 s).2.2=0->two LO HI s=two 0 16 s/\(∀x∈(two 0 16 s).1,0<=x/\x<=16)/\s.2=0:=λh=>by
  obtain⟨h1,h2,h3,h4⟩:=auX h;refine⟨h1,λx hx=>?_,h4⟩;simp only[two,aF,dV,lO]at hx;rcases hx with rfl|rfl
  .exact h2
  .exact h3
 cases L with
 |U=>exact a2 h
 |O=>exact a2 h
 |Q=>exact⟨rfl,trivial,(aeJ h).2.2⟩
 |P=>exact⟨rfl,trivial,(aeJ h).2.2⟩
 |N=>
  have h':=h;have h0:=zY (N8 _ _ _ h');refine⟨by show al9 s=GN s;unfold al9 GN;rw[ax6 _ _ _ h'],?_,h0⟩;show(N7 (rd 0 32 s).1.toNat (rd 0 32 s).2 []).1.length<=32;have hin:=JN (N8 _ _ _ h')
  have key:∀(n:Nat) (s:S) (acc:List Int),(N7 n s acc).1.length<=acc.length+n:=by
   intro n;induction n with
   |zero=>intro s acc;simp[N7]
   |succ n ih=>
    intro s acc;unfold N7;split
    .have:=ih (rd LO HI s).2 (acc++[(rd LO HI s).1]);simp at this;omega
    .exact Nat.le_add_right _ _
  have:=key (rd 0 32 s).1.toNat (rd 0 32 s).2 [];simp at this;omega
 |M=>exact a1 8 h
 |I=>exact a1 8 h
 |A=>exact a1 4 h
 |T=>exact a1 255 h
 |D=>exact a1 1048576 h
theorem aeK{L:Lt}{s:S}(hb:Bt s.1)(h:(uQ L s).2.2=0):shape L (uQ L s).1/\s.1=o4 (uQ L s).1++(uQ L s).2.1/\(∀x∈(uQ L s).1,uO x):=by
 have a1:∀lo hi:Int,(one lo hi s).2.2=0->(one lo hi s).1.length=1/\s.1=o4 (one lo hi s).1++(one lo hi s).2.1/\(∀x∈(one lo hi s).1,uO x):=λlo hi h=>by obtain⟨c1,c2⟩:=AS hb h;refine⟨rfl,?_,λx hx=>by simp only[one,aC]at hx;subst hx;exact c2⟩;unfold one;rw[yz];exact c1
 have a2:(two 0 16 s).2.2=0->(two 0 16 s).1.length=2/\s.1=o4 (two 0 16 s).1++(two 0 16 s).2.1/\(∀x∈(two 0 16 s).1,uO x):=λh=>by
  have h1:=zY h;obtain⟨c1,c2⟩:=AS hb h1;obtain⟨d1,d2⟩:=AS (CF hb) h;refine⟨rfl,?_,λx hx=>?_⟩
  .unfold two;rw[show[(rd 0 16 s).1,(rd 0 16 (rd 0 16 s).2).1]=[(rd 0 16 s).1]++[(rd 0 16 (rd 0 16 s).2).1]from rfl,D3,yz,yz,bq];dsimp only;rw[<-d1];exact c1
  .simp only[two,aF,dV,lO]at hx;rcases hx with rfl|rfl
   .exact c2
   .exact d2
 cases L with
 |U=>exact a2 h
 |O=>exact a2 h
 |Q=>exact a1 _ _ h
 |P=>exact a1 _ _ h
 |N=>
  have h':=h;have h1:=N8 _ _ _ h';obtain⟨c1,c2⟩:=AS hb h1;have hin:=JN h1;obtain⟨l,e1,e2,e3,e4⟩:=aaY _ _ _ (CF hb) h';have ev:(uQ .N s).1=(l.length:Int)::l:=by show(rd 0 32 s).1::(N7 (rd 0 32 s).1.toNat (rd 0 32 s).2 []).1=_;rw[e1,dA,e2];congr 1;omega
  refine⟨⟨l,ev⟩,?_,λx hx=>?_⟩
  .have e5:(uQ .N s).1=[(rd 0 32 s).1]++l:=by rw[ev,e2];show _::l=_::l;congr 1;omega
   rw[e5,D3,yz,bq,c1];congr 1
  .rw[ev]at hx;rcases aF.1 hx with rfl|hx
   .unfold uO;omega
   .exact e4 x hx
 |M=>exact a1 _ _ h
 |I=>exact a1 _ _ h
 |A=>exact a1 _ _ h
 |T=>exact a1 _ _ h
 |D=>exact a1 _ _ h
theorem ahf{L:Lt}{s:S}(hb:Bt s.1):Bt (uQ L s).2.1:=by
 cases L with
 |N=>exact at6 _ _ _ (CF hb)
 |U=>exact CF (CF hb)
 |O=>exact CF (CF hb)
 |_=>exact CF hb
def AT:List Lt->S->cm->cm×S
 |[],s,c=>(c,s)
 |L::ls,s,c=>AT ls (uQ L s).2 (put L (uQ L s).1 c)
def ahg:List Lt->S->cm->cm×S
 |[],s,c=>(c,s)
 |L::ls,s,c=>ahg ls (alA L s).2 (put L (alA L s).1 c)
theorem Sh:∀(ls:List Lt) (s:S) (c:cm),(AT ls s c).2.2=0->s.2=0
 |[],s,c,h=>h
 |L::ls,s,c,h=>(ahe (Sh ls _ _ h)).2.2
theorem N9:∀(ls:List Lt) (s:S) (c:cm) (L':Lt),L'∉ls->fm L' (AT ls s c).1=fm L' c
 |[],s,c,L',h=>rfl
 |L::ls,s,c,L',h=>by simp only[aF,not_or]at h;unfold AT;rw[N9 ls _ _ L' h.2,aaX (jf h.1)]
theorem ahh:∀(ls:List Lt) (s:S) (c:cm),ls.Nodup->Bt s.1->(AT ls s c).2.2=0->
 ahg ls s c=AT ls s c/\(∀L∈ls,okV L (fm L (AT ls s c).1)/\∀x∈fm L (AT ls s c).1,uO x)/\s.1=(ls.flatMap λL=>o4 (fm L (AT ls s c).1))++(AT ls s c).2.1
 |[],s,c,hn,hb,h=>⟨rfl,by simp,by simp[AT]⟩
 |L::ls,s,c,hn,hb,h=>by
  have GO:=gb.1 hn;have h1:=Sh ls _ _ h;obtain⟨p1,p2,p3⟩:=ahe h1;obtain⟨q1,q2,q3⟩:=aeK hb h1;obtain⟨i1,i2,i3⟩:=ahh ls (uQ L s).2 (put L (uQ L s).1 c) GO.2 (ahf hb) h;have ev:fm L (AT (L::ls) s c).1=(uQ L s).1:=by show fm L (AT ls (uQ L s).2 (put L (uQ L s).1 c)).1=_;rw[N9 ls _ _ L GO.1,al8 q1]
  refine⟨by show ahg ls (alA L s).2 (put L (alA L s).1 c)=_;rw[p1];exact i1,λL' hL=>?_,?_⟩
  .rcases aF.1 hL with rfl|hL
   .rw[ev];exact⟨p2,q3⟩
   .exact i2 L' hL
  .rw[cw,ev,bq,q2];congr 1
def flT:List (List Lt):=[[],[.M,.Q],[.I,.Q,.P,.N],[.A,.P,.Q],[.U,.M,.D],[.U],[.M,.Q],[.U,.O,.I,.Q,.P],[.U,.O,.I,.Q,.P],[.D],[.D],[.D],[.U,.I,.N],[.D,.O,.Q],[.I,.P],[.A,.P],[],[.U,.A,.T,.Q],[.U,.A,.T,.Q],[.U,.O],[.U,.O],[.M,.Q],[.U],[.M],[.U,.O,.I,.Q,.P],[.M],[.U],[.U],[.U],[.U],[],[.M]]
def fl(op:Int):List Lt:=if 1<=op/\op<=31 then(flT[op.toNat]?).getD []else[]
def str(ls:List Lt):ByteArray:=ByteArray.mk (Array.mk (ls.map λL=>UInt8.ofNat L.code))
theorem aeL{op}(h:¬(1<=op/\op<=31)):fl op=[]:=by unfold fl;rw[ag h]
theorem Si{op}(h:1<=op/\op<=31):∃n:Nat,op=(n:Int)/\(n=1\/n=2\/n=3\/n=4\/n=5\/n=6\/n=7\/n=8\/n=9\/n=10\/n=11\/n=12\/n=13\/n=14\/n=15\/n=16\/n=17\/n=18\/n=19\/n=20\/n=21\/n=22\/n=23\/n=24\/n=25\/n=26\/n=27\/n=28\/n=29\/n=30\/n=31):=by obtain⟨n,rfl⟩:=cS (show 0<=op by omega);exact⟨n,rfl,by omega⟩
theorem WC(op):aeM op=some (str (fl op)):=by
 by_cases h:1<=op/\op<=31
 .obtain⟨n,rfl,hn⟩:=Si h;rcases hn with rfl|rfl|rfl|rfl|rfl|rfl|rfl|rfl|rfl|rfl|rfl|rfl|rfl|rfl|rfl|rfl|rfl|rfl|rfl|rfl|rfl|rfl|rfl|rfl|rfl|rfl|rfl|rfl|rfl|rfl|rfl<;>rfl
 .rw[aeL h];have e:∀k:Int,(1<=k/\k<=31)->(op==k)=false:=λk hk=>by simp;omega
  show rE aj op=_;unfold rE;simp only[e 1 (by omega),e 2 (by omega),e 3 (by omega),e 4 (by omega),e 5 (by omega),e 6 (by omega),e 7 (by omega),e 8 (by omega),e 9 (by omega),e 10 (by omega),e 11 (by omega),e 12 (by omega),e 13 (by omega),e 14 (by omega),e 15 (by omega),e 16 (by omega),e 17 (by omega),e 18 (by omega),e 19 (by omega),e 20 (by omega),e 21 (by omega),e 22 (by omega),e 23 (by omega),e 24 (by omega),e 25 (by omega),e 26 (by omega),e 27 (by omega),e 28 (by omega),e 29 (by omega),e 30 (by omega),e 31 (by omega),at7,cond_false];rfl
theorem alB(op):(fl op).Nodup:=by
 by_cases h:1<=op/\op<=31
 .obtain⟨n,rfl,hn⟩:=Si h;rcases hn with rfl|rfl|rfl|rfl|rfl|rfl|rfl|rfl|rfl|rfl|rfl|rfl|rfl|rfl|rfl|rfl|rfl|rfl|rfl|rfl|rfl|rfl|rfl|rfl|rfl|rfl|rfl|rfl|rfl|rfl|rfl<;>decide
 .rw[aeL h];exact List.nodup_nil
theorem aeN(op):(fl op).length<=5:=by
 by_cases h:1<=op/\op<=31
 .obtain⟨n,rfl,hn⟩:=Si h;rcases hn with rfl|rfl|rfl|rfl|rfl|rfl|rfl|rfl|rfl|rfl|rfl|rfl|rfl|rfl|rfl|rfl|rfl|rfl|rfl|rfl|rfl|rfl|rfl|rfl|rfl|rfl|rfl|rfl|rfl|rfl|rfl<;>decide
 .rw[aeL h];simp
theorem Sj(ls):(str ls).size=ls.length:=by show(ls.map _).toArray.size=_;simp
theorem aq5(L:Lt):L.code<128:=by cases L<;>decide
theorem aq6(L:Lt):(UInt8.ofNat L.code).toNat=L.code:=by cases L<;>rfl
theorem azV(ls)(i)(h:i<ls.length):(str ls)[i]?=some (UInt8.ofNat (ls[i]).code):=by
 have hs:i<(str ls).size:=by rw[Sj];exact h
 rw[getElem?_pos (str ls) i hs];congr 1;exact(by simp:((ls.map λL=>UInt8.ofNat L.code).toArray)[i]'(by simpa using h)=UInt8.ofNat (ls[i]).code)
theorem alC (ls : List Lt) (i : Nat) (h : i < ls.length) : (str ls).get! i = UInt8.ofNat (ls[i]).code := by
  show (ls.map λL => UInt8.ofNat L.code).toArray[i]! = _
  simp [h]
theorem ax7(ls)(i:Nat)(h:i<ls.length):Utf8.decode (str ls) i=((ls[i]).code,1):=by unfold Utf8.decode;simp only[gY,alC ls i h,aq6];rw[ah (by have:=aq5 ls[i];omega)]
theorem alD{β}(ls)(i:Nat)(h:i<ls.length)(K:Int->Int->Option β)(N:Option β):aj.zZ (str ls) (i:Int) K N=K ((ls[i]).code:Int) ((i+1:Nat):Int):=by dsimp only;unfold aaZ;rw[aU,aq (by rw[Sj];exact h),ax7 ls i h];rfl
theorem alE{β}(ls)(i:Nat)(h:ls.length<=i)(K:Int->Int->Option β)(N:Option β):aj.zZ (str ls) (i:Int) K N=N:=by dsimp only;unfold aaZ;rw[aU,an (by rw[Sj];omega)];rfl
def okS(s:S):Prop:=Bt s.1/\s.1.length<9223372036854775807
theorem Sk{lo hi:Int}{s:S}(h:okS s):okS (rd lo hi s).2:=⟨CF h.1,Nat.lt_of_le_of_lt GM h.2⟩
theorem auY{hi}{s}(h:0<=hi):0<=(rd 0 hi s).1/\(rd 0 hi s).1<=hi:=by
 unfold rd wV;split
 .exact⟨oz _,h⟩
 .rcases uP 0 0 s.1 with⟨_|u,r,e'⟩
  .exact⟨oz _,h⟩
  .dsimp only;split
   .exact⟨oz _,h⟩
   .dsimp only;omega
theorem Aa{uR:Int}{s:S}(h:okS s):ajr true s.1 s.2 uR=some ((rd 0 uR s).1,true,(rd 0 uR s).2.1,(rd 0 uR s).2.2,()):=by show j2 aj true s.1 s.2 uR=_;unfold j2;rw[dX (Sl h.1 h.2)]
theorem aba{s}(h:okS s):ajs true s.1 s.2=some (((rd 0 16 s).1,(rd 0 16 (rd 0 16 s).2).1,()),true,(rd 0 16 (rd 0 16 s).2).2.1,(rd 0 16 (rd 0 16 s).2).2.2,()):=by show xj aj true s.1 s.2=_;unfold xj;rw[dX (Aa h)];exact(dX (Aa (Sk h)) _).trans rfl
theorem ajt{s}(h:okS s):abb true s.1 s.2 32=some ((GN s).1.tail,true,(GN s).2.1,(GN s).2.2,()):=by
 show vg aj true s.1 s.2 32=_;unfold vg;rw[xk,dX (Aa h)];have hr:=auY (hi:=32) (s:=s) (by omega);refine(iH (λz=>z.1.toNat) (λz=>∃(n:Nat) (t:S) (acc:List Int),z=((n:Int),true,t.1,t.2,acc,())/\okS t/\acc.length+n<=32/\N7 n t acc=((GN s).1.tail,(GN s).2)) (λ_=>some ((GN s).1.tail,true,(GN s).2.1,(GN s).2.2,())) ⟨(rd 0 32 s).1.toNat,(rd 0 32 s).2,[],by rw[tc hr.1],Sk h,by simp;omega,rfl⟩ (by dsimp only;omega) ?_);rintro _ ⟨n,t,acc,rfl,ht,hl,he⟩ again ha;show aj.af (decide ((0:Int)<(n:Int))) _ _=_;cases n with
 |zero=>rw[az (by rfl)];unfold N7 at he;have e1:=bA (·.1) he;have e2:=bA (·.2) he;dsimp only at e1 e2;rw[<-e1,<-e2]
 |succ n=>
  rw[eR (by omega)];refine(dX (show F7 true t.1 t.2=some (t.2,true,t.1,t.2,())from rfl) _).trans ?_;unfold N7 at he;by_cases h0:t.2=0
  .rw[aQ (by simp[h0])];rw[ah h0]at he;refine(dX (Sl ht.1 ht.2) _).trans ?_;show aj.bi (acc.length+1) 8 _=_;rw[dm (by omega) (by omega)];dsimp only;rw[abc (n+1) (by omega) (by omega)];exact ha _ ⟨n,(rd LO HI t).2,_,rfl,Sk ht,by simp;omega,he⟩ (by dsimp only;omega)
  .rw[az (by simp[h0])];rw[ag h0]at he;have e1:=bA (·.1) he;have e2:=bA (·.2) he;dsimp only at e1 e2;dsimp only;rw[<-e1,<-e2]
def ax8(c:cm):Int×Int×Int×Int×Int×Int×Int×Int×Int×Int×Int×Int×Int×List Int×Unit:=(c.1,c.2.1,c.2.2.1,c.2.2.2.1.1,c.2.2.2.1.2.1,c.2.2.2.2.1.1,c.2.2.2.2.1.2.1,c.2.2.2.2.2.1,c.2.2.2.2.2.2.1,c.2.2.2.2.2.2.2.1,c.2.2.2.2.2.2.2.2.1,c.2.2.2.2.2.2.2.2.2.1,c.2.2.2.2.2.2.2.2.2.2.1,c.2.2.2.2.2.2.2.2.2.2.2.1,())
theorem auZ(L:Lt){s:S}(h:okS s)(c:cm):
 alF true s.1 s.2 c.1 c.2.1 c.2.2.1 c.2.2.2.1.1 c.2.2.2.1.2.1 c.2.2.2.2.1.1 c.2.2.2.2.1.2.1 c.2.2.2.2.2.1 c.2.2.2.2.2.2.1 c.2.2.2.2.2.2.2.1 c.2.2.2.2.2.2.2.2.1 c.2.2.2.2.2.2.2.2.2.1 c.2.2.2.2.2.2.2.2.2.2.1 c.2.2.2.2.2.2.2.2.2.2.2.1 (L.code:Int)=some ((),true,(uQ L s).2.1,(uQ L s).2.2,ax8 (put L (uQ L s).1 c)):=by
 show D4 aj true s.1 s.2 _ _ _ _ _ _ _ _ _ _ _ _ _ _ (L.code:Int)=_;unfold D4;cases L with
 |M=>rw[aQ (by rfl),dX (Aa h)];rfl
 |U=>rw[az (by rfl),aQ (by rfl),dX (aba h)];rfl
 |O=>rw[az (by rfl),az (by rfl),aQ (by rfl),dX (aba h)];rfl
 |I=>rw[az (by rfl),az (by rfl),az (by rfl),aQ (by rfl),dX (Aa h)];rfl
 |A=>rw[az (by rfl),az (by rfl),az (by rfl),az (by rfl),aQ (by rfl),dX (Aa h)];rfl
 |T=>rw[az (by rfl),az (by rfl),az (by rfl),az (by rfl),az (by rfl),aQ (by rfl),dX (Aa h)];rfl
 |D=>rw[az (by rfl),az (by rfl),az (by rfl),az (by rfl),az (by rfl),az (by rfl),aQ (by rfl),dX (Aa h)];rfl
 |Q=>rw[az (by rfl),az (by rfl),az (by rfl),az (by rfl),az (by rfl),az (by rfl),az (by rfl),aQ (by rfl),dX (Sl h.1 h.2)];rfl
 |P=>rw[az (by rfl),az (by rfl),az (by rfl),az (by rfl),az (by rfl),az (by rfl),az (by rfl),az (by rfl),aQ (by rfl),dX (Sl h.1 h.2)];rfl
 |N=>rw[az (by rfl),az (by rfl),az (by rfl),az (by rfl),az (by rfl),az (by rfl),az (by rfl),az (by rfl),az (by rfl),aQ (by rfl),dX (ajt h)];rfl
theorem alG:∀(n:Nat) (s:S) (acc:List Int),(N7 n s acc).2.1.length<=s.1.length
 |0,s,acc=>au _
 |n+1,s,acc=>by
  unfold N7;split
  .exact cp (alG n _ _) GM
  .exact au _
theorem alH(L)(s):(uQ L s).2.1.length<=s.1.length:=by
 cases L with
 |N=>exact cp (alG _ _ _) GM
 |U=>exact cp GM GM
 |O=>exact cp GM GM
 |_=>exact GM
theorem aq7{L:Lt}{s:S}(h:okS s):okS (uQ L s).2:=⟨ahf h.1,Nat.lt_of_le_of_lt (alH L s) h.2⟩
def ahi:cm:=(0,0,0,(0,0,()),(0,0,()),0,0,0,0,0,0,[],())
def op0(op by_:Int):cm:=(op,by_,ahi.2.2)
def abd(r:cm×S):cm×Int×Unit:=if Yu r.2≠0 then(ahi,3,())else(r.1,0,())
def pX(b:List Int):cm×S:=AT (fl (rd 1 31 (b,0)).1) (rd 0 8 (rd 1 31 (b,0)).2).2 (op0 (rd 1 31 (b,0)).1 (rd 0 8 (rd 1 31 (b,0)).2).1)
theorem aju{ls:List Lt}{i:Nat}(h:i<ls.length)(s:S)(c:cm):AT (ls.drop i) s c=AT (ls.drop (i+1)) (uQ ls[i] s).2 (put ls[i] (uQ ls[i] s).1 c):=by rw[ck h];rfl
abbrev ZC:=Bool×List Int×Int×Int×Int×Int×Int×Int×Int×Int×Int×Int×Int×Int×Int×Int×List Int×(ByteArray×Int×Unit)×Unit
theorem ava{b:List Int}(hb:Bt b)(hl:b.length<=100000000):alI b=some (abd (pX b)):=by
 show D5 aj b=_;unfold D5;have h0:okS (b,0):=⟨hb,by dsimp only;omega⟩;rw[dX (avb hl)];refine(dX (Sl h0.1 h0.2) _).trans ?_;have h1:=Sk (lo:=1) (hi:=31) h0;refine(dX (Aa h1) _).trans ?_;have h2:=Sk (lo:=0) (hi:=8) h1;refine(dX (WC _) _).trans ?_;unfold pX;have hls:=aeN (rd 1 31 (b,0)).1;generalize fl (rd 1 31 (b,0)).1=ls at *;refine(iH (λz=>ls.length-z.2.2.2.2.2.2.2.2.2.2.2.2.2.2.2.2.2.1.2.1.toNat) (λz=>∃(i:Nat) (t:S) (c:cm),z=(true,t.1,t.2,c.1,c.2.1,c.2.2.1,c.2.2.2.1.1,c.2.2.2.1.2.1,c.2.2.2.2.1.1,c.2.2.2.2.1.2.1,c.2.2.2.2.2.1,c.2.2.2.2.2.2.1,c.2.2.2.2.2.2.2.1,c.2.2.2.2.2.2.2.2.1,c.2.2.2.2.2.2.2.2.2.1,c.2.2.2.2.2.2.2.2.2.2.1,c.2.2.2.2.2.2.2.2.2.2.2.1,(str ls,(i:Int),()),())/\i<=ls.length/\okS t/\AT (ls.drop i) t c=AT ls (rd 0 8 (rd 1 31 (b,0)).2).2 (op0 (rd 1 31 (b,0)).1 (rd 0 8 (rd 1 31 (b,0)).2).1)) (λ_=>some (abd (AT ls (rd 0 8 (rd 1 31 (b,0)).2).2 (op0 (rd 1 31 (b,0)).1 (rd 0 8 (rd 1 31 (b,0)).2).1)))) ⟨0,(rd 0 8 (rd 1 31 (b,0)).2).2,op0 (rd 1 31 (b,0)).1 (rd 0 8 (rd 1 31 (b,0)).2).1,rfl,by omega,h2,rfl⟩ ?_ ?_)
 .have:ls.length<18446744073709551616:=by omega
  omega
 .rintro _ ⟨i,t,c,rfl,hi,ht,he⟩ again ha;show aj.zZ (str ls) (i:Int) _ _=_;by_cases hlt:i<ls.length
  .rw[alD ls i hlt];refine(dX (auZ _ ht c) _).trans ?_;rw[aju hlt]at he;exact ha _ ⟨i+1,(uQ ls[i] t).2,put ls[i] (uQ ls[i] t).1 c,rfl,by omega,aq7 ht,he⟩ (by dsimp only;omega)
  .obtain rfl:i=ls.length:=by omega
   rw[alE ls _ (au _)];rw[fH]at he;rw[<-he];refine(dX (avc t) _).trans ?_;unfold abd;show aj.af (Yu t != 0) _ _=_;by_cases h3:Yu t=0
   .rw[az (by simp[h3]),ag (by simpa[AT]using h3)];rfl
   .rw[aQ (by simp[h3]),ah (by simpa[AT]using h3)];rfl
def wi(n uR:Int)(b:Bool):Bool:=decide (n=0)||(b&&(decide (0<n)&&decide (n<=uR)))
def hs(c:cm)(L:Lt):Bool:=decide (L∈fl c.1)
def aq8(c:cm):Bool:=(!(decide (c.1<1)||decide (31<c.1)||decide (c.2.1<0)||decide (8<c.2.1)))&&(wi c.2.2.1 8 (hs c .M)&&(wi c.2.2.2.2.2.1 8 (hs c .I)&&(wi c.2.2.2.2.2.2.1 4 (hs c .A)&&(wi c.2.2.2.2.2.2.2.1 255 (hs c .T)&&wi c.2.2.2.2.2.2.2.2.1 1048576 (hs c .D)))))&&(wi c.2.2.2.1.1 16 (hs c .U)&&(wi c.2.2.2.1.2.1 16 (hs c .U)&&(wi c.2.2.2.2.1.1 16 (hs c .O)&&wi c.2.2.2.2.1.2.1 16 (hs c .O))))&&((decide (c.2.2.2.2.2.2.2.2.2.1=0)||hs c .Q)&&(decide (c.2.2.2.2.2.2.2.2.2.2.1=0)||hs c .P))&&(decide (c.2.2.2.2.2.2.2.2.2.2.2.1.length=0)||(hs c .N&&decide (c.2.2.2.2.2.2.2.2.2.2.2.1.length<=32)))
def at8(b:List Int):cm×S:=ahg (fl (rd LO HI (b,0)).1) (rd LO HI (rd LO HI (b,0)).2).2 (op0 (rd LO HI (b,0)).1 (rd LO HI (rd LO HI (b,0)).2).1)
def nv(c:cm):List Int:=c.2.2.2.2.2.2.2.2.2.2.2.1
def avd(c:cm)(l:List Int):cm:=(c.1,c.2.1,c.2.2.1,c.2.2.2.1,c.2.2.2.2.1,c.2.2.2.2.2.1,c.2.2.2.2.2.2.1,c.2.2.2.2.2.2.2.1,c.2.2.2.2.2.2.2.2.1,c.2.2.2.2.2.2.2.2.2.1,c.2.2.2.2.2.2.2.2.2.2.1,l,())
theorem ave(L)(v)(c):(put L v c).1=c.1/\(put L v c).2.1=c.2.1:=by cases L<;>exact⟨rfl,rfl⟩
theorem ahj:∀(ls:List Lt) (s:S) (c:cm),(AT ls s c).1.1=c.1/\(AT ls s c).1.2.1=c.2.1
 |[],s,c=>⟨rfl,rfl⟩
 |L::ls,s,c=>by have h1:=ahj ls (uQ L s).2 (put L (uQ L s).1 c);have h2:=ave L (uQ L s).1 c;exact⟨h1.1.trans h2.1,h1.2.trans h2.2⟩
def zeroV(L:Lt)(c:cm):Prop:=∀x∈fm L c,x=0
theorem alJ(L)(a b):zeroV L (op0 a b):=by intro x hx;cases L<;>simp[fm,op0,ahi]at hx<;>first|exact hx|(rcases hx with h|h<;>exact h)
theorem azX{n t}:wi n t true=true↔0<=n/\n<=t\/n=0:=by unfold wi;simp;omega
theorem azY{n t}:wi n t false=true↔n=0:=by unfold wi;simp
theorem alK(c):aq8 c=true↔(1<=c.1/\c.1<=31)/\(0<=c.2.1/\c.2.1<=8)/\(∀L,L∈fl c.1->okV L (fm L c))/\(∀L,L∉fl c.1->zeroV L c):=by
 have w1:∀(L:Lt) (n t:Int),0<=t->(wi n t (hs c L)=true↔(L∈fl c.1->0<=n/\n<=t)/\(L∉fl c.1->n=0)):=by
  intro L n t ht;unfold hs;by_cases h:L∈fl c.1
  .rw[aq h,azX];simp only[h,true_implies,not_true,false_implies,oA];omega
  .rw[an h,azY];simp only[h,false_implies,not_false_iff,true_implies,true_and]
 have w2:∀(L:Lt) (p:Bool),(p||hs c L)=true↔(L∉fl c.1->p=true):=by
  intro L p;unfold hs;by_cases h:L∈fl c.1
  .simp[h]
  .simp[h]
 unfold aq8;simp only[aB,w1 _ _ 8 (by omega),w1 _ _ 4 (by omega),w1 _ _ 255 (by omega),w1 _ _ 1048576 (by omega),w1 _ _ 16 (by omega),w2,jF,oB,pQ,bb]
 have wn:(decide (c.2.2.2.2.2.2.2.2.2.2.2.1.length=0)||(hs c .N&&decide (c.2.2.2.2.2.2.2.2.2.2.2.1.length<=32)))=true↔(Lt.N∈fl c.1->c.2.2.2.2.2.2.2.2.2.2.2.1.length<=32)/\(Lt.N∉fl c.1->c.2.2.2.2.2.2.2.2.2.2.2.1.length=0):=by
  unfold hs;by_cases h:Lt.N∈fl c.1
  .rw[aq h];simp only[yp,fI,bb,h,true_implies,not_true,false_implies,oA];omega
  .simp[h]
 rw[wn];constructor
 .rintro⟨⟨⟨⟨⟨⟨⟨h1,h2⟩,h3⟩,h4⟩,hM,hI,hA,hT,hD⟩,hU1,hU2,hO1,hO2⟩,hQ,hP⟩,hN⟩;refine⟨by omega,by omega,λL hL=>?_,λL hL=>?_⟩
  .cases L with
   |M=>intro x hx;simp only[fm,aC]at hx;subst hx;exact hM.1 hL
   |I=>intro x hx;simp only[fm,aC]at hx;subst hx;exact hI.1 hL
   |A=>intro x hx;simp only[fm,aC]at hx;subst hx;exact hA.1 hL
   |T=>intro x hx;simp only[fm,aC]at hx;subst hx;exact hT.1 hL
   |D=>intro x hx;simp only[fm,aC]at hx;subst hx;exact hD.1 hL
   |U=>intro x hx;simp only[fm,aF,dV,lO]at hx;rcases hx with rfl|rfl;exact hU1.1 hL;exact hU2.1 hL
   |O=>intro x hx;simp only[fm,aF,dV,lO]at hx;rcases hx with rfl|rfl;exact hO1.1 hL;exact hO2.1 hL
   |Q=>trivial
   |P=>trivial
   |N=>exact hN.1 hL
  .intro x hx;cases L with
   |M=>simp only[fm,aC]at hx;subst hx;exact hM.2 hL
   |I=>simp only[fm,aC]at hx;subst hx;exact hI.2 hL
   |A=>simp only[fm,aC]at hx;subst hx;exact hA.2 hL
   |T=>simp only[fm,aC]at hx;subst hx;exact hT.2 hL
   |D=>simp only[fm,aC]at hx;subst hx;exact hD.2 hL
   |U=>simp only[fm,aF,dV,lO]at hx;rcases hx with rfl|rfl;exact hU1.2 hL;exact hU2.2 hL
   |O=>simp only[fm,aF,dV,lO]at hx;rcases hx with rfl|rfl;exact hO1.2 hL;exact hO2.2 hL
   |Q=>simp only[fm,aC]at hx;subst hx;exact hQ hL
   |P=>simp only[fm,aC]at hx;subst hx;exact hP hL
   |N=>have h0:=hN.2 hL;have h1:=dK.1 h0;simp only[fm,h1,eJ,aC]at hx;simpa using hx
 .rintro⟨h1,h2,h3,h4⟩;have one:∀(L:Lt) (n:Int),fm L c=[n]->(okV L (fm L c)->0<=n/\n<=top L)->(L∈fl c.1->0<=n/\n<=top L)/\(L∉fl c.1->n=0):=λL n hv ho=>⟨λh=>ho (h3 L h),λh=>h4 L h n (by rw[hv];simp)⟩
  refine⟨⟨⟨⟨⟨⟨⟨by omega,by omega⟩,by omega⟩,by omega⟩,?_,?_,?_,?_,?_⟩,?_,?_,?_,?_⟩,?_,?_⟩,?_⟩
  .exact one .M _ rfl λh=>h _ (by simp[fm])
  .exact one .I _ rfl λh=>h _ (by simp[fm])
  .exact one .A _ rfl λh=>h _ (by simp[fm])
  .exact one .T _ rfl λh=>h _ (by simp[fm])
  .exact one .D _ rfl λh=>h _ (by simp[fm])
  .exact⟨λh=>h3 .U h _ (by simp[fm]),λh=>h4 .U h _ (by simp[fm])⟩
  .exact⟨λh=>h3 .U h _ (by simp[fm]),λh=>h4 .U h _ (by simp[fm])⟩
  .exact⟨λh=>h3 .O h _ (by simp[fm]),λh=>h4 .O h _ (by simp[fm])⟩
  .exact⟨λh=>h3 .O h _ (by simp[fm]),λh=>h4 .O h _ (by simp[fm])⟩
  .exact λh=>h4 .Q h _ (by simp[fm])
  .exact λh=>h4 .P h _ (by simp[fm])
  .refine⟨λh=>h3 .N h,λh=>?_⟩;have:=h4 .N h (c.2.2.2.2.2.2.2.2.2.2.2.1.length:Int) (by simp[fm]);omega
theorem avf{s}(h:Yu s=0):s.2=0/\s.1=[]:=by
 unfold Yu at h;split at h
 .rename_i h1;exact absurd h h1
 .rename_i h1;split at h
  .cases h
  .rename_i h2;exact⟨by simpa using h1,dK.1 (by omega)⟩
theorem aq9{b}(hb:Bt b)(h:Yu (pX b).2=0):at8 b=pX b/\aq8 (pX b).1=true/\
 b=o4 [(pX b).1.1,(pX b).1.2.1]++((fl (pX b).1.1).flatMap λL=>o4 (fm L (pX b).1))/\(uO (pX b).1.1/\uO (pX b).1.2.1/\∀L,∀x∈fm L (pX b).1,uO x)/\(nv (pX b).1).length<=32:=by
 obtain⟨e0,e1⟩:=avf h;have ho:=ahj (fl (rd 1 31 (b,0)).1) (rd 0 8 (rd 1 31 (b,0)).2).2 (op0 (rd 1 31 (b,0)).1 (rd 0 8 (rd 1 31 (b,0)).2).1);have hB:=Sh _ _ _ e0;have hA:=zY hB;have fA:=L7 hA;have fB:=L7 hB;have iA:=JN hA;have iB:=JN hB;obtain⟨cA,sA⟩:=AS (s:=(b,0)) hb hA;obtain⟨cB,sB⟩:=AS (s:=(rd 1 31 (b,0)).2) (CF (s:=(b,0)) hb) hB;obtain⟨r1,r2,r3⟩:=ahh (fl (rd 1 31 (b,0)).1) (rd 0 8 (rd 1 31 (b,0)).2).2 (op0 (rd 1 31 (b,0)).1 (rd 0 8 (rd 1 31 (b,0)).2).1) (alB _) (CF (s:=(rd 1 31 (b,0)).2) (CF (s:=(b,0)) hb)) e0;have hop:(pX b).1.1=(rd 1 31 (b,0)).1:=ho.1;have hby:(pX b).1.2.1=(rd 0 8 (rd 1 31 (b,0)).2).1:=ho.2;have hz:∀L,L∉fl (rd 1 31 (b,0)).1->zeroV L (pX b).1:=λL hL=>by unfold zeroV;rw[show fm L (pX b).1=fm L (op0 (rd 1 31 (b,0)).1 (rd 0 8 (rd 1 31 (b,0)).2).1)from N9 _ _ _ L hL];exact alJ L _ _
 have hB':aq8 (pX b).1=true:=by
  refine(alK _).2 ⟨by rw[hop];exact iA,by rw[hby];exact iB,?_,?_⟩
  .rw[hop];exact λL hL=>(r2 L hL).1
  .rw[hop];exact hz
 refine⟨?_,hB',?_,⟨by rw[hop];exact sA,by rw[hby];exact sB,λL x hx=>?_⟩,?_⟩
 .unfold at8;rw[fA,fB];exact r1
 .rw[hop,hby,show[(rd 1 31 (b,0)).1,(rd 0 8 (rd 1 31 (b,0)).2).1]=[(rd 1 31 (b,0)).1]++[(rd 0 8 (rd 1 31 (b,0)).2).1]from rfl,D3,yz,yz];have r3':(rd 0 8 (rd 1 31 (b,0)).2).2.1=((fl (rd 1 31 (b,0)).1).flatMap λL=>o4 (fm L (pX b).1))++(pX b).2.1:=r3;rw[e1,cy]at r3';rw[<-r3',bq,<-cB];exact cA
 .by_cases hL:L∈fl (rd 1 31 (b,0)).1
  .exact(r2 L hL).2 x hx
  .rw[hz L hL x hx];unfold uO;omega
 .by_cases hL:Lt.N∈fl (rd 1 31 (b,0)).1
  .exact(r2 .N hL).1
  .have:=hz .N hL ((nv (pX b).1).length:Int) (by simp[fm,nv]);omega
end Go.Proofs.YthghpahghjppjaaGreat