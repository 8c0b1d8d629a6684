import Derived.Test.YtllkmncnmlmefaaGreatB5
namespace Go.Proofs.YtllkmncnmlmefaaGreat
open Go Go.Vc Go.RowKit
def wv(w:zbf):Int:=w.1*18446744073709551616+w.2.1
def wOk(w:zbf):Prop:=(-9223372036854775808≤w.1∧w.1≤9223372036854775807)∧(0≤w.2.1∧w.2.1<18446744073709551616)
def wide(z:Int):zbf:=(z / 18446744073709551616,z % 18446744073709551616,())
def In128(z:Int):Prop := -170141183460469231731687303715884105728≤z∧z<170141183460469231731687303715884105728
instance (z:Int):Decidable (In128 z):=by unfold In128; infer_instance
theorem zru(z:Int):wv (wide z)=z:=by unfold wide wv; simp only; omega
theorem wv_in(w:zbf)(h:wOk w):In128 (wv w):=by unfold wOk at h; unfold In128 wv; omega
theorem ybf(z:Int)(h:In128 z):wOk (wide z):=by unfold In128 at h; unfold wOk wide; simp only; omega
theorem wide_inj{a b:Int}(h:wide a=wide b):a=b:=by rw[←zru a,h,zru]
theorem shr63(n:Int)(h : -9223372036854775808≤n∧n≤9223372036854775807):n.fdiv (2 ^ min (Int.toNat 63) IntKind.i64.bits)=n / 18446744073709551616:=by
 have e:(2:Int) ^ min (Int.toNat 63) IntKind.i64.bits=9223372036854775808:=by decide +kernel
 rw[e,Int.fdiv_eq_ediv_of_nonneg _ (by omega)]; omega
def fit(z:Int):zbf×Int×Unit:=if In128 z then (wide z,0,()) else ((0,0,()),7,())
def I64(n:Int):Prop := -9223372036854775808≤n∧n≤9223372036854775807
theorem yiw{n:Int}(h:I64 n):In128 n:=by unfold I64 at h; unfold In128; omega
theorem r_wOf(n:Int)(h:I64 n):zoi n=some (wide n):=by
 show zum stdW n=_
 unfold zum
 rw[nn_w (by omega),shr63 n h,IntKind.wrap_u64]; rfl
def totT(V:Int):Int×Int×Int×Unit:=(V / 340282366920938463463374607431768211456,IntKind.i64.wrap (V / 18446744073709551616),V % 18446744073709551616,())
def InTot(V:Int):Prop := -1569275433846670190958947355801916604025588861116008628224≤V∧V<1569275433846670190958947355801916604025588861116008628224
theorem yhq(z:Int):IntKind.u64.wrap (IntKind.i64.wrap z)=z % 18446744073709551616:=by
 rw[IntKind.wrap_u64,IntKind.wrap_i64]; omega
theorem zzn(z:Int):IntKind.i64.wrap (z % 18446744073709551616)=IntKind.i64.wrap z:=by
 rw[IntKind.wrap_i64,IntKind.wrap_i64]; omega
theorem tot_next(V x y:Int)(hV:InTot V)(hx : -9223372036854775808≤x∧x≤9223372036854775807)(hy:0≤y∧y<18446744073709551616):
  ((IntKind.i64.wrap (V / 340282366920938463463374607431768211456+IntKind.i64.wrap (x.fdiv (2 ^ min (Int.toNat 63) IntKind.i64.bits)+IntKind.i64.wrap ((IntKind.u64.wrap (IntKind.i64.wrap (V / 18446744073709551616))+IntKind.u64.wrap x+(V % 18446744073709551616+y+0) / 18446744073709551616) / 18446744073709551616))),
   IntKind.i64.wrap ((IntKind.u64.wrap (IntKind.i64.wrap (V / 18446744073709551616))+IntKind.u64.wrap x+(V % 18446744073709551616+y+0) / 18446744073709551616) % 18446744073709551616),
   (V % 18446744073709551616+y+0) % 18446744073709551616,()):Int×Int×Int×Unit)=totT (V+(x*18446744073709551616+y)):=by
 unfold InTot at hV
 rw[yhq,zzn,shr63 x hx,IntKind.wrap_u64]
 have e1:(V+(x*18446744073709551616+y)) / 18446744073709551616=V / 18446744073709551616+x+(V % 18446744073709551616+y+0) / 18446744073709551616:=by omega
 have e0:(V+(x*18446744073709551616+y)) / 340282366920938463463374607431768211456=(V / 18446744073709551616+x+(V % 18446744073709551616+y+0) / 18446744073709551616) / 18446744073709551616:=by omega
 have e3:V / 340282366920938463463374607431768211456=V / 18446744073709551616 / 18446744073709551616:=by omega
 unfold totT
 rw[e1,e0,e3]
 have hc:0≤(V % 18446744073709551616+y+0) / 18446744073709551616∧(V % 18446744073709551616+y+0) / 18446744073709551616≤1:=by omega
 generalize (V % 18446744073709551616+y+0) / 18446744073709551616=c at*
 have hu : -92233720368547758080000000000000000000≤V / 18446744073709551616∧V / 18446744073709551616<92233720368547758080000000000000000000:=by omega
 generalize V / 18446744073709551616=u at*
 have f1:(V+(x*18446744073709551616+y)) % 18446744073709551616=(V % 18446744073709551616+y+0) % 18446744073709551616:=by omega
 rw[f1]
 have g2:(u % 18446744073709551616+x % 18446744073709551616+c) / 18446744073709551616≤2∧0≤(u % 18446744073709551616+x % 18446744073709551616+c) / 18446744073709551616:=by omega
 have g1:IntKind.i64.wrap ((u % 18446744073709551616+x % 18446744073709551616+c) / 18446744073709551616)=(u % 18446744073709551616+x % 18446744073709551616+c) / 18446744073709551616:=IntWalk.i64_in _ (by omega)
 rw[g1]
 have g3:IntKind.i64.wrap (x / 18446744073709551616+(u % 18446744073709551616+x % 18446744073709551616+c) / 18446744073709551616)=x / 18446744073709551616+(u % 18446744073709551616+x % 18446744073709551616+c) / 18446744073709551616:=IntWalk.i64_in _ (by omega)
 rw[g3]
 have g4:u / 18446744073709551616+(x / 18446744073709551616+(u % 18446744073709551616+x % 18446744073709551616+c) / 18446744073709551616)=(u+x+c) / 18446744073709551616:=by omega
 rw[g4]
 have g5:IntKind.i64.wrap ((u+x+c) / 18446744073709551616)=(u+x+c) / 18446744073709551616:=IntWalk.i64_in _ (by omega)
 rw[g5]
 have g6:IntKind.i64.wrap (u % 18446744073709551616+x % 18446744073709551616+c)=IntKind.i64.wrap (u+x+c):=by rw[IntKind.wrap_i64,IntKind.wrap_i64]; omega
 rw[g6]
theorem ymc{x y c:Int}(hx:0≤x)(hy:0≤y)(hc0:0≤c)(hc:c≤1):add64 x y c=some ((x+y+c) % 18446744073709551616,(x+y+c) / 18446744073709551616,()):=by unfold add64; rw[if_pos ⟨hx,hy,hc0,hc⟩]
theorem r_tadd(V:Int)(x:zbf)(hV:InTot V)(hx:wOk x):zcb x (totT V).1 (totT V).2.1 (totT V).2.2.1=some ((),totT (V+wv x)):=by
 unfold wOk at hx
 show zei stdW x (V / 340282366920938463463374607431768211456) (IntKind.i64.wrap (V / 18446744073709551616)) (V % 18446744073709551616)=_
 unfold zei wv
 rw[←tot_next V x.1 x.2.1 hV hx.1 hx.2]
 have hV':=hV
 unfold InTot at hV'
 rw[zaa (ymc (by omega) (by omega) (by omega) (by omega)),zaa (ymc (by rw[IntKind.wrap_u64]; omega) (by rw[IntKind.wrap_u64]; omega) (by show 0≤(V % 18446744073709551616+x.2.1+0) / 18446744073709551616; omega) (by show (V % 18446744073709551616+x.2.1+0) / 18446744073709551616≤1; omega)),nn_w (by omega)]
theorem tot_fits(V:Int)(hV:InTot V):(V / 340282366920938463463374607431768211456==(IntKind.i64.wrap (V / 18446744073709551616)).fdiv (2 ^ min (Int.toNat 63) IntKind.i64.bits))=decide (In128 V):=by
 have hr : -9223372036854775808≤IntKind.i64.wrap (V / 18446744073709551616)∧IntKind.i64.wrap (V / 18446744073709551616)≤9223372036854775807:=by
  rw[IntKind.wrap_i64]; omega
 rw[shr63 _ hr]
 unfold InTot at hV
 by_cases h:In128 V
 ·rw[decide_eq_true h]
  unfold In128 at h
  rw[IntWalk.i64_in _ (by omega)]
  first|(simp; done)|(simp; omega)|skip
 ·rw[decide_eq_false h]
  unfold In128 at h
  rw[IntKind.wrap_i64]
  simp; omega
theorem r_ranged(w:zbf)(ok:Bool):zoh w ok=some (if ok=true then (w,0,()) else ((0,0,()),7,())):=by
 show zgg stdW w ok=_
 unfold zgg
 cases ok<;>rfl
theorem r_tdone(V:Int)(hV:InTot V):zdk (totT V).1 (totT V).2.1 (totT V).2.2.1=some (fit V,totT V):=by
 show zdx stdW _ _ _=_
 unfold zdx
 rw[nn_w (by omega),zaa (r_ranged _ _)]
 have:=tot_fits V hV
 show some ((if (V / 340282366920938463463374607431768211456==(IntKind.i64.wrap (V / 18446744073709551616)).fdiv (2 ^ min (Int.toNat 63) IntKind.i64.bits))=true then _ else _),_)=_
 rw[this]
 unfold fit
 by_cases h:In128 V
 ·rw[if_pos (decide_eq_true h),if_pos h]
  have e:IntKind.i64.wrap (V / 18446744073709551616)=V / 18446744073709551616:=by unfold In128 at h; exact IntWalk.i64_in _ (by omega)
  show some (((IntKind.i64.wrap (V / 18446744073709551616),V % 18446744073709551616,()),0,()),_)=_
  rw[e]; rfl
 ·rw[decide_eq_false h,if_neg (by simp),if_neg h]
def sumW(l:List zbf):Int:=(l.map wv).sum
theorem sumW_in:∀(l:List zbf),(∀w∈l,wOk w) → -(170141183460469231731687303715884105728*(l.length:Int))≤sumW l∧sumW l≤170141183460469231731687303715884105728*(l.length:Int)
 |[],_=>by simp[sumW]
 |x::l,h=>by
  have h1:=wv_in x (h x (by simp))
  have h2:=sumW_in l fun w hw=>h w (by simp[hw])
  unfold In128 at h1
  simp only[sumW,List.map_cons,List.sum_cons,List.length_cons]at h2 ⊢
  omega
theorem yjv(l:List zbf)(h:∀w∈l,wOk w)(hl:l.length<9223372036854775807):InTot (sumW l):=by
 have:=sumW_in l h
 unfold InTot; omega
theorem sumW_app(a b:List zbf):sumW (a++b)=sumW a+sumW b:=by unfold sumW; simp
theorem sumW_one(a:zbf):sumW [a]=wv a:=by unfold sumW; simp
theorem sumW_take(l:List zbf)(i:Nat)(h:i<l.length):sumW (l.take (i+1))=sumW (l.take i)+wv l[i]:=by
 rw[show l.take (i+1)=l.take i++[l[i]] by simp,sumW_app,sumW_one]
theorem r_wAdd(l:List zbf)(h:∀w∈l,wOk w)(hl:l.length<9223372036854775807):zun l=some (fit (sumW l)):=by
 show zph stdW l=_
 unfold zph
 refine zbx (l:=l) (by omega) (fun i s=>s=totT (sumW (l.take i))) (fun _ _=>some (fit (sumW l))) (by simp[sumW]; rfl) ?_ ?_
 ·rintro _ again rfl
  rw[List.take_length,zaq,zaa (r_tdone _ (yjv l h hl))]
 ·rintro i hi _ rfl again ha
  rw[cnd_lt hi,idx_w hi,zaa (r_tadd _ _ (yjv _ (fun w hw=>h w (List.mem_of_mem_take hw)) (by rw[List.length_take]; omega)) (h _ (List.getElem_mem hi)))]
  dsimp only
  rw[i64_s i (by omega)]
  exact ha _ (by rw[sumW_take l i hi])
end Go.Proofs.YtllkmncnmlmefaaGreat
namespace Go.Proofs.YtllkmncnmlmefaaGreat
open Go Go.Vc Go.RowKit
end Go.Proofs.YtllkmncnmlmefaaGreat

namespace Go.Proofs.YtllkmncnmlmefaaGreat
open Go Go.Vc Go.RowKit
instance (z:Int):Decidable (I64 z):=by unfold I64; infer_instance
def fits64(z:Int):Int×Int×Unit:=if I64 z then (z,0,()) else (0,7,())
theorem nif_t(c:Bool):notIf true c=!c:=by cases c<;>rfl
theorem nif_f(c:Bool):notIf false c=c:=by cases c<;>rfl
theorem r_wInt{z:Int}(h:In128 z):ybh (wide z)=some (fits64 z):=by
 show zpg stdW (wide z)=_
 unfold zpg
 have hw:IntKind.i64.wrap (wide z).2.1=IntKind.i64.wrap z:=zzn z
 have hI:I64 (IntKind.i64.wrap z):=by unfold I64; rw[IntKind.wrap_i64]; omega
 rw[hw,zaa (r_wOf _ hI),nif_t]
 unfold fits64
 by_cases hz:I64 z
 ·have e:IntKind.i64.wrap z=z:=by unfold I64 at hz; exact IntWalk.i64_in _ (by omega)
  rw[if_pos hz,e,cnd_n (by simp)]
 ·rw[if_neg hz,cnd_y ?_]
  rw[Bool.not_eq_true']
  cases hc:((wide (IntKind.i64.wrap z)).1==(wide z).1&&(wide (IntKind.i64.wrap z)).2.1==(wide z).2.1) with
  |false=>rfl
  |true=>
   simp only[Bool.and_eq_true,beq_iff_eq]at hc
   have:wide (IntKind.i64.wrap z)=wide z:=Prod.ext hc.1 (Prod.ext hc.2 rfl)
   exact absurd (wide_inj this▸hI) hz
theorem yfj{z:Int}(h:In128 z):zhv (wide z) 0=some (fits64 z):=by
 show zjz stdW (wide z) 0=_
 unfold zjz
 rw[cnd_n (by decide),zaa (r_wInt h)]
theorem sum_in{l:List Int}(h:∀x∈l,I64 x) : -(9223372036854775808*(l.length:Int))≤l.sum∧l.sum≤9223372036854775808*(l.length:Int):=by
 have:=yjw (f:=fun x:Int=>x) (B:=9223372036854775808) (l:=l) (fun x hx=>by have:=h x hx; unfold I64 at this; omega)
 simpa[sumBy]using this
theorem sumW_wide(l:List Int):sumW (l.map wide)=l.sum:=by
 unfold sumW
 rw[List.map_map]
 have:(wv ∘ wide)=id:=funext zru
 rw[this,List.map_id]
theorem wides_ok{l:List Int}(h:∀x∈l,I64 x):∀w∈l.map wide,wOk w:=by
 intro w hw
 obtain⟨x,hx,rfl⟩:=List.mem_map.1 hw
 exact ybf _ (yiw (h x hx))
theorem sum128{l:List Int}(h:∀x∈l,I64 x)(hl:l.length≤1000000):In128 l.sum:=by
 have:=sum_in h; unfold In128; omega
theorem r_wSum{l:List Int}(h:∀x∈l,I64 x)(hl:l.length≤1000000):zun (l.map wide)=some (wide l.sum,0,()):=by
 rw[r_wAdd _ (wides_ok h) (by rw[List.length_map]; omega),sumW_wide]
 unfold fit; rw[if_pos (sum128 h hl)]
theorem r_fSum{l:List Int}(h:∀x∈l,I64 x)(hl:l.length≤1000000):zka l=some (fits64 l.sum):=by
 show zvl stdW l=_
 unfold zvl
 rw[nn_w (by omega),room_w (by simp; omega) (by simp; omega)]
 refine loop_n (N:=l.length) (by omega) (fun i s=>s=((l.take i).map wide,())) (some (fits64 l.sum)) rfl ?_ ?_
 ·rintro _ again rfl
  rw[zaq,List.take_length,zaa (r_wSum h hl),zaa (yfj (sum128 h hl))]
 ·rintro i hi _ rfl again ha
  rw[cnd_lt hi,idx_w hi,zaa (r_wOf _ (h _ (List.getElem_mem hi))),i64_s i (by omega),room_w (by simp; omega) (by simp; omega)]
  refine ha _ ?_
  rw[List.take_succ_eq_append_getElem hi,List.map_append]; rfl
theorem join_g{X β:Type}{k0:X→Option β}{f:(X→Option β)→Option β}{r:Option β}(h:∀k,k=k0→f k=r):stdW.join k0 f=r:=h k0 rfl
theorem zsi(a b:AUnit'):zdo a b=some (decide (ltA a b)):=by
 show zob stdW a b=_
 unfold zob
 by_cases h:a.1=b.1
 ·rw[cnd_n (by simp[h])]
  congr 1; refine decide_eq_decide.2 ?_; unfold ltA; omega
 ·rw[cnd_y (by simp[h])]
  congr 1; refine decide_eq_decide.2 ?_; unfold ltA; omega
def PInv(l:List AFlow'):Prop:=(∀x∈l,x.2.1≠0)∧SrtA (l.map (·.1))
instance (l:List AFlow'):Decidable (PInv l):=by unfold PInv SrtA; infer_instance
def isP(l:List AFlow'):Bool:=decide (PInv l)
theorem isP_bad0{l:List AFlow'}{i:Nat}(hi:i<l.length)(h:l[i].2.1=0):isP l=false:=
 decide_eq_false fun hp=>hp.1 _ (List.getElem_mem hi) h
theorem isP_bad1{l:List AFlow'}{i:Nat}(hi:i<l.length)(h0:0<i)(h:¬ltA (l[i - 1]'(by omega)).1 l[i].1):isP l=false:=
 decide_eq_false fun hp=>h (by
  have:=List.pairwise_iff_getElem.1 hp.2 (i - 1) i (by simp; omega) (by simpa using hi) (by omega)
  simpa using this)
theorem ylm{l:List AFlow'}{i:Nat}(hi:i<l.length)(inv:PInv (l.take i))(h1:l[i].2.1≠0)(h2:∀h0:0<i,ltA (l[i - 1]'(by omega)).1 l[i].1):PInv (l.take (i+1)):=by
 rw[List.take_succ_eq_append_getElem hi]
 refine⟨fun x hx=>?_,?_⟩
 ·rcases List.mem_append.1 hx with hx|hx
  ·exact inv.1 x hx
  ·simp at hx; rw[hx]; exact h1
 ·show SrtA ((l.take i++[l[i]]).map (·.1))
  rw[List.map_append]
  refine List.pairwise_append.2 ⟨inv.2,by simp,fun a ha b hb=>?_⟩
  simp only[List.map_cons,List.map_nil,List.mem_singleton]at hb
  subst hb
  obtain⟨k,hk,hka⟩:=List.mem_iff_getElem.1 ha
  have hk':k<i:=by simp at hk; omega
  have h3:=h2 (by omega)
  by_cases hki:k=i - 1
  ·subst hki; rw[←hka]; simpa using h3
  ·have h4:=List.pairwise_iff_getElem.1 inv.2 k (i - 1) (by simpa using hk) (by simp; omega) (by omega)
   rw[hka]at h4
   refine ltA_tr h4 ?_
   simpa using h3
theorem isP_end{l:List AFlow'}(h:PInv (l.take l.length)):isP l=true:=by rw[List.take_length]at h; exact decide_eq_true h
theorem r_is{l:List AFlow'}(hl:l.length≤1000000):zux l=some (isP l):=by
 show zqi stdW l=_
 unfold zqi
 refine loop_n (N:=l.length) (by omega) (fun i _=>PInv (l.take i)) (some (isP l)) (by simp[PInv]) ?_ ?_
 ·rintro _ again h
  rw[zaq,isP_end h]
 ·rintro i hi _ inv again ha
  rw[cnd_lt hi,idx_w hi]
  refine join_g fun k hk=>?_
  have kt:k (true,())=some false:=by subst hk; rfl
  have kf:k (false,())=again (((i+1:Nat):Int),()):=by rw[←i64_s i (by omega)]; subst hk; rfl
  clear hk
  by_cases h1:l[i].2.1=0
  ·rw[cnd_y (by simpa using h1),kt,isP_bad0 hi h1]
  ·rw[cnd_n (by simpa using h1)]
   by_cases h0:0<i
   ·rw[cnd_y (decide_eq_true (by omega)),zqw i h0 (by rw[zax]; omega),idx_w (by omega),zaa (zsi _ _)]
    by_cases h2:ltA (l[i - 1]'(by omega)).1 l[i].1
    ·rw[decide_eq_true h2]
     exact kf.trans (ha _ (ylm hi inv h1 fun _=>h2))
    ·rw[decide_eq_false h2,isP_bad1 hi h0 h2]; exact kt
   ·rw[cnd_n (decide_eq_false (by omega))]
    exact kf.trans (ha _ (ylm hi inv h1 fun h=>absurd h h0))
theorem eqA(a b:AUnit'):(a.1==b.1&&a.2.1==b.2.1)=decide (a=b):=by
 by_cases h:a=b
 ·subst h; simp
 ·rw[decide_eq_false h]
  cases hc:(a.1==b.1&&a.2.1==b.2.1) with
  |false=>rfl
  |true=>simp only[Bool.and_eq_true,beq_iff_eq]at hc; exact absurd (extA hc.1 hc.2) h
def getP:List AFlow'→AUnit'→Int
 |[],_=>0
 |x::l,u=>if x.1=u then x.2.1 else getP l u
theorem r_get{l:List AFlow'}{u:AUnit'}(hl:l.length≤1000000):zep l u=some (getP l u):=by
 show zmr stdW l u=_
 unfold zmr
 refine zbx (l:=l) (by omega) (fun _ _=>True) (fun l _=>some (getP l u)) trivial ?_ ?_
 ·rintro _ again _
  rw[zaq]; rfl
 ·rintro i hi _ _ again ha
  rw[cnd_lt hi,idx_w hi,nif_f,eqA]
  unfold getP
  by_cases h:l[i].1=u
  ·rw[cnd_y (decide_eq_true h),if_pos h]
  ·rw[cnd_n (decide_eq_false h),if_neg h,i64_s i (by omega)]
   exact ha _ trivial
theorem r_get17{l:List AFlow'}{u:AUnit'}(hl:l.length≤1000000):zhm l u=some (getP l u):=by
 show zmj stdW l u=_
 unfold zmj
 refine zbx (l:=l) (by omega) (fun _ _=>True) (fun l _=>some (getP l u)) trivial ?_ ?_
 ·rintro _ again _
  rw[zaq]; rfl
 ·rintro i hi _ _ again ha
  rw[cnd_lt hi,idx_w hi,nif_f,eqA]
  unfold getP
  by_cases h:l[i].1=u
  ·rw[cnd_y (decide_eq_true h),if_pos h,idx_w hi]
  ·rw[cnd_n (decide_eq_false h),if_neg h,i64_s i (by omega)]
   exact ha _ trivial
def amt(x:AFlow'):Int:=x.2.1
def okF(l:List AFlow'):Prop:=∀x∈l,I64 (amt x)
theorem okF.take{l:List AFlow'}(h:okF l)(i:Nat):okF (l.take i):=fun x hx=>h x (List.mem_of_mem_take hx)
def ofFlow(u:AUnit')(x:AFlow'):Bool:=decide (x.1=u)
def amts(l:List AFlow')(u:AUnit'):List Int:=(l.filter (ofFlow u)).map amt
def sumU(l:List AFlow')(u:AUnit'):Int:=(amts l u).sum
theorem ymb(l:List AFlow')(u:AUnit'):(amts l u).length≤l.length:=by
 unfold amts; rw[List.length_map]; exact List.length_filter_le _ _
theorem amts_ok{l:List AFlow'}(h:okF l)(u:AUnit'):∀x∈amts l u,I64 x:=by
 intro x hx
 obtain⟨y,hy,rfl⟩:=List.mem_map.1 hx
 exact h y (List.mem_filter.1 hy).1
theorem yhm(l:List AFlow')(u:AUnit')(i:Nat)(h:i<l.length):amts (l.take (i+1)) u=amts (l.take i) u++(if l[i].1=u then [l[i].2.1] else []):=by
 unfold amts
 rw[yjf _ _ _ h,List.map_append]
 unfold ofFlow
 by_cases hu:l[i].1=u<;>simp[hu,amt]
theorem r_amounts{l:List AFlow'}{u:AUnit'}(hl:l.length≤1000000):zje l u=some (amts l u):=by
 show zfd stdW l u=_
 unfold zfd
 refine loop_n (N:=l.length) (by omega) (fun i s=>s=(amts (l.take i) u,())) (some (amts l u)) rfl ?_ ?_
 ·rintro _ again rfl
  rw[zaq,List.take_length]
 ·rintro i hi _ rfl again ha
  rw[cnd_lt hi]
  refine join_g fun k hk=>?_
  have kk:∀v:List Int,k (v,())=again (((i+1:Nat):Int),(v,())):=by intro v; rw[←i64_s i (by omega)]; subst hk; rfl
  clear hk
  have hlen:=ymb (l.take i) u
  rw[List.length_take]at hlen
  rw[idx_w hi,nif_f,eqA]
  by_cases h:l[i].1=u
  ·rw[cnd_y (decide_eq_true h),room_w (by simp; omega) (by simp; omega),kk]
   refine ha _ ?_
   rw[yhm _ _ _ hi,if_pos h]
  ·rw[cnd_n (decide_eq_false h),kk]
   refine ha _ ?_
   rw[yhm _ _ _ hi,if_neg h,List.append_nil]
def payGo(all:List AFlow'):List AUnit'→List AFlow'→List AFlow'×Int×Unit
 |[],acc=>(acc,0,())
 |u::us,acc=>if I64 (sumU all u) then (if sumU all u≠0 then payGo all us (acc++[(u,sumU all u,())]) else payGo all us acc) else ([],7,())
def payP(l fl:List AFlow'):List AFlow'×Int×Unit:=if isP l=true then payGo (l++fl) (zdi (l++fl)) [] else ([],3,())
theorem yev(l:List AFlow'):(zdi l).length≤l.length:=by
 unfold zdi
 rw[List.length_map,yhw]
 exact Nat.le_trans (yju _) (by simp)
theorem r_pay{l fl:List AFlow'}(h:okF l)(hf:okF fl)(hl:l.length+fl.length≤1000000):zlf l fl=some (payP l fl):=by
 show zmq stdW l fl=_
 unfold zmq payP
 rw[zaa (r_is (by omega))]
 by_cases hp:isP l=true
 ·rw[hp,cnd_n (by decide),if_pos rfl]
  have hall:okF (l++fl):=fun x hx=>(List.mem_append.1 hx).elim (h x) (hf x)
  have e1:ztm (l::(fl::[]))=some (l++fl):=by
   unfold ztm
   rw[show (l::(fl::[])).flatten=l++fl by simp,if_pos (by rw[List.length_append]; omega)]
  have hlen:(l++fl).length≤1000000:=by rw[List.length_append]; exact hl
  have e2:namedO (l++fl)=some (zdi (l++fl)):=by unfold namedO; rw[if_pos (by omega)]
  rw[zaa e1,zaa e2]
  have hul:=yev (l++fl)
  generalize l++fl=all at*
  generalize zdi all=us at*
  refine zbx (l:=us) (by omega) (fun i (s:List AUnit'×List AFlow'×Unit)=>s.1=us∧s.2.1.length≤i) (fun us' (s:List AUnit'×List AFlow'×Unit)=>some (payGo all us' s.2.1)) ⟨rfl,Nat.le_refl _⟩ ?_ ?_
  ·rintro⟨_,acc,⟨⟩⟩ again ⟨rfl,_⟩
   rw[zaq]; rfl
  ·rintro i hi ⟨us',acc,⟨⟩⟩ ⟨hus,hacc⟩ again ha
   have hus:us=us':=hus.symm
   subst hus
   simp only at hacc
   rw[cnd_lt hi]
   refine join_g fun k hk=>?_
   have kk:∀v:List AFlow',k (us,(v,()))=again (((i+1:Nat):Int),(us,(v,()))):=by intro v; rw[←i64_s i (by omega)]; subst hk; rfl
   clear hk
   show stdW.idx us (i:Int) _=_
   rw[idx_w hi]
   show stdW.nth us (Int.toNat (i:Int)) _=_
   rw[nth_w hi,zaa (r_amounts hlen)]
   show _=some (payGo all (us[i]::us.drop (i+1)) acc)
   rw[payGo]
   have e3:=r_fSum (amts_ok hall us[i]) (Nat.le_trans (ymb _ _) hlen)
   change zka (amts all us[i])=some (if I64 (sumU all us[i]) then (sumU all us[i],0,()) else (0,7,())) at e3
   by_cases hI:I64 (sumU all us[i])
   ·rw[if_pos hI]at e3
    rw[if_pos hI,zaa e3]
    show stdW.cnd ((0:Int) != 0) _ (stdW.cnd (sumU all us[i] != 0) (stdW.room (acc.length+1) 24 (k (us,(acc++[(us[i],sumU all us[i],())],())))) (k (us,(acc,()))))=_
    rw[cnd_n (by decide)]
    by_cases h0:sumU all us[i]=0
    ·rw[if_neg (by simp[h0]),cnd_n (by simp[h0])]
     exact(kk acc).trans (ha _ ⟨rfl,by simp only; omega⟩)
    ·rw[if_pos h0,cnd_y (by simp[h0]),room_w (by omega) (by omega)]
     exact(kk (acc++[(us[i],sumU all us[i],())])).trans (ha _ ⟨rfl,by simp; omega⟩)
   ·rw[if_neg hI]at e3
    rw[if_neg hI,zaa e3]
    show stdW.cnd ((7:Int) != 0) (some ([],(7,()))) _=_
    rw[cnd_y (by decide)]
 ·have hp:isP l=false:=by simpa using hp
  rw[hp,cnd_y (by decide),if_neg (by simp)]
theorem not_i(a:Int)(h : -9223372036854775808≤a∧a≤9223372036854775807):bits .xor .i64 (-1) a = -1 - a:=by
 have e1:BitVec.ofInt 64 (-1)=BitVec.allOnes 64:=by decide
 show IntKind.i64.wrap (((BitVec.ofInt 64 (-1) ^^^ BitVec.ofInt 64 a).toNat:Nat):Int)=_
 rw[e1,BitVec.allOnes_xor,BitVec.toNat_not,BitVec.toNat_ofInt,IntKind.wrap_i64]
 have:(2:Int) ^ 64=18446744073709551616:=by decide
 omega
theorem not_u(a:Int)(h:0≤a∧a<18446744073709551616):bits .xor .u64 18446744073709551615 a=18446744073709551615 - a:=by
 have e1:BitVec.ofInt 64 18446744073709551615=BitVec.allOnes 64:=by decide
 show IntKind.u64.wrap (((BitVec.ofInt 64 18446744073709551615 ^^^ BitVec.ofInt 64 a).toNat:Nat):Int)=_
 rw[e1,BitVec.allOnes_xor,BitVec.toNat_not,BitVec.toNat_ofInt,IntKind.wrap_u64]
 have:(2:Int) ^ 64=18446744073709551616:=by decide
 omega
theorem r_wSub{a b:Int}(ha:In128 a)(hb:In128 b):ybg (wide a) (wide b)=some (fit (a - b)):=by
 show zpf stdW (wide a) (wide b)=_
 unfold zpf
 have ha':=ha
 have hb':=hb
 unfold In128 at ha' hb'
 have t0:InTot 0:=by unfold InTot; omega
 have t1:InTot a:=by unfold InTot; omega
 have t2:InTot (a+(-b - 1)):=by unfold InTot; omega
 have t3:InTot (a - b):=by unfold InTot; omega
 have s1:zcb (wide a) 0 0 0=some ((),totT a):=by
  have:=r_tadd 0 (wide a) t0 (ybf a ha)
  rw[zru,Int.zero_add]at this
  exact this
 rw[zaa s1]
 have ec:(bits .xor .i64 (if true=true then (-1) else (if true=true then ((2 ^ ((IntKind.bits .i64) - 1)) - 1) else ((2 ^ (IntKind.bits .i64)) - 1))) (wide b).1,bits .xor .u64 (if false=true then (-1) else (if false=true then ((2 ^ ((IntKind.bits .u64) - 1)) - 1) else ((2 ^ (IntKind.bits .u64)) - 1))) (wide b).2.1,())=wide (-b - 1):=by
  have c1:(if false=true then (-1:Int) else (if false=true then ((2 ^ ((IntKind.bits .u64) - 1)) - 1) else ((2 ^ (IntKind.bits .u64)) - 1)))=18446744073709551615:=by decide
  rw[c1,if_pos rfl]
  unfold wide
  show (bits .xor .i64 (-1) (b / 18446744073709551616),bits .xor .u64 18446744073709551615 (b % 18446744073709551616),())=_
  rw[not_i _ (by omega),not_u _ (by omega)]
  refine Prod.ext ?_ (Prod.ext ?_ rfl)
  ·show -1 - b / 18446744073709551616=(-b - 1) / 18446744073709551616; omega
  ·show 18446744073709551615 - b % 18446744073709551616=(-b - 1) % 18446744073709551616; omega
 have s2:=r_tadd a (wide (-b - 1)) t1 (ybf _ (by unfold In128; omega))
 rw[zru]at s2
 show stdW.call (zcb _ (totT a).1 (totT a).2.1 (totT a).2.2.1) _=_
 rw[ec,zaa s2,zaa (r_wOf 1 (by unfold I64; omega))]
 have s3:=r_tadd (a+(-b - 1)) (wide 1) t2 (ybf _ (by unfold In128; omega))
 rw[zru,show a+(-b - 1)+1=a - b by omega]at s3
 show stdW.call (zcb (wide 1) (totT (a+(-b - 1))).1 (totT (a+(-b - 1))).2.1 (totT (a+(-b - 1))).2.2.1) _=_
 rw[zaa s3]
 show stdW.call (zdk (totT (a - b)).1 (totT (a - b)).2.1 (totT (a - b)).2.2.1) _=_
 rw[zaa (r_tdone _ t3)]
theorem r_fSub{a b:Int}(ha:I64 a)(hb:I64 b):zte a b=some (fits64 (a - b)):=by
 show zvm stdW a b=_
 unfold zvm
 have hd:In128 (a - b):=by unfold I64 at ha hb; unfold In128; omega
 have e:fit (a - b)=(wide (a - b),0,()):=if_pos hd
 rw[zaa (r_wOf a ha),zaa (r_wOf b hb),zaa (r_wSub (yiw ha) (yiw hb)),e]
 show stdW.call (zhv (wide (a - b)) 0) _=_
 rw[zaa (yfj hd)]
def moveP(l:List AFlow')(f t:AUnit')(n:Int):List AFlow'×Int×Unit:=
 if I64 (-n) then payP l [(f,(-n,())),(t,(n,()))] else if isP l=true then ([],(7,())) else ([],(3,()))
theorem r_move{l:List AFlow'}{f t:AUnit'}{n:Int}(h:okF l)(hn:I64 n)(hl:l.length≤1000):zfu l f t n=some (moveP l f t n):=by
 show zjf stdW l f t n=_
 unfold zjf moveP
 have e:=r_fSub (a:=0) (b:=n) (by unfold I64; omega) hn
 rw[Int.zero_sub]at e
 unfold fits64 at e
 by_cases hI:I64 (-n)
 ·rw[if_pos hI]at e
  rw[if_pos hI,zaa e]
  refine join_g fun k hk=>?_
  show stdW.cnd ((0:Int) != 0) _ _=_
  rw[cnd_n (by decide)]
  subst hk
  show stdW.cnd false _ (stdW.call (zlf l [(f,(-n,())),(t,(n,()))]) _)=_
  rw[cnd_n rfl,zaa (r_pay h (by
   intro x hx
   simp only[List.mem_cons,List.not_mem_nil,or_false]at hx
   rcases hx with rfl|rfl
   ·exact hI
   ·exact hn) (by simp; omega))]
 ·rw[if_neg hI]at e
  rw[if_neg hI,zaa e]
  refine join_g fun k hk=>?_
  show stdW.cnd ((7:Int) != 0) _ _=_
  rw[cnd_y (by decide),zaa (r_is (by omega))]
  subst hk
  by_cases hp:isP l=true
  ·rw[hp,if_pos rfl]; rfl
  ·have hp:isP l=false:=by simpa using hp
   rw[hp,if_neg (by simp)]
   show stdW.cnd false _ (stdW.call (zlf l _) _)=_
   unfold I64 at hI hn
   have hn2:n = -9223372036854775808:=by omega
   rw[cnd_n rfl,zaa (r_pay h (by
    intro x hx
    simp only[List.mem_cons,List.not_mem_nil,or_false]at hx
    rcases hx with rfl|rfl
    ·show I64 0; unfold I64; omega
    ·show I64 n; unfold I64; omega) (by simp; omega))]
   unfold payP
   rw[hp,if_neg (by simp)]
theorem eqF(a b:AFlow'):(a.1.1==b.1.1&&(a.1.2.1==b.1.2.1&&a.2.1==b.2.1))=decide (a=b):=by
 by_cases h:a=b
 ·subst h; simp
 ·rw[decide_eq_false h]
  cases hc:(a.1.1==b.1.1&&(a.1.2.1==b.1.2.1&&a.2.1==b.2.1)) with
  |false=>rfl
  |true=>
   simp only[Bool.and_eq_true,beq_iff_eq]at hc
   exact absurd (Prod.ext (extA hc.1 hc.2.1) (Prod.ext hc.2.2 rfl)) h
theorem r_same{a:List AFlow'}(hl:a.length≤1000000):zmi a a=some true:=by
 show zit stdW a a=_
 unfold zit
 rw[cnd_n (by simp)]
 refine loop_n (N:=a.length) (by omega) (fun _ _=>True) (some true) trivial ?_ ?_
 ·rintro _ again _
  rw[zaq]
 ·rintro i hi _ _ again ha
  rw[cnd_lt hi,idx_w hi,idx_w hi,nif_t,eqF,cnd_n (by simp),i64_s i (by omega)]
  exact ha _ trivial
theorem r_few17(l:List AFlow')(hl:l.length≤9223372036854775807):zlp l=some (l.take 20):=by
 show zni stdW l=_
 unfold zni
 by_cases h:20<l.length
 ·rw[cnd_y (decide_eq_true (by omega)),bnd_w (by omega) (by omega)]; rfl
 ·rw[cnd_n (decide_eq_false (by omega)),List.take_of_length_le (by omega)]
theorem okD_flows{l:DT.den (.slc tAFlow)}(h:DT.okD (.slc tAFlow) l):okF l∧l.length≤9223372036854775807:=by
 refine⟨fun x hx=>wf_i64 (h.1 x hx).2.1,?_⟩
 have:=h.2
 rwa [zax]at this
theorem loop_at{X β:Type}{N:Nat}(hN:N<9223372036854775808){f:X→(X→Option β)→Option β}(st:Nat→X)(r:Option β)
  (hend:∀again:X→Option β,f (st N) again=r) (hstep:∀i,i<N→∀again:X→Option β,again (st (i+1))=r→f (st i) again=r):stdW.loop f (st 0)=r:=by
 have key:∀n i,i≤N→N - i<n→loopF n f (st i)=r:=by
  intro n
  induction n with
  |zero=>intro i _ h; omega
  |succ n ih=>
   intro i hi hn
   show f (st i) (loopF n f)=r
   by_cases h:i<N
   ·exact hstep i h _ (ih (i+1) (by omega) (by omega))
   ·have:i=N:=by omega
    subst this; exact hend _
 show loopF FU f (st 0)=r
 exact key FU 0 (Nat.zero_le _) (by rw[FU_eq]; omega)
theorem zxj{X β:Type}{N:Nat}(hN:N<9223372036854775808){f:X→(X→Option β)→Option β}(st:Nat→X)(r:Option β){z0:X}(hz:z0=st 0)
  (hend:∀again:X→Option β,f (st N) again=r) (hstep:∀i,i<N→∀again:X→Option β,again (st (i+1))=r→f (st i) again=r):stdW.loop f z0=r:=by
 subst hz; exact loop_at hN st r hend hstep
theorem ycx(all:List AFlow'):∀(us:List AUnit') (acc:List AFlow'),(payGo all us acc).2.1=0→
  (payGo all us acc).1=acc++(us.filter fun u=>decide (sumU all u≠0)).map (fun u=>(u,sumU all u,()))∧∀u∈us,I64 (sumU all u)
 |[],acc,_=>by simp[payGo]
 |u::us,acc,h=>by
  unfold payGo at h ⊢
  by_cases hI:I64 (sumU all u)
  ·rw[if_pos hI]at h ⊢
   by_cases h0:sumU all u≠0
   ·rw[if_pos h0]at h ⊢
    obtain⟨h1,h2⟩:=ycx all us _ h
    refine⟨?_,fun x hx=>?_⟩
    ·rw[h1,List.filter_cons,if_pos (by simpa using h0)]; simp
    ·rcases List.mem_cons.1 hx with rfl|hx
     ·exact hI
     ·exact h2 x hx
   ·rw[if_neg h0]at h ⊢
    obtain⟨h1,h2⟩:=ycx all us _ h
    refine⟨?_,fun x hx=>?_⟩
    ·rw[h1,List.filter_cons,if_neg (by simpa using h0)]
    ·rcases List.mem_cons.1 hx with rfl|hx
     ·exact hI
     ·exact h2 x hx
  ·rw[if_neg hI]at h; simp at h
theorem zhf(x:AFlow')(l:List AFlow')(u:AUnit'):sumU (x::l) u=(if x.1=u then amt x else 0)+sumU l u:=by
 unfold sumU amts ofFlow
 rw[List.filter_cons]
 by_cases h:x.1=u<;>simp[h]
theorem sumU_app(a b:List AFlow')(u:AUnit'):sumU (a++b) u=sumU a u+sumU b u:=by
 unfold sumU amts; rw[List.filter_append,List.map_append,List.sum_append]
theorem yez{l:List AFlow'}{u:AUnit'}(h:∀x∈l,x.1≠u):sumU l u=0:=by
 induction l with
 |nil=>rfl
 |cons x l ih=>rw[zhf,if_neg (h x (by simp)),ih fun y hy=>h y (by simp[hy])]; rfl
def resP(all:List AFlow')(us:List AUnit'):List AFlow':=(us.filter fun u=>decide (sumU all u≠0)).map fun u=>(u,sumU all u,())
theorem srt_nd{us:List AUnit'}(h:SrtA us):us.Nodup:=List.Pairwise.imp (fun {a b} (hab:ltA a b) (e:a=b)=>by subst e; exact zcq _ hab) h
theorem resP_is{all:List AFlow'}{us:List AUnit'}(h:SrtA us):isP (resP all us)=true:=by
 refine decide_eq_true ⟨fun x hx=>?_,?_⟩
 ·obtain⟨u,hu,rfl⟩:=List.mem_map.1 hx
  simpa using(List.mem_filter.1 hu).2
 ·unfold resP
  rw[List.map_map]
  have:((fun x:AFlow'=>x.1) ∘ fun u=>((u,sumU all u,()):AFlow'))=id:=rfl
  rw[this,List.map_id]
  exact h.filter _
theorem getP_none{l:List AFlow'}{u:AUnit'}(h:∀x∈l,x.1≠u):getP l u=0:=by
 induction l with
 |nil=>rfl
 |cons x l ih=>rw[getP,if_neg (h x (by simp)),ih fun y hy=>h y (by simp[hy])]
theorem yds:∀{l:List AFlow'},(l.map (·.1)).Nodup→∀u,getP l u=sumU l u
 |[],_,u=>rfl
 |x::l,h,u=>by
  obtain⟨h1,h2⟩:=List.nodup_cons.1 h
  rw[getP,zhf]
  by_cases hu:x.1=u
  ·rw[if_pos hu,if_pos hu,yez fun y hy e=>h1 (List.mem_map.2 ⟨y,hy,e.trans hu.symm⟩)]
   show amt x=_; omega
  ·rw[if_neg hu,if_neg hu,yds h2]; omega
theorem isP_nd{l:List AFlow'}(h:isP l=true):(l.map (·.1)).Nodup:=srt_nd (of_decide_eq_true h).2
theorem resP_get(all:List AFlow')(u:AUnit'):getP (resP all (zdi all)) u=sumU all u:=by
 by_cases h0:sumU all u=0
 ·rw[h0]
  refine getP_none fun x hx e=>?_
  obtain⟨v,hv,rfl⟩:=List.mem_map.1 hx
  have:=(List.mem_filter.1 hv).2
  simp only[decide_eq_true_eq]at this
  exact this (by rw[show v=u from e]; exact h0)
 ·rw[yds (isP_nd (resP_is (zwf all)))]
  have hu:u∈zdi all:=by
   rw[yeu]
   by_cases hx:∃x∈all,x.1=u
   ·exact hx
   ·exact absurd (yez fun x hx' e=>hx ⟨x,hx',e⟩) h0
  have key:∀us:List AUnit',us.Nodup→sumU (resP all us) u=if u∈us then sumU all u else 0:=by
   intro us
   induction us with
   |nil=>intro _; rfl
   |cons v us ih=>
    intro hn
    obtain⟨h1,h2⟩:=List.nodup_cons.1 hn
    have ih:=ih h2
    unfold resP at ih ⊢
    rw[List.filter_cons]
    by_cases hv:v=u
    ·subst hv
     rw[if_pos (by simpa using h0),List.map_cons,zhf,ih,if_neg h1,if_pos rfl,if_pos (by simp)]
     show sumU all v+0=_; omega
    ·have e:(if u∈v::us then sumU all u else 0)=if u∈us then sumU all u else 0:=by
      by_cases hm:u∈us
      ·rw[if_pos hm,if_pos (by simp[hm])]
      ·rw[if_neg hm,if_neg (by simp[hm,Ne.symm hv])]
     rw[e,←ih]
     by_cases hz:sumU all v=0
     ·rw[if_neg (by simp[hz])]
     ·rw[if_pos (by simp[hz]),List.map_cons,zhf,if_neg hv]; omega
  rw[key _ (srt_nd (zwf all)),if_pos hu]
theorem payP_ok{l f:List AFlow'}(h:(payP l f).2.1=0):isP l=true∧(payP l f).1=resP (l++f) (zdi (l++f))∧∀u∈zdi (l++f),I64 (sumU (l++f) u):=by
 unfold payP at h ⊢
 by_cases hp:isP l=true
 ·rw[if_pos hp]at h ⊢
  obtain⟨h1,h2⟩:=ycx _ _ _ h
  exact⟨hp,by rw[h1,List.nil_append]; rfl,h2⟩
 ·rw[if_neg hp]at h; simp at h
theorem resP_ok{all:List AFlow'}{us:List AUnit'}(h:∀u∈us,I64 (sumU all u)):okF (resP all us):=by
 intro x hx
 obtain⟨u,hu,rfl⟩:=List.mem_map.1 hx
 exact h u (List.mem_filter.1 hu).1
theorem resP_len(all:List AFlow')(us:List AUnit'):(resP all us).length≤us.length:=by
 unfold resP; rw[List.length_map]; exact List.length_filter_le _ _
end Go.Proofs.YtllkmncnmlmefaaGreat
namespace Go.Proofs.YtllkmncnmlmefaaGreat
open Go Go.Vc Go.RowKit
end Go.Proofs.YtllkmncnmlmefaaGreat

namespace Go.Proofs.YtllkmncnmlmefaaGreat
open Go Go.Vc Go.RowKit
def absI(z:Int):Int:=if z<0 then -z else z
theorem zyr{β:Type}{a b r:Option β}(ha:a=r)(hb:b=r):stdW.both a b=r:=by rw[ha,hb]; exact both_w r
theorem nilq_w{β:Type}(e:Bool)(f:Bool→Option β):stdW.nilq e f=nilF e f:=rfl
theorem loop_P{X β:Type}{f:X→(X→Option β)→Option β}(Q:Option β→Prop)(μ:X→Nat)(R:X→Prop){z:X}(hz:R z)(hm:μ z<18446744073709551616)
  (h:∀z,R z→∀again:X→Option β,(∀z',R z'→μ z'<μ z→Q (again z'))→Q (f z again)):Q (stdW.loop f z):=by
 have key:∀n z,R z→μ z<n→Q (loopF n f z):=by
  intro n
  induction n with
  |zero=>intro z _ h; omega
  |succ n ih=>intro z hz hm; exact h z hz _ fun z' hz' hm'=>ih z' hz' (by omega)
 exact key FU z hz (by rw[FU_eq]; exact hm)
theorem loop_ai{X β:Type}{N:Nat}(hN:N<9223372036854775808){f:X→(X→Option β)→Option β}(st:Nat→X)(Inv:Nat→Prop)(r:Option β){z0:X}(hz:z0=st 0)(h0:Inv 0)
  (hend:Inv N→∀again:X→Option β,f (st N) again=r) (hstep:∀i,i<N→Inv i→∀again:X→Option β,(Inv (i+1)→again (st (i+1))=r)→f (st i) again=r):stdW.loop f z0=r:=by
 subst hz
 have key:∀n i,i≤N→N - i<n→Inv i→loopF n f (st i)=r:=by
  intro n
  induction n with
  |zero=>intro i _ h; omega
  |succ n ih=>
   intro i hi hn hv
   show f (st i) (loopF n f)=r
   by_cases h:i<N
   ·exact hstep i h hv _ fun hv'=>ih (i+1) (by omega) (by omega) hv'
   ·have:i=N:=by omega
    subst this; exact hend hv _
 show loopF FU f (st 0)=r
 exact key FU 0 (Nat.zero_le _) (by rw[FU_eq]; omega) h0
theorem yir{X β:Type}{Q:Option β→Prop}{k0:X→Option β}{f:(X→Option β)→Option β}(h:∀k,k=k0→Q (f k)):Q (stdW.join k0 f):=h k0 rfl
abbrev Leg:=AUnit'
def VInv(l:List Leg):Prop:=(∀x∈l,(1≤x.1∧x.1≤8)∧x.2.1≠0)∧(l.map (·.1)).Pairwise (· < ·)
instance (l:List Leg):Decidable (VInv l):=by unfold VInv; infer_instance
def isV(l:List Leg):Bool:=decide (VInv l)
theorem yis{l:List Leg}{i:Nat}(hi:i<l.length)(h:¬((1≤l[i].1∧l[i].1≤8)∧l[i].2.1≠0)):isV l=false:=
 decide_eq_false fun hp=>h (hp.1 _ (List.getElem_mem hi))
theorem isV_bad1{l:List Leg}{i:Nat}(hi:i<l.length)(h0:0<i)(h:¬(l[i - 1]'(by omega)).1<l[i].1):isV l=false:=
 decide_eq_false fun hp=>h (by
  have:=List.pairwise_iff_getElem.1 hp.2 (i - 1) i (by simp; omega) (by simpa using hi) (by omega)
  simpa using this)
theorem isV_next{l:List Leg}{i:Nat}(hi:i<l.length)(inv:VInv (l.take i))(h1:(1≤l[i].1∧l[i].1≤8)∧l[i].2.1≠0)(h2:∀h0:0<i,(l[i - 1]'(by omega)).1<l[i].1):VInv (l.take (i+1)):=by
 rw[List.take_succ_eq_append_getElem hi]
 refine⟨fun x hx=>?_,?_⟩
 ·rcases List.mem_append.1 hx with hx|hx
  ·exact inv.1 x hx
  ·simp only[List.mem_singleton]at hx; rw[hx]; exact h1
 ·show ((l.take i++[l[i]]).map (·.1)).Pairwise (· < ·)
  rw[List.map_append]
  refine List.pairwise_append.2 ⟨inv.2,by simp,fun a ha b hb=>?_⟩
  simp only[List.map_cons,List.map_nil,List.mem_singleton]at hb
  subst hb
  obtain⟨k,hk,hka⟩:=List.mem_iff_getElem.1 ha
  have hk':k<i:=by simp at hk; omega
  have h3:=h2 (by omega)
  by_cases hki:k=i - 1
  ·subst hki; rw[←hka]; simpa using h3
  ·have h4:=List.pairwise_iff_getElem.1 inv.2 k (i - 1) (by simpa using hk) (by simp; omega) (by omega)
   rw[hka]at h4
   refine Int.lt_trans h4 ?_
   simpa using h3
theorem isV_end{l:List Leg}(h:VInv (l.take l.length)):isV l=true:=by rw[List.take_length]at h; exact decide_eq_true h
def lastV(l:List Leg)(i:Nat):Int:=if h:0<i∧i≤l.length then (l[i - 1]'(by omega)).1 else 0
theorem lastV_s{l:List Leg}{i:Nat}(h:i<l.length):lastV l (i+1)=l[i].1:=by
 unfold lastV; rw[dif_pos ⟨by omega,by omega⟩]; rfl
theorem r_isV{l:List Leg}(hl:l.length≤1000000):vec_Is l=some (isV l):=by
 show ybk stdW l=_
 unfold ybk
 refine loop_ai (N:=l.length) (by omega) (fun i=>(lastV l i,((i:Int),()))) (fun i=>VInv (l.take i)) (some (isV l)) (by unfold lastV; simp) (by simp[VInv]) ?_ ?_
 ·intro h again
  show stdW.cnd (decide ((l.length:Int)<(l.length:Int))) _ _=_
  rw[zaq,isV_end h]
 ·intro i hi inv again ha
  show stdW.cnd (decide ((i:Int)<(l.length:Int))) (stdW.idx l (i:Int) _) _=_
  rw[cnd_lt hi,idx_w hi]
  refine join_g fun k hk=>?_
  have kt:k (true,())=some false:=by subst hk; rfl
  have kf:k (false,())=again (lastV l (i+1),(((i+1:Nat):Int),())):=by rw[←i64_s i (by omega),lastV_s hi]; subst hk; rfl
  clear hk
  show stdW.cnd (decide (l[i].1≤lastV l i)) _ _=_
  by_cases h1:l[i].1≤lastV l i
  ·rw[cnd_y (decide_eq_true h1),kt]
   unfold lastV at h1
   by_cases h0:0<i
   ·rw[dif_pos ⟨h0,by omega⟩]at h1
    rw[isV_bad1 hi h0 (by omega)]
   ·rw[dif_neg (by omega)]at h1
    rw[yis hi (by omega)]
  ·rw[cnd_n (decide_eq_false h1)]
   by_cases h2:8<l[i].1
   ·rw[cnd_y (decide_eq_true h2),kt,yis hi (by omega)]
   ·rw[cnd_n (decide_eq_false h2)]
    by_cases h3:l[i].2.1=0
    ·rw[show (l[i].2.1==0)=true by simpa using h3,kt,yis hi (by simp[h3])]
    ·rw[show (l[i].2.1==0)=false by simpa using h3,kf]
     have hpos:1≤l[i].1:=by
      unfold lastV at h1
      by_cases h0:0<i
      ·rw[dif_pos ⟨h0,by omega⟩]at h1
       have:=(inv.1 (l[i - 1]'(by omega)) (List.mem_iff_getElem.2 ⟨i - 1,by simp; omega,by simp⟩)).1.1
       omega
      ·rw[dif_neg (by omega)]at h1; omega
     refine ha (isV_next hi inv ⟨⟨hpos,by omega⟩,h3⟩ fun h0=>?_)
     unfold lastV at h1
     rw[dif_pos ⟨h0,by omega⟩]at h1; omega
def okL(l:List Leg):Prop:=∀x∈l,I64 x.2.1
def BInv(l:List APos'):Prop:=(∀p∈l,p.2.1≠[]∧VInv p.2.1)∧SrtA (l.map (·.1))
instance (l:List APos'):Decidable (BInv l):=by unfold BInv SrtA; infer_instance
def isB(l:List APos'):Bool:=decide (BInv l)
theorem ylo{l:List APos'}{i:Nat}(hi:i<l.length)(h:¬(l[i].2.1≠[]∧VInv l[i].2.1)):isB l=false:=
 decide_eq_false fun hp=>h (hp.1 _ (List.getElem_mem hi))
theorem isB_bad1{l:List APos'}{i:Nat}(hi:i<l.length)(h0:0<i)(h:¬ltA (l[i - 1]'(by omega)).1 l[i].1):isB l=false:=
 decide_eq_false fun hp=>h (by
  have:=List.pairwise_iff_getElem.1 hp.2 (i - 1) i (by simp; omega) (by simpa using hi) (by omega)
  simpa using this)
theorem yln{l:List APos'}{i:Nat}(hi:i<l.length)(inv:BInv (l.take i))(h1:l[i].2.1≠[]∧VInv l[i].2.1)(h2:∀h0:0<i,ltA (l[i - 1]'(by omega)).1 l[i].1):BInv (l.take (i+1)):=by
 rw[List.take_succ_eq_append_getElem hi]
 refine⟨fun x hx=>?_,?_⟩
 ·rcases List.mem_append.1 hx with hx|hx
  ·exact inv.1 x hx
  ·simp only[List.mem_singleton]at hx; rw[hx]; exact h1
 ·show SrtA ((l.take i++[l[i]]).map (·.1))
  rw[List.map_append]
  refine List.pairwise_append.2 ⟨inv.2,by simp,fun a ha b hb=>?_⟩
  simp only[List.map_cons,List.map_nil,List.mem_singleton]at hb
  subst hb
  obtain⟨k,hk,hka⟩:=List.mem_iff_getElem.1 ha
  have hk':k<i:=by simp at hk; omega
  have h3:=h2 (by omega)
  by_cases hki:k=i - 1
  ·subst hki; rw[←hka]; simpa using h3
  ·have h4:=List.pairwise_iff_getElem.1 inv.2 k (i - 1) (by simpa using hk) (by simp; omega) (by omega)
   rw[hka]at h4
   refine ltA_tr h4 ?_
   simpa using h3
theorem isB_end{l:List APos'}(h:BInv (l.take l.length)):isB l=true:=by rw[List.take_length]at h; exact decide_eq_true h
def okB(l:List APos'):Prop:=(∀p∈l,okL p.2.1∧p.2.1.length≤100)∧l.length≤100
theorem r_isB{l:List APos'}(hb:okB l):zys l=some (isB l):=by
 have hl:=hb.2
 show zvw stdW l=_
 unfold zvw
 refine loop_n (N:=l.length) (by omega) (fun i _=>BInv (l.take i)) (some (isB l)) (by simp[BInv]) ?_ ?_
 ·rintro _ again h
  rw[zaq,isB_end h]
 ·rintro i hi _ inv again ha
  rw[cnd_lt hi,idx_w hi]
  refine join_g fun k hk=>?_
  have kt:k (true,())=some false:=by subst hk; rfl
  have kf:k (false,())=again (((i+1:Nat):Int),()):=by rw[←i64_s i (by omega)]; subst hk; rfl
  clear hk
  have hli:=(hb.1 _ (List.getElem_mem hi)).2
  by_cases h1:l[i].2.1=[]
  ·rw[cnd_y (by simp[h1]),both_w,kt,ylo hi (by simp[h1])]
  rw[cnd_n (by simpa using h1),zaa (r_isV (by omega))]
  by_cases hv:VInv l[i].2.1
  ·rw[show isV l[i].2.1=true from decide_eq_true hv,cnd_n (by decide)]
   by_cases h0:0<i
   ·rw[cnd_y (decide_eq_true (by omega)),zqw i h0 (by rw[zax]; omega),idx_w (by omega),zaa (zsi _ _),both_w]
    by_cases h2:ltA (l[i - 1]'(by omega)).1 l[i].1
    ·rw[decide_eq_true h2]
     exact kf.trans (ha _ (yln hi inv ⟨h1,hv⟩ fun _=>h2))
    ·rw[decide_eq_false h2,isB_bad1 hi h0 h2]; exact kt
   ·rw[cnd_n (decide_eq_false (by omega)),both_w]
    exact kf.trans (ha _ (yln hi inv ⟨h1,hv⟩ fun h=>absurd h h0))
  ·rw[show isV l[i].2.1=false from decide_eq_false hv,cnd_y (by decide),both_w,kt,ylo hi fun h=>hv h.2]
theorem r_few11(l:List Leg)(hl:l.length≤9223372036854775807):zxt l=some (l.take 12):=by
 show znk stdW l=_
 unfold znk
 by_cases h:12<l.length
 ·rw[cnd_y (decide_eq_true (by omega)),bnd_w (by omega) (by omega)]; rfl
 ·rw[cnd_n (decide_eq_false (by omega)),List.take_of_length_le (by omega)]
def fewPos(p:APos'):APos':=(p.1,(p.2.1.take 12,()))
def few19(l:List APos'):List APos':=(l.take 12).map fewPos
theorem few19_ok{l:List APos'}(h:∀p∈l,okL p.2.1):okB (few19 l):=by
 unfold few19
 refine⟨fun p hp=>?_,by rw[List.length_map,List.length_take]; omega⟩
 obtain⟨x,hx,rfl⟩:=List.mem_map.1 hp
 have hx:=h x (List.mem_of_mem_take hx)
 exact⟨fun y hy=>hx y (List.mem_of_mem_take hy),by show (x.2.1.take 12).length≤100; rw[List.length_take]; omega⟩
theorem r_few19(l:List APos')(hl:l.length≤9223372036854775807)(hm:∀p∈l,p.2.1.length≤9223372036854775807):zln l=some (few19 l):=by
 show zng stdW l=_
 unfold zng
 rw[join_w]
 refine zxj (N:=min l.length 12) (by omega) (fun i=>((i:Int),((l.take i).map fewPos,()))) _ rfl ?_ ?_
 ·intro again
  have e:(l.take (min l.length 12)).map fewPos=few19 l:=by
   unfold few19; rw[Nat.min_comm,←List.take_take,List.take_length]
  have g:(some ((l.take (min l.length 12)).map fewPos):Option (List APos'))=some (few19 l):=by rw[e]
  show stdW.cnd (decide (((min l.length 12:Nat):Int)<(l.length:Int))) (stdW.cnd (decide (((min l.length 12:Nat):Int)<12)) _ (some ((l.take (min l.length 12)).map fewPos))) (some ((l.take (min l.length 12)).map fewPos))=_
  by_cases h:(min l.length 12:Nat)<l.length
  ·rw[cnd_lt h,cnd_n (decide_eq_false (by omega))]; exact g
  ·rw[cnd_n (decide_eq_false (by omega))]; exact g
 ·intro i hi again ha
  have hi1:i<l.length:=by omega
  show stdW.cnd (decide ((i:Int)<(l.length:Int))) (stdW.cnd (decide ((i:Int)<12)) (stdW.idx l (i:Int) _) _) _=_
  rw[cnd_lt hi1,cnd_y (decide_eq_true (by omega)),idx_w hi1,idx_w hi1,zaa (r_few11 _ (hm _ (List.getElem_mem hi1)))]
  show stdW.room (((l.take i).map fewPos).length+1) 40 (again (IntKind.i64.wrap ((i:Int)+1),((l.take i).map fewPos++[fewPos l[i]],())))=_
  have:((l.take i).map fewPos).length≤12:=by rw[List.length_map,List.length_take]; omega
  rw[room_w (by omega) (by omega),i64_s i (by omega)]
  rw[List.take_succ_eq_append_getElem hi1,List.map_append]at ha
  exact ha
end Go.Proofs.YtllkmncnmlmefaaGreat
namespace Go.Proofs.YtllkmncnmlmefaaGreat
open Go Go.Vc Go.RowKit
end Go.Proofs.YtllkmncnmlmefaaGreat

namespace Go.Proofs.YtllkmncnmlmefaaGreat
open Go Go.Vc Go.RowKit
theorem okD_insts{l:DT.den (.slc tAInst)}(h:DT.okD (.slc tAInst) l):(∀i∈l,i.2.2.2.2.1.length≤9223372036854775807)∧l.length≤9223372036854775807:=by
 refine⟨fun x hx=>?_,?_⟩
 ·have:=(h.1 x hx).2.2.2.2.1.2
  rwa [zax]at this
 ·have:=h.2
  rwa [zax]at this
theorem okD_legs{l:DT.den (.slc tAUnit)}(h:DT.okD (.slc tAUnit) l):okL l∧l.length≤9223372036854775807:=by
 refine⟨fun x hx=>wf_i64 (h.1 x hx).2.1,?_⟩
 have:=h.2
 rwa [zax]at this
theorem yla{l:DT.den (.slc tAPos)}(h:DT.okD (.slc tAPos) l):(∀p∈l,okL p.2.1∧p.2.1.length≤9223372036854775807)∧l.length≤9223372036854775807:=by
 refine⟨fun x hx=>okD_legs (h.1 x hx).2.1,?_⟩
 have:=h.2
 rwa [zax]at this
end Go.Proofs.YtllkmncnmlmefaaGreat
namespace Go.Proofs.YtllkmncnmlmefaaGreat
open Go Go.Vc Go.RowKit
end Go.Proofs.YtllkmncnmlmefaaGreat

namespace Go.Proofs.YtllkmncnmlmefaaGreat
open Go Go.Vc Go.RowKit
def getV:List Leg→Int→Int
 |[],_=>0
 |x::l,k=>if x.1=k then x.2.1 else getV l k
theorem r_vget{l:List Leg}{k:Int}(hl:l.length≤1000000):ybl l k=some (getV l k):=by
 show zup stdW l k=_
 unfold zup
 refine zbx (l:=l) (by omega) (s0:=()) (fun _ _=>True) (fun l' _=>some (getV l' k)) trivial ?_ ?_
 ·rintro _ again _
  rw[zaq]; rfl
 ·rintro i hi _ _ again ha
  rw[cnd_lt hi,idx_w hi]
  show _=some (getV (l[i]::l.drop (i+1)) k)
  rw[getV]
  by_cases h:l[i].1=k
  ·rw[cnd_y (by simpa using h),if_pos h]
  ·rw[cnd_n (by simpa using h),if_neg h]
   show again (IntKind.i64.wrap ((i:Int)+1),())=_
   rw[i64_s i (by omega)]
   exact ha _ trivial
theorem getV_ok{l:List Leg}(h:okL l)(k:Int):I64 (getV l k):=by
 induction l with
 |nil=>show I64 0; unfold I64; omega
 |cons x l ih=>
  rw[getV]
  split
  ·exact h x (by simp)
  ·exact ih fun y hy=>h y (by simp[hy])
def opnZ(l:List APos')(k:Int):Int:=sumBy (fun p=>getV p.2.1 k) l
def ks:List Int:=[1,2,3,4,5,6,7,8]
theorem ks_mem(k:Int):k∈ks↔1≤k∧k≤8:=by unfold ks; simp; omega
theorem V_nd{l:List Leg}(h:VInv l):(l.map (·.1)).Nodup:=h.2.imp fun {a b} (hab:a<b) e=>by omega
theorem r_none{l:List Leg}(hl:l.length≤1000000):zpk l=some (!isV l):=by
 show zpj stdW l=_
 unfold zpj
 rw[zaa (r_isV hl)]
theorem r_ix{s:List (List Leg)}(hs:s.length≤1000000)(hl:∀l∈s,l.length≤1000000):∃i:Int,zbl s=some (i,())∧decide (0≤i)=!(s.all isV):=by
 show ∃i,zav stdW s=_∧_
 unfold zav
 refine loop_P (fun o=>∃i:Int,o=some (i,())∧decide (0≤i)=!(s.all isV)) (fun z=>s.length+1 - z.1.toNat) (fun z=>∃j:Nat,j≤s.length∧z=((j:Int),())∧(s.take j).all isV=true) ⟨0,Nat.zero_le _,rfl,by simp⟩ (by show _ - (0:Int).toNat<_; omega) ?_
 rintro _ ⟨j,hj,rfl,hp⟩ again ha
 show ∃i,stdW.cnd (decide ((j:Int)<(s.length:Int))) _ _=_∧_
 by_cases h:j<s.length
 ·rw[cnd_lt h]
  show ∃i,stdW.idx s (j:Int) _=_∧_
  rw[idx_w h,zaa (r_none (hl _ (List.getElem_mem h)))]
  by_cases hv:isV s[j]=true
  ·rw[hv,cnd_n (by decide)]
   show ∃i,again (IntKind.i64.wrap ((j:Int)+1),())=_∧_
   rw[i64_s j (by omega)]
   refine ha _ ⟨j+1,by omega,rfl,?_⟩ (by show _ - ((j+1:Nat):Int).toNat<_ - ((j:Nat):Int).toNat; omega)
   rw[List.take_succ_eq_append_getElem h,List.all_append,hp]; simp[hv]
  ·have hv:isV s[j]=false:=by simpa using hv
   rw[hv,cnd_y (by decide)]
   refine⟨(j:Int),rfl,?_⟩
   have:s.all isV=false:=by
    rw[List.all_eq_false]
    exact⟨s[j],List.getElem_mem h,by simp[hv]⟩
   rw[this,decide_eq_true (by omega)]; rfl
 ·have:j=s.length:=by omega
  subst this
  rw[zaq]
  rw[List.take_length]at hp
  exact⟨-1,rfl,by rw[hp]; rfl⟩
theorem r_cf{s:List (List Leg)}(hs:s.length≤1000000)(hl:∀l∈s,l.length≤1000000):zbg s=some (!(s.all isV),()):=by
 show zar stdW s=_
 unfold zar
 obtain⟨i,e,h⟩:=r_ix hs hl
 rw[zaa e]
 show some (decide (0≤i),())=_
 rw[h]
def sumV(l:List (List Leg))(k:Int):Int:=(l.map fun v=>getV v k).sum
def addGo(l:List (List Leg)):List Int→List Leg→List Leg×Int×Unit
 |[],acc=>(acc,0,())
 |k::ks,acc=>if I64 (sumV l k) then (if sumV l k=0 then addGo l ks acc else addGo l ks (acc++[(k,sumV l k,())])) else ([],7,())
def addV(l:List (List Leg)):List Leg×Int×Unit:=if l.all isV=true then addGo l ks [] else ([],3,())
theorem ks_drop{j:Nat}(h:j<8):ks.drop j=((j:Int)+1)::ks.drop (j+1):=by
 have:j=0∨j=1∨j=2∨j=3∨j=4∨j=5∨j=6∨j=7:=by omega
 rcases this with rfl|rfl|rfl|rfl|rfl|rfl|rfl|rfl<;>rfl
theorem r_vadd{l:List (List Leg)}(hs:l.length≤1000)(hl:∀v∈l,v.length≤1000)(ho:∀v∈l,okL v):ybm l=some (addV l):=by
 show zuq stdW l=_
 unfold zuq addV
 rw[zaa (r_cf (by omega) fun v hv=>by have:=hl v hv; omega)]
 by_cases hv:l.all isV=true
 ·rw[hv,cnd_n (by decide),if_pos rfl]
  refine(zjt (fun z=>10 - z.1.toNat) (fun z=>∃(j:Nat) (acc:List Leg),j≤8∧acc.length≤j∧z=((j:Int)+1,(acc,()))) (fun z=>some (addGo l (ks.drop (z.1.toNat - 1)) z.2.1)) ⟨0,[],by omega,Nat.le_refl _,rfl⟩ (by show 10 - (1:Int).toNat<_; omega) ?_)
  rintro _ ⟨j,acc,hj,hacc,rfl⟩ again ha
  have ej:(((j:Int)+1).toNat - 1)=j:=by omega
  show stdW.cnd (decide ((j:Int)+1≤8)) _ _=some (addGo l (ks.drop ((((j:Int)+1)).toNat - 1)) acc)
  rw[ej]
  by_cases h8:j<8
  ·rw[cnd_y (decide_eq_true (by omega)),ks_drop h8]
   refine join_g fun k5 hk=>?_
   have kk:∀v:List Leg,v.length≤j+1→k5 (v,())=some (addGo l (ks.drop (j+1)) v):=by
    intro v hv
    subst hk
    show again (IntKind.i64.wrap ((j:Int)+1+1),(v,()))=_
    have e1:IntKind.i64.wrap ((j:Int)+1+1)=((j+1:Nat):Int)+1:=by rw[IntWalk.i64_in _ (by omega)]; omega
    rw[e1,ha _ ⟨j+1,v,by omega,hv,rfl⟩ (by show 10 - (((j+1:Nat):Int)+1).toNat<10 - ((j:Int)+1).toNat; omega)]
    show some (addGo l (ks.drop ((((j+1:Nat):Int)+1).toNat - 1)) v)=_
    rw[show (((j+1:Nat):Int)+1).toNat - 1=j+1 by omega]
   clear hk ha
   rw[addGo]
   have hall:∀x∈l.map (fun v=>getV v ((j:Int)+1)),I64 x:=by
    intro x hx
    obtain⟨v,hv,rfl⟩:=List.mem_map.1 hx
    exact getV_ok (ho v hv) _
   refine zxj (N:=l.length) (by omega) (fun i=>((i:Int),(acc,((l.take i).map (fun v=>getV v ((j:Int)+1)),())))) _ rfl ?_ ?_
   ·intro again2
    show stdW.cnd (decide ((l.length:Int)<(l.length:Int))) _ (stdW.call (zka ((l.take l.length).map fun v=>getV v ((j:Int)+1))) _)=_
    rw[zaq,List.take_length,zaa (r_fSum hall (by rw[List.length_map]; omega))]
    show stdW.cnd ((fits64 (sumV l ((j:Int)+1))).2.1 != 0) (some ([],(fits64 (sumV l ((j:Int)+1))).2)) (stdW.cnd ((fits64 (sumV l ((j:Int)+1))).1 != 0) (stdW.room (acc.length+1) 16 (k5 (acc++[((j:Int)+1,((fits64 (sumV l ((j:Int)+1))).1,()))],()))) (k5 (acc,())))=_
    unfold fits64
    by_cases hI:I64 (sumV l ((j:Int)+1))
    ·rw[if_pos hI,if_pos hI]
     show stdW.cnd ((0:Int) != 0) _ (stdW.cnd (sumV l ((j:Int)+1) != 0) (stdW.room (acc.length+1) 16 (k5 (acc++[((j:Int)+1,(sumV l ((j:Int)+1),()))],()))) (k5 (acc,())))=_
     rw[cnd_n (by decide)]
     by_cases h0:sumV l ((j:Int)+1)=0
     ·rw[cnd_n (by simp[h0]),if_pos h0]; exact kk acc (by omega)
     ·rw[cnd_y (by simp[h0]),if_neg h0,room_w (by omega) (by omega)]
      exact kk _ (by simp; omega)
    ·rw[if_neg hI,if_neg hI]
     show stdW.cnd ((7:Int) != 0) _ _=_
     rw[cnd_y (by decide)]
   ·intro i hi again2 ha2
    show stdW.cnd (decide ((i:Int)<(l.length:Int))) (stdW.idx l (i:Int) fun x8=>stdW.call (ybl x8 ((j:Int)+1)) fun v9=>stdW.room (((l.take i).map fun v=>getV v ((j:Int)+1)).length+1) 8 (again2 (IntKind.i64.wrap ((i:Int)+1),(acc,(((l.take i).map fun v=>getV v ((j:Int)+1))++[v9],()))))) _=_
    have h2:=hl _ (List.getElem_mem hi)
    rw[cnd_lt hi,idx_w hi,zaa (r_vget (by omega))]
    have:((l.take i).map fun v=>getV v ((j:Int)+1)).length≤1000:=by rw[List.length_map,List.length_take]; omega
    rw[room_w (by omega) (by omega),i64_s i (by omega)]
    rw[List.take_succ_eq_append_getElem hi,List.map_append]at ha2
    exact ha2
  ·have:j=8:=by omega
   subst this
   rw[cnd_n (decide_eq_false (by omega))]
   rfl
 ·have hv:l.all isV=false:=by simpa using hv
  rw[hv,cnd_y (by decide),if_neg (by simp)]
theorem yem(l:List (List Leg)):∀(us:List Int) (acc:List Leg),(addGo l us acc).2.1=0→
  (addGo l us acc).1=acc++(us.filter fun u=>decide (sumV l u≠0)).map (fun u=>((u,(sumV l u,())):Leg))∧∀u∈us,I64 (sumV l u)
 |[],acc,_=>by simp[addGo]
 |u::us,acc,h=>by
  unfold addGo at h ⊢
  by_cases hI:I64 (sumV l u)
  ·rw[if_pos hI]at h ⊢
   by_cases h0:sumV l u=0
   ·rw[if_pos h0]at h ⊢
    obtain⟨h1,h2⟩:=yem l us _ h
    refine⟨?_,fun x hx=>?_⟩
    ·rw[h1,List.filter_cons,if_neg (by simp[h0])]
    ·rcases List.mem_cons.1 hx with rfl|hx
     ·exact hI
     ·exact h2 x hx
   ·rw[if_neg h0]at h ⊢
    obtain⟨h1,h2⟩:=yem l us _ h
    refine⟨?_,fun x hx=>?_⟩
    ·rw[h1,List.filter_cons,if_pos (by simp[h0])]; simp
    ·rcases List.mem_cons.1 hx with rfl|hx
     ·exact hI
     ·exact h2 x hx
  ·rw[if_neg hI]at h; simp at h
def resV(f:Int→Int):List Leg:=(ks.filter fun u=>decide (f u≠0)).map fun u=>((u,(f u,())):Leg)
theorem yki(f:Int→Int):(resV f).length≤8:=by
 unfold resV; rw[List.length_map]; exact Nat.le_trans (List.length_filter_le _ _) (by decide)
theorem ks_sorted:ks.Pairwise (· < ·):=by decide
theorem resV_V(f:Int→Int):VInv (resV f):=by
 refine⟨fun x hx=>?_,?_⟩
 ·obtain⟨u,hu,rfl⟩:=List.mem_map.1 hx
  obtain⟨h1,h2⟩:=List.mem_filter.1 hu
  simp only[decide_eq_true_eq]at h2
  exact⟨(ks_mem u).1 h1,h2⟩
 ·unfold resV
  rw[List.map_map]
  have:((fun x:Leg=>x.1) ∘ fun u=>((u,(f u,())):Leg))=id:=rfl
  rw[this,List.map_id]
  exact ks_sorted.filter _
theorem zxz{l:List Leg}{k:Int}(h:∀x∈l,x.1≠k):getV l k=0:=by
 induction l with
 |nil=>rfl
 |cons x l ih=>rw[getV,if_neg (h x (by simp)),ih fun y hy=>h y (by simp[hy])]
theorem ydr{l:List Leg}(h:VInv l){k:Int}(hk:k∉ks):getV l k=0:=by
 refine zxz fun x hx e=>hk ?_
 rw[←e,ks_mem]; exact(h.1 x hx).1
theorem getV_map(f:Int→Int)(us:List Int)(k:Int):getV (us.map fun u=>((u,(f u,())):Leg)) k=if k∈us then f k else 0:=by
 induction us with
 |nil=>rfl
 |cons u us ih=>
  rw[List.map_cons,getV,ih]
  by_cases h:u=k
  ·subst h; simp
  ·rw[if_neg h]
   by_cases hm:k∈us
   ·rw[if_pos hm,if_pos (by simp[hm])]
   ·rw[if_neg hm,if_neg (by simp[hm,Ne.symm h])]
theorem ybz(f:Int→Int)(k:Int)(hf:k∉ks→f k=0):getV (resV f) k=f k:=by
 unfold resV
 rw[getV_map]
 by_cases h:k∈ks
 ·by_cases h0:f k=0
  ·rw[if_neg (by simp[h0]),h0]
  ·rw[if_pos (by simp[h,h0])]
 ·rw[if_neg (by simp[h]),hf h]
theorem yjz{α:Type}{lt:α→α→Prop}(irr:∀a,¬lt a a)(tr:∀a b c,lt a b→lt b c→lt a c):∀{l m:List α},l.Pairwise lt→m.Pairwise lt→(∀x,x∈l↔x∈m)→l=m
 |[],[],_,_,_=>rfl
 |[],b::m,_,_,h=>absurd ((h b).2 (by simp)) (by simp)
 |a::l,[],_,_,h=>absurd ((h a).1 (by simp)) (by simp)
 |a::l,b::m,hl,hm,h=>by
  obtain⟨h1,h2⟩:=List.pairwise_cons.1 hl
  obtain⟨h3,h4⟩:=List.pairwise_cons.1 hm
  have hab:a=b:=by
   rcases List.mem_cons.1 ((h a).1 (by simp)) with e|e
   ·exact e
   ·rcases List.mem_cons.1 ((h b).2 (by simp)) with e'|e'
    ·exact e'.symm
    ·exact absurd (tr _ _ _ (h3 a e) (h1 b e')) (irr b)
  subst hab
  congr 1
  refine yjz irr tr h2 h4 fun x=>?_
  constructor
  ·intro hx
   rcases List.mem_cons.1 ((h x).1 (by simp[hx])) with e|e
   ·subst e; exact absurd (h1 x hx) (irr x)
   ·exact e
  ·intro hx
   rcases List.mem_cons.1 ((h x).2 (by simp[hx])) with e|e
   ·subst e; exact absurd (h3 x hx) (irr x)
   ·exact e
theorem V_keys{l:List Leg}(hn:(l.map (·.1)).Nodup):l=(l.map (·.1)).map fun u=>((u,(getV l u,())):Leg):=by
 induction l with
 |nil=>rfl
 |cons x l ih=>
  obtain⟨h1,h2⟩:=List.nodup_cons.1 hn
  rw[List.map_cons,List.map_cons,getV,if_pos rfl]
  congr 1
  have:(l.map (·.1)).map (fun u=>((u,(getV (x::l) u,())):Leg))=(l.map (·.1)).map fun u=>((u,(getV l u,())):Leg):=by
   refine List.map_congr_left fun u hu=>?_
   rw[getV,if_neg fun e=>h1 (by show x.1∈_; rw[e]; exact hu)]
  rw[this]; exact ih h2
theorem V_mem{l:List Leg}(h:VInv l)(u:Int):u∈l.map (·.1)↔getV l u≠0:=by
 constructor
 ·intro hu e
  obtain⟨x,hx,rfl⟩:=List.mem_map.1 hu
  have h2:=V_keys (V_nd h)
  have h3:=(h.1 x hx).2
  rw[h2]at hx
  obtain⟨v,hv,hvx⟩:=List.mem_map.1 hx
  rw[←hvx]at h3 e
  exact h3 e
 ·intro hu
  refine Classical.byContradiction fun hn=>hu (zxz fun x hx e=>hn (List.mem_map.2 ⟨x,hx,e⟩))
theorem V_ext{a b:List Leg}(ha:VInv a)(hb:VInv b)(h:∀u,getV a u=getV b u):a=b:=by
 have e:a.map (·.1)=b.map (·.1):=yjz (lt:=fun x y:Int=>x<y) (fun a=>Int.lt_irrefl a) (fun a b c=>Int.lt_trans) ha.2 hb.2 fun u=>by rw[V_mem ha,V_mem hb,h]
 rw[V_keys (V_nd ha),V_keys (V_nd hb),e]
 exact List.map_congr_left fun u _=>by rw[h]
theorem addV_ok{l:List (List Leg)}(h:(addV l).2.1=0):l.all isV=true∧(addV l).1=resV (sumV l)∧(∀k∈ks,I64 (sumV l k))∧∀k,getV (addV l).1 k=sumV l k:=by
 unfold addV at h ⊢
 by_cases hv:l.all isV=true
 ·rw[if_pos hv]at h ⊢
  obtain⟨h1,h2⟩:=yem l ks [] h
  rw[List.nil_append]at h1
  refine⟨hv,h1,h2,fun k=>?_⟩
  rw[h1]
  refine ybz _ k fun hk=>?_
  unfold sumV
  have:∀x∈l.map (fun v=>getV v k),x=0:=by
   intro x hx
   obtain⟨v,hv',rfl⟩:=List.mem_map.1 hx
   exact ydr (of_decide_eq_true (List.all_eq_true.1 hv v hv')) hk
  clear h h1 h2
  generalize l.map (fun v=>getV v k)=m at this
  induction m with
  |nil=>rfl
  |cons x m ih=>rw[List.sum_cons,this x (by simp),ih fun y hy=>this y (by simp[hy])]; rfl
 ·rw[if_neg hv]at h; simp at h
def ofB:List APos'→AUnit'→List Leg
 |[],_=>[]
 |p::l,u=>if p.1=u then p.2.1 else ofB l u
theorem ykq{s:List Leg}(h:s.length≤1000000):zbm s=some s:=by
 show zbt stdW s=_
 unfold zbt
 rw[nilq_w]
 refine yde ?_ fun he=>?_
 ·show stdW.cnd (notIf false false) _ _=_
  rw[cnd_n (by decide),room_w (by omega) (by omega)]; rfl
 ·have:s=[]:=by simpa using he
  subst this; rfl
theorem r_bof{l:List APos'}{u:AUnit'}(hb:okB l):zly l u=some (ofB l u):=by
 have hl:=hb.2
 show zvv stdW l u=_
 unfold zvv
 refine zbx (l:=l) (by omega) (s0:=()) (fun _ _=>True) (fun l' _=>some (ofB l' u)) trivial ?_ ?_
 ·rintro _ again _
  rw[zaq]; rfl
 ·rintro i hi _ _ again ha
  have h2:=(hb.1 _ (List.getElem_mem hi)).2
  rw[cnd_lt hi,idx_w hi,nif_f,eqA]
  show _=some (ofB (l[i]::l.drop (i+1)) u)
  rw[ofB]
  by_cases h:l[i].1=u
  ·rw[cnd_y (decide_eq_true h),if_pos h,zaa (ykq (by omega))]
  ·rw[cnd_n (decide_eq_false h),if_neg h]
   show again (IntKind.i64.wrap ((i:Int)+1),())=_
   rw[i64_s i (by omega)]
   exact ha _ trivial
theorem r_copied{l:List APos'}(hb:okB l):zpb l=some l:=by
 have hl:=hb.2
 show zgx stdW l=_
 unfold zgx
 refine zxj (N:=l.length) (by omega) (fun i=>((i:Int),(l.take i,()))) _ rfl ?_ ?_
 ·intro again
  show stdW.cnd (decide ((l.length:Int)<(l.length:Int))) _ (some (l.take l.length))=_
  rw[zaq,List.take_length]
 ·intro i hi again ha
  have h2:=(hb.1 _ (List.getElem_mem hi)).2
  show stdW.cnd (decide ((i:Int)<(l.length:Int))) (stdW.idx l (i:Int) fun x3=>stdW.call (zbm x3.2.1) fun v4=>stdW.room ((l.take i).length+1) 40 (again (IntKind.i64.wrap ((i:Int)+1),(l.take i++[(x3.1,(v4,()))],())))) _=_
  have:(l.take i).length≤100:=by rw[List.length_take]; omega
  rw[cnd_lt hi,idx_w hi,zaa (ykq (by omega)),room_w (by omega) (by omega),i64_s i (by omega)]
  rw[List.take_succ_eq_append_getElem hi]at ha
  exact ha
def lowB(u:AUnit')(l:List APos'):List APos':=l.filter fun p=>decide (ltA p.1 u)
def midB(u:AUnit')(l:List APos'):List APos':=l.filter fun p=>decide (p.1=u)
def highB(u:AUnit')(l:List APos'):List APos':=l.filter fun p=>decide (ltA u p.1)
theorem zeb{α:Type}{f:α→Bool}{l:List α}(h:∀x∈l,f x=false):l.filter f=[]:=List.filter_eq_nil_iff.2 fun x hx=>by simp[h x hx]
theorem zth{α:Type}{f:α→Bool}{l:List α}(h:∀x∈l,f x=true):l.filter f=l:=List.filter_eq_self.2 h
theorem cutB(u:AUnit'):∀{l:List APos'},SrtA (l.map (·.1))→l=lowB u l++(midB u l++highB u l)
 |[],_=>rfl
 |p::l,h=>by
  obtain⟨h1,h2⟩:=List.pairwise_cons.1 h
  have h1:∀x∈l,ltA p.1 x.1:=fun x hx=>h1 _ (List.mem_map_of_mem hx)
  have ih:=cutB u (l:=l) h2
  unfold lowB midB highB at ih ⊢
  rw[List.filter_cons,List.filter_cons,List.filter_cons]
  by_cases hp:ltA p.1 u
  ·have e1:¬p.1=u:=fun e=>zcq u (by rw[e]at hp; exact hp)
   have e2:¬ltA u p.1:=fun e=>ltA_as hp e
   rw[if_pos (by simpa using hp),if_neg (by simpa using e1),if_neg (by simpa using e2),List.cons_append,←ih]
  ·by_cases hu:p.1=u
   ·have e2:¬ltA u p.1:=by rw[hu]; exact zcq u
    have a1:∀x∈l,decide (ltA x.1 u)=false:=fun x hx=>decide_eq_false fun e=>ltA_as e (by rw[←hu]; exact h1 x hx)
    have a2:∀x∈l,decide (x.1=u)=false:=fun x hx=>decide_eq_false fun e=>zcq u (by have:=h1 x hx; rw[hu,e]at this; exact this)
    have a3:∀x∈l,decide (ltA u x.1)=true:=fun x hx=>decide_eq_true (by rw[←hu]; exact h1 x hx)
    rw[if_neg (by simpa using hp),if_pos (by simpa using hu),if_neg (by simpa using e2),zeb a1,zeb a2,zth a3]; rfl
   ·have e2:ltA u p.1:=Classical.byContradiction fun hn=>hu (zot hp hn)
    have a1:∀x∈l,decide (ltA x.1 u)=false:=fun x hx=>decide_eq_false fun e=>ltA_as (ltA_tr e2 (h1 x hx)) e
    have a2:∀x∈l,decide (x.1=u)=false:=fun x hx=>decide_eq_false fun e=>zcq u (by have:=ltA_tr e2 (h1 x hx); rw[e]at this; exact this)
    have a3:∀x∈l,decide (ltA u x.1)=true:=fun x hx=>decide_eq_true (ltA_tr e2 (h1 x hx))
    rw[if_neg (by simpa using hp),if_neg (by simpa using hu),if_pos (by simpa using e2),zeb a1,zeb a2,zth a3]; rfl
theorem B_nd{l:List APos'}(h:SrtA (l.map (·.1))):(l.map (·.1)).Nodup:=srt_nd h
theorem ydc{l:List APos'}(h:(l.map (·.1)).Nodup){p:APos'}(hp:p∈l):ofB l p.1=p.2.1:=by
 induction l with
 |nil=>cases hp
 |cons x l ih=>
  obtain⟨h1,h2⟩:=List.nodup_cons.1 h
  rw[ofB]
  rcases List.mem_cons.1 hp with rfl|hp
  ·rw[if_pos rfl]
  ·rw[if_neg fun e=>h1 (by show x.1∈_; rw[e]; exact List.mem_map_of_mem hp),ih h2 hp]
theorem zva{l:List APos'}{u:AUnit'}(h:∀p∈l,p.1≠u):ofB l u=[]:=by
 induction l with
 |nil=>rfl
 |cons x l ih=>rw[ofB,if_neg (h x (by simp)),ih fun y hy=>h y (by simp[hy])]
theorem zxf{l:List APos'}(h:SrtA (l.map (·.1)))(u:AUnit'):(midB u l=[]∧(∀p∈l,p.1≠u)∧ofB l u=[])∨(midB u l=[(u,(ofB l u,()))]∧(u,(ofB l u,()))∈l):=by
 by_cases hex:∃p∈l,p.1=u
 ·right
  obtain⟨p,hp,rfl⟩:=hex
  have e:=ydc (B_nd h) hp
  have ep:((p.1,(ofB l p.1,())):APos')=p:=by rw[e]
  rw[ep]
  refine⟨?_,hp⟩
  have hn:=B_nd h
  clear h e ep
  induction l with
  |nil=>cases hp
  |cons x l ih=>
   obtain⟨h1,h2⟩:=List.nodup_cons.1 hn
   unfold midB at ih ⊢
   rw[List.filter_cons]
   rcases List.mem_cons.1 hp with rfl|hp
   ·rw[if_pos (by simp),zeb fun y hy=>decide_eq_false fun e=>h1 (by show p.1∈_; rw[←e]; exact List.mem_map_of_mem hy)]
   ·rw[if_neg (by simpa using fun e=>h1 (by show x.1∈_; rw[e]; exact List.mem_map_of_mem hp)),ih hp h2]
 ·left
  have hne:∀p∈l,p.1≠u:=fun p hp e=>hex ⟨p,hp,e⟩
  exact⟨zeb fun p hp=>decide_eq_false (hne p hp),hne,zva hne⟩
def hasU(l:List APos')(u:AUnit'):Bool:=!(midB u l).isEmpty
theorem r_place{l:List APos'}{u:AUnit'}(hb:okB l)(h:SrtA (l.map (·.1))):zto l u=some (((lowB u l).length:Int),(hasU l u,())):=by
 have hl:=hb.2
 have hc:=cutB u h
 show zkq stdW l u=_
 unfold zkq
 have hlow:∀p∈lowB u l,ltA p.1 u:=fun p hp=>by simpa using(List.mem_filter.1 hp).2
 have hrest:∀p∈midB u l++highB u l,¬ltA p.1 u:=fun p hp=>by
  rcases List.mem_append.1 hp with hp|hp
  ·have:p.1=u:=by simpa using(List.mem_filter.1 hp).2
   rw[this]; exact zcq u
  ·have:ltA u p.1:=by simpa using(List.mem_filter.1 hp).2
   exact fun e=>ltA_as this e
 have hll:(lowB u l).length+(midB u l++highB u l).length=l.length:=by rw[←List.length_append,←hc]
 have hget1:∀i (hi:i<l.length),i<(lowB u l).length→ltA l[i].1 u:=fun i hi hlt=>by
  refine hlow _ ?_
  have:l[i]?=(lowB u l++(midB u l++highB u l))[i]?:=by rw[←hc]
  rw[List.getElem?_append_left hlt,List.getElem?_eq_getElem hi,List.getElem?_eq_getElem hlt]at this
  rw[Option.some.inj this]; exact List.getElem_mem hlt
 have hget2:∀(hi:(lowB u l).length<l.length),(midB u l++highB u l)[0]?=some l[(lowB u l).length]:=fun hi=>by
  have:l[(lowB u l).length]?=(lowB u l++(midB u l++highB u l))[(lowB u l).length]?:=by rw[←hc]
  rw[List.getElem?_append_right (Nat.le_refl _),Nat.sub_self,List.getElem?_eq_getElem hi]at this
  exact this.symm
 refine(zjt (fun z=>l.length+1 - z.1.toNat) (fun z=>∃i:Nat,i≤(lowB u l).length∧z=((i:Int),())) (fun _=>some (((lowB u l).length:Int),(hasU l u,()))) ⟨0,Nat.zero_le _,rfl⟩ (by show _ - (0:Int).toNat<_; omega) ?_)
 rintro _ ⟨i,hi,rfl⟩ again ha
 show stdW.cnd (decide ((i:Int)<(l.length:Int))) (stdW.idx l (i:Int) _) (some ((l.length:Int),(false,())))=_
 by_cases hlt:i<(lowB u l).length
 ·have hil:i<l.length:=by omega
  rw[cnd_lt hil,idx_w hil,zaa (zsi _ _),decide_eq_true (hget1 i hil hlt),cnd_n (by decide)]
  show again (IntKind.i64.wrap ((i:Int)+1),())=_
  rw[i64_s i (by omega)]
  exact ha _ ⟨i+1,by omega,rfl⟩ (by show _ - ((i+1:Nat):Int).toNat<_ - ((i:Nat):Int).toNat; omega)
 ·have hie:i=(lowB u l).length:=by omega
  by_cases hil:i<l.length
  ·subst hie
   have h0:=hget2 hil
   have hm:=hrest l[(lowB u l).length] (List.mem_of_getElem? h0)
   rw[cnd_lt hil,idx_w hil,zaa (zsi _ _),decide_eq_false hm,cnd_y (by decide),nif_f,eqA]
   congr 3
   unfold hasU
   cases hmid:midB u l with
   |nil=>
    rw[hmid,List.nil_append]at h0
    have:=List.mem_of_getElem? h0
    have:ltA u l[(lowB u l).length].1:=by simpa using(List.mem_filter.1 this).2
    rw[decide_eq_false fun e=>zcq u (by rw[e]at this; exact this)]; rfl
   |cons p m=>
    rw[hmid]at h0
    have e:p=l[(lowB u l).length]:=by simpa using h0
    have hp:p∈midB u l:=by rw[hmid]; simp
    have:p.1=u:=by simpa using(List.mem_filter.1 hp).2
    rw[←e,decide_eq_true this]; rfl
  ·have hil':i=l.length:=by omega
   have:midB u l++highB u l=[]:=List.eq_nil_of_length_eq_zero (by omega)
   have hm:midB u l=[]:=(List.append_eq_nil_iff.1 this).1
   rw[cnd_n (decide_eq_false (by omega))]
   unfold hasU
   rw[hm,←hie,hil']; rfl
def putB(l:List APos')(u:AUnit')(now:List Leg):List APos':=lowB u l++((if now=[] then [] else [(u,(now,()))])++highB u l)
theorem ykz{l:List APos'}(h:SrtA (l.map (·.1)))(u:AUnit')(now:List Leg):(putB l u now).length≤l.length+1:=by
 have hc:=congrArg List.length (cutB u h)
 unfold putB
 rw[List.length_append,List.length_append]at hc
 rw[List.length_append,List.length_append]
 split<;>simp<;>omega
theorem zmp{l:List APos'}{u:AUnit'}{now:List Leg}{p:APos'}:p∈putB l u now↔(p∈l∧p.1≠u)∨(now≠[]∧p=(u,(now,()))):=by
 unfold putB lowB highB
 rw[List.mem_append,List.mem_append,List.mem_filter,List.mem_filter]
 constructor
 ·rintro(⟨h1,h2⟩|h|⟨h1,h2⟩)
  ·exact .inl ⟨h1,fun e=>zcq u (by simp only[decide_eq_true_eq]at h2; rw[e]at h2; exact h2)⟩
  ·split at h
   ·cases h
   ·rename_i hn; exact .inr ⟨hn,by simpa using h⟩
  ·exact .inl ⟨h1,fun e=>zcq u (by simp only[decide_eq_true_eq]at h2; rw[e]at h2; exact h2)⟩
 ·rintro(⟨h1,h2⟩|⟨hn,rfl⟩)
  ·by_cases hlt:ltA p.1 u
   ·exact .inl ⟨h1,by simpa using hlt⟩
   ·by_cases hgt:ltA u p.1
    ·exact .inr (.inr ⟨h1,by simpa using hgt⟩)
    ·exact absurd (zot hlt hgt) h2
  ·rw[if_neg hn]; exact .inr (.inl (by simp))
theorem yky{l:List APos'}(h:SrtA (l.map (·.1)))(u:AUnit')(now:List Leg):SrtA ((putB l u now).map (·.1)):=by
 unfold putB
 rw[List.map_append,List.map_append]
 have hlow:∀x∈(lowB u l).map (·.1),ltA x u:=fun x hx=>by
  obtain⟨p,hp,rfl⟩:=List.mem_map.1 hx
  simpa using(List.mem_filter.1 hp).2
 have hhigh:∀x∈(highB u l).map (·.1),ltA u x:=fun x hx=>by
  obtain⟨p,hp,rfl⟩:=List.mem_map.1 hx
  simpa using(List.mem_filter.1 hp).2
 have s1:SrtA ((lowB u l).map (·.1)):=List.Pairwise.sublist ((List.filter_sublist).map _) h
 have s2:SrtA ((highB u l).map (·.1)):=List.Pairwise.sublist ((List.filter_sublist).map _) h
 have hmid:∀x∈(if now=[] then ([]:List APos') else [(u,(now,()))]).map (·.1),x=u:=fun x hx=>by
  split at hx
  ·cases hx
  ·simpa using hx
 refine List.pairwise_append.2 ⟨s1,List.pairwise_append.2 ⟨?_,s2,fun a ha b hb=>?_⟩,fun a ha b hb=>?_⟩
 ·split<;>simp
 ·rw[hmid a ha]; exact hhigh b hb
 ·rcases List.mem_append.1 hb with hb|hb
  ·rw[hmid b hb]; exact hlow a ha
  ·exact ltA_tr (hlow a ha) (hhigh b hb)
theorem putB_B{l:List APos'}(h:BInv l)(u:AUnit'){now:List Leg}(hv:VInv now):BInv (putB l u now):=
 ⟨fun p hp=>by
  rcases zmp.1 hp with ⟨h1,_⟩|⟨hn,rfl⟩
  ·exact h.1 p h1
  ·exact⟨hn,hv⟩,yky h.2 u now⟩
theorem putB_of{l:List APos'}(h:SrtA (l.map (·.1)))(u:AUnit')(now:List Leg)(x:AUnit'):ofB (putB l u now) x=if x=u then now else ofB l x:=by
 have hn:=B_nd (yky h u now)
 by_cases hx:x=u
 ·subst hx
  rw[if_pos rfl]
  by_cases h0:now=[]
  ·rw[h0]
   refine zva fun p hp=>?_
   rcases zmp.1 hp with ⟨_,h2⟩|⟨h2,_⟩
   ·exact h2
   ·exact absurd rfl h2
  ·exact ydc hn (p:=(x,(now,()))) (zmp.2 (.inr ⟨h0,rfl⟩))
 ·rw[if_neg hx]
  by_cases hex:∃p∈l,p.1=x
  ·obtain⟨p,hp,rfl⟩:=hex
   rw[ydc (B_nd h) hp,ydc hn (zmp.2 (.inl ⟨hp,hx⟩))]
  ·have hne:∀p∈l,p.1≠x:=fun p hp e=>hex ⟨p,hp,e⟩
   rw[zva hne]
   refine zva fun p hp=>?_
   rcases zmp.1 hp with ⟨h1,_⟩|⟨_,rfl⟩
   ·exact hne p h1
   ·exact Ne.symm hx
theorem opn_put{l:List APos'}(h:SrtA (l.map (·.1)))(u:AUnit')(now:List Leg)(k:Int):opnZ (putB l u now) k=opnZ l k - getV (ofB l u) k+getV now k:=by
 have e:opnZ l k=opnZ (lowB u l) k+(opnZ (midB u l) k+opnZ (highB u l) k):=by
  have:=congrArg (fun m=>opnZ m k) (cutB u h)
  unfold opnZ at this ⊢
  rw[zpm,zpm]at this
  exact this
 have e2:opnZ (midB u l) k=getV (ofB l u) k:=by
  rcases zxf h u with ⟨h1,_,h3⟩|⟨h1,_⟩
  ·rw[h1,h3]; rfl
  ·rw[h1]; show getV (ofB l u) k+0=_; omega
 have e3:opnZ (putB l u now) k=opnZ (lowB u l) k+(getV now k+opnZ (highB u l) k):=by
  unfold putB opnZ
  rw[zpm,zpm]
  by_cases h0:now=[]
  ·rw[if_pos h0,h0]; rfl
  ·rw[if_neg h0]
   show _+((getV now k+0)+_)=_; omega
 rw[e3,e,e2]; omega
def shiftP(l:List APos')(u:AUnit')(legs:List Leg):List APos'×Int×Unit:=
 if isB l=true then (if (addV [ofB l u,legs]).2.1=0 then (putB l u (addV [ofB l u,legs]).1,(0,())) else ([],(addV [ofB l u,legs]).2)) else ([],(3,()))
theorem ofB_ok{l:List APos'}(hb:okB l)(u:AUnit'):okL (ofB l u)∧(ofB l u).length≤100:=by
 have:∀l:List APos',(∀p∈l,okL p.2.1∧p.2.1.length≤100)→okL (ofB l u)∧(ofB l u).length≤100:=by
  intro l
  induction l with
  |nil=>intro _; exact⟨(fun x hx=>by cases hx),by simp[ofB]⟩
  |cons p l ih=>
   intro h
   rw[ofB]
   split
   ·exact h p (by simp)
   ·exact ih fun q hq=>h q (by simp[hq])
 exact this l hb.1
theorem r_shift{l:List APos'}{u:AUnit'}{legs:List Leg}(hb:okB l)(hl:l.length≤90)(ho:okL legs)(hg:legs.length≤100):znt l u legs=some (shiftP l u legs):=by
 show zkr stdW l u legs=_
 unfold zkr shiftP
 rw[zaa (r_isB hb)]
 by_cases hp:isB l=true
 ·have hB:BInv l:=of_decide_eq_true hp
  obtain⟨h1,h2⟩:=ofB_ok hb u
  rw[hp,cnd_n (by decide),if_pos rfl,zaa (r_bof hb),zaa (r_vadd (l:=[ofB l u,legs]) (by simp) (fun v hv=>by
   simp only[List.mem_cons,List.not_mem_nil,or_false]at hv
   rcases hv with rfl|rfl<;>omega) (fun v hv=>by
   simp only[List.mem_cons,List.not_mem_nil,or_false]at hv
   rcases hv with rfl|rfl
   ·exact h1
   ·exact ho))]
  by_cases he:(addV [ofB l u,legs]).2.1=0
  ·have hnow:=(addV_ok he).2.1
   have hnl:=yki (sumV [ofB l u,legs])
   rw[←hnow]at hnl
   rw[cnd_n (by simp[he]),if_pos he,zaa (r_place hb hB.2),zaa (r_copied hb)]
   have hc:=cutB u hB.2
   have hcl:=congrArg List.length hc
   rw[List.length_append,List.length_append]at hcl
   refine join_g fun k10 hk=>?_
   have kk:∀o:List APos',o=lowB u l++highB u l→k10 ((addV [ofB l u,legs]).1,(o,()))=some (putB l u (addV [ofB l u,legs]).1,(0,())):=by
    intro o ho'
    subst hk
    refine join_g fun k8 hk8=>?_
    have k8':∀o',k8 (o',())=some (o',(0,())):=by intro o'; subst hk8; rfl
    clear hk8
    show stdW.cnd (decide ((0:Int)<((addV [ofB l u,legs]).1.length:Int))) (stdW.call (insO o ((lowB u l).length:Int) [(u,((addV [ofB l u,legs]).1,()))]) fun v9=>k8 (v9.1,())) (k8 (o,()))=_
    unfold putB
    by_cases h0:(addV [ofB l u,legs]).1=[]
    ·rw[cnd_n (decide_eq_false (by rw[h0]; simp)),k8',if_pos h0,ho']; rfl
    ·have hpos:0<(addV [ofB l u,legs]).1.length:=List.length_pos_iff.2 h0
     have e:insO o ((lowB u l).length:Int) [(u,((addV [ofB l u,legs]).1,()))]=some (lowB u l++(u,((addV [ofB l u,legs]).1,()))::highB u l,()):=by
      unfold insO
      rw[ho',if_pos ⟨by omega,by rw[List.length_append]; omega,by rw[List.length_append]; omega⟩]
      show some ((lowB u l++highB u l).take ((lowB u l).length:Int).toNat++_::(lowB u l++highB u l).drop ((lowB u l).length:Int).toNat,())=_
      rw[Int.toNat_natCast,List.take_left,List.drop_left]
     rw[cnd_y (decide_eq_true (by omega)),zaa e,if_neg h0]
     exact k8' _
   clear hk
   show stdW.cnd (hasU l u) (stdW.call (delO l ((lowB u l).length:Int) (IntKind.i64.wrap (((lowB u l).length:Int)+1))) fun v11=>k10 ((addV [ofB l u,legs]).1,(v11.1,()))) (k10 ((addV [ofB l u,legs]).1,(l,())))=_
   rcases zxf hB.2 u with ⟨h3,_,_⟩|⟨h3,_⟩
   ·rw[cnd_n (by unfold hasU; rw[h3]; rfl)]
    rw[h3,List.nil_append]at hc
    exact kk l hc
   ·rw[h3]at hc hcl
    rw[cnd_y (by unfold hasU; rw[h3]; rfl),i64_s _ (by simp at hcl; omega)]
    have e:delO l ((lowB u l).length:Int) (((lowB u l).length+1:Nat):Int)=some (lowB u l++highB u l,()):=by
     unfold delO
     rw[if_pos ⟨by omega,by omega,by simp at hcl; omega⟩,Int.toNat_natCast,Int.toNat_natCast]
     congr 2
     have e1:l.take (lowB u l).length=lowB u l:=by
      have:=congrArg (List.take (lowB u l).length) hc
      rwa [List.take_left]at this
     have e2:l.drop ((lowB u l).length+1)=highB u l:=by
      have:=congrArg (List.drop ((lowB u l).length+1)) hc
      rw[List.drop_append,List.drop_eq_nil_of_le (Nat.le_succ _),Nat.add_sub_cancel_left]at this
      exact this
     rw[e1,e2]
    rw[zaa e]
    exact kk _ rfl
  ·rw[cnd_y (by simp[he]),if_neg he]
 ·have hp:isB l=false:=by simpa using hp
  rw[hp,cnd_y (by decide),if_neg (by simp)]
structure ShOk(l l':List APos')(u:AUnit')(legs:List Leg):Prop where
 inv:BInv l
 inv':BInv l'
 other:∀x,x≠u→ofB l' x=ofB l x
 own:∀j,getV (ofB l' u) j=getV (ofB l u) j+getV legs j
 opn:∀j,opnZ l' j=opnZ l j+getV legs j
 len:l'.length≤l.length+1
 ok:okB l→l.length≤99→okB l'
theorem sumV2(a b:List Leg)(k:Int):sumV [a,b] k=getV a k+getV b k:=by
 show getV a k+(getV b k+0)=_; omega
theorem ybw{l:List APos'}{u:AUnit'}{legs:List Leg}(h:(shiftP l u legs).2.1=0):ShOk l (shiftP l u legs).1 u legs:=by
 unfold shiftP at h ⊢
 by_cases hp:isB l=true
 ·have hB:BInv l:=of_decide_eq_true hp
  rw[if_pos hp]at h ⊢
  by_cases he:(addV [ofB l u,legs]).2.1=0
  ·rw[if_pos he]at h ⊢
   obtain⟨h1,h2,h3,h4⟩:=addV_ok he
   have hV:VInv (addV [ofB l u,legs]).1:=by rw[h2]; exact resV_V _
   refine⟨hB,putB_B hB u hV,fun x hx=>by rw[putB_of hB.2,if_neg hx],fun j=>by rw[putB_of hB.2,if_pos rfl,h4,sumV2],fun j=>by rw[opn_put hB.2,h4,sumV2]; omega,ykz hB.2 u _,fun hb hl=>⟨fun p hp=>?_,by show (putB l u (addV [ofB l u,legs]).1).length≤100; have:=ykz hB.2 u (addV [ofB l u,legs]).1; omega⟩⟩
   rcases zmp.1 hp with ⟨h5,_⟩|⟨_,rfl⟩
   ·exact hb.1 p h5
   ·refine⟨fun x hx=>?_,?_⟩
    ·show I64 x.2.1
     have hx:x∈(addV [ofB l u,legs]).1:=hx
     rw[h2]at hx
     obtain⟨v,hv,rfl⟩:=List.mem_map.1 hx
     exact h3 v (List.mem_filter.1 hv).1
    ·show (addV [ofB l u,legs]).1.length≤100
     rw[h2]; exact Nat.le_trans (yki _) (by decide)
  ·rw[if_neg he]at h; exact absurd h he
 ·rw[if_neg hp]at h; simp at h
theorem yko{a:List Leg}(hl:a.length≤1000000):zhn a a=some true:=by
 show zjc stdW a a=_
 unfold zjc
 rw[cnd_n (by simp)]
 refine zbx (l:=a) (by omega) (s0:=()) (fun _ _=>True) (fun _ _=>some true) trivial ?_ ?_
 ·rintro _ again _
  rw[zaq]
 ·rintro i hi _ _ again ha
  rw[cnd_lt hi,idx_w hi,idx_w hi,nif_t,cnd_n (by simp)]
  show again (IntKind.i64.wrap ((i:Int)+1),())=_
  rw[i64_s i (by omega)]
  exact ha _ trivial
theorem r_same19{a:List APos'}(hb:okB a):zmg a a=some true:=by
 have hl:=hb.2
 show zir stdW a a=_
 unfold zir
 rw[cnd_n (by simp)]
 refine zbx (l:=a) (by omega) (s0:=()) (fun _ _=>True) (fun _ _=>some true) trivial ?_ ?_
 ·rintro _ again _
  rw[zaq]
 ·rintro i hi _ _ again ha
  have h2:=(hb.1 _ (List.getElem_mem hi)).2
  rw[cnd_lt hi]
  refine join_g fun k hk=>?_
  have kf:k (false,())=some true:=by
   subst hk
   show stdW.cnd false _ (again (IntKind.i64.wrap ((i:Int)+1),()))=_
   rw[cnd_n rfl,i64_s i (by omega)]
   exact ha _ trivial
  clear hk
  show stdW.idx a (i:Int) _=_
  rw[idx_w hi,idx_w hi,nif_t,cnd_n (by simp),idx_w hi,idx_w hi,zaa (yko (by omega))]
  exact kf
theorem ofB_V{l:List APos'}(h:BInv l)(u:AUnit'):VInv (ofB l u):=by
 rcases zxf h.2 u with ⟨_,_,h3⟩|⟨_,h3⟩
 ·rw[h3]; exact⟨fun x hx=>(by cases hx),by simp⟩
 ·exact(h.1 _ h3).2
theorem getP_ok{p:List AFlow'}(h:okF p)(u:AUnit'):I64 (getP p u):=by
 induction p with
 |nil=>show I64 0; unfold I64; omega
 |cons x p ih=>
  rw[getP]
  split
  ·exact h x (by simp)
  ·exact ih fun y hy=>h y (by simp[hy])
def goV(f:Int→Int):List Int→List Leg→List Leg×Int×Unit
 |[],acc=>(acc,0,())
 |k::us,acc=>if I64 (f k) then (if f k=0 then goV f us acc else goV f us (acc++[(k,f k,())])) else ([],7,())
theorem yjc(l:List (List Leg)):∀(us:List Int) (acc:List Leg),goV (sumV l) us acc=addGo l us acc
 |[],_=>rfl
 |k::us,acc=>by
  rw[goV,addGo,yjc l us,yjc l us]
end Go.Proofs.YtllkmncnmlmefaaGreat
namespace Go.Proofs.YtllkmncnmlmefaaGreat
open Go Go.Vc Go.RowKit
end Go.Proofs.YtllkmncnmlmefaaGreat

namespace Go.Proofs.YtllkmncnmlmefaaGreat
open Go Go.Vc Go.RowKit
end Go.Proofs.YtllkmncnmlmefaaGreat

namespace Go.Proofs.YtllkmncnmlmefaaGreat
open Go Go.Vc Go.RowKit
theorem r_of19{l:List APos'}{u:AUnit'}(hl:l.length≤1000000):zmh l u=some (ofB l u):=by
 show zpx stdW l u=_
 unfold zpx
 refine zbx (l:=l) (by omega) (s0:=()) (fun _ _=>True) (fun l' _=>some (ofB l' u)) trivial ?_ ?_
 ·rintro _ again _
  rw[zaq]; rfl
 ·rintro i hi _ _ again ha
  rw[cnd_lt hi,idx_w hi,nif_f,eqA]
  show _=some (ofB (l[i]::l.drop (i+1)) u)
  rw[ofB]
  by_cases h:l[i].1=u
  ·rw[cnd_y (decide_eq_true h),if_pos h,idx_w hi]
  ·rw[cnd_n (decide_eq_false h),if_neg h]
   show again (IntKind.i64.wrap ((i:Int)+1),())=_
   rw[i64_s i (by omega)]
   exact ha _ trivial
abbrev ALot' := zct
def ltL (a b : ALot') : Prop := a.1 < b.1 ∨ (a.1 = b.1 ∧ a.2.1 < b.2.1)
instance (a b : ALot') : Decidable (ltL a b) := by unfold ltL; infer_instance
def rightL (x : ALot') : Prop := (1 ≤ x.1 ∧ x.1 ≤ 4) ∧ (0 ≤ x.2.1 ∧ x.2.1 ≤ 255) ∧ 0 < x.2.2.1
instance (x : ALot') : Decidable (rightL x) := by unfold rightL; infer_instance
def LInv (l : List ALot') : Prop := (∀ x ∈ l, rightL x) ∧ l.Pairwise ltL ∧ l.length ≤ 16
instance (l : List ALot') : Decidable (LInv l) := by unfold LInv; infer_instance
def isL (l : List ALot') : Bool := decide (LInv l)
def HInv (l : List AHold') : Prop := (∀ h ∈ l, h.2.1 ≠ [] ∧ LInv h.2.1) ∧ SrtA (l.map (·.1))
instance (l : List AHold') : Decidable (HInv l) := by unfold HInv SrtA; infer_instance
def isH (l : List AHold') : Bool := decide (HInv l)
def okT (l : List ALot') : Prop := l.length ≤ 20 ∧ ∀ x ∈ l, I64 x.2.2.1
def lotsH : List AHold' → AUnit' → List ALot'
  | [], _ => []
  | h :: l, u => if h.1 = u then h.2.1 else lotsH l u
theorem ydk {l : List AHold'} (h : ∀ x ∈ l, okT x.2.1) (u : AUnit') : okT (lotsH l u) := by
  induction l with
  | nil => exact ⟨by simp [lotsH], fun x hx => by cases hx⟩
  | cons x l ih =>
    rw [lotsH]
    split
    · exact h x (by simp)
    · exact ih fun y hy => h y (by simp [hy])
theorem yck{s:List ALot'}(h:s.length≤1000000):zau s=some s:=by
 show zbs stdW s=_
 unfold zbs
 rw[nilq_w]
 refine yde ?_ fun he=>?_
 ·show stdW.cnd (notIf false false) _ _=_
  rw[cnd_n (by decide),room_w (by omega) (by omega)]; rfl
 ·have:s=[]:=by simpa using he
  subst this; rfl
theorem ykr{s:List Int}(h:s.length≤1000000):zee s=some s:=by
 show zda stdW s=_
 unfold zda
 rw[nilq_w]
 refine yde ?_ fun he=>?_
 ·show stdW.cnd (notIf false false) _ _=_
  rw[cnd_n (by decide),room_w (by omega) (by omega)]; rfl
 ·have:s=[]:=by simpa using he
  subst this; rfl
def okAs(l:List zab):Prop:=(∀a∈l,a.2.2.2.1.length≤1000)∧l.length≤1000
theorem r_copiedA{l:List zab}(h:okAs l):zpd l=some l:=by
 have hl:=h.2
 show zgy stdW l=_
 unfold zgy
 refine zxj (N:=l.length) (by omega) (fun i=>((i:Int),(l.take i,()))) _ rfl ?_ ?_
 ·intro again
  show stdW.cnd (decide ((l.length:Int)<(l.length:Int))) _ (some (l.take l.length))=_
  rw[zaq,List.take_length]
 ·intro i hi again ha
  have h2:=h.1 _ (List.getElem_mem hi)
  have e:znz (l[i].1,(l[i].2.1,(l[i].2.2.1,(l[i].2.2.2.1,()))))=some l[i]:=by
   show zic stdW l[i]=_
   unfold zic
   rw[zaa (ykr (by omega))]
  show stdW.cnd (decide ((i:Int)<(l.length:Int))) (stdW.idx l (i:Int) fun x3=>stdW.call (znz (x3.1,(x3.2.1,(x3.2.2.1,(x3.2.2.2.1,()))))) fun v4=>stdW.room ((l.take i).length+1) 48 (again (IntKind.i64.wrap ((i:Int)+1),(l.take i++[(v4.1,(v4.2.1,(v4.2.2.1,(v4.2.2.2.1,()))))],())))) _=_
  have:(l.take i).length≤1000:=by rw[List.length_take]; omega
  rw[cnd_lt hi,idx_w hi,zaa e,room_w (by omega) (by omega),i64_s i (by omega)]
  rw[List.take_succ_eq_append_getElem hi]at ha
  exact ha
def isM(id:Int)(a:zab):Bool:=decide (a.2.1=id)
theorem r_of1(a:zab)(id:Int):zrp (a.1,(a.2.1,(a.2.2.1,(a.2.2.2.1,())))) id=some (!(isM id a),(id,())):=by
 show some ((a.2.1 != id),(id,()))=_
 unfold isM
 by_cases h:a.2.1=id<;>simp[h]
theorem r_ixM{l:List zab}{id:Int}(hl:l.length≤1000000):
  (zan l id=some (-1,(id,()))∧∀a∈l,isM id a=true)∨
  ∃i:Nat,i<l.length∧zan l id=some ((i:Int),(id,()))∧(∀a∈l.take i,isM id a=true)∧∀h:i<l.length,isM id l[i]=false:=by
 show (zah stdW l id=_∧_)∨∃i:Nat,_∧zah stdW l id=_∧_
 unfold zah
 refine loop_P (fun o=>(o=some ((-1:Int),(id,()))∧∀a∈l,isM id a=true)∨∃i:Nat,i<l.length∧o=some ((i:Int),(id,()))∧(∀a∈l.take i,isM id a=true)∧∀h:i<l.length,isM id l[i]=false) (fun z=>l.length+1 - z.1.toNat)
  (fun z=>∃j:Nat,j≤l.length∧z=((j:Int),(id,()))∧∀a∈l.take j,isM id a=true) ⟨0,Nat.zero_le _,rfl,by simp⟩ (by show _ - (0:Int).toNat<_; omega) ?_
 rintro _ ⟨j,hj,rfl,hp⟩ again ha
 show (stdW.cnd (decide ((j:Int)<(l.length:Int))) _ _=_∧_)∨∃i:Nat,_∧stdW.cnd (decide ((j:Int)<(l.length:Int))) _ _=_∧_
 by_cases h:j<l.length
 ·rw[cnd_lt h]
  show (stdW.idx l (j:Int) _=_∧_)∨∃i:Nat,_∧stdW.idx l (j:Int) _=_∧_
  rw[idx_w h,zaa (r_of1 _ _)]
  by_cases hv:isM id l[j]=true
  ·rw[hv,cnd_n (by rfl)]
   show (again (IntKind.i64.wrap ((j:Int)+1),(id,()))=_∧_)∨∃i:Nat,_∧again (IntKind.i64.wrap ((j:Int)+1),(id,()))=_∧_
   rw[i64_s j (by omega)]
   refine ha _ ⟨j+1,by omega,rfl,fun a hm=>?_⟩ (by show _ - ((j+1:Nat):Int).toNat<_ - ((j:Nat):Int).toNat; omega)
   rw[List.take_succ_eq_append_getElem h]at hm
   rcases List.mem_append.1 hm with hm|hm
   ·exact hp a hm
   ·simp only[List.mem_singleton]at hm; subst hm; exact hv
  ·have hv:isM id l[j]=false:=by simpa using hv
   rw[hv,cnd_y (by rfl)]
   exact .inr ⟨j,h,rfl,hp,fun _=>hv⟩
 ·have:j=l.length:=by omega
  subst this
  rw[zaq]
  rw[List.take_length]at hp
  exact .inl ⟨rfl,hp⟩
theorem r_delM{l:List zab}{id:Int}(hl:l.length≤1000000):zaw id l=some (l.filter (isM id),(id,())):=by
 show zak stdW id l=_
 unfold zak
 rcases r_ixM (id:=id) hl with ⟨e,hall⟩|⟨i0,hi0,e,hp,hn⟩
 ·rw[zaa e,cnd_y (by rfl),List.filter_eq_self.2 hall]
 ·rw[zaa e,cnd_n (show ((i0:Int) == -1)=false by simp)]
  have hi0':i0+1≤l.length:=hi0
  have hf0:(l.take (i0+1)).filter (isM id)=l.take i0:=by
   rw[List.take_succ_eq_append_getElem hi0,List.filter_append,List.filter_eq_self.2 hp,List.filter_cons,hn hi0]; simp
  have hz:((i0:Int),((IntKind.i64.wrap ((i0:Int)+1)),(id,(l,()))))=(((i0:Nat):Int),(((i0+1:Nat):Int),(id,(l,())))):=by rw[i64_s i0 (by omega)]
  show stdW.loop _ ((i0:Int),((IntKind.i64.wrap ((i0:Int)+1)),(id,(l,()))))=_
  rw[hz]
  refine(zjt (fun z=>l.length+1 - z.2.1.toNat) (fun z=>∃(i j:Nat) (s:List zab),i<j∧j≤l.length∧s.length=l.length∧s.take i=(l.take j).filter (isM id)∧s.drop j=l.drop j∧z=((i:Int),((j:Int),(id,(s,()))))) (fun _=>some (l.filter (isM id),(id,()))) ⟨i0,i0+1,l,by omega,hi0',rfl,hf0.symm,rfl,rfl⟩ (by show l.length+1 - (((i0+1:Nat):Int)).toNat<_; omega) ?_)
  rintro _ ⟨i,j,s,hij,hj,hs,ht,hd,rfl⟩ again ha
  show stdW.cnd (decide ((j:Int)<(s.length:Int))) _ _=_
  by_cases h:j<s.length
  ·have hjl:j<l.length:=by omega
   have hx:s[j]=l[j]:=by
    have h1:(s.drop j)[0]?=(l.drop j)[0]?:=by rw[hd]
    rw[List.getElem?_drop,List.getElem?_drop,Nat.add_zero,List.getElem?_eq_getElem h,List.getElem?_eq_getElem hjl]at h1
    exact Option.some.inj h1
   rw[cnd_lt h]
   refine join_g fun k5 hk5=>?_
   have kk:∀(i':Nat) (s':List zab),i'<j+1→s'.length=l.length→s'.take i'=(l.take (j+1)).filter (isM id)→s'.drop (j+1)=l.drop (j+1)→k5 ((i':Int),(id,(s',())))=some (l.filter (isM id),(id,())):=by
    intro i' s' g1 g2 g3 g4
    subst hk5
    show again ((i':Int),(IntKind.i64.wrap ((j:Int)+1),(id,(s',()))))=_
    rw[i64_s j (by omega)]
    exact ha _ ⟨i',j+1,s',by omega,by omega,g2,g3,g4,rfl⟩ (by show l.length+1 - (((j+1:Nat):Int)).toNat<l.length+1 - (((j:Nat):Int)).toNat; omega)
   clear hk5 ha
   have hd1:s.drop (j+1)=l.drop (j+1):=by
    have:=congrArg (List.drop 1) hd
    rwa [List.drop_drop,List.drop_drop]at this
   have il:i<s.length:=by omega
   show stdW.idx s (j:Int) _=_
   rw[idx_w h]
   show stdW.nth s (Int.toNat (j:Int)) _=_
   rw[nth_w h,hx,zaa (r_of1 _ _)]
   by_cases hv:isM id l[j]=true
   ·rw[hv,cnd_y (by rfl)]
    show stdW.idx s (i:Int) _=_
    rw[idx_w il]
    show stdW.nth s (Int.toNat (i:Int)) _=_
    rw[nth_w il]
    show k5 (IntKind.i64.wrap ((i:Int)+1),(id,(s.set (Int.toNat (i:Int)) l[j],())))=_
    rw[Int.toNat_natCast,i64_s i (by omega)]
    refine kk (i+1) (s.set i l[j]) (by omega) (by rw[List.length_set]; exact hs) ?_ ?_
    ·rw[List.take_succ_eq_append_getElem hjl,List.filter_append,←ht,List.filter_cons,hv,List.filter_nil,if_pos rfl]
     have h1:i<(s.set i l[j]).length:=by rw[List.length_set]; exact il
     rw[List.take_succ_eq_append_getElem h1,List.getElem_set_self]
     congr 1
     rw[List.take_set_of_le (Nat.le_refl _)]
    ·rw[List.drop_set_of_lt (by omega)]; exact hd1
   ·have hv:isM id l[j]=false:=by simpa using hv
    rw[hv,cnd_n (by rfl)]
    refine kk i s (by omega) hs ?_ hd1
    rw[List.take_succ_eq_append_getElem hjl,List.filter_append,List.filter_cons,hv,ht]; simp
  ·have:j=s.length:=by omega
   subst this
   have hll:s.length=l.length:=hs
   rw[zaq]
   show stdW.bnd (i:Int) s.length _=_
   rw[bnd_w (by omega) (by omega),Int.toNat_natCast]
   show stdW.bnd (i:Int) s.length _=_
   rw[bnd_w (by omega) (by omega),Int.toNat_natCast]
   show stdW.bnd (i:Int) (s.take i++List.replicate (s.length - i) (0,(0,(0,([],()))))).length _=_
   have hlt:(s.take i).length=i:=by rw[List.length_take]; omega
   rw[bnd_w (by omega) (by rw[List.length_append,hlt]; omega),Int.toNat_natCast]
   show some ((s.take i++List.replicate (s.length - i) (0,(0,(0,([],()))))).take i,(id,()))=_
   rw[List.take_append_of_le_length (by omega),List.take_take,Nat.min_self,ht,hll,List.take_length]
theorem r_aof{l:List zab}{id:Int}(h:okAs l):yjn l id=some (l.filter (isM id)):=by
 show zvz stdW l id=_
 unfold zvz
 have hl:=h.2
 rw[zaa (r_copiedA h),zaa (r_delM (by omega))]
def unitsA(a:zab):List AUnit':=if a.2.2.1=1 then [(a.1,(0,()))] else a.2.2.2.1.map fun c=>(a.1,(c,()))
theorem ykt{a:zab}(h:a.2.2.2.1.length≤1000):zoa (a.1,(a.2.1,(a.2.2.1,(a.2.2.2.1,()))))=some (unitsA a):=by
 show zks stdW a=_
 unfold zks unitsA
 by_cases hk:a.2.2.1=1
 ·rw[cnd_y (by simpa using hk),if_pos hk]
 ·rw[cnd_n (by simpa using hk),if_neg hk]
  refine zxj (N:=a.2.2.2.1.length) (by omega) (fun i=>((i:Int),((a.2.2.2.1.take i).map (fun c=>((a.1,(c,())):AUnit')),()))) _ rfl ?_ ?_
  ·intro again
   show stdW.cnd (decide ((a.2.2.2.1.length:Int)<(a.2.2.2.1.length:Int))) _ (some _)=_
   rw[zaq,List.take_length]
  ·intro i hi again ha
   show stdW.cnd (decide ((i:Int)<(a.2.2.2.1.length:Int))) (stdW.idx a.2.2.2.1 (i:Int) fun x3=>stdW.room (((a.2.2.2.1.take i).map (fun c=>((a.1,(c,())):AUnit'))).length+1) 16 (again (IntKind.i64.wrap ((i:Int)+1),((a.2.2.2.1.take i).map (fun c=>((a.1,(c,())):AUnit'))++[(a.1,(x3,()))],())))) _=_
   have:((a.2.2.2.1.take i).map (fun c=>((a.1,(c,())):AUnit'))).length≤1000:=by rw[List.length_map,List.length_take]; omega
   rw[cnd_lt hi,idx_w hi,room_w (by omega) (by omega),i64_s i (by omega)]
   rw[List.take_succ_eq_append_getElem hi,List.map_append]at ha
   exact ha
theorem zrx{a:zab}(h:a.2.2.2.1.length≤1000):(unitsA a).length≤1000:=by
 unfold unitsA
 split
 ·simp
 ·rw[List.length_map]; exact h
theorem srt_next{α:Type}{f:α→AUnit'}{l:List α}{i:Nat}(hi:i<l.length)(inv:SrtA ((l.take i).map f))(h2:∀h0:0<i,ltA (f (l[i - 1]'(by omega))) (f l[i])):SrtA ((l.take (i+1)).map f):=by
 rw[List.take_succ_eq_append_getElem hi,List.map_append]
 refine List.pairwise_append.2 ⟨inv,by simp,fun a ha b hb=>?_⟩
 simp only[List.map_cons,List.map_nil,List.mem_singleton]at hb
 subst hb
 obtain⟨k,hk,hka⟩:=List.mem_iff_getElem.1 ha
 have hk':k<i:=by simp at hk; omega
 have h3:=h2 (by omega)
 by_cases hki:k=i - 1
 ·subst hki; rw[←hka]; simpa using h3
 ·have h4:=List.pairwise_iff_getElem.1 inv k (i - 1) (by simpa using hk) (by simp; omega) (by omega)
  rw[hka]at h4
  refine ltA_tr h4 ?_
  simpa using h3
def okHs(l:List AHold'):Prop:=(∀h∈l,okT h.2.1)∧l.length≤1000
theorem yie{l:List AHold'}{u:AUnit'}(h:okHs l):zht l u=some (lotsH l u):=by
 have hl:=h.2
 show znn stdW l u=_
 unfold znn
 refine zbx (l:=l) (by omega) (s0:=()) (fun _ _=>True) (fun l' _=>some (lotsH l' u)) trivial ?_ ?_
 ·rintro _ again _
  rw[zaq]; rfl
 ·rintro i hi _ _ again ha
  have h2:=(h.1 _ (List.getElem_mem hi)).1
  rw[cnd_lt hi,idx_w hi,nif_f,eqA]
  show _=some (lotsH (l[i]::l.drop (i+1)) u)
  rw[lotsH]
  by_cases h:l[i].1=u
  ·rw[cnd_y (decide_eq_true h),if_pos h,zaa (yck (by omega))]
  ·rw[cnd_n (decide_eq_false h),if_neg h]
   show again (IntKind.i64.wrap ((i:Int)+1),())=_
   rw[i64_s i (by omega)]
   exact ha _ trivial
theorem ykp{l:List AHold'}{u:AUnit'}(hl:l.length≤1000):zew l u=some (lotsH l u):=by
 show ziq stdW l u=_
 unfold ziq
 refine zbx (l:=l) (by omega) (s0:=()) (fun _ _=>True) (fun l' _=>some (lotsH l' u)) trivial ?_ ?_
 ·rintro _ again _
  rw[zaq]; rfl
 ·rintro i hi _ _ again ha
  rw[cnd_lt hi,idx_w hi,nif_f,eqA]
  show _=some (lotsH (l[i]::l.drop (i+1)) u)
  rw[lotsH]
  by_cases h:l[i].1=u
  ·rw[cnd_y (decide_eq_true h),if_pos h,idx_w hi]
  ·rw[cnd_n (decide_eq_false h),if_neg h]
   show again (IntKind.i64.wrap ((i:Int)+1),())=_
   rw[i64_s i (by omega)]
   exact ha _ trivial
def pu(s:zaf):List AFlow':=s.2.2.2.2.2.2.2.2.2.2.1
def ho(s:zaf):List AHold':=s.2.2.2.2.2.2.2.2.2.2.2.1
theorem ex_cnd{β:Type}{c:Bool}{a b:Option β}(ha:∃r,a=some r)(hb:∃r,b=some r):∃r,stdW.cnd c a b=some r:=by
 cases c
 ·exact hb
 ·exact ha
theorem r_is15{a:zab}(hm:a.2.2.2.1.length≤1000000):∃b,ycg a=some b:=by
 show ∃b,zqa stdW a=some b
 unfold zqa
 refine yir (Q:=fun o=>∃b,o=some b) fun k12 hk12=>?_
 have kb12:∀c,∃b,k12 (c,())=some b:=by
  intro c
  subst hk12
  show ∃b,stdW.cnd c (some false) _=some b
  refine ex_cnd ⟨_,rfl⟩ ?_
  refine yir (Q:=fun o=>∃b,o=some b) fun k11 hk11=>?_
  have kb11:∀c,∃b,k11 (c,())=some b:=by
   intro c
   subst hk11
   show ∃b,stdW.cnd c (some false) _=some b
   refine ex_cnd ⟨_,rfl⟩ ?_
   refine loop_P (fun o=>∃b,o=some b) (fun z=>a.2.2.2.1.length+1 - z.1.toNat) (fun z=>∃j:Nat,j≤a.2.2.2.1.length∧z=((j:Int),())) ⟨0,Nat.zero_le _,rfl⟩ (by show _ - (0:Int).toNat<_; omega) ?_
   rintro _ ⟨j,hj,rfl⟩ again ha
   show ∃b,stdW.cnd (decide ((j:Int)<(a.2.2.2.1.length:Int))) _ _=some b
   by_cases h:j<a.2.2.2.1.length
   ·rw[cnd_lt h]
    refine yir (Q:=fun o=>∃b,o=some b) fun k6 hk6=>?_
    have kb6:∀c,∃b,k6 (c,())=some b:=by
     intro c
     subst hk6
     show ∃b,stdW.cnd c (some false) (again (IntKind.i64.wrap ((j:Int)+1),()))=some b
     refine ex_cnd ⟨_,rfl⟩ ?_
     rw[i64_s j (by omega)]
     exact ha _ ⟨j+1,by omega,rfl⟩ (by show _ - ((j+1:Nat):Int).toNat<_ - ((j:Nat):Int).toNat; omega)
    clear hk6 ha
    show ∃b,stdW.idx a.2.2.2.1 (j:Int) _=some b
    rw[idx_w h]
    refine ex_cnd (kb6 _) ?_
    show ∃b,stdW.idx a.2.2.2.1 (j:Int) _=some b
    rw[idx_w h]
    refine ex_cnd (kb6 _) ?_
    show ∃b,stdW.cnd (decide (0<(j:Int))) (stdW.idx a.2.2.2.1 (j:Int) fun x9=>stdW.idx a.2.2.2.1 (IntKind.i64.wrap ((j:Int) - 1)) _) _=some b
    by_cases h0:0<j
    ·rw[cnd_y (decide_eq_true (by omega)),idx_w h,zqw j h0 (by rw[zax]; omega),idx_w (by omega)]
     exact kb6 _
    ·rw[cnd_n (decide_eq_false (by omega))]; exact kb6 _
   ·have:j=a.2.2.2.1.length:=by omega
    subst this
    rw[zaq]; exact⟨_,rfl⟩
  clear hk11
  repeat' (first|exact kb11 _|refine ex_cnd ?_ ?_)
 clear hk12
 repeat' (first|exact kb12 _|refine ex_cnd ?_ ?_)
theorem r_find15{l:List zab}{id:Int}(hl:l.length≤1000000):∃x b,zsg l id=some (x,(b,()))∧(b=false→∀a∈l,a.1≠id):=by
 show ∃x b,ziy stdW l id=some (x,(b,()))∧_
 unfold ziy
 refine loop_P (fun o=>∃(x:zab) (b:Bool),o=some (x,(b,()))∧(b=false→∀a∈l,a.1≠id)) (fun z=>l.length+1 - z.1.toNat) (fun z=>∃j:Nat,j≤l.length∧z=((j:Int),())∧∀a∈l.take j,a.1≠id) ⟨0,Nat.zero_le _,rfl,by simp⟩ (by show _ - (0:Int).toNat<_; omega) ?_
 rintro _ ⟨j,hj,rfl,hp⟩ again ha
 show ∃x b,stdW.cnd (decide ((j:Int)<(l.length:Int))) _ _=some (x,(b,()))∧_
 by_cases h:j<l.length
 ·rw[cnd_lt h]
  show ∃x b,stdW.idx l (j:Int) _=some (x,(b,()))∧_
  rw[idx_w h]
  by_cases hi:l[j].1=id
  ·rw[cnd_y (by simpa using hi)]
   show ∃x b,stdW.idx l (j:Int) _=some (x,(b,()))∧_
   rw[idx_w h]
   exact⟨_,true,rfl,fun h=>by cases h⟩
  ·rw[cnd_n (by simpa using hi)]
   show ∃x b,again (IntKind.i64.wrap ((j:Int)+1),())=some (x,(b,()))∧_
   rw[i64_s j (by omega)]
   refine ha _ ⟨j+1,by omega,rfl,fun a hm=>?_⟩ (by show _ - ((j+1:Nat):Int).toNat<_ - ((j:Nat):Int).toNat; omega)
   rw[List.take_succ_eq_append_getElem h]at hm
   rcases List.mem_append.1 hm with hm|hm
   ·exact hp a hm
   ·simp only[List.mem_singleton]at hm; subst hm; exact hi
 ·have:j=l.length:=by omega
  subst this
  rw[List.take_length]at hp
  rw[zaq]; exact⟨_,false,rfl,fun _=>hp⟩
def few26(l:List AHold'):List AHold':=(l.take 10).map fun h=>((h.1,(h.2.1.take 20,())):AHold')
theorem r_few18{l:List ALot'}(hl:l.length≤9223372036854775807):zxs l=some (l.take 20):=by
 show znh stdW l=_
 unfold znh
 by_cases h:20<l.length
 ·rw[cnd_y (decide_eq_true (by omega)),bnd_w (by omega) (by omega)]; rfl
 ·rw[cnd_n (decide_eq_false (by omega)),List.take_of_length_le (by omega)]
theorem r_few26{l:List AHold'}(hl:l.length≤9223372036854775807)(hm:∀h∈l,h.2.1.length≤9223372036854775807):zlm l=some (few26 l):=by
 show znf stdW l=_
 unfold znf
 rw[join_w]
 have hm':∀i (h:i<l.length),l[i].2.1.length≤9223372036854775807:=fun i h=>hm _ (List.getElem_mem h)
 refine(zjt (fun z=>l.length+1 - z.1.toNat) (fun z=>∃j:Nat,j≤l.length∧j≤10∧z=((j:Int),(few26 (l.take j),()))) (fun _=>some (few26 l)) ⟨0,Nat.zero_le _,Nat.zero_le _,rfl⟩ (by show _ - (0:Int).toNat<_; omega) ?_)
 rintro _ ⟨j,hj,hj10,rfl⟩ again ha
 have ft:few26 (l.take j)=(l.take j).map fun h=>((h.1,(h.2.1.take 20,())):AHold'):=by
  unfold few26; rw[List.take_take,Nat.min_eq_right hj10]
 show stdW.cnd (decide ((j:Int)<(l.length:Int))) (stdW.cnd (decide ((j:Int)<10)) _ _) _=_
 by_cases h:j<l.length
 ·rw[cnd_lt h]
  by_cases h10:j<10
  ·have ft1:few26 (l.take (j+1))=few26 (l.take j)++[(l[j].1,(l[j].2.1.take 20,()))]:=by
    unfold few26; rw[List.take_take,List.take_take,Nat.min_eq_right hj10,Nat.min_eq_right (by omega),List.take_succ_eq_append_getElem h,List.map_append]; rfl
   have hlen:(few26 (l.take j)).length≤10:=by rw[ft,List.length_map,List.length_take]; omega
   rw[cnd_y (decide_eq_true (by omega))]
   show stdW.idx l (j:Int) _=_
   rw[idx_w h,idx_w h,zaa (r_few18 (hm' j h))]
   show stdW.room ((few26 (l.take j)).length+1) 40 (again (IntKind.i64.wrap ((j:Int)+1),(few26 (l.take j)++[(l[j].1,(l[j].2.1.take 20,()))],())))=_
   rw[room_w (by omega) (by omega),←ft1,i64_s j (by omega)]
   exact ha _ ⟨j+1,by omega,by omega,rfl⟩ (by show _ - ((j+1:Nat):Int).toNat<_ - ((j:Nat):Int).toNat; omega)
  ·rw[cnd_n (decide_eq_false (by omega))]
   show some (few26 (l.take j))=_
   have:j=10:=by omega
   subst this
   unfold few26; rw[List.take_take,Nat.min_self]
 ·have:j=l.length:=by omega
  subst this
  rw[zaq,List.take_length]
def ybv(a:zab):zab:=(a.1,(a.2.1,(a.2.2.1,(a.2.2.2.1.take 20,()))))
theorem r_short{a:zab}(hl:a.2.2.2.1.length≤9223372036854775807):zov (a.1,(a.2.1,(a.2.2.1,(a.2.2.2.1,()))))=some (ybv a):=by
 show zgs stdW a=_
 unfold zgs
 refine join_g fun k hk=>?_
 have kk:∀x:zab,k x=some x:=by intro x; subst hk; rfl
 clear hk
 by_cases h:20<a.2.2.2.1.length
 ·rw[cnd_y (decide_eq_true (by omega)),bnd_w (by omega) (by omega),kk]; rfl
 ·rw[cnd_n (decide_eq_false (by omega)),kk]
  unfold ybv
  rw[List.take_of_length_le (by omega)]
end Go.Proofs.YtllkmncnmlmefaaGreat
namespace Go.Vc
open Go
theorem zju{α X S β:Type}{l:List α}(hN:l.length<9223372036854775808){f:X→(X→Option β)→Option β}(st:Nat→S→X)(Inv:Nat→S→Prop)(G:List α→S→Option β){z0:X}{s0:S}(hz:z0=st 0 s0)(h0:Inv 0 s0)
  (hend:∀s,Inv l.length s→∀again:X→Option β,f (st l.length s) again=G [] s)
  (hstep:∀(i:Nat) (hi:i<l.length) (s:S),Inv i s→∀again:X→Option β,(∀s',Inv (i+1) s'→again (st (i+1) s')=G (l.drop (i+1)) s')→f (st i s) again=G (l[i]::l.drop (i+1)) s):stdW.loop f z0=G l s0:=by
 subst hz
 have key:∀n i s,i≤l.length→l.length - i<n→Inv i s→loopF n f (st i s)=G (l.drop i) s:=by
  intro n
  induction n with
  |zero=>intro i s _ h; omega
  |succ n ih=>
   intro i s hi hn hv
   show f (st i s) (loopF n f)=_
   by_cases h:i<l.length
   ·rw[List.drop_eq_getElem_cons h]
    exact hstep i h s hv _ fun s' hv'=>ih (i+1) s' (by omega) (by omega) hv'
   ·have:i=l.length:=by omega
    subst this; rw[List.drop_length]; exact hend s hv _
 show loopF FU f (st 0 s0)=_
 have:=key FU 0 s0 (Nat.zero_le _) (by rw[FU_eq]; omega) h0
 rwa [List.drop_zero]at this
end Go.Vc
namespace Go.Proofs.YtllkmncnmlmefaaGreat
open Go Go.Vc Go.RowKit
def bk(s:zaf):List APos':=s.2.2.2.2.2.2.2.2.1
def sa(s:zaf):List APos':=s.2.2.2.2.2.2.2.2.2.1
def noS:zaf:=(0,([],([],([],([],([],([],([],([],([],([],([],()))))))))))))
def hasA(a:zab)(u:AUnit'):Bool:=decide (u∈unitsA a)
end Go.Proofs.YtllkmncnmlmefaaGreat
namespace Go.Vc
open Go
variable {β:Type}
def ixP{α:Type}(p:α→Bool)(s:List α):Int:=match s.findIdx? p with|some k=>((k:Nat):Int)|none => -1
theorem yin{α C:Type}{s:List α}(hl:s.length≤1000000)(p:α→Bool)(fn:α→C→Option (Bool×C))(c:C)(h:∀x∈s,fn x c=some (p x,c)):
  stdW.loop (fun (z:Int×C) (again:Int×C→Option (Int×C))=>stdW.cnd (decide (z.1<(s.length:Int))) (stdW.idx s z.1 fun x=>stdW.call (fn x z.2) fun v=>stdW.cnd v.1 (some (z.1,v.2)) (again (IntKind.i64.wrap (z.1+1),v.2))) (some ((-1:Int),z.2))) (0,c)=some (ixP p s,c):=by
 refine zju (l:=s) (s0:=()) (by omega) (fun i (_:Unit)=>((i:Int),c)) (fun i _=>∀j,∀h:j<s.length,j<i→p s[j]=false) (fun _ _=>some (ixP p s,c)) rfl (fun j _ h=>by omega) ?_ ?_
 ·intro _ hno again
  show stdW.cnd (decide ((s.length:Int)<(s.length:Int))) _ _=_
  rw[zaq]
  have:s.findIdx? p=none:=by
   rw[List.findIdx?_eq_none_iff]
   intro x hx
   obtain⟨j,hj,rfl⟩:=List.mem_iff_getElem.1 hx
   exact hno j hj hj
  unfold ixP; rw[this]
 ·intro i hi _ hno again ha
  show stdW.cnd (decide ((i:Int)<(s.length:Int))) (stdW.idx s (i:Int) _) _=_
  rw[cnd_lt hi,idx_w hi,call_w (h _ (List.getElem_mem hi))]
  by_cases hp:p s[i]=true
  ·rw[hp,cnd_y rfl]
   have:s.findIdx? p=some i:=by
    rw[List.findIdx?_eq_some_iff_getElem]
    exact⟨hi,hp,fun j hj=>by rw[hno j (by omega) hj]; simp⟩
   unfold ixP; rw[this]
  ·have hp:p s[i]=false:=by simpa using hp
   rw[hp,cnd_n rfl]
   show again (IntKind.i64.wrap ((i:Int)+1),c)=_
   rw[i64_s i (by omega)]
   exact ha () fun j hj hji=>by
    by_cases hji2:j=i
    ·subst hji2; exact hp
    ·exact hno j hj (by omega)
theorem ixP_any{α:Type}(p:α→Bool)(s:List α):decide (0≤ixP p s)=s.any p:=by
 unfold ixP
 cases h:s.findIdx? p with
 |none=>
  rw[List.findIdx?_eq_none_iff]at h
  have:s.any p=false:=by rw[List.any_eq_false]; intro x hx; simp[h x hx]
  rw[this]; rfl
 |some k=>
  obtain⟨h1,h2,_⟩:=List.findIdx?_eq_some_iff_getElem.1 h
  have:s.any p=true:=List.any_eq_true.2 ⟨_,List.getElem_mem h1,h2⟩
  rw[this]; simp
theorem yll{α:Type}(p:α→Bool)(s:List α):(ixP p s = -1∧s.find? p=none)∨∃k:Nat,∃h:k<s.length,ixP p s=(k:Int)∧s.find? p=some s[k]∧p s[k]=true:=by
 unfold ixP
 cases h:s.findIdx? p with
 |none=>
  refine .inl ⟨rfl,?_⟩
  rw[List.findIdx?_eq_none_iff]at h
  rw[List.find?_eq_none]
  intro x hx; simp[h x hx]
 |some k=>
  obtain⟨h1,h2,h3⟩:=List.findIdx?_eq_some_iff_getElem.1 h
  refine .inr ⟨k,h1,rfl,?_,h2⟩
  rw[List.find?_eq_some_iff_getElem]
  exact⟨h2,k,h1,rfl,fun j hj=>by simpa using h3 j hj⟩
theorem join_b{k0:Bool×Unit→Option β}{f:(Bool×Unit→Option β)→Option β}{r:Option β}(c:Bool)(h:∀k:Bool×Unit→Option β,f k=k (c,()))(hr:k0 (c,())=r):stdW.join k0 f=r:=by
 show f k0=r
 rw[h]; exact hr
end Go.Vc

namespace Go.Proofs.YtllkmncnmlmefaaGreat
open Go Go.Vc Go.RowKit
theorem unitEq(v x:AUnit'):notIf false ((v.1==x.1)&&(v.2.1==x.2.1))=decide (v=x):=by rw[nif_f]; exact eqA v x
theorem r_ixU{s:List AUnit'}{u:AUnit'}(hl:s.length≤1000000):zce s u=some (ixP (fun x=>decide (u=x)) s):=by
 show zbp stdW s u=_
 unfold zbp
 refine zju (l:=s) (s0:=()) (by omega) (fun i (_:Unit)=>((i:Int),())) (fun i _=>∀j,∀h:j<s.length,j<i→decide (u=s[j])=false) (fun _ _=>some (ixP (fun x=>decide (u=x)) s)) rfl (fun j _ h=>by omega) ?_ ?_
 ·intro _ hno again
  show stdW.cnd (decide ((s.length:Int)<(s.length:Int))) _ _=_
  rw[zaq]
  have:s.findIdx? (fun x=>decide (u=x))=none:=by
   rw[List.findIdx?_eq_none_iff]
   intro x hx
   obtain⟨j,hj,rfl⟩:=List.mem_iff_getElem.1 hx
   exact hno j hj hj
  unfold ixP; rw[this]
 ·intro i hi _ hno again ha
  show stdW.cnd (decide ((i:Int)<(s.length:Int))) (stdW.idx s (i:Int) _) _=_
  rw[cnd_lt hi,idx_w hi,unitEq]
  by_cases hp:u=s[i]
  ·rw[cnd_y (decide_eq_true hp)]
   have:s.findIdx? (fun x=>decide (u=x))=some i:=by
    rw[List.findIdx?_eq_some_iff_getElem]
    exact⟨hi,decide_eq_true hp,fun j hj=>by rw[hno j (by omega) hj]; simp⟩
   unfold ixP; rw[this]
  ·rw[cnd_n (decide_eq_false hp)]
   show again (IntKind.i64.wrap ((i:Int)+1),())=_
   rw[i64_s i (by omega)]
   exact ha () fun j hj hji=>by
    by_cases hji2:j=i
    ·subst hji2; exact decide_eq_false hp
    ·exact hno j hj (by omega)
theorem any_mem(u:AUnit')(s:List AUnit'):s.any (fun x=>decide (u=x))=decide (u∈s):=by
 by_cases h:u∈s
 ·rw[decide_eq_true h]; exact List.any_eq_true.2 ⟨u,h,by simp⟩
 ·rw[decide_eq_false h,List.any_eq_false]
  intro x hx; simp; rintro rfl; exact h hx
theorem r_hasA{a:zab}{u:AUnit'}(h:a.2.2.2.1.length≤1000):zwa a u=some (hasA a u):=by
 show zrq stdW a u=_
 unfold zrq
 have hl:=zrx h
 have e:zbz (unitsA a) u=some (hasA a u):=by
  show zbk stdW (unitsA a) u=_
  unfold zbk
  rw[zaa (r_ixU (by omega)),ixP_any,any_mem]; rfl
 rw[zaa (ykt h),zaa e]
theorem r_is14(m:zad):∃b,yci m=some b:=by
 show ∃b,zqd stdW m=some b
 unfold zqd
 repeat' (first|exact⟨_,rfl⟩|refine ex_cnd ?_ ?_)
theorem yha{α:Type}(f:α→Int)(x:α)(t:List α)(id:Int):(x::t).find? (fun a=>f a==id)=if f x=id then some x else t.find? (fun a=>f a==id):=by
 rw[List.find?_cons]
 by_cases h:f x=id
 ·simp[h]
 ·rw[if_neg h,show (f x==id)=false by simpa using h]
def findM(t:List zad)(id:Int):Option zad:=t.find? fun a=>a.1==id
def zeroM:zad:=(0,(0,(0,(0,()))))
theorem findM_cons(x:zad)(t:List zad)(id:Int):findM (x::t) id=if x.1=id then some x else findM t id:=yha (fun a:zad=>a.1) x t id
theorem r_find14{t:List zad}{id:Int}(hl:t.length≤1000000):zsh t id=some (match findM t id with|some i=>(i,(true,()))|none=>(zeroM,(false,()))):=by
 show zjb stdW t id=_
 unfold zjb
 refine zbx (l:=t) (by omega) (fun _ _=>True) (fun t _=>some (match findM t id with|some i=>(i,(true,()))|none=>(zeroM,(false,())))) trivial ?_ ?_
 ·rintro _ again _
  rw[zaq]; rfl
 ·rintro i hi _ _ again ha
  rw[cnd_lt hi,idx_w hi,findM_cons]
  by_cases h:t[i].1=id
  ·rw[cnd_y (by simpa using h),if_pos h]
   show stdW.idx t (i:Int) _=_
   rw[idx_w hi]
  ·rw[cnd_n (by simpa using h),if_neg h]
   show again (IntKind.i64.wrap ((i:Int)+1),())=_
   rw[i64_s i (by omega)]
   exact ha _ trivial
theorem yfk{t:List zad}{id:Int}(hl:t.length≤1000000):zex t id=some (match findM t id with|some i=>(i,(true,()))|none=>(zeroM,(false,()))):=by
 show zgq stdW t id=_
 unfold zgq
 have e1:zay t id=some (ixP (fun m=>m.1==id) t,(id,())):=by
  show zal stdW t id=_
  unfold zal
  exact yin hl (fun m=>m.1==id) (fun (m:zad) (c:Int×Unit)=>zos m c.1) (id,()) fun x _=>rfl
 have e0:zxg t id=some (ixP (fun m=>m.1==id) t):=by
  show zmw stdW t id=_
  unfold zmw
  rw[zaa e1]
 rw[zaa e0]
 unfold findM
 rcases yll (fun m:zad=>m.1==id) t with ⟨h1,h2⟩|⟨k,hk,h1,h2,_⟩
 ·rw[h1,h2,cnd_y (by decide)]; rfl
 ·rw[h1,h2,cnd_n (decide_eq_false (by omega)),idx_w hk]
theorem srtI_ins{α:Type}(f:α→Int){l:List α}{i:α}{j:Nat}(hs:(l.map f).Pairwise (· < ·))(h1:∀x∈l.take j,f x<f i)(h2:∀h:j<l.length,¬f l[j]<f i)(hno:∀x∈l,f x≠f i):((l.take j++[i]++l.drop j).map f).Pairwise (· < ·):=by
 have hs':((l.take j).map f++(l.drop j).map f).Pairwise (· < ·):=by rw[←List.map_append,List.take_append_drop]; exact hs
 obtain⟨a,b,c⟩:=List.pairwise_append.1 hs'
 have hd:∀x∈l.drop j,f i<f x:=by
  intro x hx
  have hne:=hno x (List.mem_of_mem_drop hx)
  by_cases hj:j<l.length
  ·have hij:=h2 hj
   rw[List.drop_eq_getElem_cons hj]at hx b
   rw[List.map_cons]at b
   rcases List.mem_cons.1 hx with rfl|hx
   ·omega
   ·have:=(List.pairwise_cons.1 b).1 (f x) (List.mem_map_of_mem hx)
    omega
  ·rw[List.drop_eq_nil_of_le (by omega)]at hx; cases hx
 rw[List.map_append,List.map_append,List.append_assoc]
 refine List.pairwise_append.2 ⟨a,List.pairwise_cons.2 ⟨fun y hy=>?_,b⟩,fun x hx y hy=>?_⟩
 ·obtain⟨x,hx,rfl⟩:=List.mem_map.1 hy; exact hd x hx
 ·rcases List.mem_cons.1 hy with rfl|hy
  ·obtain⟨z,hz,rfl⟩:=List.mem_map.1 hx; exact h1 z hz
  ·exact c x hx y hy
def SrtI(l:List zab):Prop:=(l.map (·.1)).Pairwise (· < ·)
theorem r_put15s{l:List zab}{i:zab}(hl:l.length≤1000)(hm:i.2.2.2.1.length≤1000000):∃r e,zpz l i=some (r,(e,()))∧(e=0→(∀x∈r,x∈l∨x=i)∧r.length≤l.length+1∧(SrtI l→SrtI r)):=by
 show ∃r e,zmm stdW l i=some (r,(e,()))∧_
 unfold zmm
 obtain⟨b,hb⟩:=r_is15 hm
 rw[zaa hb]
 cases b with
 |false=>rw[cnd_y (by decide)]; exact⟨[],2,rfl,by simp⟩
 |true=>
  obtain⟨x,bf,hf,hno⟩:=r_find15 (l:=l) (id:=i.1) (by omega)
  rw[cnd_n (by decide),zaa hf]
  cases bf with
  |true=>
   rw[cnd_y (by rfl)]; exact⟨[],12,rfl,by simp⟩
  |false=>
   have hno:=hno rfl
   rw[cnd_n (by rfl),join_w]
   refine loop_P (fun o=>∃(r:List zab) (e:Int),o=some (r,(e,()))∧(e=0→(∀x∈r,x∈l∨x=i)∧r.length≤l.length+1∧(SrtI l→SrtI r))) (fun z=>l.length+1 - z.1.toNat) (fun z=>∃j:Nat,j≤l.length∧z=((j:Int),())∧∀x∈l.take j,x.1<i.1) ⟨0,Nat.zero_le _,rfl,by simp⟩ (by show _ - (0:Int).toNat<_; omega) ?_
   rintro _ ⟨j,hj,rfl,hlo⟩ again ha
   have fin:(∀h:j<l.length,¬l[j].1<i.1)→∃(r:List zab) (e:Int),stdW.bnd (j:Int) l.length (fun h4=>stdW.room (l.take h4).length 48 (stdW.room ((l.take h4).length+(i::([]:List zab)).length) 48 (stdW.bnd (j:Int) l.length fun h5=>stdW.room (((l.take h4)++(i::([]:List zab))).length+((l.take l.length).drop h5).length) 48 (some (((l.take h4)++(i::([]:List zab))++((l.take l.length).drop h5)),(0,()))))))=some (r,(e,()))∧(e=0→(∀x∈r,x∈l∨x=i)∧r.length≤l.length+1∧(SrtI l→SrtI r)):=by
    intro hhi
    rw[bnd_w (by omega) (by omega),Int.toNat_natCast]
    have l1:(l.take j).length≤1000:=by rw[List.length_take]; omega
    rw[room_w (by omega) (by omega),room_w (by simp only[List.length_cons,List.length_nil]; omega) (by simp only[List.length_cons,List.length_nil]; omega),bnd_w (by omega) (by omega),Int.toNat_natCast,List.take_length,
     room_w (by simp only[List.length_append,List.length_drop,List.length_cons,List.length_nil]; omega) (by simp only[List.length_append,List.length_drop,List.length_cons,List.length_nil]; omega)]
    refine⟨_,_,rfl,fun _=>⟨fun x hx=>?_,by simp only[List.length_append,List.length_drop,List.length_cons,List.length_nil,List.length_take]; omega,fun hs=>srtI_ins (fun a:zab=>a.1) hs hlo hhi hno⟩⟩
    rcases List.mem_append.1 hx with hx|hx
    ·rcases List.mem_append.1 hx with hx|hx
     ·exact .inl (List.mem_of_mem_take hx)
     ·simp only[List.mem_singleton]at hx
      exact .inr hx
    ·exact .inl (List.mem_of_mem_drop hx)
   show ∃r e,stdW.cnd (decide ((j:Int)<(l.length:Int))) _ _=_∧_
   by_cases h:j<l.length
   ·rw[cnd_lt h]
    show ∃r e,stdW.idx l (j:Int) _=_∧_
    rw[idx_w h]
    by_cases h1:l[j].1<i.1
    ·rw[cnd_y (decide_eq_true h1)]
     show ∃r e,again (IntKind.i64.wrap ((j:Int)+1),())=_∧_
     rw[i64_s j (by omega)]
     refine ha _ ⟨j+1,by omega,rfl,fun x hx=>?_⟩ (by show _ - ((j+1:Nat):Int).toNat<_ - ((j:Nat):Int).toNat; omega)
     rw[List.take_succ_eq_append_getElem h]at hx
     rcases List.mem_append.1 hx with hx|hx
     ·exact hlo x hx
     ·simp only[List.mem_singleton]at hx; subst hx; exact h1
    ·rw[cnd_n (decide_eq_false h1)]; exact fin fun _=>h1
   ·have:j=l.length:=by omega
    subst this
    rw[zaq]; exact fin fun h=>absurd h (Nat.lt_irrefl _)
def okTS(l t:List zab):Prop:=(∀x∈t,x∈l)∧t.length≤20∧SrtI t
theorem r_table15s{l:List zab}(hm:∀i∈l,i.2.2.2.1.length≤1000000)(hl:l.length≤1000):∃t,ziv l=some t∧okTS l t:=by
 show ∃t,zgi stdW l=some t∧okTS l t
 unfold zgi
 rw[join_w]
 refine loop_P (fun o=>∃t,o=some t∧okTS l t) (fun z=>l.length+1 - z.2.1.toNat) (fun z=>∃(j:Nat) (acc:List zab),j≤l.length∧j≤20∧acc.length≤j∧(∀x∈acc,x∈l)∧SrtI acc∧z=(acc,((j:Int),()))) ⟨0,[],Nat.zero_le _,Nat.zero_le _,Nat.le_refl _,by simp,List.Pairwise.nil,rfl⟩ (by show _ - (0:Int).toNat<_; omega) ?_
 rintro _ ⟨j,acc,hj,hj10,hacc,hok,hnd,rfl⟩ again ha
 have fin:∃t,(some acc:Option (List zab))=some t∧okTS l t:=⟨acc,rfl,hok,by omega,hnd⟩
 show ∃t,stdW.cnd (decide ((j:Int)<(l.length:Int))) (stdW.cnd (decide ((j:Int)<20)) _ _) _=some t∧okTS l t
 by_cases h:j<l.length
 ·rw[cnd_lt h]
  by_cases h10:j<20
  ·rw[cnd_y (decide_eq_true (by omega)),join_w]
   show ∃t,stdW.idx l (j:Int) _=some t∧okTS l t
   rw[idx_w h]
   obtain⟨r,e,hp,hr⟩:=r_put15s (l:=acc) (i:=l[j]) (by omega) (hm _ (List.getElem_mem h))
   have nxt:∀a:List zab,a.length≤j+1→(∀x∈a,x∈l)→SrtI a→∃t,again (a,(IntKind.i64.wrap ((j:Int)+1),()))=some t∧okTS l t:=by
    intro a h1 h2 h3
    rw[i64_s j (by omega)]
    exact ha _ ⟨j+1,a,by omega,by omega,h1,h2,h3,rfl⟩ (by show _ - ((j+1:Nat):Int).toNat<_ - ((j:Nat):Int).toNat; omega)
   show ∃t,stdW.call (zpz acc l[j]) _=some t∧okTS l t
   rw[zaa hp]
   by_cases he:e=0
   ·obtain⟨h1,h2,h3⟩:=hr he
    rw[cnd_y (by simpa using he)]
    exact nxt r (by omega) (fun x hx=>(h1 x hx).elim (hok x) fun h3=>h3▸List.getElem_mem h) (h3 hnd)
   ·rw[cnd_n (by simpa using he)]
    exact nxt acc (by omega) hok hnd
  ·rw[cnd_n (decide_eq_false (by omega))]; exact fin
 ·have:j=l.length:=by omega
  subst this
  rw[zaq]; exact fin
def findC(t:List zab)(id:Int):Option zab:=t.find? fun a=>a.1==id
def zeroA:zab:=(0,(0,(0,([],()))))
theorem yan(x:zab)(t:List zab)(id:Int):findC (x::t) id=if x.1=id then some x else findC t id:=yha (fun a:zab=>a.1) x t id
theorem yam{id:Int}:∀{t:List zab},(∀a∈t,id<a.1)→findC t id=none
 |[],_=>rfl
 |x::t,h=>by
  have:=h x (by simp)
  rw[yan,if_neg (by omega),yam fun a ha=>h a (by simp[ha])]
theorem r_placeC{t:List zab}{id:Int}(hl:t.length≤1000000)(hs:SrtI t):
  (∃k:Nat,∃h:k<t.length,zny t id=some ((k:Int),(true,()))∧findC t id=some t[k])∨(∃z,zny t id=some (z,(false,()))∧findC t id=none):=by
 show (∃k:Nat,∃h:k<t.length,zge stdW t id=_∧_)∨(∃z,zge stdW t id=_∧_)
 unfold zge
 refine loop_P (fun o=>(∃k:Nat,∃h:k<t.length,o=some ((k:Int),(true,()))∧findC t id=some t[k])∨(∃z,o=some (z,(false,()))∧findC t id=none)) (fun z=>t.length+1 - z.1.toNat) (fun z=>∃j:Nat,j≤t.length∧z=((j:Int),())∧findC t id=findC (t.drop j) id) ⟨0,Nat.zero_le _,rfl,rfl⟩ (by show _ - (0:Int).toNat<_; omega) ?_
 rintro _ ⟨j,hj,rfl,hlo⟩ again ha
 show (∃k:Nat,∃h:k<t.length,stdW.cnd (decide ((j:Int)<(t.length:Int))) _ _=_∧_)∨(∃z,stdW.cnd (decide ((j:Int)<(t.length:Int))) _ _=_∧_)
 by_cases h:j<t.length
 ·have hd:=List.drop_eq_getElem_cons h
  rw[hd,yan]at hlo
  rw[cnd_lt h]
  show (∃k:Nat,∃h:k<t.length,stdW.idx t (j:Int) _=_∧_)∨(∃z,stdW.idx t (j:Int) _=_∧_)
  rw[idx_w h]
  by_cases h1:id≤t[j].1
  ·rw[cnd_y (decide_eq_true h1)]
   by_cases h2:t[j].1=id
   ·rw[if_pos h2]at hlo
    refine .inl ⟨j,h,?_,hlo⟩
    rw[show (t[j].1==id)=true by simpa using h2]
   ·rw[if_neg h2]at hlo
    refine .inr ⟨(j:Int),?_,hlo.trans (yam fun a ham=>?_)⟩
    ·rw[show (t[j].1==id)=false by simpa using h2]
    ·have hs':((t.drop j).map (·.1)).Pairwise (· < ·):=by
      rw[List.map_drop]; exact List.Pairwise.sublist (List.drop_sublist _ _) hs
     rw[hd,List.map_cons]at hs'
     have:=(List.pairwise_cons.1 hs').1 a.1 (List.mem_map_of_mem ham)
     omega
  ·rw[cnd_n (decide_eq_false h1)]
   rw[if_neg (by omega)]at hlo
   show (∃k:Nat,∃h:k<t.length,again (IntKind.i64.wrap ((j:Int)+1),())=_∧_)∨(∃z,again (IntKind.i64.wrap ((j:Int)+1),())=_∧_)
   rw[i64_s j (by omega)]
   exact ha _ ⟨j+1,by omega,rfl,hlo⟩ (by show _ - ((j+1:Nat):Int).toNat<_ - ((j:Nat):Int).toNat; omega)
 ·have:j=t.length:=by omega
  subst this
  rw[List.drop_length]at hlo
  rw[zaq]
  exact .inr ⟨_,rfl,hlo⟩
theorem r_findC{t:List zab}{id:Int}(ht:okAs t)(hs:SrtI t):zyu t id=some (match findC t id with|some i=>(i,(true,()))|none=>(zeroA,(false,()))):=by
 show zoc stdW t id=_
 unfold zoc
 have hl:=ht.2
 rcases r_placeC (id:=id) (by omega) hs with ⟨k,hk,h1,h2⟩|⟨z,h1,h2⟩
 ·rw[zaa h1,h2,cnd_n (by rfl)]
  show stdW.idx t (k:Int) _=_
  have e1:znz t[k]=some t[k]:=by
   show zic stdW t[k]=_
   unfold zic
   rw[zaa (ykr (by have:=ht.1 _ (List.getElem_mem hk); omega))]
  rw[idx_w hk,zaa e1]
 ·rw[zaa h1,h2,cnd_y (by rfl)]; rfl
def cmpI(x y:Int):Int:=if x<y then -1 else if y<x then 1 else 0
theorem r_cmp1I(x y:Int):zkg x y=some (cmpI x y):=by
 show zgv stdW x y=_
 unfold zgv cmpI
 have e:∀x:Int,zri x=some false:=fun x=>by
  show some (x != x)=_
  simp
 rw[zaa (e x),zaa (e y),cnd_n rfl,cnd_n rfl]
 by_cases h:x<y
 ·rw[cnd_y (decide_eq_true h),if_pos h]
 ·rw[cnd_n (decide_eq_false h),if_neg h]
  by_cases h2:y<x
  ·rw[cnd_y (decide_eq_true h2),if_pos h2]
  ·rw[cnd_n (decide_eq_false h2),if_neg h2]
def orI:List Int→Int
 |[]=>0
 |x::l=>if x=0 then orI l else x
theorem r_or1(l:List Int)(hl:l.length≤1000000):cmp_Or l=some (orI l):=by
 show yee stdW l=_
 unfold yee
 refine zbx (l:=l) (by omega) (s0:=()) (fun _ _=>True) (fun l' _=>some (orI l')) trivial ?_ ?_
 ·rintro _ again _
  rw[zaq]; rfl
 ·rintro i hi _ _ again ha
  rw[cnd_lt hi,idx_w hi]
  show _=some (orI (l[i]::l.drop (i+1)))
  rw[orI]
  by_cases h0:l[i]=0
  ·rw[cnd_n (by simp[h0]),if_pos h0]
   show again (IntKind.i64.wrap ((i:Int)+1),())=_
   rw[i64_s i (by omega)]
   exact ha _ trivial
  ·rw[cnd_y (by simp[h0]),if_neg h0]
theorem r_lorder1(a b:ALot'):zna a b=some (orI [cmpI a.1 b.1,cmpI a.2.1 b.2.1]):=by
 show zjs stdW a b=_
 unfold zjs
 rw[zaa (r_cmp1I _ _),zaa (r_cmp1I _ _),zaa (r_or1 _ (by simp))]
theorem lorder_lt(a b:ALot'):decide (0≤orI [cmpI a.1 b.1,cmpI a.2.1 b.2.1])=!decide (ltL a b):=by
 unfold ltL
 simp only[orI,cmpI]
 by_cases h1:a.1<b.1
 ·simp[h1]
 ·by_cases h2:b.1<a.1
  ·have h3:¬a.1=b.1:=by omega
   simp[h1,h2,h3]
  ·have h3:a.1=b.1:=by omega
   by_cases h4:a.2.1<b.2.1
   ·simp[h3,h4]
   ·by_cases h5:b.2.1<a.2.1<;>simp[h3,h4,h5]
theorem r_lright1(x:ALot'):zsq x=some (decide (rightL x)):=by
 show zjr stdW x=_
 unfold zjr rightL
 by_cases h1:1≤x.1
 ·rw[cnd_y (decide_eq_true h1)]
  by_cases h2:x.1≤4
  ·rw[cnd_y (decide_eq_true h2)]
   by_cases h3:0≤x.2.1
   ·rw[cnd_y (decide_eq_true h3)]
    by_cases h4:x.2.1≤255
    ·rw[cnd_y (decide_eq_true h4)]; simp[h1,h2,h3,h4]
    ·rw[cnd_n (decide_eq_false h4)]; simp[h4]
   ·rw[cnd_n (decide_eq_false h3)]; simp[h3]
  ·rw[cnd_n (decide_eq_false h2)]; simp[h2]
 ·rw[cnd_n (decide_eq_false h1)]; simp[h1]
def LP(l:List ALot'):Prop:=(∀x∈l,rightL x)∧l.Pairwise ltL
theorem ltL_tr{a b c:ALot'}(h1:ltL a b)(h2:ltL b c):ltL a c:=by unfold ltL at *; omega
theorem LP_next{l:List ALot'}{i:Nat}(hi:i<l.length)(inv:LP (l.take i))(h1:rightL l[i])(h2:∀h0:0<i,ltL (l[i - 1]'(by omega)) l[i]):LP (l.take (i+1)):=by
 rw[List.take_succ_eq_append_getElem hi]
 refine⟨fun x hx=>?_,?_⟩
 ·rcases List.mem_append.1 hx with hx|hx
  ·exact inv.1 x hx
  ·simp at hx; rw[hx]; exact h1
 ·refine List.pairwise_append.2 ⟨inv.2,by simp,fun a ha b hb=>?_⟩
  simp only[List.mem_singleton]at hb
  subst hb
  obtain⟨k,hk,hka⟩:=List.mem_iff_getElem.1 ha
  have hk':k<i:=by simp at hk; omega
  have h3:=h2 (by omega)
  by_cases hki:k=i - 1
  ·subst hki; rw[←hka]; simpa using h3
  ·have h4:=List.pairwise_iff_getElem.1 inv.2 k (i - 1) (by simpa using hk) (by simp; omega) (by omega)
   rw[hka]at h4
   refine ltL_tr h4 ?_
   simpa using h3
theorem isL_end{l:List ALot'}(h:LP (l.take l.length)):isL l=decide ((l.length:Int)≤16):=by
 rw[List.take_length]at h
 unfold isL LInv
 refine decide_eq_decide.2 ⟨fun h=>by omega,fun h3=>⟨h.1,h.2,by omega⟩⟩
theorem isL_bad0{l:List ALot'}{i:Nat}(hi:i<l.length)(h:¬rightL l[i]):isL l=false:=
 decide_eq_false fun hp=>h (hp.1 _ (List.getElem_mem hi))
theorem isL_bad1{l:List ALot'}{i:Nat}(hi:i<l.length)(h0:0<i)(h:¬ltL (l[i - 1]'(by omega)) l[i]):isL l=false:=
 decide_eq_false fun hp=>h (List.pairwise_iff_getElem.1 hp.2.1 (i - 1) i (by omega) hi (by omega))
theorem r_lis1{l:List ALot'}(hl:l.length≤1000000):yim l=some (isL l):=by
 show zvc stdW l=_
 unfold zvc
 refine loop_n (N:=l.length) (by omega) (fun i _=>LP (l.take i)) (some (isL l)) (by simp[LP]) ?_ ?_
 ·rintro _ again h
  rw[zaq,isL_end h]
 ·rintro i hi _ inv again ha
  rw[cnd_lt hi,idx_w hi]
  refine join_g fun k hk=>?_
  have kt:k (true,())=some false:=by subst hk; rfl
  have kf:k (false,())=again (((i+1:Nat):Int),()):=by rw[←i64_s i (by omega)]; subst hk; rfl
  clear hk
  rw[zaa (r_lright1 _)]
  by_cases h1:rightL l[i]
  ·rw[cnd_n (by simp[h1])]
   by_cases h0:0<i
   ·rw[cnd_y (decide_eq_true (by omega)),zqw i h0 (by rw[zax]; omega),idx_w (by omega),zaa (r_lorder1 _ _),both_w,lorder_lt]
    by_cases h2:ltL (l[i - 1]'(by omega)) l[i]
    ·rw[decide_eq_true h2]
     exact kf.trans (ha _ (LP_next hi inv h1 fun _=>h2))
    ·rw[decide_eq_false h2,isL_bad1 hi h0 h2]; exact kt
   ·rw[cnd_n (decide_eq_false (by omega)),both_w]
    exact kf.trans (ha _ (LP_next hi inv h1 fun h=>absurd h h0))
  ·rw[cnd_y (by simp[h1]),both_w,kt,isL_bad0 hi h1]
def HP(l:List AHold'):Prop:=(∀h∈l,h.2.1≠[]∧LInv h.2.1)∧SrtA (l.map (·.1))
theorem HP_next{l:List AHold'}{i:Nat}(hi:i<l.length)(inv:HP (l.take i))(h1:l[i].2.1≠[]∧LInv l[i].2.1)(h2:∀h0:0<i,ltA (l[i - 1]'(by omega)).1 l[i].1):HP (l.take (i+1)):=by
 refine⟨fun x hx=>?_,srt_next hi inv.2 h2⟩
 rw[List.take_succ_eq_append_getElem hi]at hx
 rcases List.mem_append.1 hx with hx|hx
 ·exact inv.1 x hx
 ·simp at hx; rw[hx]; exact h1
theorem isH_end{l:List AHold'}(h:HP (l.take l.length)):isH l=true:=by rw[List.take_length]at h; exact decide_eq_true h
theorem isH_bad0{l:List AHold'}{i:Nat}(hi:i<l.length)(h:l[i].2.1=[]):isH l=false:=decide_eq_false fun hp=>(hp.1 _ (List.getElem_mem hi)).1 h
theorem isH_bad1{l:List AHold'}{i:Nat}(hi:i<l.length)(h:isL l[i].2.1=false):isH l=false:=decide_eq_false fun hp=>of_decide_eq_false h (hp.1 _ (List.getElem_mem hi)).2
theorem isH_bad2{l:List AHold'}{i:Nat}(hi:i<l.length)(h0:0<i)(h:¬ltA (l[i - 1]'(by omega)).1 l[i].1):isH l=false:=
 decide_eq_false fun hp=>h (by
  have:=List.pairwise_iff_getElem.1 hp.2 (i - 1) i (by simp; omega) (by simpa using hi) (by omega)
  simpa using this)
theorem r_his1{l:List AHold'}(h:okHs l):yiy l=some (isH l):=by
 have hl:=h.2
 show zvf stdW l=_
 unfold zvf
 refine loop_n (N:=l.length) (by omega) (fun i _=>HP (l.take i)) (some (isH l)) (by simp[HP,SrtA]) ?_ ?_
 ·rintro _ again h
  rw[zaq,isH_end h]
 ·rintro i hi _ inv again ha
  rw[cnd_lt hi,idx_w hi]
  refine join_g fun k hk=>?_
  have kt:k (true,())=some false:=by subst hk; rfl
  have kf:k (false,())=again (((i+1:Nat):Int),()):=by rw[←i64_s i (by omega)]; subst hk; rfl
  clear hk
  by_cases h1:l[i].2.1=[]
  ·rw[cnd_y (by rw[h1]; rfl),both_w,kt,isH_bad0 hi h1]
  ·have hne:((l[i].2.1.length:Int)==0)=false:=by
    cases hc:l[i].2.1 with
    |nil=>exact absurd hc h1
    |cons x xs=>simp; omega
   rw[cnd_n hne,zaa (r_lis1 (by have:=(h.1 _ (List.getElem_mem hi)).1; omega))]
   cases hL:isL l[i].2.1 with
   |false=>rw[cnd_y (by rfl),both_w,kt,isH_bad1 hi hL]
   |true=>
    rw[cnd_n (by rfl)]
    by_cases h0:0<i
    ·rw[cnd_y (decide_eq_true (by omega)),zqw i h0 (by rw[zax]; omega),idx_w (by omega),zaa (zsi _ _),both_w]
     by_cases h2:ltA (l[i - 1]'(by omega)).1 l[i].1
     ·rw[decide_eq_true h2]
      exact kf.trans (ha _ (HP_next hi inv ⟨h1,of_decide_eq_true hL⟩ fun _=>h2))
     ·rw[decide_eq_false h2,isH_bad2 hi h0 h2]; exact kt
    ·rw[cnd_n (decide_eq_false (by omega)),both_w]
     exact kf.trans (ha _ (HP_next hi inv ⟨h1,of_decide_eq_true hL⟩ fun h=>absurd h h0))
theorem absI_nn(z:Int):0≤absI z:=by unfold absI; split<;>omega
theorem ztg{z:Int}(h:¬I64 z):fits64 z=(0,(7,())):=by unfold fits64; rw[if_neg h]
theorem ztf{z:Int}(h:I64 z):fits64 z=(z,(0,())):=by unfold fits64; rw[if_pos h]
theorem r_abs{a:Int}(h:I64 a):ydu a=some (fits64 (absI a)):=by
 show zvn stdW a=_
 unfold zvn absI
 by_cases h0:a<0
 ·have e:=r_fSub (a:=0) (b:=a) (by unfold I64; omega) h
  rw[Int.zero_sub]at e
  rw[cnd_y (decide_eq_true h0),if_pos h0,zaa e]
 ·rw[cnd_n (decide_eq_false h0),if_neg h0,ztf h]
def grossZ(l:List Leg):Int:=sumBy (fun x=>absI x.2.1) l
theorem ybs{α:Type}{f:α→Int}:∀{l:List α},(∀x∈l,0≤f x)→0≤sumBy f l
 |[],_=>by rw[sumBy_nil]; omega
 |x::l,h=>by
  have:=h x (by simp)
  have:=ybs (l:=l) fun y hy=>h y (by simp[hy])
  rw[zzs]; omega
theorem ydq(l:List Leg):0≤grossZ l:=ybs fun x _=>absI_nn _
def grossP(l:List Leg):Int×Int×Unit:=if isV l=true then fits64 (grossZ l) else (0,(3,()))
theorem not_i64{z:Int}(h:9223372036854775807<z):¬I64 z:=by unfold I64; omega
theorem r_gross{l:List Leg}(ho:okL l)(hl:l.length≤1000):zwe l=some (grossP l):=by
 show zmd stdW l=_
 unfold zmd grossP
 rw[zaa (r_none (l:=l) (by omega))]
 cases hv:isV l with
 |false=>rw[cnd_y (by rfl)]; rfl
 |true=>
  rw[cnd_n (by rfl),if_pos rfl]
  refine(zju (l:=l) (s0:=[]) (by omega) (fun i (z:List Int)=>((i:Int),(z,()))) (fun i z=>z.length≤i∧(∀x∈z,I64 x)∧0≤z.sum) (fun l' z=>some (fits64 (z.sum+grossZ l'))) rfl ⟨Nat.le_refl _,by simp,by simp⟩ ?_ ?_).trans ?_
  ·rintro z ⟨h1,h2,h3⟩ again
   show stdW.cnd (decide ((l.length:Int)<(l.length:Int))) _ _=_
   rw[zaq,zaa (r_fSum h2 (by omega))]
   show some (fits64 z.sum)=some (fits64 (z.sum+0))
   rw[Int.add_zero]
  ·rintro i hi z ⟨h1,h2,h3⟩ again ha
   show stdW.cnd (decide ((i:Int)<(l.length:Int))) (stdW.idx l (i:Int) _) _=_
   have hx:=ho _ (List.getElem_mem hi)
   have hn:=absI_nn l[i].2.1
   have hg:=ydq (l.drop (i+1))
   rw[cnd_lt hi,idx_w hi]
   show stdW.call (ydu l[i].2.1) _=some (fits64 (z.sum+(absI l[i].2.1+grossZ (l.drop (i+1)))))
   rw[zaa (r_abs hx)]
   by_cases hI:I64 (absI l[i].2.1)
   ·rw[ztf hI,cnd_n (by rfl)]
    show stdW.room (z.length+1) 8 (again (IntKind.i64.wrap ((i:Int)+1),(z++[absI l[i].2.1],())))=_
    rw[room_w (by omega) (by omega),i64_s i (by omega)]
    refine(ha (z++[absI l[i].2.1]) ⟨by simp; omega,fun x hx=>?_,by simp; omega⟩).trans ?_
    ·rcases List.mem_append.1 hx with hx|hx
     ·exact h2 x hx
     ·simp only[List.mem_singleton]at hx; subst hx; exact hI
    ·rw[List.sum_append,List.sum_cons,List.sum_nil]
     congr 2; omega
   ·rw[ztg hI,cnd_y (by rfl),ztg (not_i64 (by unfold I64 at hI; omega))]
  ·rw[List.sum_nil,Int.zero_add]
def heldZ(l:List APos')(us:List AUnit'):Int:=sumBy (fun u=>grossZ (ofB l u)) us
def heldP(l:List APos')(us:List AUnit'):Int×Int×Unit:=if isB l=true then fits64 (heldZ l us) else (0,(3,()))
theorem ofB_isV{l:List APos'}(h:isB l=true)(u:AUnit'):isV (ofB l u)=true:=decide_eq_true (ofB_V (of_decide_eq_true h) u)
theorem held_nn(l:List APos')(us:List AUnit'):0≤heldZ l us:=ybs fun u _=>ydq _
theorem r_held{l:List APos'}{us:List AUnit'}(hb:okB l)(hl:us.length≤100000):zib l us=some (heldP l us):=by
 show znw stdW l us=_
 unfold znw heldP
 rw[zaa (r_isB hb)]
 cases hv:isB l with
 |false=>rw[cnd_y (by rfl)]; rfl
 |true=>
  rw[cnd_n (by rfl),if_pos rfl]
  refine(zju (l:=us) (s0:=[]) (by omega) (fun i (z:List Int)=>((i:Int),(z,()))) (fun i z=>z.length≤i∧(∀x∈z,I64 x)∧0≤z.sum) (fun l' z=>some (fits64 (z.sum+heldZ l l'))) rfl ⟨Nat.le_refl _,by simp,by simp⟩ ?_ ?_).trans ?_
  ·rintro z ⟨h1,h2,h3⟩ again
   show stdW.cnd (decide ((us.length:Int)<(us.length:Int))) _ _=_
   rw[zaq,zaa (r_fSum h2 (by omega))]
   show some (fits64 z.sum)=some (fits64 (z.sum+0))
   rw[Int.add_zero]
  ·rintro i hi z ⟨h1,h2,h3⟩ again ha
   show stdW.cnd (decide ((i:Int)<(us.length:Int))) (stdW.idx us (i:Int) _) _=_
   obtain⟨o1,o2⟩:=ofB_ok hb us[i]
   have hn:=ydq (ofB l us[i])
   have hg:=held_nn l (us.drop (i+1))
   rw[cnd_lt hi,idx_w hi,zaa (r_bof hb),zaa (r_gross o1 (by omega))]
   show _=some (fits64 (z.sum+(grossZ (ofB l us[i])+heldZ l (us.drop (i+1)))))
   unfold grossP
   rw[if_pos (ofB_isV hv _)]
   by_cases hI:I64 (grossZ (ofB l us[i]))
   ·rw[ztf hI,cnd_n (by rfl)]
    show stdW.room (z.length+1) 8 (again (IntKind.i64.wrap ((i:Int)+1),(z++[grossZ (ofB l us[i])],())))=_
    rw[room_w (by omega) (by omega),i64_s i (by omega)]
    refine(ha (z++[grossZ (ofB l us[i])]) ⟨by simp; omega,fun x hx=>?_,by simp; omega⟩).trans ?_
    ·rcases List.mem_append.1 hx with hx|hx
     ·exact h2 x hx
     ·simp only[List.mem_singleton]at hx; subst hx; exact hI
    ·rw[List.sum_append,List.sum_cons,List.sum_nil]
     congr 2; omega
   ·rw[ztg hI,cnd_y (by rfl),ztg (not_i64 (by unfold I64 at hI; omega))]
  ·rw[List.sum_nil,Int.zero_add]
def unitsM(id:Int)(l:List zab):List AUnit':=(l.filter (isM id)).flatMap unitsA
theorem zfs{l:List zab}(h:∀a∈l,a.2.2.2.1.length≤1000):(l.flatMap unitsA).length≤1000*l.length:=by
 induction l with
 |nil=>simp
 |cons a l ih=>
  have h1:=ih fun x hx=>h x (by simp[hx])
  have h2:=zrx (h a (by simp))
  rw[List.flatMap_cons,List.length_append,List.length_cons]; omega
theorem unitsM_len{id:Int}{l:List zab}(h:∀a∈l,a.2.2.2.1.length≤1000)(hl:l.length≤20):(unitsM id l).length≤20000:=by
 have h1:=zfs (l:=l.filter (isM id)) fun a ha=>h a (List.mem_filter.1 ha).1
 have h2:=List.length_filter_le (isM id) l
 unfold unitsM; omega
theorem r_punits{s:zaf}{id:Int}(hA:okAs s.2.2.2.2.1)(hl:s.2.2.2.2.1.length≤20):zsj s id=some (unitsM id s.2.2.2.2.1):=by
 show zjg stdW s id=_
 unfold zjg
 have hm:∀a∈s.2.2.2.2.1.filter (isM id),a.2.2.2.1.length≤1000:=fun a ha=>hA.1 a (List.mem_filter.1 ha).1
 have hfl:(s.2.2.2.2.1.filter (isM id)).length≤20:=Nat.le_trans (List.length_filter_le _ _) hl
 rw[zaa (r_aof hA)]
 unfold unitsM
 generalize s.2.2.2.2.1.filter (isM id)=l at*
 refine(zju (l:=l) (s0:=[]) (by omega) (fun i (z:List AUnit')=>((i:Int),(z,()))) (fun i z=>z.length≤1000*i) (fun l' z=>some (z++l'.flatMap unitsA)) rfl (Nat.le_refl _) ?_ ?_).trans (by rw[List.nil_append])
 ·intro z _ again
  show stdW.cnd (decide ((l.length:Int)<(l.length:Int))) _ _=_
  rw[zaq,List.flatMap_nil,List.append_nil]
 ·intro i hi z hz again ha
  show stdW.cnd (decide ((i:Int)<(l.length:Int))) (stdW.idx l (i:Int) _) _=_
  have hc:=hm _ (List.getElem_mem hi)
  have hul:=zrx hc
  rw[cnd_lt hi,idx_w hi,zaa (ykt hc)]
  show stdW.room (z.length+(unitsA l[i]).length) 16 (again (IntKind.i64.wrap ((i:Int)+1),(z++unitsA l[i],())))=_
  rw[room_w (by omega) (by omega),i64_s i (by omega),ha _ (by rw[List.length_append]; omega),List.flatMap_cons,List.append_assoc]
def usedP(s:zaf)(id:Int):Int×Int×Unit:=heldP (bk s) (unitsM id s.2.2.2.2.1)
theorem r_used{s:zaf}{id:Int}(hA:okAs s.2.2.2.2.1)(hl:s.2.2.2.2.1.length≤20)(hb:okB (bk s)):zqj s id=some (usedP s id):=by
 show zmt stdW s id=_
 unfold zmt
 have:=unitsM_len (id:=id) hA.1 hl
 have e:zib s.2.2.2.2.2.2.2.2.1 (unitsM id s.2.2.2.2.1)=some (usedP s id):=r_held hb (by omega)
 rw[zaa (r_punits hA hl),zaa e]
def ch(s:zaf):List zao:=s.2.2.2.2.2.1
def findH(l:List zao)(u:AUnit'):Option zao:=l.find? fun c=>decide (c.1=u)
def zeroH:zao:=((0,(0,())),((0,(0,())),(false,())))
theorem r_findE{l:List zao}{u:AUnit'}(hl:l.length≤1000000):ztj l u=some (match findH l u with|some i=>(i,(true,()))|none=>(zeroH,(false,()))):=by
 show zkc stdW l u=_
 unfold zkc
 have e1:zbb l u.1 u.2.1=some (ixP (fun c=>decide (c.1=u)) l,u):=by
  show zam stdW l u.1 u.2.1=_
  unfold zam
  refine yin hl (fun c=>decide (c.1=u)) (fun (m:zao) (c:AUnit')=>zti m c.1 c.2.1) u fun x _=>?_
  show some (notIf false ((x.1.1==u.1)&&(x.1.2.1==u.2.1)),u)=_
  rw[unitEq]
 have e0:ydy l u=some (ixP (fun c=>decide (c.1=u)) l):=by
  show zrf stdW l u=_
  unfold zrf
  rw[zaa e1]
 rw[zaa e0]
 unfold findH
 rcases yll (fun c:zao=>decide (c.1=u)) l with ⟨h1,h2⟩|⟨k,hk,h1,h2,_⟩
 ·rw[h1,h2,cnd_y (by decide)]; rfl
 ·rw[h1,h2,cnd_n (decide_eq_false (by omega)),idx_w hk]
def readyP(l:List zao)(u:AUnit'):AUnit'×Int×Unit:=
 match findH l u with
 |none=>((0,(0,())),(19,()))
 |some c=>if c.2.2.1=true then (c.2.1,(0,())) else ((0,(0,())),(20,()))
theorem r_ready{l:List zao}{u:AUnit'}(hl:l.length≤1000000):zkb l u=some (readyP l u):=by
 show zgt stdW l u=_
 unfold zgt readyP
 rw[zaa (r_findE hl)]
 cases findH l u with
 |none=>rfl
 |some c=>
  show stdW.cnd (!true) _ (stdW.cnd (!c.2.2.1) _ _)=_
  rw[cnd_n (by rfl)]
  cases h:c.2.2.1<;>simp only[h]<;>rfl
def openE(m:zad)(day:Int):Int:=if m.2.2.1=1∧day≤m.2.2.2.1 then 0 else 18
theorem r_popen(m:zad)(day:Int):zmv m day=some (openE m day):=by
 show zjl stdW m day=_
 unfold zjl openE
 have e:∃n,zsl m day=some n∧(n=0↔¬(m.2.2.1=1∧day≤m.2.2.2.1)):=by
  show ∃n,zjk stdW m day=some n∧_
  unfold zjk
  by_cases h1:m.2.2.1=1
  ·by_cases h2:m.2.2.2.1<day
   ·refine⟨0,join_b true (fun k=>?_) rfl,by omega⟩
    rw[cnd_n (by simpa using h1),decide_eq_true h2]
   ·refine⟨_,join_b false (fun k=>?_) rfl,?_⟩
    ·rw[cnd_n (by simpa using h1),decide_eq_false h2]
    ·split<;>omega
  ·refine⟨0,join_b true (fun k=>cnd_y (by simpa using h1) _ _) rfl,by omega⟩
 obtain⟨n,e1,e2⟩:=e
 rw[zaa e1]
 by_cases h:n=0
 ·rw[cnd_y (by simpa using h),if_neg (e2.1 h)]
 ·rw[cnd_n (by simpa using h),if_pos (Decidable.not_not.1 fun hh=>h (e2.2 hh))]
def roomE(cap used more:Int):Int:=if used<0∨more<0 then 2 else if cap<used+more then 16 else 0
theorem r_room{m:zad}{used more:Int}(hu:I64 used)(hm:I64 more)(hc:I64 m.2.1):zjo m used more=some (roomE m.2.1 used more):=by
 show zgp stdW m used more=_
 unfold zgp roomE
 have e:zyh used [more]=some (if more<used then more else used):=by
  show znr stdW used [more]=_
  unfold znr
  refine zju (l:=[more]) (s0:=()) (by simp) (fun i (_:Unit)=>((if i=0 then used else if more<used then more else used),((i:Int),()))) (fun _ _=>True) (fun _ _=>some (if more<used then more else used)) rfl trivial ?_ ?_
  ·intro _ _ again; rfl
  ·intro i hi _ _ again ha
   have:i=0:=by simp at hi; exact hi
   subst this
   exact ha () trivial
 rw[zaa e]
 by_cases h1:used<0∨more<0
 ·rw[cnd_y (decide_eq_true (by split<;>omega)),if_pos h1]
 ·have e2:=r_fSum (l:=[used,more]) (fun x hx=>by
   simp only[List.mem_cons,List.not_mem_nil,or_false]at hx
   rcases hx with rfl|rfl
   ·exact hu
   ·exact hm) (by simp)
  have es:[used,more].sum=used+more:=by simp
  rw[es]at e2
  rw[cnd_n (decide_eq_false (by split<;>omega)),if_neg h1,zaa e2]
  refine join_b (decide (m.2.1<used+more)) (fun k=>?_) ?_
  ·by_cases hI:I64 (used+more)
   ·rw[ztf hI]; rfl
   ·rw[ztg hI,cnd_y (by rfl),decide_eq_true (by unfold I64 at *; omega)]
  ·show stdW.cnd (decide (m.2.1<used+more)) (some 16) (some 0)=_
   rw[cnd_p]; split<;>rfl
def lowH(u:AUnit')(l:List AHold'):List AHold':=l.filter fun p=>decide (ltA p.1 u)
def midH(u:AUnit')(l:List AHold'):List AHold':=l.filter fun p=>decide (p.1=u)
def highH(u:AUnit')(l:List AHold'):List AHold':=l.filter fun p=>decide (ltA u p.1)
theorem cutH(u:AUnit'):∀{l:List AHold'},SrtA (l.map (·.1))→l=lowH u l++(midH u l++highH u l)
 |[],_=>rfl
 |p::l,h=>by
  obtain⟨h1,h2⟩:=List.pairwise_cons.1 h
  have h1:∀x∈l,ltA p.1 x.1:=fun x hx=>h1 _ (List.mem_map_of_mem hx)
  have ih:=cutH u (l:=l) h2
  unfold lowH midH highH at ih ⊢
  rw[List.filter_cons,List.filter_cons,List.filter_cons]
  by_cases hp:ltA p.1 u
  ·have e1:¬p.1=u:=fun e=>zcq u (by rw[e]at hp; exact hp)
   have e2:¬ltA u p.1:=fun e=>ltA_as hp e
   rw[if_pos (by simpa using hp),if_neg (by simpa using e1),if_neg (by simpa using e2),List.cons_append,←ih]
  ·by_cases hu:p.1=u
   ·have e2:¬ltA u p.1:=by rw[hu]; exact zcq u
    have a1:∀x∈l,decide (ltA x.1 u)=false:=fun x hx=>decide_eq_false fun e=>ltA_as e (by rw[←hu]; exact h1 x hx)
    have a2:∀x∈l,decide (x.1=u)=false:=fun x hx=>decide_eq_false fun e=>zcq u (by have:=h1 x hx; rw[hu,e]at this; exact this)
    have a3:∀x∈l,decide (ltA u x.1)=true:=fun x hx=>decide_eq_true (by rw[←hu]; exact h1 x hx)
    rw[if_neg (by simpa using hp),if_pos (by simpa using hu),if_neg (by simpa using e2),zeb a1,zeb a2,zth a3]; rfl
   ·have e2:ltA u p.1:=Classical.byContradiction fun hn=>hu (zot hp hn)
    have a1:∀x∈l,decide (ltA x.1 u)=false:=fun x hx=>decide_eq_false fun e=>ltA_as (ltA_tr e2 (h1 x hx)) e
    have a2:∀x∈l,decide (x.1=u)=false:=fun x hx=>decide_eq_false fun e=>zcq u (by have:=ltA_tr e2 (h1 x hx); rw[e]at this; exact this)
    have a3:∀x∈l,decide (ltA u x.1)=true:=fun x hx=>decide_eq_true (ltA_tr e2 (h1 x hx))
    rw[if_neg (by simpa using hp),if_neg (by simpa using hu),if_pos (by simpa using e2),zeb a1,zeb a2,zth a3]; rfl
theorem H_nd{l:List AHold'}(h:SrtA (l.map (·.1))):(l.map (·.1)).Nodup:=srt_nd h
theorem zxi{l:List AHold'}(h:(l.map (·.1)).Nodup){p:AHold'}(hp:p∈l):lotsH l p.1=p.2.1:=by
 induction l with
 |nil=>cases hp
 |cons x l ih=>
  obtain⟨h1,h2⟩:=List.nodup_cons.1 h
  rw[lotsH]
  rcases List.mem_cons.1 hp with rfl|hp
  ·rw[if_pos rfl]
  ·rw[if_neg fun e=>h1 (by show x.1∈_; rw[e]; exact List.mem_map_of_mem hp),ih h2 hp]
theorem zsr{l:List AHold'}{u:AUnit'}(h:∀p∈l,p.1≠u):lotsH l u=[]:=by
 induction l with
 |nil=>rfl
 |cons x l ih=>rw[lotsH,if_neg (h x (by simp)),ih fun y hy=>h y (by simp[hy])]
def setH(l:List AHold')(u:AUnit')(now:List ALot'):List AHold':=lowH u l++((if now=[] then [] else [(u,(now,()))])++highH u l)
theorem ykd{l:List AHold'}(h:SrtA (l.map (·.1)))(u:AUnit')(now:List ALot'):(setH l u now).length≤l.length+1:=by
 have hc:=congrArg List.length (cutH u h)
 unfold setH
 rw[List.length_append,List.length_append]at hc
 rw[List.length_append,List.length_append]
 split<;>simp<;>omega
theorem zps{l:List AHold'}{u:AUnit'}{now:List ALot'}{p:AHold'}:p∈setH l u now↔(p∈l∧p.1≠u)∨(now≠[]∧p=(u,(now,()))):=by
 unfold setH lowH highH
 rw[List.mem_append,List.mem_append,List.mem_filter,List.mem_filter]
 constructor
 ·rintro(⟨h1,h2⟩|h|⟨h1,h2⟩)
  ·exact .inl ⟨h1,fun e=>zcq u (by simp only[decide_eq_true_eq]at h2; rw[e]at h2; exact h2)⟩
  ·split at h
   ·cases h
   ·rename_i hn; exact .inr ⟨hn,by simpa using h⟩
  ·exact .inl ⟨h1,fun e=>zcq u (by simp only[decide_eq_true_eq]at h2; rw[e]at h2; exact h2)⟩
 ·rintro(⟨h1,h2⟩|⟨hn,rfl⟩)
  ·by_cases hlt:ltA p.1 u
   ·exact .inl ⟨h1,by simpa using hlt⟩
   ·by_cases hgt:ltA u p.1
    ·exact .inr (.inr ⟨h1,by simpa using hgt⟩)
    ·exact absurd (zot hlt hgt) h2
  ·rw[if_neg hn]; exact .inr (.inl (by simp))
theorem zur{l:List AHold'}(h:SrtA (l.map (·.1)))(u:AUnit')(now:List ALot'):SrtA ((setH l u now).map (·.1)):=by
 unfold setH
 rw[List.map_append,List.map_append]
 have hlow:∀x∈(lowH u l).map (·.1),ltA x u:=fun x hx=>by
  obtain⟨p,hp,rfl⟩:=List.mem_map.1 hx
  simpa using(List.mem_filter.1 hp).2
 have hhigh:∀x∈(highH u l).map (·.1),ltA u x:=fun x hx=>by
  obtain⟨p,hp,rfl⟩:=List.mem_map.1 hx
  simpa using(List.mem_filter.1 hp).2
 have s1:SrtA ((lowH u l).map (·.1)):=List.Pairwise.sublist ((List.filter_sublist).map _) h
 have s2:SrtA ((highH u l).map (·.1)):=List.Pairwise.sublist ((List.filter_sublist).map _) h
 have hmid:∀x∈(if now=[] then ([]:List AHold') else [(u,(now,()))]).map (·.1),x=u:=fun x hx=>by
  split at hx
  ·cases hx
  ·simpa using hx
 refine List.pairwise_append.2 ⟨s1,List.pairwise_append.2 ⟨?_,s2,fun a ha b hb=>?_⟩,fun a ha b hb=>?_⟩
 ·split<;>simp
 ·rw[hmid a ha]; exact hhigh b hb
 ·rcases List.mem_append.1 hb with hb|hb
  ·rw[hmid b hb]; exact hlow a ha
  ·exact ltA_tr (hlow a ha) (hhigh b hb)
theorem setH_of{l:List AHold'}(h:SrtA (l.map (·.1)))(u:AUnit')(now:List ALot')(x:AUnit'):lotsH (setH l u now) x=if x=u then now else lotsH l x:=by
 have hn:=H_nd (zur h u now)
 by_cases hx:x=u
 ·subst hx
  rw[if_pos rfl]
  by_cases h0:now=[]
  ·rw[h0]
   refine zsr fun p hp=>?_
   rcases zps.1 hp with ⟨_,h2⟩|⟨h2,_⟩
   ·exact h2
   ·exact absurd rfl h2
  ·exact zxi hn (p:=(x,(now,()))) (zps.2 (.inr ⟨h0,rfl⟩))
 ·rw[if_neg hx]
  by_cases hex:∃p∈l,p.1=x
  ·obtain⟨p,hp,rfl⟩:=hex
   rw[zxi (H_nd h) hp,zxi hn (zps.2 (.inl ⟨hp,hx⟩))]
  ·have hne:∀p∈l,p.1≠x:=fun p hp e=>hex ⟨p,hp,e⟩
   rw[zsr hne]
   refine zsr fun p hp=>?_
   rcases zps.1 hp with ⟨h1,_⟩|⟨_,rfl⟩
   ·exact hne p h1
   ·exact Ne.symm hx
def shGoH(u:AUnit')(now:List ALot'):List AHold'→Bool→List AHold'→List AHold'
 |[],d,out=>if d=true then out else out++[(u,(now,()))]
 |p::l,d,out=>
  if d=true∨ltA p.1 u then (if p.1=u then shGoH u now l d out else shGoH u now l d (out++[p]))
  else (if p.1=u then shGoH u now l true (out++[(u,(now,()))]) else shGoH u now l true (out++[(u,(now,()))]++[p]))
theorem zwj(u:AUnit')(now:List ALot'):∀(l out:List AHold'),shGoH u now l true out=out++l.filter fun p=>decide (p.1≠u)
 |[],out=>by rw[shGoH,if_pos rfl,List.filter_nil,List.append_nil]
 |p::l,out=>by
  rw[shGoH,if_pos (.inl rfl),List.filter_cons]
  by_cases h:p.1=u
  ·rw[if_pos h,zwj u now l,if_neg (by simpa using h)]
  ·rw[if_neg h,zwj u now l,if_pos (by simpa using h),List.append_assoc]; rfl
theorem neH_cut{u:AUnit'}{l:List AHold'}(h:SrtA (l.map (·.1))):(l.filter fun p=>decide (p.1≠u))=lowH u l++highH u l:=by
 have e:=cutH u h
 have a1:(lowH u l).filter (fun p=>decide (p.1≠u))=lowH u l:=zth fun x hx=>decide_eq_true fun e=>by
  have:=(List.mem_filter.1 hx).2
  simp only[decide_eq_true_eq]at this
  rw[e]at this; exact zcq u this
 have a2:(midH u l).filter (fun p=>decide (p.1≠u))=[]:=zeb fun x hx=>decide_eq_false fun hn=>by
  have:=(List.mem_filter.1 hx).2
  simp only[decide_eq_true_eq]at this
  exact hn this
 have a3:(highH u l).filter (fun p=>decide (p.1≠u))=highH u l:=zth fun x hx=>decide_eq_true fun e=>by
  have:=(List.mem_filter.1 hx).2
  simp only[decide_eq_true_eq]at this
  rw[e]at this; exact zcq u this
 calc (l.filter fun p=>decide (p.1≠u))=(lowH u l++(midH u l++highH u l)).filter (fun p=>decide (p.1≠u)):=by rw[←e]
  _=lowH u l++highH u l:=by rw[List.filter_append,List.filter_append,a1,a2,a3]; rfl
theorem shGoH_f(u:AUnit')(now:List ALot'):∀(l out:List AHold'),SrtA (l.map (·.1))→shGoH u now l false out=out++(lowH u l++([(u,(now,()))]++highH u l))
 |[],out,_=>by rw[shGoH,if_neg (by simp)]; rfl
 |p::l,out,h=>by
  obtain⟨h1,h2⟩:=List.pairwise_cons.1 h
  have h1:∀x∈l,ltA p.1 x.1:=fun x hx=>h1 _ (List.mem_map_of_mem hx)
  rw[shGoH]
  by_cases hp:ltA p.1 u
  ·have hu:¬p.1=u:=fun e=>zcq u (by rw[e]at hp; exact hp)
   rw[if_pos (.inr hp),if_neg hu,shGoH_f u now l _ h2]
   have e1:lowH u (p::l)=p::lowH u l:=by unfold lowH; rw[List.filter_cons,if_pos (by simpa using hp)]
   have e2:highH u (p::l)=highH u l:=by unfold highH; rw[List.filter_cons,if_neg (by simpa using fun e=>ltA_as hp e)]
   rw[e1,e2,List.append_assoc]; rfl
  ·rw[if_neg (by simpa using hp)]
   have hge:∀x∈p::l,¬ltA x.1 u:=by
    intro x hx hxu
    rcases List.mem_cons.1 hx with rfl|hx
    ·exact hp hxu
    ·exact hp (ltA_tr (h1 x hx) hxu)
   have e1:lowH u (p::l)=[]:=zeb fun x hx=>decide_eq_false (hge x hx)
   have e2:=neH_cut (u:=u) h
   rw[e1,List.nil_append]at e2
   rw[e1,←e2,List.filter_cons]
   by_cases hu:p.1=u
   ·rw[if_pos hu,if_neg (by simpa using hu),zwj,List.append_assoc]; rfl
   ·rw[if_neg hu,if_pos (by simpa using hu),zwj]
    simp only[List.append_assoc,List.nil_append,List.cons_append]
theorem shGoH_put{l:List AHold'}(h:SrtA (l.map (·.1)))(u:AUnit')(now:List ALot'):shGoH u now l (decide (now=[])) []=setH l u now:=by
 unfold setH
 by_cases h0:now=[]
 ·rw[decide_eq_true h0,zwj,if_pos h0,neH_cut h]; rfl
 ·rw[decide_eq_false h0,shGoH_f u now l [] h,if_neg h0]; rfl
theorem r_hsetG{l:List AHold'}{u:AUnit'}{all:List ALot'}(h:okHs l)(hs:SrtA (l.map (·.1)))(hal:all.length≤1000):zve l u all=some (setH l u all):=by
 have hl:=h.2
 show zqx stdW l u all=_
 unfold zqx
 rw[←shGoH_put hs]
 refine zyr ?_ ?_<;>
 ·rw[zaa (yck (s:=all) (by omega))]
  have hz:((all.length:Int)==0)=decide (all=[]):=by
   cases all with
   |nil=>rfl
   |cons x xs=>simp; omega
  rw[hz]
  refine zju (l:=l) (s0:=(decide (all=[]),[])) (by omega) (fun i (z:Bool×List AHold')=>(z.1,((i:Int),(u.1,(u.2.1,(all,(z.2,()))))))) (fun i z=>z.2.length≤2*i) (fun l' z=>some (shGoH u all l' z.1 z.2)) rfl (by simp) ?_ ?_
  ·rintro⟨d,out⟩ ho again
   show stdW.cnd (decide ((l.length:Int)<(l.length:Int))) _ _=_
   rw[zaq]
   refine join_g fun k hk=>?_
   have kk:∀x,k (x,())=some x:=by intro x; subst hk; rfl
   clear hk
   simp only at ho
   show stdW.cnd (!d) (stdW.room (out.length+1) 40 (k (out++[(u,(all,()))],()))) (k (out,()))=some (shGoH u all [] d out)
   cases d with
   |true=>rw[cnd_n (by rfl),kk,shGoH,if_pos rfl]
   |false=>rw[cnd_y (by rfl),room_w (by omega) (by omega),kk,shGoH,if_neg (by decide)]
  ·rintro i hi ⟨d,out⟩ ho again ha
   simp only at ho
   have h2:=(h.1 _ (List.getElem_mem hi)).1
   show stdW.cnd (decide ((i:Int)<(l.length:Int))) _ _=_
   rw[cnd_lt hi]
   refine join_g fun k5 hk5=>?_
   have k5':∀(d':Bool) (out':List AHold'),out'.length≤2*(i+1)→k5 (d',(out',()))=some (shGoH u all (l.drop (i+1)) d' out'):=by
    intro d' out' ho'
    rw[←ha (d',out') ho']
    subst hk5
    show again (d',(IntKind.i64.wrap ((i:Int)+1),(u.1,(u.2.1,(all,(out',()))))))=_
    rw[i64_s i (by omega)]
   clear hk5 ha
   show stdW.idx l (i:Int) _=some (shGoH u all (l[i]::l.drop (i+1)) d out)
   rw[idx_w hi,shGoH]
   refine join_g fun k9 hk9=>?_
   have k9u:l[i].1=u→∀(d':Bool) (out':List AHold'),out'.length≤2*i+1→k9 (d',(out',()))=some (shGoH u all (l.drop (i+1)) true (if d'=true then out' else out'++[(u,(all,()))])):=by
    intro hu d' out' ho'
    subst hk9
    show stdW.cnd (notIf true ((l[i].1.1==u.1)&&(l[i].1.2.1==u.2.1))) _ _=_
    rw[nif_t,eqA,cnd_n (by simp[hu])]
    show stdW.cnd (!d') (stdW.room (out'.length+1) 40 (k5 (true,(out'++[(u,(all,()))],())))) (k5 (d',(out',())))=_
    cases d' with
    |true=>rw[cnd_n (by rfl),if_pos rfl,k5' true out' (by omega)]
    |false=>rw[cnd_y (by rfl),if_neg (by decide),room_w (by omega) (by omega),k5' true _ (by rw[List.length_append]; simp; omega)]
   have k9n:¬l[i].1=u→∀(d':Bool) (out':List AHold'),out'.length≤2*i+1→k9 (d',(out',()))=some (shGoH u all (l.drop (i+1)) d' (out'++[l[i]])):=by
    intro hu d' out' ho'
    subst hk9
    show stdW.cnd (notIf true ((l[i].1.1==u.1)&&(l[i].1.2.1==u.2.1))) _ _=_
    rw[nif_t,eqA,cnd_y (by simp[hu]),zaa (yck (by omega))]
    show stdW.room (out'.length+1) 40 (k5 (d',(out'++[l[i]],())))=_
    rw[room_w (by omega) (by omega),k5' d' _ (by rw[List.length_append]; simp; omega)]
   clear hk9
   refine join_g fun k11 hk11=>?_
   have k11t:k11 (true,(out,()))=k9 (true,(out++[(u,(all,()))],())):=by
    subst hk11
    show stdW.cnd true (stdW.room (out.length+1) 40 (k9 (true,(out++[(u,(all,()))],())))) _=_
    rw[cnd_y rfl,room_w (by omega) (by omega)]
   have k11f:k11 (false,(out,()))=k9 (d,(out,())):=by
    subst hk11
    show stdW.cnd false _ (k9 (d,(out,())))=_
    rw[cnd_n rfl]
   clear hk11
   show stdW.cnd (!d) (stdW.call (zdo u l[i].1) fun v=>k11 (v,(out,()))) (k11 (false,(out,())))=_
   cases d with
   |true=>
    rw[cnd_n (by rfl),k11f,if_pos (.inl rfl)]
    by_cases hu:l[i].1=u
    ·rw[if_pos hu,k9u hu true out (by omega),if_pos rfl]
    ·rw[if_neg hu,k9n hu true out (by omega)]
   |false=>
    rw[cnd_y (by rfl),zaa (zsi _ _)]
    by_cases hlt:ltA u l[i].1
    ·have hn:¬ltA l[i].1 u:=fun e=>ltA_as hlt e
     have hu:¬l[i].1=u:=fun e=>zcq u (by rw[e]at hlt; exact hlt)
     rw[decide_eq_true hlt,k11t,k9n hu true _ (by rw[List.length_append]; simp; omega),if_neg (by simpa using hn),if_neg hu]
    ·rw[decide_eq_false hlt,k11f]
     by_cases hu:l[i].1=u
     ·have hn:¬ltA l[i].1 u:=by rw[hu]; exact zcq u
      rw[k9u hu false out (by omega),if_neg (by decide),if_neg (by simpa using hn),if_pos hu]
     ·have hn:ltA l[i].1 u:=Classical.byContradiction fun hn=>hu (zot hn hlt)
      rw[k9n hu false out (by omega),if_pos (.inr hn),if_neg hu]
def moveH(l:List AHold')(f t:AUnit'):List AHold'×Int×Unit:=
 if isH l=true then (if f=t then ([],(24,())) else if lotsH l t=[] then (setH (setH l f []) t (lotsH l f),(0,())) else ([],(21,()))) else ([],(3,()))
theorem isH_srt{l:List AHold'}(h:isH l=true):SrtA (l.map (·.1)):=(of_decide_eq_true h).2
theorem yda{l:List AHold'}(h:okHs l)(hl:l.length≤900)(hs:SrtA (l.map (·.1)))(u:AUnit'){all:List ALot'}(ha:okT all):okHs (setH l u all):=
 ⟨fun p hp=>by
  rcases zps.1 hp with ⟨h1,_⟩|⟨_,rfl⟩
  ·exact h.1 p h1
  ·exact ha,by have:=ykd hs u all; omega⟩
theorem okT_nil:okT []:=⟨by simp,fun x hx=>by cases hx⟩
theorem r_hmove{l:List AHold'}{f t:AUnit'}(h:okHs l)(hl:l.length≤900):zls l f t=some (moveH l f t):=by
 show znm stdW l f t=_
 unfold znm moveH
 have hf:=ydk h.1 f
 rw[zaa (r_his1 h)]
 by_cases hi:isH l=true
 ·have hs:=isH_srt hi
  rw[hi,cnd_n (by rfl),if_pos rfl,unitEq]
  by_cases hft:f=t
  ·rw[decide_eq_true hft,cnd_y rfl,if_pos hft]
  ·rw[decide_eq_false hft,cnd_n rfl,if_neg hft,zaa (yie h)]
   by_cases h0:lotsH l t=[]
   ·rw[if_pos h0,cnd_n (by rw[h0]; rfl),zaa (yie h),zaa (r_hsetG h hs (by simp)),zaa (r_hsetG (yda h hl hs f okT_nil) (zur hs f []) (by have:=hf.1; omega))]
   ·rw[if_neg h0,cnd_y (decide_eq_true (by
     cases hh:lotsH l t with
     |nil=>exact absurd hh h0
     |cons x xs=>simp<;>omega))]
 ·have hi:isH l=false:=by simpa using hi
  rw[hi,cnd_y (by rfl),if_neg (by decide)]
def dropH(l:List zao)(u:AUnit'):List zao:=l.filter fun c=>decide (c.1≠u)
theorem r_put14m{l:List zad}{i:zad}(hl:l.length≤1000):∃r e,zqc l i=some (r,(e,()))∧r.length≤l.length+1∧∀x∈r,x∈l∨x=i:=by
 show ∃r e,zmo stdW l i=some (r,(e,()))∧_
 unfold zmo
 obtain⟨b,hb⟩:=r_is14 i
 rw[zaa hb]
 cases b with
 |false=>rw[cnd_y (by decide)]; exact⟨[],2,rfl,by simp,fun x hx=>by cases hx⟩
 |true=>
  rw[cnd_n (by decide),zaa (r_find14 (t:=l) (id:=i.1) (by omega))]
  cases hf:findM l i.1 with
  |some x=>
   show ∃r e,stdW.cnd true _ _=_∧_
   rw[cnd_y rfl]; exact⟨[],12,rfl,by simp,fun x hx=>by cases hx⟩
  |none=>
   show ∃r e,stdW.cnd false _ _=_∧_
   rw[cnd_n rfl,join_w]
   refine loop_P (fun o=>∃(r:List zad) (e:Int),o=some (r,(e,()))∧r.length≤l.length+1∧∀x∈r,x∈l∨x=i) (fun z=>l.length+1 - z.1.toNat) (fun z=>∃j:Nat,j≤l.length∧z=((j:Int),())) ⟨0,Nat.zero_le _,rfl⟩ (by show _ - (0:Int).toNat<_; omega) ?_
   rintro _ ⟨j,hj,rfl⟩ again ha
   have fin:∃(r:List zad) (e:Int),stdW.bnd (j:Int) l.length (fun h4=>stdW.room (l.take h4).length 32 (stdW.room ((l.take h4).length+(i::([]:List zad)).length) 32 (stdW.bnd (j:Int) l.length fun h5=>stdW.room (((l.take h4)++(i::([]:List zad))).length+((l.take l.length).drop h5).length) 32 (some (((l.take h4)++(i::([]:List zad))++((l.take l.length).drop h5)),(0,()))))))=some (r,(e,()))∧r.length≤l.length+1∧∀x∈r,x∈l∨x=i:=by
    rw[bnd_w (by omega) (by omega),Int.toNat_natCast]
    have l1:(l.take j).length≤1000:=by rw[List.length_take]; omega
    rw[room_w (by omega) (by omega),room_w (by simp only[List.length_cons,List.length_nil]; omega) (by simp only[List.length_cons,List.length_nil]; omega),bnd_w (by omega) (by omega),Int.toNat_natCast,List.take_length,
     room_w (by simp only[List.length_append,List.length_drop,List.length_cons,List.length_nil]; omega) (by simp only[List.length_append,List.length_drop,List.length_cons,List.length_nil]; omega)]
    refine⟨_,_,rfl,by simp only[List.length_append,List.length_drop,List.length_cons,List.length_nil,List.length_take]; omega,fun x hx=>?_⟩
    rcases List.mem_append.1 hx with hx|hx
    ·rcases List.mem_append.1 hx with hx|hx
     ·exact .inl (List.mem_of_mem_take hx)
     ·simp only[List.mem_singleton]at hx; exact .inr hx
    ·exact .inl (List.mem_of_mem_drop hx)
   show ∃r e,stdW.cnd (decide ((j:Int)<(l.length:Int))) _ _=_∧_
   by_cases h:j<l.length
   ·rw[cnd_lt h]
    show ∃r e,stdW.idx l (j:Int) _=_∧_
    rw[idx_w h]
    by_cases h1:l[j].1<i.1
    ·rw[cnd_y (decide_eq_true h1)]
     show ∃r e,again (IntKind.i64.wrap ((j:Int)+1),())=_∧_
     rw[i64_s j (by omega)]
     exact ha _ ⟨j+1,by omega,rfl⟩ (by show _ - ((j+1:Nat):Int).toNat<_ - ((j:Nat):Int).toNat; omega)
    ·rw[cnd_n (decide_eq_false h1)]; exact fin
   ·have:j=l.length:=by omega
    subst this
    rw[zaq]; exact fin
theorem r_table14m{l:List zad}(hl:l.length≤9223372036854775807):∃t,ziz l=some t∧(t.length≤10∧∀x∈t,x∈l):=by
 show ∃t:List zad,zgj stdW l=some t∧(t.length≤10∧∀x∈t,x∈l)
 unfold zgj
 rw[join_w]
 refine loop_P (fun o=>∃t:List zad,o=some t∧(t.length≤10∧∀x∈t,x∈l)) (fun z=>l.length+1 - z.2.1.toNat) (fun z=>∃(j:Nat) (acc:List zad),j≤l.length∧j≤10∧acc.length≤j∧(∀x∈acc,x∈l)∧z=(acc,((j:Int),()))) ⟨0,[],Nat.zero_le _,Nat.zero_le _,Nat.le_refl _,by simp,rfl⟩ (by show _ - (0:Int).toNat<_; omega) ?_
 rintro _ ⟨j,acc,hj,hj10,hacc,hin,rfl⟩ again ha
 have fin:∃t:List zad,(some acc:Option (List zad))=some t∧(t.length≤10∧∀x∈t,x∈l):=⟨acc,rfl,by omega,hin⟩
 show ∃t:List zad,stdW.cnd (decide ((j:Int)<(l.length:Int))) (stdW.cnd (decide ((j:Int)<10)) _ _) _=some t∧(t.length≤10∧∀x∈t,x∈l)
 by_cases h:j<l.length
 ·rw[cnd_lt h]
  by_cases h10:j<10
  ·rw[cnd_y (decide_eq_true (by omega)),join_w]
   show ∃t:List zad,stdW.idx l (j:Int) _=some t∧(t.length≤10∧∀x∈t,x∈l)
   rw[idx_w h]
   obtain⟨r,e,hp,hr,hri⟩:=r_put14m (l:=acc) (i:=l[j]) (by omega)
   have nxt:∀a:List zad,a.length≤j+1→(∀x∈a,x∈l)→∃t:List zad,again (a,(IntKind.i64.wrap ((j:Int)+1),()))=some t∧(t.length≤10∧∀x∈t,x∈l):=by
    intro a h1 h2
    rw[i64_s j (by omega)]
    exact ha _ ⟨j+1,a,by omega,by omega,h1,h2,rfl⟩ (by show _ - ((j+1:Nat):Int).toNat<_ - ((j:Nat):Int).toNat; omega)
   show ∃t:List zad,stdW.call (zqc acc l[j]) _=some t∧(t.length≤10∧∀x∈t,x∈l)
   rw[zaa hp]
   by_cases he:e=0
   ·rw[cnd_y (by simpa using he)]
    exact nxt r (by omega) fun x hx=>(hri x hx).elim (hin x) fun h3=>h3▸List.getElem_mem h
   ·rw[cnd_n (by simpa using he)]
    exact nxt acc (by omega) hin
  ·rw[cnd_n (decide_eq_false (by omega))]; exact fin
 ·have:j=l.length:=by omega
  subst this
  rw[zaq]; exact fin
def zkj(s:zaf)(u:AUnit'):Int:=
 match findC s.2.2.2.2.1 u.1 with
 |none=>11
 |some a=>if hasA a u=true then (if a.2.2.1=1 then 17 else 0) else 11
def acctOf(s:zaf)(u:AUnit'):zab:=(findC s.2.2.2.2.1 u.1).getD zeroA
structure OkP(s:zaf):Prop where
 mL:s.2.1.length≤10
 mI:∀m∈s.2.1,I64 m.2.1
 aA:okAs s.2.2.2.2.1
 aL:s.2.2.2.2.1.length≤20
 aS:SrtI s.2.2.2.2.1
 cL:(ch s).length≤20
 hb:okB (bk s)
 bl:(bk s).length≤20
 pf:okF (pu s)
 pl:(pu s).length≤20
 hh:okHs (ho s)
 hl:(ho s).length≤20
theorem findM_in{t:List zad}{id:Int}{m:zad}(h:findM t id=some m):m∈t:=List.mem_of_find?_eq_some h
theorem findC_in{t:List zab}{id:Int}{a:zab}(h:findC t id=some a):a∈t:=List.mem_of_find?_eq_some h
theorem yks{s:zaf}(O:OkP s)(u:AUnit'):zjj s u=some (if zkj s u=0 then (acctOf s u,(0,())) else (zeroA,(zkj s u,()))):=by
 show zgl stdW s u=_
 unfold zgl zkj acctOf
 rw[zaa (r_findC O.aA O.aS)]
 cases hc:findC s.2.2.2.2.1 u.1 with
 |none=>exact join_b true (fun k=>cnd_y (by rfl) _ _) rfl
 |some a=>
  have ha:=O.aA.1 _ (findC_in hc)
  refine join_b (!(hasA a u)) (fun k=>?_) ?_
  ·show stdW.cnd (!true) _ (stdW.call (zwa a u) _)=_
   rw[cnd_n (by rfl),zaa (r_hasA ha)]
  ·show stdW.cnd (!(hasA a u)) (some (zeroA,(11,()))) (stdW.cnd (a.2.2.1==1) (some (zeroA,(17,()))) (some (a,(0,()))))=some (if (if hasA a u=true then (if a.2.2.1=1 then (17:Int) else 0) else 11)=0 then (a,((0:Int),())) else (zeroA,((if hasA a u=true then (if a.2.2.1=1 then (17:Int) else 0) else 11),())))
   by_cases h1:hasA a u=true
   ·rw[h1,cnd_n (by rfl)]
    by_cases h2:a.2.2.1=1
    ·rw[cnd_y (by simpa using h2),if_pos rfl,if_pos h2,if_neg (by decide)]
    ·rw[cnd_n (by simpa using h2),if_pos rfl,if_neg h2,if_pos rfl]
   ·rw[if_neg h1,if_neg (by decide),cnd_y (by simpa using h1)]
def zxq(s:zaf)(f:AUnit'):Int:=
 if zkj s f=0 then (match findM s.2.1 (acctOf s f).2.1 with|none=>18|some m=>openE m s.1) else zkj s f
theorem r_leaves{s:zaf}(O:OkP s)(f:AUnit'):zoo s f=some (zxq s f):=by
 show zgk stdW s f=_
 unfold zgk zxq
 have hml:=O.mL
 rw[zaa (yks O f)]
 by_cases h:zkj s f=0
 ·rw[if_pos h,if_pos h,cnd_n (by rfl)]
  show stdW.call (zex s.2.1 (acctOf s f).2.1) _=_
  rw[zaa (yfk (by omega))]
  cases findM s.2.1 (acctOf s f).2.1 with
  |none=>rfl
  |some m=>
   show stdW.cnd (!true) _ (stdW.call (zmv m s.1) _)=_
   rw[cnd_n (by rfl),zaa (r_popen m s.1)]
 ·rw[if_neg h,if_neg h,cnd_y (by simpa using h)]
def emptyU(s:zaf)(u:AUnit'):Prop:=ofB (bk s) u=[]∧getP (pu s) u=0∧lotsH (ho s) u=[]
instance (s:zaf) (u:AUnit'):Decidable (emptyU s u):=by unfold emptyU; infer_instance
theorem len0{α:Type}(l:List α):((l.length:Int)==0)=decide (l=[]):=by
 cases l with
 |nil=>rfl
 |cons x xs=>simp; omega
theorem r_empty{s:zaf}(O:OkP s)(u:AUnit'):zms s u=some (decide (emptyU s u)):=by
 show zjh stdW s u=_
 unfold zjh
 have hpl:=O.pl
 have e1:zly s.2.2.2.2.2.2.2.2.1 u=some (ofB (bk s) u):=r_bof O.hb
 have e2:zep s.2.2.2.2.2.2.2.2.2.2.1 u=some (getP (pu s) u):=r_get (by show (pu s).length≤_; omega)
 have e3:zht s.2.2.2.2.2.2.2.2.2.2.2.1 u=some (lotsH (ho s) u):=yie O.hh
 rw[zaa e1,len0]
 by_cases h1:ofB (bk s) u=[]
 ·rw[decide_eq_true h1,cnd_y rfl,zaa e2]
  by_cases h2:getP (pu s) u=0
  ·rw[cnd_y (by simpa using h2),zaa e3,len0]
   congr 1
   exact decide_eq_decide.2 ⟨fun h=>⟨h1,h2,h⟩,fun h=>h.2.2⟩
  ·rw[cnd_n (by simpa using h2),decide_eq_false (p:=emptyU s u) fun h=>h2 h.2.1]
 ·rw[decide_eq_false h1,cnd_n rfl,decide_eq_false (p:=emptyU s u) fun h=>h1 h.1]
def comesE(s:zaf)(f t:AUnit'):Int:=
 if zkj s t=0 then (
  match findM s.2.1 (acctOf s t).2.1 with
  |none=>15
  |some m=>if m.2.2.1=0 then (if emptyU s t then (if (heldP (bk s) [f]).2.1=0 then (if (usedP s m.1).2.1=0 then roomE m.2.1 (usedP s m.1).1 (heldP (bk s) [f]).1 else (usedP s m.1).2.1) else (heldP (bk s) [f]).2.1) else 21) else 15)
 else zkj s t
theorem fitsI(z:Int):I64 (fits64 z).1:=by
 unfold fits64
 split
 ·assumption
 ·unfold I64; simp
theorem heldI(l:List APos')(us:List AUnit'):I64 (heldP l us).1:=by
 unfold heldP
 split
 ·exact fitsI _
 ·unfold I64; simp
theorem r_comes{s:zaf}(O:OkP s)(f t:AUnit'):zsk s f t=some (comesE s f t):=by
 show zji stdW s f t=_
 unfold zji comesE
 have hml:=O.mL
 rw[zaa (yks O t)]
 by_cases h:zkj s t=0
 case neg=>rw[if_neg h,if_neg h,cnd_y (by simpa using h)]
 rw[if_pos h,if_pos h,cnd_n (by rfl)]
 show stdW.call (zex s.2.1 (acctOf s t).2.1) _=_
 rw[zaa (yfk (by omega))]
 cases hm:findM s.2.1 (acctOf s t).2.1 with
 |none=>exact join_b true (fun k=>cnd_y (by rfl) _ _) rfl
 |some m=>
 have e:zmx m=some (if m.2.2.1=0 then 0 else 15):=by
  show zjp stdW m=_
  unfold zjp
  by_cases h3:m.2.2.1=0
  ·rw[cnd_n (by simpa using h3),if_pos h3]
  ·rw[cnd_y (by simpa using h3),if_neg h3]
 refine join_b (!decide (m.2.2.1=0)) (fun k=>?_) ?_
 ·show stdW.cnd (!true) _ (stdW.call (zmx m) _)=_
  rw[cnd_n (by rfl),zaa e]
  by_cases h3:m.2.2.1=0
  ·rw[if_pos h3,decide_eq_true h3]; rfl
  ·rw[if_neg h3,decide_eq_false h3]; rfl
 show stdW.cnd (!decide (m.2.2.1=0)) (some (15:Int)) (stdW.call (zms s t) _)=some (if m.2.2.1=0 then (if emptyU s t then (if (heldP (bk s) [f]).2.1=0 then (if (usedP s m.1).2.1=0 then roomE m.2.1 (usedP s m.1).1 (heldP (bk s) [f]).1 else (usedP s m.1).2.1) else (heldP (bk s) [f]).2.1) else 21) else 15)
 by_cases h3:m.2.2.1=0
 case neg=>rw[decide_eq_false h3,cnd_y (by rfl),if_neg h3]
 rw[decide_eq_true h3,cnd_n (by rfl),if_pos h3,zaa (r_empty O t)]
 by_cases h4:emptyU s t
 case neg=>rw[decide_eq_false h4,cnd_y (by rfl),if_neg h4]
 have e5:zib s.2.2.2.2.2.2.2.2.1 [f]=some (heldP (bk s) [f]):=r_held O.hb (by simp)
 rw[decide_eq_true h4,cnd_n (by rfl),if_pos h4,zaa e5]
 by_cases h5:(heldP (bk s) [f]).2.1=0
 case neg=>rw[cnd_y (by simpa using h5),if_neg h5]
 rw[cnd_n (by simpa using h5),if_pos h5]
 show stdW.call (zqj s m.1) _=_
 rw[zaa (r_used O.aA O.aL O.hb)]
 by_cases h6:(usedP s m.1).2.1=0
 case neg=>rw[cnd_y (by simpa using h6),if_neg h6]
 rw[cnd_n (by simpa using h6),if_pos h6]
 show stdW.call (zjo m (usedP s m.1).1 (heldP (bk s) [f]).1) _=_
 rw[zaa (r_room (used:=(usedP s m.1).1) (more:=(heldP (bk s) [f]).1) (heldI _ _) (heldI _ _) (O.mI m (findM_in hm)))]
def zU:AUnit':=(0,(0,()))
def mayP(s:zaf)(f:AUnit'):AUnit'×Int×Unit:=
 if zxq s f=0 then (
  if (readyP (ch s) f).2.1=0 then (
   if comesE s f (readyP (ch s) f).1=0 then ((readyP (ch s) f).1,(0,())) else (zU,(comesE s f (readyP (ch s) f).1,())))
  else (zU,((readyP (ch s) f).2.1,())))
 else (zU,(zxq s f,()))
theorem r_may{s:zaf}(O:OkP s)(f:AUnit'):ycu s f=some (mayP s f):=by
 show zqk stdW s f=_
 unfold zqk mayP
 have hcl:=O.cL
 rw[zaa (r_leaves O f)]
 by_cases h1:zxq s f=0
 case neg=>rw[cnd_y (by simpa using h1),if_neg h1]; rfl
 have e:zkb s.2.2.2.2.2.1 f=some (readyP (ch s) f):=r_ready (by show (ch s).length≤_; omega)
 rw[cnd_n (by simpa using h1),if_pos h1,zaa e]
 by_cases h2:(readyP (ch s) f).2.1=0
 case neg=>rw[cnd_y (by simpa using h2),if_neg h2]; rfl
 rw[cnd_n (by simpa using h2),if_pos h2,zaa (r_comes O f _)]
 by_cases h3:comesE s f (readyP (ch s) f).1=0
 case neg=>rw[cnd_y (by simpa using h3),if_neg h3]; rfl
 rw[cnd_n (by simpa using h3),if_pos h3]
end Go.Proofs.YtllkmncnmlmefaaGreat
namespace Go.Proofs.YtllkmncnmlmefaaGreat
open Go Go.Vc Go.RowKit
end Go.Proofs.YtllkmncnmlmefaaGreat

namespace Go.Proofs.YtllkmncnmlmefaaGreat
open Go Go.Vc Go.RowKit
def notH(u:AUnit')(c:zao):Bool:=decide (c.1≠u)
theorem r_drop1(c:zao)(u:AUnit'):zfl c u.1 u.2.1=some (!(notH u c),u):=by
 show some (notIf false ((c.1.1==u.1)&&(c.1.2.1==u.2.1)),u)=_
 rw[unitEq]
 unfold notH
 by_cases h:c.1=u<;>simp[h]
theorem r_ixH{l:List zao}{u:AUnit'}(hl:l.length≤1000000):
  (zag l u.1 u.2.1=some (-1,u)∧∀a∈l,notH u a=true)∨
  ∃i:Nat,i<l.length∧zag l u.1 u.2.1=some ((i:Int),u)∧(∀a∈l.take i,notH u a=true)∧∀h:i<l.length,notH u l[i]=false:=by
 have e:zag l u.1 u.2.1=some (ixP (fun c=>!(notH u c)) l,u):=by
  show zaj stdW l u.1 u.2.1=_
  unfold zaj
  exact yin hl (fun c=>!(notH u c)) (fun (m:zao) (c:AUnit')=>zfl m c.1 c.2.1) u fun x _=>r_drop1 x u
 rw[e]
 unfold ixP
 cases h:l.findIdx? fun c=>!(notH u c) with
 |none=>
  rw[List.findIdx?_eq_none_iff]at h
  exact .inl ⟨rfl,fun a ha=>by simpa using h a ha⟩
 |some k=>
  obtain⟨h1,h2,h3⟩:=List.findIdx?_eq_some_iff_getElem.1 h
  refine .inr ⟨k,h1,rfl,fun a ha=>?_,fun _=>by simpa using h2⟩
  obtain⟨j,hj,rfl⟩:=List.mem_iff_getElem.1 ha
  rw[List.length_take]at hj
  have:=h3 j (by omega)
  rw[List.getElem_take]
  simpa using this
theorem r_delH{l:List zao}{u:AUnit'}(hl:l.length≤1000000):zat u.1 u.2.1 l=some (l.filter (notH u),u):=by
 show zai stdW u.1 u.2.1 l=_
 unfold zai
 rcases r_ixH (u:=u) hl with ⟨e,hall⟩|⟨i0,hi0,e,hp,hn⟩
 ·rw[zaa e,cnd_y (by rfl),List.filter_eq_self.2 hall]
 ·rw[zaa e,cnd_n (show ((i0:Int) == -1)=false by simp)]
  have hi0':i0+1≤l.length:=hi0
  have hf0:(l.take (i0+1)).filter (notH u)=l.take i0:=by
   rw[List.take_succ_eq_append_getElem hi0,List.filter_append,List.filter_eq_self.2 hp,List.filter_cons,hn hi0]; simp
  have hz:((i0:Int),((IntKind.i64.wrap ((i0:Int)+1)),(u.1,(u.2.1,(l,())))))=(((i0:Nat):Int),(((i0+1:Nat):Int),(u.1,(u.2.1,(l,()))))):=by rw[i64_s i0 (by omega)]
  show stdW.loop _ ((i0:Int),((IntKind.i64.wrap ((i0:Int)+1)),(u.1,(u.2.1,(l,())))))=_
  rw[hz]
  refine(zjt (fun z=>l.length+1 - z.2.1.toNat) (fun z=>∃(i j:Nat) (s:List zao),i<j∧j≤l.length∧s.length=l.length∧s.take i=(l.take j).filter (notH u)∧s.drop j=l.drop j∧z=((i:Int),((j:Int),(u.1,(u.2.1,(s,())))))) (fun _=>some (l.filter (notH u),u)) ⟨i0,i0+1,l,by omega,hi0',rfl,hf0.symm,rfl,rfl⟩ (by show l.length+1 - (((i0+1:Nat):Int)).toNat<_; omega) ?_)
  rintro _ ⟨i,j,s,hij,hj,hs,ht,hd,rfl⟩ again ha
  show stdW.cnd (decide ((j:Int)<(s.length:Int))) _ _=_
  by_cases h:j<s.length
  ·have hjl:j<l.length:=by omega
   have hx:s[j]=l[j]:=by
    have h1:(s.drop j)[0]?=(l.drop j)[0]?:=by rw[hd]
    rw[List.getElem?_drop,List.getElem?_drop,Nat.add_zero,List.getElem?_eq_getElem h,List.getElem?_eq_getElem hjl]at h1
    exact Option.some.inj h1
   rw[cnd_lt h]
   refine join_g fun k5 hk5=>?_
   have kk:∀(i':Nat) (s':List zao),i'<j+1→s'.length=l.length→s'.take i'=(l.take (j+1)).filter (notH u)→s'.drop (j+1)=l.drop (j+1)→k5 ((i':Int),(u.1,(u.2.1,(s',()))))=some (l.filter (notH u),u):=by
    intro i' s' g1 g2 g3 g4
    subst hk5
    show again ((i':Int),(IntKind.i64.wrap ((j:Int)+1),(u.1,(u.2.1,(s',())))))=_
    rw[i64_s j (by omega)]
    exact ha _ ⟨i',j+1,s',by omega,by omega,g2,g3,g4,rfl⟩ (by show l.length+1 - (((j+1:Nat):Int)).toNat<l.length+1 - (((j:Nat):Int)).toNat; omega)
   clear hk5 ha
   have hd1:s.drop (j+1)=l.drop (j+1):=by
    have:=congrArg (List.drop 1) hd
    rwa [List.drop_drop,List.drop_drop]at this
   have il:i<s.length:=by omega
   show stdW.idx s (j:Int) _=_
   rw[idx_w h]
   show stdW.nth s (Int.toNat (j:Int)) _=_
   rw[nth_w h,hx,zaa (r_drop1 _ _)]
   by_cases hv:notH u l[j]=true
   ·rw[hv,cnd_y (by rfl)]
    show stdW.idx s (i:Int) _=_
    rw[idx_w il]
    show stdW.nth s (Int.toNat (i:Int)) _=_
    rw[nth_w il]
    show k5 (IntKind.i64.wrap ((i:Int)+1),(u.1,(u.2.1,(s.set (Int.toNat (i:Int)) l[j],()))))=_
    rw[Int.toNat_natCast,i64_s i (by omega)]
    refine kk (i+1) (s.set i l[j]) (by omega) (by rw[List.length_set]; exact hs) ?_ ?_
    ·rw[List.take_succ_eq_append_getElem hjl,List.filter_append,←ht,List.filter_cons,hv,List.filter_nil,if_pos rfl]
     have h1:i<(s.set i l[j]).length:=by rw[List.length_set]; exact il
     rw[List.take_succ_eq_append_getElem h1,List.getElem_set_self]
     congr 1
     rw[List.take_set_of_le (Nat.le_refl _)]
    ·rw[List.drop_set_of_lt (by omega)]; exact hd1
   ·have hv:notH u l[j]=false:=by simpa using hv
    rw[hv,cnd_n (by rfl)]
    refine kk i s (by omega) hs ?_ hd1
    rw[List.take_succ_eq_append_getElem hjl,List.filter_append,List.filter_cons,hv,ht]; simp
  ·have:j=s.length:=by omega
   subst this
   have hll:s.length=l.length:=hs
   rw[zaq]
   show stdW.bnd (i:Int) s.length _=_
   rw[bnd_w (by omega) (by omega),Int.toNat_natCast]
   show stdW.bnd (i:Int) s.length _=_
   rw[bnd_w (by omega) (by omega),Int.toNat_natCast]
   show stdW.bnd (i:Int) (s.take i++List.replicate (s.length - i) ((0,(0,())),((0,(0,())),(false,())))).length _=_
   have hlt:(s.take i).length=i:=by rw[List.length_take]; omega
   rw[bnd_w (by omega) (by rw[List.length_append,hlt]; omega),Int.toNat_natCast]
   show some ((s.take i++List.replicate (s.length - i) ((0,(0,())),((0,(0,())),(false,())))).take i,u)=_
   rw[List.take_append_of_le_length (by omega),List.take_take,Nat.min_self,ht,hll,List.take_length]
theorem r_cloneC{s:List zao}(h:s.length≤1000000):zbu s=some s:=by
 show zbi stdW s=_
 unfold zbi
 rw[nilq_w]
 refine yde ?_ fun he=>?_
 ·show stdW.cnd (notIf false false) _ _=_
  rw[cnd_n (by decide),room_w (by omega) (by omega)]; rfl
 ·have:s=[]:=by simpa using he
  subst this; rfl
theorem r_edrop{l:List zao}{u:AUnit'}(hl:l.length≤1000000):zfv l u=some (dropH l u):=by
 show zkd stdW l u=_
 unfold zkd
 rw[zaa (r_cloneC hl),zaa (r_delH hl)]; rfl
theorem zvg{f:Int→Int}:∀(us:List Int) (acc:List Leg),(∀u∈us,I64 (f u))→goV f us acc=(acc++(us.filter fun u=>decide (f u≠0)).map (fun u=>((u,(f u,())):Leg)),(0,()))
 |[],acc,_=>by simp[goV]
 |k::us,acc,h=>by
  rw[goV,if_pos (h k (by simp)),List.filter_cons]
  by_cases h0:f k=0
  ·rw[if_pos h0,zvg us acc fun u hu=>h u (by simp[hu]),if_neg (by simpa using h0)]
  ·rw[if_neg h0,zvg us _ fun u hu=>h u (by simp[hu]),if_pos (by simpa using h0),List.append_assoc]; rfl
theorem yjb{f:Int→Int}:∀(us:List Int) (acc:List Leg),(∃u∈us,¬I64 (f u))→goV f us acc=([],(7,()))
 |[],acc,h=>by obtain⟨u,hu,_⟩:=h; cases hu
 |k::us,acc,h=>by
  rw[goV]
  by_cases hk:I64 (f k)
  ·have h':∃u∈us,¬I64 (f u):=by
    obtain⟨u,hu,hn⟩:=h
    rcases List.mem_cons.1 hu with rfl|hu
    ·exact absurd hk hn
    ·exact⟨u,hu,hn⟩
   rw[if_pos hk,yjb us _ h',yjb us _ h']
   split<;>rfl
  ·rw[if_neg hk]
def negV(l:List Leg):List Leg×Int×Unit:=if isV l=true then goV (fun j => -(getV l j)) ks [] else ([],(3,()))
def negL(l:List Leg):List Leg:=l.map fun x=>((x.1,(-x.2.1,())):Leg)
theorem negL_V{l:List Leg}(h:VInv l):VInv (negL l):=by
 refine⟨fun x hx=>?_,?_⟩
 ·obtain⟨y,hy,rfl⟩:=List.mem_map.1 hx
  have:=h.1 y hy
  exact⟨this.1,by have:=this.2; show -y.2.1≠0; omega⟩
 ·unfold negL
  rw[List.map_map]
  exact h.2
theorem yle(l:List Leg)(k:Int):getV (negL l) k = -(getV l k):=by
 induction l with
 |nil=>rfl
 |cons x l ih=>
  show getV ((x.1,(-x.2.1,()))::negL l) k = -(getV (x::l) k)
  rw[getV,getV,ih]
  show (if x.1=k then -x.2.1 else -(getV l k))=_
  split<;>rfl
theorem yho{l:List Leg}(h:VInv l){x:Leg}(hx:x∈l):getV l x.1=x.2.1:=by
 have hn:(l.map (·.1)).Nodup:=h.2.imp fun {a b} (hab:a<b) e=>by omega
 clear h
 induction l with
 |nil=>cases hx
 |cons y l ih=>
  obtain⟨h1,h2⟩:=List.nodup_cons.1 hn
  rw[getV]
  rcases List.mem_cons.1 hx with rfl|hx
  ·rw[if_pos rfl]
  ·rw[if_neg fun e=>h1 (by show y.1∈_; rw[e]; exact List.mem_map_of_mem hx),ih hx h2]
theorem yfy{l:List Leg}(hv:isV l=true)(h:∀x∈l,I64 (-x.2.1)):negV l=(negL l,(0,())):=by
 have hV:VInv l:=of_decide_eq_true hv
 have hg:∀u,I64 (-(getV l u)):=fun u=>by
  by_cases hu:u∈l.map (·.1)
  ·obtain⟨x,hx,rfl⟩:=List.mem_map.1 hu
   rw[yho hV hx]; exact h x hx
  ·rw[zxz fun x hx e=>hu (List.mem_map.2 ⟨x,hx,e⟩)]; unfold I64; omega
 unfold negV
 rw[if_pos hv,zvg ks [] fun u _=>hg u,List.nil_append]
 congr 1
 refine V_ext (resV_V fun j => -(getV l j)) (negL_V hV) fun u=>?_
 show getV (resV fun j => -(getV l j)) u=_
 rw[yle,ybz]
 intro hk
 show -(getV l u)=0
 rw[ydr hV hk]; rfl
theorem yld{l:List Leg}(hv:isV l=true){x:Leg}(hx:x∈l)(h:¬I64 (-x.2.1)):negV l=([],(7,())):=by
 have hV:VInv l:=of_decide_eq_true hv
 unfold negV
 rw[if_pos hv]
 refine yjb ks [] ⟨x.1,(ks_mem _).2 (hV.1 x hx).1,?_⟩
 show ¬I64 (-(getV l x.1))
 rw[yho hV hx]; exact h
theorem r_vneg{l:List Leg}(ho:okL l)(hl:l.length≤1000):yhv l=some (negV l):=by
 show zuo stdW l=_
 unfold zuo
 rw[zaa (r_none (l:=l) (by omega))]
 by_cases hv:isV l=true
 case neg=>
  have hv':isV l=false:=by simpa using hv
  rw[hv',cnd_y (by rfl)]
  unfold negV; rw[if_neg hv]
 rw[hv,cnd_n (by rfl)]
 have hsub:∀x∈l,zte 0 x.2.1=some (fits64 (-x.2.1)):=fun x hx=>by
  have e:=r_fSub (a:=0) (b:=x.2.1) (by unfold I64; omega) (ho x hx)
  rwa [Int.zero_sub]at e
 by_cases hall:∀x∈l,I64 (-x.2.1)
 ·rw[yfy hv hall]
  refine(zju (l:=l) (s0:=[]) (by omega) (fun i (z:List Leg)=>((i:Int),(z,()))) (fun i z=>z.length≤i) (fun l' z=>some (z++negL l',(0,()))) rfl (Nat.le_refl _) ?_ ?_).trans (by rw[List.nil_append])
  ·intro z _ again
   show stdW.cnd (decide ((l.length:Int)<(l.length:Int))) _ _=some (z++[],(0,()))
   rw[zaq,List.append_nil]
  ·intro i hi z hz again ha
   have hx:=List.getElem_mem hi
   show stdW.cnd (decide ((i:Int)<(l.length:Int))) (stdW.idx l (i:Int) _) _=_
   rw[cnd_lt hi,idx_w hi,zaa (hsub _ hx),ztf (hall _ hx),cnd_n (by rfl)]
   show stdW.room (z.length+1) 16 (again (IntKind.i64.wrap ((i:Int)+1),(z++[(l[i].1,(-l[i].2.1,()))],())))=_
   rw[room_w (by omega) (by omega),i64_s i (by omega),ha _ (by rw[List.length_append]; simp; omega),List.append_assoc]; rfl
 ·have hex:∃x∈l,¬I64 (-x.2.1):=Classical.byContradiction fun h=>hall fun x hx=>Classical.byContradiction fun hn=>h ⟨x,hx,hn⟩
  obtain⟨x,hx,hn⟩:=hex
  rw[yld hv hx hn]
  refine zju (l:=l) (s0:=[]) (by omega) (fun i (z:List Leg)=>((i:Int),(z,()))) (fun i z=>z.length≤i∧∃y∈l.drop i,¬I64 (-y.2.1)) (fun l' z=>some ([],(7,()))) rfl ⟨Nat.le_refl _,x,hx,hn⟩ ?_ ?_
  ·rintro z ⟨_,y,hy,_⟩ again
   rw[List.drop_length]at hy; cases hy
  ·rintro i hi z ⟨hz,y,hy,hny⟩ again ha
   have hxi:=List.getElem_mem hi
   show stdW.cnd (decide ((i:Int)<(l.length:Int))) (stdW.idx l (i:Int) _) _=_
   rw[cnd_lt hi,idx_w hi,zaa (hsub _ hxi)]
   by_cases hI:I64 (-l[i].2.1)
   ·rw[ztf hI,cnd_n (by rfl)]
    show stdW.room (z.length+1) 16 (again (IntKind.i64.wrap ((i:Int)+1),(z++[(l[i].1,(-l[i].2.1,()))],())))=_
    rw[List.drop_eq_getElem_cons hi]at hy
    have hy':y∈l.drop (i+1):=(List.mem_cons.1 hy).resolve_left fun e=>hny (by rw[e]; exact hI)
    rw[room_w (by omega) (by omega),i64_s i (by omega),ha _ ⟨by rw[List.length_append]; simp; omega,y,hy',hny⟩]
   ·rw[ztg hI,cnd_y (by rfl)]
def moveL(l:List APos')(f t:AUnit')(legs:List Leg):List APos'×Int×Unit:=
 if isB l=true then (
  if (negV legs).2.1=0 then (
   if (shiftP l f (negV legs).1).2.1=0 then shiftP (shiftP l f (negV legs).1).1 t legs else ([],(shiftP l f (negV legs).1).2))
  else ([],(negV legs).2))
 else ([],(3,()))
theorem negV_ok{l:List Leg}(h:(negV l).2.1=0):isV l=true∧(negV l).1=negL l∧okL (negL l):=by
 by_cases hv:isV l=true
 case neg=>unfold negV at h; rw[if_neg hv]at h; cases h
 by_cases hall:∀x∈l,I64 (-x.2.1)
 ·rw[yfy hv hall]
  exact⟨hv,rfl,fun x hx=>by
   obtain⟨y,hy,rfl⟩:=List.mem_map.1 hx
   exact hall y hy⟩
 ·have hex:∃x∈l,¬I64 (-x.2.1):=Classical.byContradiction fun h=>hall fun x hx=>Classical.byContradiction fun hn=>h ⟨x,hx,hn⟩
  obtain⟨x,hx,hn⟩:=hex
  rw[yld hv hx hn]at h; cases h
theorem r_bmoveL{l:List APos'}{f t:AUnit'}{legs:List Leg}(hb:okB l)(hl:l.length≤80)(ho:okL legs)(hg:legs.length≤100):zrm l f t legs=some (moveL l f t legs):=by
 show znv stdW l f t legs=_
 unfold znv moveL
 rw[zaa (r_isB hb)]
 by_cases hp:isB l=true
 case neg=>
  have hp':isB l=false:=by simpa using hp
  rw[if_neg hp,hp',cnd_y (by rfl)]
 rw[if_pos hp,hp,cnd_n (by rfl),zaa (r_vneg ho (by omega))]
 by_cases hn:(negV legs).2.1=0
 case neg=>rw[if_neg hn,cnd_y (by simpa using hn)]
 obtain⟨_,n2,n3⟩:=negV_ok hn
 rw[if_pos hn,cnd_n (by simpa using hn),n2,zaa (r_shift hb (by omega) n3 (by unfold negL; rw[List.length_map]; exact hg))]
 by_cases he:(shiftP l f (negL legs)).2.1=0
 case neg=>rw[if_neg he,cnd_y (by simpa using he)]
 have S:=ybw he
 have hlen:=S.len
 rw[if_pos he,cnd_n (by simpa using he),zaa (r_shift (S.ok hb (by omega)) (by omega) ho hg)]
def goneS(s:zaf)(c:List zao)(b:List APos')(p:List AFlow')(h:List AHold'):zaf:=(s.1,(s.2.1,(s.2.2.1,(s.2.2.2.1,(s.2.2.2.2.1,(c,(s.2.2.2.2.2.2.1,(s.2.2.2.2.2.2.2.1,(b,(s.2.2.2.2.2.2.2.2.2.1,(p,(h,()))))))))))))
def portB(s:zaf)(f:AUnit'):List APos'×Int×Unit:=moveL (bk s) f (mayP s f).1 (ofB (bk s) f)
def portC(s:zaf)(f:AUnit'):List AFlow'×Int×Unit:=moveP (pu s) f (mayP s f).1 (getP (pu s) f)
def portH(s:zaf)(f:AUnit'):List AHold'×Int×Unit:=moveH (ho s) f (mayP s f).1
def portP(s:zaf)(f:AUnit'):zaf×AUnit'×Int×Unit:=
 if (mayP s f).2.1=0 then (
  if (portB s f).2.1=0 then (
   if (portC s f).2.1=0 then (
    if (portH s f).2.1=0 then (goneS s (dropH (ch s) f) (portB s f).1 (portC s f).1 (portH s f).1,((mayP s f).1,(0,())))
    else (noS,(zU,((portH s f).2.1,()))))
   else (noS,(zU,((portC s f).2.1,()))))
  else (noS,(zU,((portB s f).2.1,()))))
 else (noS,(zU,((mayP s f).2.1,())))
theorem may_ok{s:zaf}{f:AUnit'}(h:(mayP s f).2.1=0):isB (bk s)=true∧emptyU s (mayP s f).1:=by
 unfold mayP at h ⊢
 split
 case isFalse hl=>rw[if_neg hl]at h; exact absurd h hl
 rename_i hl
 rw[if_pos hl]at h
 split
 case isFalse hr=>rw[if_neg hr]at h; exact absurd h hr
 rename_i hr
 rw[if_pos hr]at h
 split
 case isFalse hc=>rw[if_neg hc]at h; exact absurd h hc
 rename_i hc
 show isB (bk s)=true∧emptyU s (readyP (ch s) f).1
 generalize (readyP (ch s) f).1=t at*
 unfold comesE at hc
 split at hc
 case isFalse h4=>exact absurd hc h4
 split at hc
 ·cases hc
 split at hc
 case isFalse=>cases hc
 split at hc
 case isFalse=>cases hc
 rename_i he
 split at hc
 case isFalse h7=>exact absurd hc h7
 rename_i h7
 refine⟨?_,he⟩
 unfold heldP at h7
 split at h7
 ·assumption
 ·cases h7
theorem addV_one{l:List Leg}(hv:isV l=true)(ho:okL l):addV [l]=(l,(0,())):=by
 have hV:VInv l:=of_decide_eq_true hv
 have hs:∀k,sumV [l] k=getV l k:=fun k=>by show getV l k+0=_; omega
 unfold addV
 rw[if_pos (by simp[hv]),←yjc,zvg ks [] fun u _=>by rw[hs]; exact getV_ok ho u,List.nil_append]
 congr 1
 refine V_ext (resV_V (sumV [l])) hV fun u=>?_
 show getV (resV (sumV [l])) u=_
 rw[ybz,hs]
 intro hk
 rw[hs,ydr hV hk]
theorem r_port{s:zaf}(O:OkP s)(f:AUnit'):zlh s f=some (portP s f):=by
 show zmu stdW s f=_
 unfold zmu portP
 have hbl:=O.bl
 have hpl:=O.pl
 have hhl:=O.hl
 have hcl:=O.cL
 rw[zaa (r_may O f)]
 by_cases h1:(mayP s f).2.1=0
 case neg=>rw[cnd_y (by simpa using h1),if_neg h1]; rfl
 obtain⟨hB,hE⟩:=may_ok h1
 obtain⟨o1,o2⟩:=ofB_ok O.hb f
 have hv:isV (ofB (bk s) f)=true:=ofB_isV hB f
 have e1:zly s.2.2.2.2.2.2.2.2.1 f=some (ofB (bk s) f):=r_bof O.hb
 rw[cnd_n (by simpa using h1),if_pos h1,zaa e1,zaa (r_vadd (l:=[ofB (bk s) f]) (by simp) (fun v hm=>by simp only[List.mem_singleton]at hm; subst hm; omega) (fun v hm=>by simp only[List.mem_singleton]at hm; subst hm; exact o1)),addV_one hv o1]
 have fin:∀(k8:Int×zaf→Option (zaf×AUnit'×Int×Unit)),(k8=fun z6=>stdW.cnd (z6.1 != 0) (some (noS,(zU,(z6.1,())))) (stdW.call (zfv (ch z6.2) f) fun v7=>some (goneS z6.2 v7 (bk z6.2) (pu z6.2) (ho z6.2),((mayP s f).1,(0,())))))→
   (∀st,ch st=ch s→k8 (0,st)=some (goneS st (dropH (ch s) f) (bk st) (pu st) (ho st),((mayP s f).1,(0,()))))∧∀e,e≠0→∀st,k8 (e,st)=some (noS,(zU,(e,()))):=by
  intro k8 hk
  subst hk
  refine⟨fun st hst=>?_,fun e he st=>?_⟩
  ·show stdW.cnd false _ (stdW.call (zfv (ch st) f) _)=_
   rw[cnd_n rfl,hst,zaa (r_edrop (by omega))]
  ·show stdW.cnd (e != 0) _ _=_
   rw[cnd_y (by simpa using he)]
 have hold:∀(k10:Int×zaf→Option (zaf×AUnit'×Int×Unit)),(k10=fun z5=>stdW.join (fun z6:Int×zaf=>stdW.cnd (z6.1 != 0) (some (noS,(zU,(z6.1,())))) (stdW.call (zfv (ch z6.2) f) fun v7=>some (goneS z6.2 v7 (bk z6.2) (pu z6.2) (ho z6.2),((mayP s f).1,(0,()))))) fun k8=>stdW.cnd (z5.1==0) (stdW.call (zls (ho z5.2) f (mayP s f).1) fun v9=>k8 (v9.2.1,goneS z5.2 (ch z5.2) (bk z5.2) (pu z5.2) v9.1)) (k8 z5))→
   (∀st,ch st=ch s→ho st=ho s→k10 (0,st)=some (if (portH s f).2.1=0 then (goneS st (dropH (ch s) f) (bk st) (pu st) (portH s f).1,((mayP s f).1,(0,()))) else (noS,(zU,((portH s f).2.1,())))))∧∀e,e≠0→∀st,k10 (e,st)=some (noS,(zU,(e,()))):=by
  intro k10 hk
  subst hk
  refine⟨fun st hst hho=>?_,fun e he st=>?_⟩
  ·refine join_g fun k hk=>?_
   obtain⟨a1,a2⟩:=fin k hk
   show stdW.cnd true (stdW.call (zls (ho st) f (mayP s f).1) fun v9=>k (v9.2.1,goneS st (ch st) (bk st) (pu st) v9.1)) _=_
   rw[cnd_y rfl,hho,zaa (r_hmove O.hh (by omega))]
   show k ((portH s f).2.1,goneS st (ch st) (bk st) (pu st) (portH s f).1)=_
   by_cases h:(portH s f).2.1=0
   ·rw[if_pos h,h,a1 (goneS st (ch st) (bk st) (pu st) (portH s f).1) hst]; rfl
   ·rw[if_neg h,a2 _ h]
  ·refine join_g fun k hk=>?_
   obtain⟨a1,a2⟩:=fin k hk
   show stdW.cnd (e==0) _ (k (e,st))=_
   rw[cnd_n (by simpa using he),a2 _ he]
 have hg:I64 (getP (pu s) f):=getP_ok O.pf f
 refine join_g fun k17 h17=>?_
 show stdW.cnd true (stdW.call (zrm (bk s) f (mayP s f).1 (ofB (bk s) f)) fun v18=>k17 (v18.2.1,goneS s (ch s) v18.1 (pu s) (ho s))) _=_
 rw[cnd_y rfl,zaa (r_bmoveL O.hb (by omega) o1 o2)]
 show k17 ((portB s f).2.1,goneS s (ch s) (portB s f).1 (pu s) (ho s))=_
 by_cases h2:(portB s f).2.1=0
 ·rw[if_pos h2,h2]
  subst h17
  refine join_g fun k hk=>?_
  obtain⟨a1,a2⟩:=hold k hk
  have e2:zep (pu s) f=some (getP (pu s) f):=r_get (by omega)
  have one:(stdW.call (zep (pu s) f) fun v11=>stdW.call (zfu (pu s) f (mayP s f).1 v11) fun v12=>k (v12.2.1,goneS s (ch s) (portB s f).1 v12.1 (ho s)))=some (if (portC s f).2.1=0 then (if (portH s f).2.1=0 then (goneS s (dropH (ch s) f) (portB s f).1 (portC s f).1 (portH s f).1,((mayP s f).1,(0,()))) else (noS,(zU,((portH s f).2.1,())))) else (noS,(zU,((portC s f).2.1,())))):=by
   rw[zaa e2,zaa (r_move O.pf hg (by omega))]
   show k ((portC s f).2.1,goneS s (ch s) (portB s f).1 (portC s f).1 (ho s))=_
   by_cases h3:(portC s f).2.1=0
   ·rw[if_pos h3,h3,a1 (goneS s (ch s) (portB s f).1 (portC s f).1 (ho s)) rfl rfl]; rfl
   ·rw[if_neg h3,a2 _ h3]
  exact zyr one (zyr one one)
 ·rw[if_neg h2]
  subst h17
  refine join_g fun k hk=>?_
  obtain⟨a1,a2⟩:=hold k hk
  show stdW.cnd ((portB s f).2.1==0) _ (k ((portB s f).2.1,goneS s (ch s) (portB s f).1 (pu s) (ho s)))=_
  rw[cnd_n (by simpa using h2),a2 _ h2]
theorem okB_nil:okB []:=⟨fun p hp=>(by cases hp),by simp⟩
theorem okD_st{x:DT.den tAState}(o:DT.okD tAState x):(x.2.1.length≤9223372036854775807∧x.2.2.1.length≤9223372036854775807∧(∀i∈x.2.2.1,i.2.2.2.2.1.length≤9223372036854775807)∧x.2.2.2.2.1.length≤9223372036854775807∧(∀a∈x.2.2.2.2.1,a.2.2.2.1.length≤9223372036854775807))∧
  ((bk x).length≤9223372036854775807∧(∀p∈bk x,okL p.2.1∧p.2.1.length≤9223372036854775807))∧((sa x).length≤9223372036854775807∧(∀p∈sa x,okL p.2.1∧p.2.1.length≤9223372036854775807))∧(okF (pu x)∧(pu x).length≤9223372036854775807):=by
 obtain⟨_,o1,o2,_,o4,_,_,_,o8,o9,o10,_⟩:=o
 have hm:maxLen=9223372036854775807:=zax
 obtain⟨b1,b2⟩:=yla o8
 obtain⟨s1,s2⟩:=yla o9
 obtain⟨p1,p2⟩:=okD_flows o10
 obtain⟨i1,i2⟩:=okD_insts o2
 exact⟨⟨by have:=o1.2; rw[hm]at this; exact this,i2,i1,by have:=o4.2; rw[hm]at this; exact this,fun a ha=>by have:=(o4.1 a ha).2.2.2.1.2; rw[hm]at this; exact this⟩,⟨b2,b1⟩,⟨s2,s1⟩,p1,p2⟩
end Go.Proofs.YtllkmncnmlmefaaGreat