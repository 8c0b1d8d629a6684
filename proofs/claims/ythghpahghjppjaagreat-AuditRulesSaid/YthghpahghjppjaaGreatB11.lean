import Derived.Test.YthghpahghjppjaaGreatB10
import Derived.Shelf.Lays2
import Derived.Shelf.SlGeneric
namespace Go.Proofs.YthghpahghjppjaaGreat.KJ
open Go Go.Vc Go.RowKit Go.Lib Go.Sort Go.Proofs Go.Shelf Go.Proofs.YthghpahghjppjaaGreat
set_option maxHeartbeats 4000000
set_option maxRecDepth 1000000
open Go.IntKind (i64 u64)
section
variable {P : Program} {ρ : Ren} {k by' : Nat} {z : Value} {T : DT}
structure IL(P:Program)(ρ:Ren)(k by':Nat)(z:Value)(T:DT):Prop where
 mixed:P.follows .mixedOrders=true
 f22:Bears P (ρ.f 22) (Body2.n22 ρ)
 f29:∀(args:Array Value) (w:World),(callFunc (ρ.f 29) args).run P w=((Extern.SlicesOverlaps.overlaps #[ρ.t 24,ρ.t 24] #[ρ.t 4] args).run P w).andThen λv w'=>.ok (.value v) w'
 by0:0<by'
 ok:Oe P (ρ.t 24) (ρ.t 9) k by'
 z0:∀{i:TypeInfo},P.info? (ρ.t 9)=some i->i.zero=some z
 zl:∀n,(Builtin.zeroCells z.cells n).toList.length=n*k
 ts:T.size=k
 hb:rI P (ρ.f 22)
 t0:P.underlying (ρ.t 0)=some (TypeDesc.tuple #[])
 a0:∀w,(isAgg (ρ.t 0)).run P w=.ok false w
 zz0:∀w,(Go.sizeOf (ρ.t 0)).run P w=.ok 1 w
 v0:∀w,(zeroValue (ρ.t 0)).run P w=.ok (Value.tuple #[]) w
 t3:P.underlying (ρ.t 3)=some (TypeDesc.int i64)
 a3:∀w,(isAgg (ρ.t 3)).run P w=.ok false w
 z3:∀w,(Go.sizeOf (ρ.t 3)).run P w=.ok 1 w
 v3:∀w,(zeroValue (ρ.t 3)).run P w=.ok (Value.int i64 0) w
 t4:P.underlying (ρ.t 4)=some (TypeDesc.bool)
 a4:∀w,(isAgg (ρ.t 4)).run P w=.ok false w
 z4:∀w,(Go.sizeOf (ρ.t 4)).run P w=.ok 1 w
 v4:∀w,(zeroValue (ρ.t 4)).run P w=.ok (Value.bool false) w
 z9:∀w,(Go.sizeOf (ρ.t 9)).run P w=.ok k w
 v9:∀w,(zeroValue (ρ.t 9)).run P w=.ok z w
 t24:P.underlying (ρ.t 24)=some (TypeDesc.slice (ρ.t 9))
 a24:∀w,(isAgg (ρ.t 24)).run P w=.ok false w
 z24:∀w,(Go.sizeOf (ρ.t 24)).run P w=.ok 1 w
 v24:∀w,(zeroValue (ρ.t 24)).run P w=.ok (Value.slice none 0 0) w
theorem YU(L:IL P ρ k by' z T)(hk:k=1\/k=3\/k=4\/k=5)(g n c:Nat)(x:Addr)(vc:Nat)(vs:List Value)(w:World)(hroom:n+1<=c)(hm:c<=9223372036854775807)(hvl:vs.length=k)
 (hsp:∀t,t<c*k->(w.cell? ⟨g,t,none⟩).isSome=true) (hf:∀t,w.frozen? ⟨g,t,none⟩=false) (hvs:∀t u,vs[t]?=some u->w.cell? (x.add t)=some u) (h1v:∀u∈vs,u.oneCell'=true):
 Calls P (ρ.f 22) #[.slice (some ⟨g,0,none⟩) n c,.int .i64 n,.slice (some x) 1 vc] w λe w'=>e=.returned (.slice (some ⟨g,0,none⟩) (n+1) c)/\w'=w.setCells g (n*k) vs:=by
 have t0:=L.t0;have a0:=L.a0;have zz0:=L.zz0;have v0:=L.v0;have t3:=L.t3;have a3:=L.a3;have z3:=L.z3;have v3:=L.v3;have t4:=L.t4;have a4:=L.a4;have z4:=L.z4;have v4:=L.v4;have z9:=L.z9;have v9:=L.v9;have t24:=L.t24;have a24:=L.a24;have z24:=L.z24;have v24:=L.v24;have u0:=bb L.t0;have u3:=bb L.t3;have u4:=bb L.t4;have u24:=bb L.t24;obtain⟨nm,hnm,hf22⟩:=L.f22;obtain⟨i0,z0,hi0,hz0,hz1,hby,hzs⟩:=L.ok.info;have mixed:=L.mixed;have hy1:=lf (n+1) L.by0
 have hrun:∀ty,(Builtin.append_ #[ρ.t 24,ρ.t 24] ty #[.slice (some ⟨g,0,none⟩) n c,.slice (some x) 1 vc]).run P w=.ok (.slice (some ⟨g,0,none⟩) (n+1) c) (w.setCells g (n*k) vs):=λty=>by
  have:=run_append_room_cells (P:=P) (w:=w) (ρ.t 24) ty (ρ.t 9) i0 L.t24 hi0 g 0 n c x 1 vc vs (by rw[hvl,hz1,Cp]) hvs h1v hroom (λt ht=>hsp _ (by rw[hz1];(rcases hk with rfl|rfl|rfl|rfl<;>omega))) (λt _=>hf _)
  rwa [hz1,cq]at this
 obtain⟨W2,hW2⟩:∃W2,W2=w.setCells g (n*k) vs:=⟨_,rfl⟩;rw[<-hW2]at hrun ⊢;clear hW2 hsp hf hvs h1v hvl;go_enter hf22,Body2.n22_ntmps ρ;go_wp2_with (at_builtin;refine Lib.wpList_append_run _ rfl _ _ _ _ rfl _ _ rfl rfl _ _ (hrun _) ?_);go_ret;exact⟨rfl,rfl⟩
theorem aib(L:IL P ρ k by' z T)(hk:k=1\/k=3\/k=4\/k=5)(g n c i:Nat)(x:Addr)(vc:Nat)(us vs:List Value)(cur:Array Value)(eb:TypeId)(w:World)(hi:i<n)(hroom:n+1<=c)(hm:c<=9223372036854775807)(hul:us.length=n*k)(hvl:vs.length=k)
 (hg:w.heap[g]?=some (.cells cur eb (0,0))) (hx:x.block≠g) (hc:∀t u,us[t]?=some u->w.cell? ⟨g,t,none⟩=some u) (h1:∀u∈us,u.oneCell'=true)
 (hsp:∀t,t<c*k->(w.cell? ⟨g,t,none⟩).isSome=true) (hf:∀t,w.frozen? ⟨g,t,none⟩=false) (hvs:∀t u,vs[t]?=some u->w.cell? (x.add t)=some u) (h1v:∀u∈vs,u.oneCell'=true):
 Calls P (ρ.f 22) #[.slice (some ⟨g,0,none⟩) n c,.int .i64 i,.slice (some x) 1 vc] w λe w'=>e=.returned (.slice (some ⟨g,0,none⟩) (n+1) c)/\w'=(w.drew.setCells g ((i+1)*k) (us.drop (i*k))).setCells g (i*k) vs:=by
 have t0:=L.t0;have a0:=L.a0;have zz0:=L.zz0;have v0:=L.v0;have t3:=L.t3;have a3:=L.a3;have z3:=L.z3;have v3:=L.v3;have t4:=L.t4;have a4:=L.a4;have z4:=L.z4;have v4:=L.v4;have z9:=L.z9;have v9:=L.v9;have t24:=L.t24;have a24:=L.a24;have z24:=L.z24;have v24:=L.v24;have u0:=bb L.t0;have u3:=bb L.t3;have u4:=bb L.t4;have u24:=bb L.t24;obtain⟨nm,hnm,hf22⟩:=L.f22;obtain⟨i0,z0,hi0,hz0,hz1,hby,hzs⟩:=L.ok.info;have mixed:=L.mixed;have hy1:=lf (n+1) L.by0;obtain⟨u0,hu0⟩:∃u,vs[0]?=some u:=⟨vs[0],aw (by(rcases hk with rfl|rfl|rfl|rfl<;>omega))⟩;have hov:∀lb cb,(callFunc (ρ.f 29) #[.slice (some x) 1 vc,.slice (some ⟨g,(i+1)*k,none⟩) lb cb]).run P w=.ok (.value (.bool false)) w:=λlb cb=>by rw[L.f29,Og w (ρ.t 24) (ρ.t 4) (ρ.t 9) L.t24 k L.z9 x ⟨g,(i+1)*k,none⟩ 1 vc lb cb hx u0 0 (hvs 0 u0 hu0) cur eb hg];rfl
 have hdl:(us.drop (i*k)).length=(n-i)*k:=by rw[dS,hul,uh]
 have hcp1:∀ty dc sc,(Builtin.copy_ #[ρ.t 24,ρ.t 24] ty #[.slice (some ⟨g,(i+1)*k,none⟩) (n-i) dc,.slice (some ⟨g,i*k,none⟩) (n+1-i) sc]).run P w.drew=.ok (goInt (n-i:Nat)) (w.drew.setCells g ((i+1)*k) (us.drop (i*k))):=λty dc sc=>xu w.drew (ρ.t 24) (ρ.t 24) ty (ρ.t 9) i0 g ((i+1)*k) (n-i) dc ⟨g,i*k,none⟩ (n+1-i) sc (us.drop (i*k)) L.t24 hi0 (n-i) (by simp only[HV];split<;>(rcases hk with rfl|rfl|rfl|rfl<;>omega)) (by rw[hdl,hz1]) (λt v ht=>by rw[vE];exact hc _ v (by rwa [cN]at ht)) (λt ht=>hsp _ (by(rcases hk with rfl|rfl|rfl|rfl<;>omega))) (λt _=>hf _) (λv hv=>h1 v (kP hv))
 obtain⟨W1,hW1⟩:∃W1,W1=w.drew.setCells g ((i+1)*k) (us.drop (i*k)):=⟨_,rfl⟩;have hsp1:∀t,t<c*k->(W1.cell? ⟨g,t,none⟩).isSome=true:=λt ht=>by rw[hW1];exact sR g _ _ w.drew (λt ht=>hsp _ (by(rcases hk with rfl|rfl|rfl|rfl<;>omega))) _ (hsp t ht)
 obtain⟨W2,hW2⟩:∃W2,W2=W1.setCells g (i*k) vs:=⟨_,rfl⟩
 have hcp2:∀ty dc,(Builtin.copy_ #[ρ.t 24,ρ.t 24] ty #[.slice (some ⟨g,i*k,none⟩) (n+1-i) dc,.slice (some x) 1 vc]).run P W1=.ok (goInt (1:Nat)) W2:=λty dc=>by
  rw[hW2]
  exact xu W1 (ρ.t 24) (ρ.t 24) ty (ρ.t 9) i0 g (i*k) (n+1-i) dc x 1 vc vs L.t24 hi0 1 (by simp only[HV];split<;>(rcases hk with rfl|rfl|rfl|rfl<;>omega)) (by rw[hvl,hz1,Cp])
   (λt v ht=>by rw[hW1,dw g _ _ _ _ (λh _=>absurd (by rwa [jK]at h) hx)];exact hvs t v ht)
   (λt ht=>hsp1 _ (by(rcases hk with rfl|rfl|rfl|rfl<;>omega))) (λt _=>by rw[hW1,vF];exact hf _) h1v
 rw[<-hW1,<-hW2];rw[<-hW1]at hcp1;have hw1:i64.wrap ((i:Int)+1)=(i:Int)+1:=by rw[dR];(rcases hk with rfl|rfl|rfl|rfl<;>omega)
 have hw2:i64.wrap ((n:Int)+1)=(n:Int)+1:=by rw[dR];(rcases hk with rfl|rfl|rfl|rfl<;>omega)
 have hb1:(0:Int)<=(i:Int)+1:=by(rcases hk with rfl|rfl|rfl|rfl<;>omega)
 have hb5:(0:Int)<=(n:Int)+1:=by(rcases hk with rfl|rfl|rfl|rfl<;>omega)
 have htn:((i:Int)+1).toNat=i+1:=by(rcases hk with rfl|rfl|rfl|rfl<;>omega)
 have htn2:((n:Int)+1).toNat=n+1:=by(rcases hk with rfl|rfl|rfl|rfl<;>omega)
 have hb3:(i:Int)<=(n:Int)+1:=by(rcases hk with rfl|rfl|rfl|rfl<;>omega)
 have hb6:(i:Int)+1<=(n:Int)+1:=by(rcases hk with rfl|rfl|rfl|rfl<;>omega)
 have hb7:i<=n:=by(rcases hk with rfl|rfl|rfl|rfl<;>omega)
 have hb2:¬(c=i+1):=by(rcases hk with rfl|rfl|rfl|rfl<;>omega)
 have hb4:¬(c=i):=by(rcases hk with rfl|rfl|rfl|rfl<;>omega)
 have hz2:¬((i:Int)=(n:Int)):=by(rcases hk with rfl|rfl|rfl|rfl<;>omega)
 clear hW1 hW2 hsp1 hsp hf hvs h1v hc h1 hdl hu0 hvl hul;go_enter hf22,Body2.n22_ntmps ρ;go_wp2_with (simp only[hov]);go_region_law_o (refine GX rfl _ _ (ρ.t 24) (ρ.t 24) rfl _ _ (by simp[Act.eval,Act.put]) (by simp[Act.eval,Act.put]) (hcp1 _ _ _) ?_);go_wp2_with (at_builtin;refine wN _ rfl _ _ (ρ.t 24) (ρ.t 24) rfl _ _ rfl rfl (hcp2 _ _) ?_);go_ret;exact⟨rfl,rfl⟩
theorem YV(L:IL P ρ k by' z T)(hk:k=1\/k=3\/k=4\/k=5)(a:Option Addr)(n c:Nat)(x:Addr)(vc:Nat)(us vs:List Value)(w:World)(hroom:c<n+1)(hn:n<=c)(hbig:(n+1)*by'<=140737488355328)(hul:us.length=n*k)(hvl:vs.length=k)
 (hnil:a=none->n=0) (hsp:∀b,a=some b->b.spot=none) (hc:∀b,a=some b->∀t u,us[t]?=some u->w.cell? (b.add t)=some u)
 (hvs:∀t u,vs[t]?=some u->w.cell? (x.add t)=some u) (h1v:∀u∈vs,u.oneCell'=true):
 Calls P (ρ.f 22) #[.slice a n c,.int .i64 n,.slice (some x) 1 vc] w λe w'=>e=.returned (.slice (some ⟨w.heap.size,0,none⟩) (n+1) (grownCap w (n+1) c (ρ.t 9)))/\w'=w.drew.alloc (.cells ((us++vs).toArray++Builtin.zeroCells z.cells (grownCap w (n+1) c (ρ.t 9)-(n+1))) (ρ.t 9)):=by
 have t0:=L.t0;have a0:=L.a0;have zz0:=L.zz0;have v0:=L.v0;have t3:=L.t3;have a3:=L.a3;have z3:=L.z3;have v3:=L.v3;have t4:=L.t4;have a4:=L.a4;have z4:=L.z4;have v4:=L.v4;have z9:=L.z9;have v9:=L.v9;have t24:=L.t24;have a24:=L.a24;have z24:=L.z24;have v24:=L.v24;have u0:=bb L.t0;have u3:=bb L.t3;have u4:=bb L.t4;have u24:=bb L.t24;obtain⟨nm,hnm,hf22⟩:=L.f22;obtain⟨i0,z0,hi0,hz0,hz1,hby,hzs⟩:=L.ok.info;have mixed:=L.mixed;have hy1:=lf (n+1) L.by0;have hsrc:Src P i0.size (ρ.t 24) (.slice (some x) 1 vc) 1 vs w:=by rw[hz1];exact Src.ofSlice w L.t24 x 1 vc vs (by(rcases hk with rfl|rfl|rfl|rfl<;>omega)) hvs h1v
 have hold:(Builtin.firstCells i0.size n (.slice a n c)).run P w.drew=.ok us.toArray w.drew:=by
  rw[hz1];cases a with
  |none=>have h0:=hnil rfl;subst h0;rw[dX.1 (by(rcases hk with rfl|rfl|rfl|rfl<;>omega):us.length=0)];exact run_firstCells_none w.drew k 0 0 c
  |some b=>exact sF w.drew k n b n c us hul (λj v hj=>hc b rfl j v hj)
 have hrun:∀ty,(Builtin.append_ #[ρ.t 24,ρ.t 24] ty #[.slice a n c,.slice (some x) 1 vc]).run P w=_:=λty=>run_append_grow_src w (ρ.t 24) (ρ.t 24) ty (ρ.t 9) i0 z L.t24 hi0 (L.z0 hi0) a n c us hold (.slice (some x) 1 vc) 1 vs hsrc hroom (by(rcases hk with rfl|rfl|rfl|rfl<;>omega)) (by rw[hby];exact growslice_fits hroom hbig)
 obtain⟨W2,hW2⟩:∃W2,W2=w.drew.alloc (.cells ((us++vs).toArray++Builtin.zeroCells z.cells (grownCap w (n+1) c (ρ.t 9)-(n+1))) (ρ.t 9)):=⟨_,rfl⟩;obtain⟨C,hC⟩:∃C,C=grownCap w (n+1) c (ρ.t 9):=⟨_,rfl⟩;rw[<-hW2,<-hC]at hrun;rw[<-hW2,<-hC];clear hW2 hC hc hvs h1v hvl hul hold hsrc;cases a with
 |none=>have h0:=hnil rfl;subst h0;go_enter hf22,Body2.n22_ntmps ρ;go_wp2_with (at_builtin;refine Lib.wpList_append_run _ rfl _ _ _ _ rfl _ _ rfl rfl _ _ (hrun _) ?_);go_ret;exact⟨rfl,rfl⟩
 |some b=>obtain⟨ab,ao,asp⟩:=b;have:=hsp _ rfl;simp only at this;subst this;go_enter hf22,Body2.n22_ntmps ρ;go_wp2_with (at_builtin;refine Lib.wpList_append_run _ rfl _ _ _ _ rfl _ _ rfl rfl _ _ (hrun _) ?_);all_goals (go_ret;exact⟨rfl,rfl⟩)
theorem alv(L:IL P ρ k by' z T)(hk:k=1\/k=3\/k=4\/k=5)(g n c i:Nat)(x:Addr)(vc:Nat)(us vs:List Value)(w:World)(hi:i<n)(hroom:c<n+1)(hn:n<=c)(hm:c<=9223372036854775807)(hbig:(n+1)*by'<=140737488355328)(hul:us.length=n*k)(hvl:vs.length=k)
 (hc:∀t u,us[t]?=some u->w.cell? ⟨g,t,none⟩=some u) (h1:∀u∈us,u.oneCell'=true) (hvs:∀t u,vs[t]?=some u->w.cell? (x.add t)=some u) (h1v:∀u∈vs,u.oneCell'=true):
 Calls P (ρ.f 22) #[.slice (some ⟨g,0,none⟩) n c,.int .i64 i,.slice (some x) 1 vc] w λe w'=>e=.returned (.slice (some ⟨w.heap.size,0,none⟩) (n+1) (grownCap w (n+1) c (ρ.t 9)))/\w'=(((w.alloc (.cells ((us.take (i*k)).toArray++Builtin.zeroCells z.cells (n+1-i)++Builtin.zeroCells z.cells (grownCap w (n+1) c (ρ.t 9)-(n+1))) (ρ.t 9))).drew.setCells w.heap.size (i*k) vs).drew).setCells w.heap.size ((i+1)*k) (us.drop (i*k)):=by
 have t0:=L.t0;have a0:=L.a0;have zz0:=L.zz0;have v0:=L.v0;have t3:=L.t3;have a3:=L.a3;have z3:=L.z3;have v3:=L.v3;have t4:=L.t4;have a4:=L.a4;have z4:=L.z4;have v4:=L.v4;have z9:=L.z9;have v9:=L.v9;have t24:=L.t24;have a24:=L.a24;have z24:=L.z24;have v24:=L.v24;have u0:=bb L.t0;have u3:=bb L.t3;have u4:=bb L.t4;have u24:=bb L.t24;obtain⟨nm,hnm,hf22⟩:=L.f22;obtain⟨i0,z0,hi0,hz0,hz1,hby,hzs⟩:=L.ok.info;have mixed:=L.mixed;have hy1:=lf (n+1) L.by0;have hbw:g<w.heap.size:=block_lt_of_cell (hc 0 _ (aw (by(rcases hk with rfl|rfl|rfl|rfl<;>omega))));have hxw:x.block<w.heap.size:=by have:=block_lt_of_cell (hvs 0 _ (aw (by(rcases hk with rfl|rfl|rfl|rfl<;>omega))));rwa [jK]at this
 have htl:(us.take (i*k)).length=i*k:=by rw[bf,hul];(rcases hk with rfl|rfl|rfl|rfl<;>omega)
 have hold:(Builtin.firstCells i0.size i (.slice (some ⟨g,0,none⟩) i c)).run P w.drew=.ok (us.take (i*k)).toArray w.drew:=by
  rw[hz1]
  exact sF w.drew k i ⟨g,0,none⟩ i c (us.take (i*k)) htl (λj v hj=>by
   rw[vE,cq];rw[cD]at hj;split at hj
   .exact hc j v hj
   .cases hj)
 have hkk:(n:Int)+1-(i:Int)=((n+1-i:Nat):Int):=by(rcases hk with rfl|rfl|rfl|rfl<;>omega)
 have hik:i+(n+1-i)=n+1:=by(rcases hk with rfl|rfl|rfl|rfl<;>omega)
 have hy2:(n+1-i)*by'<=(n+1)*by':=dE _ (by(rcases hk with rfl|rfl|rfl|rfl<;>omega))
 have hrz:∀ty,(Builtin.append_ #[ρ.t 24,ρ.t 3] ty #[.slice (some ⟨g,0,none⟩) i c,.int .i64 ((n:Int)+1-(i:Int))]).run P w=
  .ok (.slice (some ⟨w.heap.size,0,none⟩) (n+1) (grownCap w (n+1) c (ρ.t 9))) (w.drew.alloc (.cells ((us.take (i*k)).toArray++Builtin.zeroCells z.cells (n+1-i)++Builtin.zeroCells z.cells (grownCap w (n+1) c (ρ.t 9)-(n+1))) (ρ.t 9))):=λty=>by
  have h:=Lib.run_append_grow_zeros w (ρ.t 24) (ρ.t 3) ty (ρ.t 9) i0 z .i64 .i64 L.t24 L.t3 hi0 (L.z0 hi0) (some ⟨g,0,none⟩) i c (us.take (i*k)) hold (n+1-i) (by(rcases hk with rfl|rfl|rfl|rfl<;>omega)) (by(rcases hk with rfl|rfl|rfl|rfl<;>omega)) (by(rcases hk with rfl|rfl|rfl|rfl<;>omega)) (by(rcases hk with rfl|rfl|rfl|rfl<;>omega)) (by rw[hby];(rcases hk with rfl|rfl|rfl|rfl<;>omega)) (by rw[hby,hik];exact growslice_fits hroom hbig);rw[hik]at h;rw[hkk];exact h
 obtain⟨G,hG⟩:∃G,G=grownCap w (n+1) c (ρ.t 9):=⟨_,rfl⟩;obtain⟨ROW,hROW⟩:∃ROW:Array Value,ROW=(us.take (i*k)).toArray++Builtin.zeroCells z.cells (n+1-i)++Builtin.zeroCells z.cells (G-(n+1)):=⟨_,rfl⟩;rw[<-hG]at hrz ⊢;rw[<-hROW]at hrz ⊢;have hzl:∀m:Nat,(Builtin.zeroCells z.cells m).size=m*k:=λm=>by have:=L.zl m;simpa using this
 have hRl:(n+1)*k<=ROW.size:=by
  rw[hROW,iZ,iZ,hzl,hzl,fi,htl]
  (rcases hk with rfl|rfl|rfl|rfl<;>omega)
 obtain⟨W1,hW1⟩:∃W1,W1=w.drew.alloc (.cells ROW (ρ.t 9)):=⟨_,rfl⟩;rw[<-hW1]at hrz;have hN:∀j,j<(n+1)*k->(W1.cell? ⟨w.heap.size,j,none⟩).isSome=true:=λj hj=>by rw[hW1,rv (w:=w.drew) ROW _ w.heap.size j rfl,sr (by(rcases hk with rfl|rfl|rfl|rfl<;>omega))];rfl
 have hNf:∀j,W1.frozen? ⟨w.heap.size,j,none⟩=false:=λj=>by rw[hW1];exact World.frozen?_alloc_at (w:=w.drew) ROW _ w.heap.size j rfl
 have hOb:∀j v,w.cell? ⟨g,j,none⟩=some v->W1.cell? ⟨g,j,none⟩=some v:=λj v h=>by rw[hW1,World.cell?_alloc_past (w:=w.drew) _ g j hbw];exact h
 have hOv:∀j v,w.cell? (x.add j)=some v->W1.cell? (x.add j)=some v:=λj v h=>by rw[hW1];refine(yz ?_).trans h;rw[jK];exact Im w.drew _ x.block hxw
 have hdl:(us.drop (i*k)).length=(n-i)*k:=by rw[dS,hul,uh]
 have hcpA:∀(W:World),(∀x,W.cell? x=W1.cell? x)->(∀x,W.frozen? x=W1.frozen? x)->∀ty dc,(Builtin.copy_ #[ρ.t 24,ρ.t 24] ty #[.slice (some ⟨w.heap.size,i*k,none⟩) (n+1-i) dc,.slice (some x) 1 vc]).run P W=.ok (goInt (1:Nat)) (W.setCells w.heap.size (i*k) vs):=λW hWc hWf ty dc=>xu W (ρ.t 24) (ρ.t 24) ty (ρ.t 9) i0 w.heap.size (i*k) (n+1-i) dc x 1 vc vs L.t24 hi0 1 (by simp only[HV];split<;>(rcases hk with rfl|rfl|rfl|rfl<;>omega)) (by rw[hvl,hz1,Cp]) (λj v hj=>by rw[hWc];exact hOv _ v (hvs j v hj)) (λj hj=>by rw[hWc];exact hN _ (by(rcases hk with rfl|rfl|rfl|rfl<;>omega))) (λj hj=>by rw[hWf];exact hNf _) h1v
 have hGn:n+1<=G:=by rw[hG];exact CC w _ _ _
 have hG63:G<=9223372036854775807:=by
  have:=pV w (n+1) c (ρ.t 9) (by unfold maxLen;(rcases hk with rfl|rfl|rfl|rfl<;>omega));rw[<-hG]at this;unfold maxLen at this
  (rcases hk with rfl|rfl|rfl|rfl<;>omega)
 have hGi:¬(G=i):=by(rcases hk with rfl|rfl|rfl|rfl<;>omega)
 have hGim:¬(G=i+1):=by(rcases hk with rfl|rfl|rfl|rfl<;>omega)
 have hci:¬(c=i):=by(rcases hk with rfl|rfl|rfl|rfl<;>omega)
 have hbN:g≠w.heap.size:=by(rcases hk with rfl|rfl|rfl|rfl<;>omega)
 have hcpB:∀(W:World),(∀x,W.cell? x=(W1.setCells w.heap.size (i*k) vs).cell? x)->(∀x,W.frozen? x=(W1.setCells w.heap.size (i*k) vs).frozen? x)->∀ty dc sc,(Builtin.copy_ #[ρ.t 24,ρ.t 24] ty #[.slice (some ⟨w.heap.size,(i+1)*k,none⟩) (n-i) dc,.slice (some ⟨g,i*k,none⟩) (n-i) sc]).run P W=.ok (goInt (n-i:Nat)) (W.setCells w.heap.size ((i+1)*k) (us.drop (i*k))):=λW hWc hWf ty dc sc=>
  xu W (ρ.t 24) (ρ.t 24) ty (ρ.t 9) i0 w.heap.size ((i+1)*k) (n-i) dc ⟨g,i*k,none⟩ (n-i) sc (us.drop (i*k)) L.t24 hi0 (n-i) (by simp only[HV];split<;>(rcases hk with rfl|rfl|rfl|rfl<;>omega)) (by rw[hdl,hz1])
   (λj v hj=>by rw[vE,hWc,dw _ _ _ _ _ (λh _=>absurd h hbN)];exact hOb _ v (hc (i*k+j) v (by rwa [cN]at hj)))
   (λj hj=>by rw[hWc];exact sR _ _ _ _ (λt ht=>hN _ (by(rcases hk with rfl|rfl|rfl|rfl<;>omega))) _ (hN _ (by(rcases hk with rfl|rfl|rfl|rfl<;>omega))))
   (λj hj=>by rw[hWf,vF];exact hNf _) (λv hv=>h1 v (kP hv))
 subst hW1;have hE1:∀x,((w.alloc (.cells ROW (ρ.t 9))).drew).cell? x=(w.drew.alloc (.cells ROW (ρ.t 9))).cell? x:=λx=>rfl
 have hE2:∀x,((w.alloc (.cells ROW (ρ.t 9))).drew).frozen? x=(w.drew.alloc (.cells ROW (ρ.t 9))).frozen? x:=λx=>rfl
 have hF1:∀x,(((w.alloc (.cells ROW (ρ.t 9))).drew.setCells w.heap.size (i*k) vs).drew).cell? x=((w.drew.alloc (.cells ROW (ρ.t 9))).setCells w.heap.size (i*k) vs).cell? x:=λx=>rfl
 have hF2:∀x,(((w.alloc (.cells ROW (ρ.t 9))).drew.setCells w.heap.size (i*k) vs).drew).frozen? x=((w.drew.alloc (.cells ROW (ρ.t 9))).setCells w.heap.size (i*k) vs).frozen? x:=λx=>rfl
 have hw1:i64.wrap ((i:Int)+1)=(i:Int)+1:=by rw[dR];(rcases hk with rfl|rfl|rfl|rfl<;>omega)
 have hb1:(0:Int)<=(i:Int)+1:=by(rcases hk with rfl|rfl|rfl|rfl<;>omega)
 have htn:((i:Int)+1).toNat=i+1:=by(rcases hk with rfl|rfl|rfl|rfl<;>omega)
 have hb3:(i:Int)<=(n:Int)+1:=by(rcases hk with rfl|rfl|rfl|rfl<;>omega)
 have hb6:(i:Int)+1<=(n:Int)+1:=by(rcases hk with rfl|rfl|rfl|rfl<;>omega)
 have hin:i<=n:=by(rcases hk with rfl|rfl|rfl|rfl<;>omega)
 have hz2:¬((i:Int)=(n:Int)):=by(rcases hk with rfl|rfl|rfl|rfl<;>omega)
 have hz3:(c:Int)<(n:Int)+1:=by(rcases hk with rfl|rfl|rfl|rfl<;>omega)
 clear hkk hik hold hROW hG hRl hc hvs h1 h1v hOb hOv hN hNf hzl htl hdl hvl hul;go_enter hf22,Body2.n22_ntmps ρ
 go_wp2_with (first
  |(at_builtin;refine Lib.wpList_append_run _ rfl _ _ _ _ rfl _ _ rfl rfl _ _ (hrz _) ?_)
  |(at_builtin;refine wN _ rfl _ _ (ρ.t 24) (ρ.t 24) rfl _ _ rfl rfl (hcpA _ hE1 hE2 _ _) ?_)
  |(at_builtin;refine wN _ rfl _ _ (ρ.t 24) (ρ.t 24) rfl _ _ rfl rfl (hcpB _ (λ_=>rfl) (λ_=>rfl) _ _ _) ?_))
 go_region_law_o (refine GX rfl _ _ (ρ.t 24) (ρ.t 24) rfl (.slice (some ⟨w.heap.size,(i+1)*k,none⟩) (n-i) (G-(i+1))) (.slice (some ⟨g,i*k,none⟩) (n-i) (c-i)) (by simp[Act.eval,Act.put]) (by simp[Act.eval,Act.put]) (hcpB _ hF1 hF2 3 (G-(i+1)) (c-i)) ?_);go_wp2;go_ret;exact⟨rfl,rfl⟩
theorem Of{v:Value}(h:yI v=true):v.oneCell'=true:=(wP h).2
theorem wO(L:IL P ρ k by' z T)(hk:k=1\/k=3\/k=4\/k=5):ada P (ρ.f 22) ⟨[],[.row (ρ.t 9) T,.v (.int .i64),.v (.slc T)],[],.own (ρ.t 9) T,λz=>JF by' z.1 z.2.1 z.2.2.1⟩:=by
 rintro⟨els,i,v,⟨⟩⟩ o ho U0 B A vs0 w m hv;obtain⟨i,y,rfl,rfl,hi,hbig,rfl⟩:=atH (show JF by' els i v=some o from ho);have hy1:=lf (els.length+1) L.by0;have hv:hL (env U0 B A [] [.own (ρ.t 9) T els] w) [.row 0,.int .i64 i,.sl T [y]] vs0:=hv;have m:Mem w U0 (Ow B A [] [.own (ρ.t 9) T els]) B A [] [.own (ρ.t 9) T els] w:=m;show pG P (ρ.f 22) vs0.toArray w λv w'=>∃B' A' r pb' rw',Mem w U0 (Ow B A [] [.own (ρ.t 9) T els]) B' A' pb' rw' w'/\r.h (env U0 B' A' pb' rw' w') v/\(∀i,live [] i->live pb' i/\B' i=B i)/\pb'=[]/\(r,rw')=(DV.row 0,[DR.own (ρ.t 9) T (els.take i++y::els.drop i)])
 simp only[hL,DV.h]at hv;obtain⟨_,_,rfl,⟨e,t,l2,hj2,rfl⟩,_,_,rfl,rfl,_,_,rfl,⟨av,vc,hsv,_,_,hel0⟩,rfl⟩:=hv;have hj2:some (DR.own (ρ.t 9) T els)=some (.own e t l2):=hj2;simp only[ak,DR.own.injEq]at hj2;obtain⟨rfl,rfl,hl2⟩:=hj2;cases hl2;simp only[fj,pj]at hsv;subst hsv;obtain⟨vs,hvs,hat⟩:=hel0 0 y rfl;have hvs:T.h (Us U0 B A [] [.own (ρ.t 9) T els]) w y vs:=hvs;have hvl:vs.length=k:=(T.Av hvs).trans L.ts;have h1v:∀u∈vs,u.oneCell'=true:=λu hu=>Of (T.WZ hvs u hu)
 obtain⟨x,rfl,hxU,hxw⟩:∃x,av=some x/\¬Us U0 B A [] [.own (ρ.t 9) T els] x.block/\x.block<w.heap.size:=by obtain⟨x,h1,h2,h3,_⟩:=hat 0 vs[0] (aw (by(rcases hk with rfl|rfl|rfl|rfl<;>omega)));exact⟨x,h1,h2,h3⟩
 have hcv:∀t u,vs[t]?=some u->w.cell? (x.add t)=some u:=λt u ht=>by
  obtain⟨x',h1,_,_,h4⟩:=hat t u ht;simp only[ak]at h1;subst h1;have h4:w.cell? (x.add (0*T.size+t))=some u:=h4
  rwa [pU,cq]at h4
 obtain⟨us,⟨hxl,ho⟩,hus⟩:=m.row 0 (ρ.t 9) T els rfl;have hxl:us.length=els.length*k:=by rw[<-L.ts];exact hxl
 have h1:∀u∈us,u.oneCell'=true:=λu hu=>Of (DT.GW hus u hu)
 change pG P (ρ.f 22) #[Value.slice (A 0).1 els.length (A 0).2,_,_] w _;have hzl:∀m:Nat,(Builtin.zeroCells z.cells m).size=m*k:=λm=>by have:=L.zl m;simpa using this
 generalize hA1:(A 0).1=a at *;generalize hA2:(A 0).2=c at*
 have grow:(∀b,a=some b->b.spot=none)->(a=none->els.length=0)->(∀b,a=some b->∀t u,us[t]?=some u->w.cell? (b.add t)=some u)->els.length<=c->c<els.length+1->i=els.length->
  pG P (ρ.f 22) #[Value.slice a els.length c,.int .i64 (i:Int),.slice (some x) 1 vc] w λv w'=>∃B' A' r pb' rw',Mem w U0 (Ow B A [] [.own (ρ.t 9) T els]) B' A' pb' rw' w'/\r.h (env U0 B' A' pb' rw' w') v/\(∀i,live [] i->live pb' i/\B' i=B i)/\pb'=[]/\(r,rw')=(DV.row 0,[DR.own (ρ.t 9) T (els.take i++y::els.drop i)]):=by
  intro hsp hnil hc hnc hroom hie;subst hie;refine⟨.inl ⟨L.hb,(YV L hk a els.length c x vc us vs w hroom hnc hbig hxl hvl hnil hsp hc hcv h1v).mono λe w' ⟨he,hw⟩=>⟨_,he,?_⟩⟩⟩;have hC:=CC w (els.length+1) c (ρ.t 9);have hC2:=pV w (els.length+1) c (ρ.t 9) (by rw[iE];(rcases hk with rfl|rfl|rfl|rfl<;>omega));rw[hw];generalize grownCap w (els.length+1) c (ρ.t 9)=C at *;refine RA (k:=k) L.ts (us:=us) (vs:=vs) m hus hvs hi rfl rfl rfl (by simp) (λb hb _=>Im w.drew _ b hb) (.inl (au _)) (kQ w.drew _) ?_ ?_ hC hC2
  .rw[iZ,hzl,fi,aq,hxl,hvl];(rcases hk with rfl|rfl|rfl|rfl<;>omega)
  .have hcell:∀t u,(us++vs)[t]?=some u->(w.drew.alloc (.cells ((us++vs).toArray++Builtin.zeroCells z.cells (C-(els.length+1))) (ρ.t 9))).cell? ⟨w.heap.size,t,none⟩=some u:=λt u ht=>by have hlt:=(aC.1 ht).1;rw[rv (w:=w.drew) _ _ w.heap.size t rfl,mR (by simpa using hlt),List.getElem?_toArray];exact ht
   rw[<-hxl,bs,fP,bZ];exact hcell
 rcases ho with⟨he,hn⟩|⟨g,cap,cur,heq,hbase,hg,hn1,hn2,hn3,hn4⟩
 .simp only[gA]at he;obtain⟨rfl,_,rfl⟩:=he;refine grow (by simp) (λ_=>hn) (by simp) (by(rcases hk with rfl|rfl|rfl|rfl<;>omega)) (by(rcases hk with rfl|rfl|rfl|rfl<;>omega)) (by(rcases hk with rfl|rfl|rfl|rfl<;>omega))
 simp only[gA]at heq;obtain⟨rfl,_,rfl⟩:=heq;have hn3:cur.size=c*k:=by rw[<-L.ts];exact hn3
 have hn4:cur.toList.take (els.length*k)=us:=by rw[<-L.ts];exact hn4
 have hgl:g<w.heap.size:=(cy.1 hg).1;have hxg:x.block≠g:=λe=>hxU (.inr ⟨true,0,_,_,rfl,by simp,hA1,e.symm⟩)
 have hc:∀t u,us[t]?=some u->w.cell? ⟨g,t,none⟩=some u:=λt u ht=>by
  have ht':t<us.length:=(aC.1 ht).1;have e1:(cur.toList.take (els.length*k))[t]?=us[t]?:=by rw[hn4]
  rw[dN (by(rcases hk with rfl|rfl|rfl|rfl<;>omega)),ht,du]at e1;simp[World.cell?,hg,e1]
 have hsp:∀t,t<c*k->(w.cell? ⟨g,t,none⟩).isSome=true:=λt ht=>by simp[World.cell?,hg,hn3,ht]
 have hf:∀t,w.frozen? ⟨g,t,none⟩=false:=λt=>by simp[World.frozen?,hg]
 have hm:c<=9223372036854775807:=by rw[iE]at hn2;exact hn2
 by_cases hroom:els.length+1<=c
 .by_cases hie:i=els.length
  .subst hie;refine⟨.inl ⟨L.hb,(YU L hk g els.length c x vc vs w hroom hm hvl hsp hf hcv h1v).mono λe w' ⟨he,hw⟩=>⟨_,he,?_⟩⟩⟩;obtain⟨cur1,hg1,hs1⟩:=EL (o:=els.length*k) (vs:=vs) (w:=w) hg;obtain⟨a1,a2,a3,a4⟩:=wM g (els.length*k) vs w;rw[hw];refine RA (k:=k) L.ts (us:=us) (vs:=vs) m hus hvs hi a1 a2 a3 (by rw[a4];exact au _) (λb hb hn=>EK λh=>hn _ hA1 h.symm) (.inr ⟨_,hA1,rfl⟩) hg1 (by rw[hs1,hn3]) ?_ hroom hn2;refine Oh hxl hvl (au _) (λt u ht hu=>?_) (λt u hu=>?_) (λt u hu=>?_)
   .rw[dw g _ _ _ _ (λ_ _=>.inl ht)];exact hc t u hu
   .have h4:=(aC.1 hu).1;have:=ib g vs (els.length*k) w (λq hq=>hsp _ (by(rcases hk with rfl|rfl|rfl|rfl<;>omega))) t h4;rw[this,<-hu,aw h4]
   .rw[vG (by(rcases hk with rfl|rfl|rfl|rfl<;>omega))]at hu;simp at hu
  .have hlt:i<els.length:=by(rcases hk with rfl|rfl|rfl|rfl<;>omega)
   refine⟨.inl ⟨L.hb,(aib L hk g els.length c i x vc us vs cur (ρ.t 9) w hlt hroom hm hxl hvl hg hxg hc h1 hsp hf hcv h1v).mono λe w' ⟨he,hw⟩=>⟨_,he,?_⟩⟩⟩;obtain⟨cur1,hg1,hs1⟩:=EL (o:=(i+1)*k) (vs:=us.drop (i*k)) (w:=w.drew) hg;obtain⟨cur2,hg2,hs2⟩:=EL (o:=i*k) (vs:=vs) hg1;obtain⟨a1,a2,a3,a4⟩:=wM g ((i+1)*k) (us.drop (i*k)) w.drew;obtain⟨b1,b2,b3,b4⟩:=wM g (i*k) vs (w.drew.setCells g ((i+1)*k) (us.drop (i*k)));have hdl:(us.drop (i*k)).length=(els.length-i)*k:=by rw[dS,hxl,uh]
   have hsp1:∀t,t<c*k->((w.drew.setCells g ((i+1)*k) (us.drop (i*k))).cell? ⟨g,t,none⟩).isSome=true:=λt ht=>sR g _ _ w.drew (λt ht=>hsp _ (by(rcases hk with rfl|rfl|rfl|rfl<;>omega))) _ (hsp t ht)
   rw[hw];refine RA (k:=k) L.ts (us:=us) (vs:=vs) m hus hvs hi (b1.trans a1) (b2.trans a2) (b3.trans a3) (by rw[b4,a4];exact au _) (λb hb hn=>?_) (.inr ⟨_,hA1,rfl⟩) hg2 (by rw[hs2,hs1,hn3]) ?_ hroom hn2
   .have hne:b≠g:=λh=>hn _ hA1 h.symm
    rw[EK hne,EK hne];rfl
   .refine Oh hxl hvl hi (λt u ht hu=>?_) (λt u hu=>?_) (λt u hu=>?_)
    .rw[dw g _ _ _ _ (λ_ _=>.inl ht),dw g _ _ _ _ (λ_ _=>.inl (by show t<(i+1)*k;(rcases hk with rfl|rfl|rfl|rfl<;>omega)))];exact hc t u hu
    .have h4:=(aC.1 hu).1;have:=ib g vs (i*k) (w.drew.setCells g ((i+1)*k) (us.drop (i*k))) (λq hq=>hsp1 _ (by(rcases hk with rfl|rfl|rfl|rfl<;>omega))) t h4;rw[this,<-hu,aw h4]
    .have h4:=(aC.1 hu).1;rw[dw g _ _ _ _ (λ_ _=>.inr (by show i*k+vs.length<=(i+1)*k+t;(rcases hk with rfl|rfl|rfl|rfl<;>omega)))];have:=ib g (us.drop (i*k)) ((i+1)*k) w.drew (λq hq=>hsp _ (by(rcases hk with rfl|rfl|rfl|rfl<;>omega))) t h4;rw[this,<-hu,aw h4]
 .by_cases hie:i=els.length
  .refine grow (λb hb=>by cases hb;rfl) (by simp) (λb hb t u hu=>?_) hn1 (by(rcases hk with rfl|rfl|rfl|rfl<;>omega)) hie;cases hb;rw[vE,cq];exact hc t u hu
  .have hlt:i<els.length:=by(rcases hk with rfl|rfl|rfl|rfl<;>omega)
   refine⟨.inl ⟨L.hb,(alv L hk g els.length c i x vc us vs w hlt (by(rcases hk with rfl|rfl|rfl|rfl<;>omega)) hn1 hm hbig hxl hvl hc h1 hcv h1v).mono λe w' ⟨he,hw⟩=>⟨_,he,?_⟩⟩⟩;have hC:=CC w (els.length+1) c (ρ.t 9);have hC2:=pV w (els.length+1) c (ρ.t 9) (by rw[iE];(rcases hk with rfl|rfl|rfl|rfl<;>omega));rw[hw];generalize grownCap w (els.length+1) c (ρ.t 9)=C at *;generalize hROW:(us.take (i*k)).toArray++Builtin.zeroCells z.cells (els.length+1-i)++Builtin.zeroCells z.cells (C-(els.length+1))=ROW;have htl:(us.take (i*k)).length=i*k:=by rw[bf,hxl];(rcases hk with rfl|rfl|rfl|rfl<;>omega)
   have hRs:ROW.size=C*k:=by rw[<-hROW,iZ,iZ,hzl,hzl,fi,htl];(rcases hk with rfl|rfl|rfl|rfl<;>omega)
   have hRt:∀t,t<i*k->ROW[t]?=us[t]?:=λt ht=>by rw[<-hROW,Array.append_assoc,mR (by rw[fi];(rcases hk with rfl|rfl|rfl|rfl<;>omega)),List.getElem?_toArray,dN ht]
   have hg0:(w.alloc (.cells ROW (ρ.t 9))).drew.heap[w.heap.size]?=some (.cells ROW (ρ.t 9) (0,0)):=kQ w _;obtain⟨cur1,hg1,hs1⟩:=EL (o:=i*k) (vs:=vs) hg0;have hg1':((w.alloc (.cells ROW (ρ.t 9))).drew.setCells w.heap.size (i*k) vs).drew.heap[w.heap.size]?=some (.cells cur1 (ρ.t 9) (0,0)):=hg1;obtain⟨cur2,hg2,hs2⟩:=EL (o:=(i+1)*k) (vs:=us.drop (i*k)) hg1';obtain⟨a1,a2,a3,a4⟩:=wM w.heap.size (i*k) vs (w.alloc (.cells ROW (ρ.t 9))).drew;obtain⟨b1,b2,b3,b4⟩:=wM w.heap.size ((i+1)*k) (us.drop (i*k)) ((w.alloc (.cells ROW (ρ.t 9))).drew.setCells w.heap.size (i*k) vs).drew;have hdl:(us.drop (i*k)).length=(els.length-i)*k:=by rw[dS,hxl,uh]
   have hcell0:∀t,(w.alloc (.cells ROW (ρ.t 9))).drew.cell? ⟨w.heap.size,t,none⟩=ROW[t]?:=λt=>rv (w:=w) ROW _ w.heap.size t rfl
   have hsp0:∀t,t<C*k->((w.alloc (.cells ROW (ρ.t 9))).drew.cell? ⟨w.heap.size,t,none⟩).isSome=true:=λt ht=>by rw[hcell0,sr (by(rcases hk with rfl|rfl|rfl|rfl<;>omega))];rfl
   have hsp1:∀t,t<C*k->(((w.alloc (.cells ROW (ρ.t 9))).drew.setCells w.heap.size (i*k) vs).drew.cell? ⟨w.heap.size,t,none⟩).isSome=true:=λt ht=>sR w.heap.size _ _ (w.alloc (.cells ROW (ρ.t 9))).drew (λt ht=>hsp0 _ (by(rcases hk with rfl|rfl|rfl|rfl<;>omega))) _ (hsp0 t ht)
   refine RA (k:=k) L.ts (us:=us) (vs:=vs) m hus hvs hi (b1.trans a1) (b2.trans a2) (b3.trans a3) (by rw[b4];show _<=(World.setCells _ _ _ _).heap.size;rw[a4];simp[World.drew]) (λb hb hn=>?_) (.inl (au _)) hg2 (by rw[hs2,hs1,hRs]) ?_ hC hC2
   .have hne:b≠w.heap.size:=by(rcases hk with rfl|rfl|rfl|rfl<;>omega)
    rw[EK hne];show((w.alloc (.cells ROW (ρ.t 9))).drew.setCells w.heap.size (i*k) vs).heap[b]?=_;rw[EK hne];exact Im w _ b hb
   .refine Oh hxl hvl hi (λt u ht hu=>?_) (λt u hu=>?_) (λt u hu=>?_)
    .rw[dw _ _ _ _ _ (λ_ _=>.inl (by show t<(i+1)*k;(rcases hk with rfl|rfl|rfl|rfl<;>omega)))];show((w.alloc (.cells ROW (ρ.t 9))).drew.setCells w.heap.size (i*k) vs).cell? _=_;rw[dw _ _ _ _ _ (λ_ _=>.inl ht),hcell0,hRt t ht];exact hu
    .have h4:=(aC.1 hu).1;rw[dw _ _ _ _ _ (λ_ _=>.inl (by show i*k+t<(i+1)*k;(rcases hk with rfl|rfl|rfl|rfl<;>omega)))];show((w.alloc (.cells ROW (ρ.t 9))).drew.setCells w.heap.size (i*k) vs).cell? _=_;have:=ib w.heap.size vs (i*k) (w.alloc (.cells ROW (ρ.t 9))).drew (λq hq=>hsp0 _ (by(rcases hk with rfl|rfl|rfl|rfl<;>omega))) t h4;rw[this,<-hu,aw h4]
    .have h4:=(aC.1 hu).1;have:=ib w.heap.size (us.drop (i*k)) ((i+1)*k) ((w.alloc (.cells ROW (ρ.t 9))).drew.setCells w.heap.size (i*k) vs).drew (λq hq=>hsp1 _ (by(rcases hk with rfl|rfl|rfl|rfl<;>omega))) t h4;rw[this,<-hu,aw h4]
end
end Go.Proofs.YthghpahghjppjaaGreat.KJ
namespace Go.Proofs.YthghpahghjppjaaGreat
open Go Go.Vc Go.RowKit Go.Lib Go.Sort Go.Proofs Go.Shelf
theorem avH(z:Value)(n:Nat):(Builtin.zeroCells z.cells n).toList.length=n*z.cells.size:=by simp[Builtin.zeroCells]
def Mb(f o sl el:Nat):Ren:=⟨λi=>if i=22 then f else if i=29 then o else if i=30 then o+1 else i,λi=>if i=24 then sl else if i=9 then el else i,id⟩
set_option maxRecDepth 1000000
theorem kjO{o sl:Nat}{G:Func}(h:Tryz.prog.funcs[o]?=some G)(a:(G.name== "runtime.NumGoroutine")=false:=by kernel_rfl) (b:G.body.isNone=true:=by kernel_rfl) (c:Extern.findNext G=none:=by kernel_rfl) (d:Extern.find G=some (Extern.SlicesOverlaps.overlaps #[sl,sl] #[4]):=by kernel_rfl):∀(j:Array Value) (w:World),(callFunc o j).run Tryz.prog w=((Extern.SlicesOverlaps.overlaps #[sl,sl] #[4] j).run Tryz.prog w).andThen λv w'=>.ok (.value v) w':=y8 h a b c d
theorem ade{f o sl el k by':Nat}{z:Value}{T:DT}(C:Bears Tryz.prog f (Body2.n22 (Mb f o sl el)))
 (ho:∀(j:Array Value) (w:World),(callFunc o j).run Tryz.prog w=((Extern.SlicesOverlaps.overlaps #[sl,sl] #[4] j).run Tryz.prog w).andThen λv w'=>.ok (.value v) w')
 (by0:0<by':=by decide) (ok:Oe Tryz.prog sl el k by':=by exact WX (by kernel_rfl) (by kernel_rfl) (by decide)) (y:(Tryz.prog.info? el).bind TypeInfo.zero=some z:=by kernel_rfl) (F:z.cells.size=k:=by rfl) (ts:T.size=k:=by rfl)
 (z9:∀w,(Go.sizeOf el).run Tryz.prog w=.ok k w:=by intro w;kernel_rfl) (v9:∀w,(zeroValue el).run Tryz.prog w=.ok z w:=by intro w;kernel_rfl)
 (t24:Tryz.prog.underlying sl=some (.slice el):=by kernel_rfl) (a24:∀w,(isAgg sl).run Tryz.prog w=.ok false w:=by intro w;kernel_rfl) (z24:∀w,(Go.sizeOf sl).run Tryz.prog w=.ok 1 w:=by intro w;kernel_rfl) (v24:∀w,(zeroValue sl).run Tryz.prog w=.ok (.slice none 0 0) w:=by intro w;kernel_rfl):
 KJ.IL Tryz.prog (Mb f o sl el) k by' z T where
 mixed:=ap4
 f22:=C
 f29:=ho
 by0:=by0
 ok:=ok
 z0:=λh=>by change Tryz.prog.info? el=_ at h;rw[h]at y;exact y
 zl:=λn=>by rw[avH,F]
 ts:=ts
 hb:=by have⟨n,H,G⟩:=C;exact⟨_,G,H,rfl⟩
 t0:=by kernel_rfl
 a0:=λw=>by kernel_rfl
 zz0:=λw=>by kernel_rfl
 v0:=λw=>by kernel_rfl
 t3:=by kernel_rfl
 a3:=λw=>by kernel_rfl
 z3:=λw=>by kernel_rfl
 v3:=λw=>by kernel_rfl
 t4:=by kernel_rfl
 a4:=λw=>by kernel_rfl
 z4:=λw=>by kernel_rfl
 v4:=λw=>by kernel_rfl
 z9:=z9
 v9:=v9
 t24:=t24
 a24:=a24
 z24:=z24
 v24:=v24
theorem arK:KJ.IL Tryz.prog (Mb 429 474 30 104) 3 40 (.agg #[.int .i64 0,.int .i64 0,.slice none 0 0]) tP0:=ade ⟨_,by kernel_rfl,Tryz.func429⟩ (kjO Tryz.func474)
def δ:KC Tryz.prog:=⟨429,λ_=>.ls ⟨[],[.row 104 tP0,.v (.int .i64),.v (.slc tP0)],[],.own 104 tP0,λz=>Ip z.1 z.2.1 z.2.2.1⟩,KJ.wO arK (by decide)⟩
theorem arL:KJ.IL Tryz.prog (Mb 401 450 54 92) 3 24 (.agg #[.int .i64 0,.int .i64 0,.int .i64 0]) rA.tL0:=ade ⟨_,by kernel_rfl,Tryz.func401⟩ (kjO Tryz.func450)
def rA.ζ:KC Tryz.prog:=⟨401,λ_=>.ls ⟨[],[.row 92 rA.tL0,.v (.int .i64),.v (.slc rA.tL0)],[],.own 92 rA.tL0,λz=>rA.NX z.1 z.2.1 z.2.2.1⟩,KJ.wO arL (by decide)⟩
theorem atI:KJ.IL Tryz.prog (Mb 228 305 24 174) 5 56 (.agg #[.int .i64 0,.int .i64 0,.int .i64 0,.int .i64 0,.slice none 0 0]) sK.EN:=ade ⟨_,by kernel_rfl,Tryz.func228⟩ (kjO Tryz.func305)
def sK.YT:KC Tryz.prog:=⟨228,λ_=>.ls ⟨[],[.row 174 sK.EN,.v (.int .i64),.v (.slc sK.EN)],[],.own 174 sK.EN,λz=>sK.EO z.1 z.2.1 z.2.2.1⟩,KJ.wO atI (by decide)⟩
theorem ap8:KJ.IL Tryz.prog (Mb 233 309 25 132) 3 24 (.agg #[.int .i64 0,.int .i64 0,.int .i64 0]) sM.EN:=ade ⟨_,by kernel_rfl,Tryz.func233⟩ (kjO Tryz.func309)
def sM.Vx:KC Tryz.prog:=⟨233,λ_=>.ls ⟨[],[.row 132 sM.EN,.v (.int .i64),.v (.slc sM.EN)],[],.own 132 sM.EN,λz=>sM.GY z.1 z.2.1 z.2.2.1⟩,KJ.wO ap8 (by decide)⟩
theorem aia:KJ.IL Tryz.prog (Mb 311 378 26 99) 4 48 (.agg #[.int .i64 0,.int .i64 0,.int .i64 0,.slice none 0 0]) sN.EN:=ade ⟨_,by kernel_rfl,Tryz.func311⟩ (kjO Tryz.func378)
def sN.QF:KC Tryz.prog:=⟨311,λ_=>.ls ⟨[],[.row 99 sN.EN,.v (.int .i64),.v (.slc sN.EN)],[],.own 99 sN.EN,λz=>sN.CS z.1 z.2.1 z.2.2.1⟩,KJ.wO aia (by decide)⟩
theorem alu:KJ.IL Tryz.prog (Mb 344 412 27 177) 5 40 (.agg #[.int .i64 0,.int .i64 0,.int .i64 0,.int .i64 0,.bool false]) sO.EN:=ade ⟨_,by kernel_rfl,Tryz.func344⟩ (kjO Tryz.func412)
def sO.Ta:KC Tryz.prog:=⟨344,λ_=>.ls ⟨[],[.row 177 sO.EN,.v (.int .i64),.v (.slc sO.EN)],[],.own 177 sO.EN,λz=>sO.EP z.1 z.2.1 z.2.2.1⟩,KJ.wO alu (by decide)⟩
theorem avI:KJ.IL Tryz.prog (Mb 313 382 97 3) 1 8 (.int .i64 0) sP.EN:=ade ⟨_,by kernel_rfl,Tryz.func313⟩ (kjO Tryz.func382)
def sP.η:KC Tryz.prog:=⟨313,λ_=>.ls ⟨[],[.row 3 sP.EN,.v (.int .i64),.v (.slc sP.EN)],[],.own 3 sP.EN,λz=>sP.Oi z.1 z.2.1 z.2.2.1⟩,KJ.wO avI (by decide)⟩
end Go.Proofs.YthghpahghjppjaaGreat
namespace Go.Proofs.YthghpahghjppjaaGreat.KJ
open Go Go.Vc Go.RowKit Go.Lib Go.Sort Go.Proofs Go.Shelf Go.Proofs.YthghpahghjppjaaGreat
set_option maxHeartbeats 4000000
set_option maxRecDepth 1000000
variable {P : Program} {ρ : Ren} {by' : Nat} {z : Value} {T : DT} {fd : FuncId}
theorem avG(L:IL P ρ 3 by' z T)(hd:Bears P fd (Body2.n24 ρ))(p:Option Addr)(n c i:Nat)(w:World)(hi:i<=n)(hn:n<=c)(hm:c<=9223372036854775807):
 Calls P fd #[.slice p n c,.int .i64 i,.int .i64 i] w λe w'=>e=.returned (.slice p n c)/\w'=w:=by
 have⟨nm,hnm,hf24⟩:=hd;have t0:=L.t0;have a0:=L.a0;have zz0:=L.zz0;have v0:=L.v0;have t3:=L.t3;have a3:=L.a3;have z3:=L.z3;have v3:=L.v3;have t4:=L.t4;have a4:=L.a4;have z4:=L.z4;have v4:=L.v4;have z9:=L.z9;have v9:=L.v9;have t24:=L.t24;have a24:=L.a24;have z24:=L.z24;have v24:=L.v24;have u0:=bb L.t0;have u3:=bb L.t3;have u4:=bb L.t4;have u24:=bb L.t24;go_enter hf24,Body2.n24_ntmps ρ;go_wp2;all_goals (go_ret;exact⟨rfl,rfl⟩)
theorem ap5 (L : IL P ρ 3 by' z T) (hd : Bears P fd (Body2.n24 ρ)) (hz : ∀ n, ∀ v ∈ (Builtin.zeroCells z.cells n).toList, v.oneCell' = true) (g n c i j : Nat) (us : List Value) (w : World) (hl : us.length = n * 3) (hc : ∀ t u, us[t]? = some u -> w.cell? ⟨g, t, none⟩ = some u) (h1 : ∀ u ∈ us, u.oneCell' = true)
    (hf : ∀ t, w.frozen? ⟨g, t, none⟩ = false) (hij : i < j) (hj : j <= n) (hn : n <= c) (hm : c <= 9223372036854775807) :
    Calls P fd #[.slice (some ⟨g, 0, none⟩) n c, .int .i64 i, .int .i64 j] w λe w' => e = .returned (.slice (some ⟨g, 0, none⟩) (i + (n - j)) c) /\
      w' = (w.drew.setCells g (0 + i * 3) (us.drop (j * 3))).setCells g ((i + (n - j)) * 3) (Builtin.zeroCells z.cells (n - (i + (n - j)))).toList := by
  obtain ⟨i0, z0, hi0, hz0, hz1, hby, hzs⟩ := L.ok.info
  have hlen : (us.drop (j * 3)).length = (n - j) * 3 := by rw [dS, hl, uh]
  obtain ⟨news, hnews⟩ : ∃ news, news = us.drop (j * 3) := ⟨_, rfl⟩
  rw [<- hnews] at hlen ⊢
  have hget : ∀ t u, news[t]? = some u -> w.cell? ⟨g, j * 3 + t, none⟩ = some u := λt u h => hc _ _ (by rw [hnews, cN] at h; exact h)
  obtain ⟨A, hA, hsrc⟩ : ∃ A : Addr, (if c = j then some (⟨g, 0, none⟩ : Addr) else some ⟨g, j * 3, none⟩) = some A /\ Hid (∀ t u, news[t]? = some u -> w.drew.cell? (A.add t) = some u) := by
    by_cases h : c = j
    · refine ⟨⟨g, 0, none⟩, by simp [h], λt u hu => ?_⟩
      have h0 : news.length = 0 := by rw [hlen]; have : n - j = 0 := by omega
                                      rw [this, pU]
      rw [dX.1 h0] at hu
      simp at hu
    · refine ⟨⟨g, j * 3, none⟩, by simp [h], λt u hu => ?_⟩
      rw [vE]
      exact hget t u hu
  have s1 : Hid (news.length = (n - j) * 3) := hlen
  have s2 : Hid (∀ u ∈ news, u.oneCell' = true) := λu hu => h1 u (by rw [hnews] at hu; exact kP hu)
  have hall : ∀ t, t < n * 3 -> (w.cell? ⟨g, t, none⟩).isSome = true := λt ht => by rw [hc t _ (aw (by omega))]; rfl
  have s3 : Hid (∀ t, t < news.length -> (w.drew.cell? ⟨g, 0 + i * 3 + t, none⟩).isSome = true /\ w.drew.frozen? ⟨g, 0 + i * 3 + t, none⟩ = false) := λt ht => ⟨hall _ (by omega), hf _⟩
  obtain ⟨W1, hW1⟩ : ∃ W1, W1 = w.drew.setCells g (0 + i * 3) news := ⟨_, rfl⟩
  have hs1 : ∀ t, t < n * 3 -> (W1.cell? ⟨g, t, none⟩).isSome = true := λt ht => by
    rw [hW1]
    exact sR g news (0 + i * 3) w.drew (λt ht => hall _ (by omega)) _ (hall t ht)
  have hf1 : ∀ t, W1.frozen? ⟨g, t, none⟩ = false := λt => by rw [hW1, vF]; exact hf t
  have hcl : ∀ ty, (Builtin.clear_ #[ρ.t 24] ty #[.slice (some ⟨g, (i + (n - j)) * 3, none⟩) (n - (i + (n - j))) (c - (i + (n - j)))]).run P W1 = .ok (.tuple #[]) (W1.setCells g ((i + (n - j)) * 3) (Builtin.zeroCells z.cells (n - (i + (n - j)))).toList) := λty => by
    have := QE W1 (ρ.t 24) (ρ.t 9) ty z L.t24 L.v9 g ((i + (n - j)) * 3) (n - (i + (n - j))) (c - (i + (n - j))) (by omega) (λt ht => hs1 _ (by rw [L.zl] at ht; omega)) (λt _ => hf1 _) (hz _)
    exact this
  obtain ⟨W2, hW2⟩ : ∃ W2, W2 = W1.setCells g ((i + (n - j)) * 3) (Builtin.zeroCells z.cells (n - (i + (n - j)))).toList := ⟨_, rfl⟩
  have X : Hid (W1 = w.drew.setCells g (0 + i * 3) news) := hW1
  have mixed := L.mixed
  have hic : i <= c := by omega
  have hjc : j <= c := by omega
  rw [<- hW1, <- hW2]
  rw [<- hW2] at hcl
  clear hW1 hW2 hs1 hf1 hall hget hnews hlen hc hf h1 hl
  obtain ⟨nm, hnm, hf24⟩ := hd
  have t0 := L.t0; have a0 := L.a0; have zz0 := L.zz0; have v0 := L.v0; have t3 := L.t3; have a3 := L.a3; have z3 := L.z3; have v3 := L.v3; have t4 := L.t4; have a4 := L.a4; have z4 := L.z4; have v4 := L.v4; have z9 := L.z9; have v9 := L.v9; have t24 := L.t24; have a24 := L.a24; have z24 := L.z24; have v24 := L.v24
  have u0 := bb L.t0; have u3 := bb L.t3; have u4 := bb L.t4; have u24 := bb L.t24
  go_enter hf24, Body2.n24_ntmps ρ
  go_wp2_with fail
  go_region_law_o (refine step_append_room rfl (.tmp 22) (.tmp 25) (ρ.t 24) rfl (ρ.t 9) i0 3 L.t24 hi0 hz1 g 0 i c (by simp [Act.eval, Act.put]) A (n - j) (c - j) news (by simp [Act.eval, Act.put]) s1.out hsrc.out s2.out (by omega) s3.out ?_; rw [<- X.out])
  go_wp2
  go_ret
  exact ⟨rfl, rfl⟩
theorem WY(L:IL P ρ 3 by' z T)(hd:Bears P fd (Body2.n24 ρ))(hb:rI P fd)(hz:∀n,∀v∈(Builtin.zeroCells z.cells n).toList,v.oneCell'=true):ada P fd ⟨[],[.row (ρ.t 9) T,.v (.int .i64),.v (.int .i64)],[],.own (ρ.t 9) T,λz=>Vr z.1 z.2.1 z.2.2.1⟩:=by
 rintro⟨l,i,j,⟨⟩⟩ o ho U0 B A vs w m hv;obtain⟨i,j,rfl,rfl,hij,hj,rfl⟩:=atF (show Vr l i j=some o from ho);have hv:=hv;have m:=m;show pG P fd vs.toArray w λv w'=>∃B' A' r pb' rw',Mem w U0 (Ow B A [] [.own (ρ.t 9) T l]) B' A' pb' rw' w'/\r.h (env U0 B' A' pb' rw' w') v/\(∀i,live [] i->live pb' i/\B' i=B i)/\pb'=[]/\(r,rw')=(DV.row 0,[DR.own (ρ.t 9) T (l.take i++l.drop j)])
 simp only[hL,DV.h]at hv;obtain⟨_,_,rfl,⟨e,t,l2,C,rfl⟩,_,_,rfl,rfl,_,_,rfl,rfl,rfl⟩:=hv;have C:some (DR.own (ρ.t 9) T l)=some (.own e t l2):=C;simp only[ak,DR.own.injEq]at C;obtain⟨rfl,rfl,hl2⟩:=C;cases hl2;have⟨us,⟨y,ho⟩,F⟩:=m.row 0 (ρ.t 9) T l rfl;rcases ho with⟨hn,hx⟩|⟨g,cap,cur,Y,hbase,hg,hn1,K,J,H⟩
 .simp only[gA]at hn;omega
 simp only[gA]at Y;have⟨V,_,hc⟩:=Y;have y:us.length=l.length*3:=by rw[<-L.ts];exact y
 have J:cur.size=cap*3:=by rw[<-L.ts];exact J
 have H:cur.toList.take (l.length*3)=us:=by rw[<-L.ts];exact H
 have R:=atE hg H;have h1:∀u∈us,u.oneCell'=true:=λu hu=>Of (DT.GW F u hu)
 have hf:∀t,w.frozen? ⟨g,t,none⟩=false:=λt=>by simp[World.frozen?,hg]
 have hm:cap<=9223372036854775807:=by rw[iE]at K;exact K
 change pG P fd #[Value.slice (A 0).1 l.length (A 0).2,_,_] w _;rw[V,hc];refine⟨.inl ⟨hb,(ap5 L hd hz g l.length cap i j us w y R h1 hf hij hj hn1 hm).mono λe w' ⟨he,hw⟩=>⟨_,he,?_⟩⟩⟩;have⟨cur1,hg1,hs1⟩:=EL (o:=0+i*3) (vs:=us.drop (j*3)) (w:=w.drew) hg;have⟨cur2,hg2,hs2⟩:=EL (o:=(i+(l.length-j))*3) (vs:=(Builtin.zeroCells z.cells (l.length-(i+(l.length-j)))).toList) hg1;have⟨a1,a2,a3,a4⟩:=wM g (0+i*3) (us.drop (j*3)) w.drew;have⟨b1,b2,b3,b4⟩:=wM g ((i+(l.length-j))*3) (Builtin.zeroCells z.cells (l.length-(i+(l.length-j)))).toList (w.drew.setCells g (0+i*3) (us.drop (j*3)));have hel:(l.take i++l.drop j).length=i+(l.length-j):=by rw[aq,bf,dS];omega
 rw[<-hel];subst hw;refine DC m ⟨b1.trans a1,b2.trans a2,b3.trans a3,by rw[b4,a4];exact au _⟩ (λb hb hn=>?_) (λx hx=>?_) λU' lt=>?_
 .have X:b≠g:=λh=>hn _ V h.symm
  rw[EK X,EK X];rfl
 .simp only[ak]at hx;subst hx;exact .inl ⟨_,V,rfl⟩
 .have hdl:(us.drop (j*3)).length=(l.length-j)*3:=by rw[dS,y,uh]
  have G:(us.take (i*3)).length=i*3:=by rw[bf,y];omega
  refine⟨us.take (i*3)++us.drop (j*3),atC hg2 (by rw[hs2,hs1,J,L.ts]) (λt u W=>?_) (by rw[L.ts,aq,G,hdl,hel,<-iY]) (by omega) K,by have h:=DT.EM (DT.Rz (n:=i) (DT.lR lt F) (by omega)) (DT.af7 (DT.lR lt F) j);rwa [L.ts]at h⟩;have hlen:t<i*3+(l.length-j)*3:=by have:=(aC.1 W).1;rw[aq,G,hdl]at this;exact this
  rw[dw g _ _ _ _ (λ_ _=>by show t<(i+(l.length-j))*3\/_;omega)];by_cases h3:t<i*3
  .rw[bC (by omega),dN h3]at W;rw[dw g _ _ _ _ (λ_ _=>by show t<0+i*3\/_;omega)];exact R t u W
  .rw[dP (by omega),G]at W;have h4:t-i*3<(us.drop (j*3)).length:=by omega
   have:=ib g (us.drop (j*3)) (0+i*3) w.drew (λq hq=>by show(w.cell? _).isSome=true;rw[R _ _ (aw (by omega))];rfl) (t-i*3) h4;rw[show 0+i*3+(t-i*3)=t by omega]at this;rw[this,<-W,aw h4]
end Go.Proofs.YthghpahghjppjaaGreat.KJ
namespace Go.Proofs.YthghpahghjppjaaGreat
open Go Go.Vc Go.RowKit Go.Lib Go.Sort Go.Proofs Go.Shelf
set_option maxRecDepth 1000000
theorem arJ{a b c:Value}(h:a.oneCell'=true/\b.oneCell'=true/\c.oneCell'=true)(j:(Value.agg #[a,b,c]).cells = #[a,b,c])(n:Nat):∀v∈(Builtin.zeroCells (Value.agg #[a,b,c]).cells n).toList,v.oneCell'=true:=by
 intro v hv;rw[j]at hv;simp only[Builtin.zeroCells,Array.toList_map,aK]at hv;obtain⟨k,_,rfl⟩:=hv;have:k % 3=0\/k % 3=1\/k % 3=2:=by omega
 rcases this with e|e|e<;>simp[e,h]
def X_:KC Tryz.prog:=⟨428,λ_=>.ls ⟨[],[.row 104 tP0,.v (.int .i64),.v (.int .i64)],[],.own 104 tP0,λz=>Io z.1 z.2.1 z.2.2.1⟩,KJ.WY arK ⟨_,by kernel_rfl,Tryz.func428⟩ ⟨_,Tryz.func428,by decide +kernel,rfl⟩ (arJ ⟨rfl,rfl,rfl⟩ rfl)⟩
def rA.Y_:KC Tryz.prog:=⟨452,λ_=>.ls ⟨[],[.row 92 rA.tL0,.v (.int .i64),.v (.int .i64)],[],.own 92 rA.tL0,λz=>rA.H8 z.1 z.2.1 z.2.2.1⟩,KJ.WY arL ⟨_,by kernel_rfl,Tryz.func452⟩ ⟨_,Tryz.func452,by decide +kernel,rfl⟩ (arJ ⟨rfl,rfl,rfl⟩ rfl)⟩
end Go.Proofs.YthghpahghjppjaaGreat







