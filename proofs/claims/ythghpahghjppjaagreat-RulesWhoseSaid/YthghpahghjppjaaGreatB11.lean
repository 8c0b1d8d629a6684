import Derived.Test.YthghpahghjppjaaGreatB10
import Derived.Shelf.Lays2
import Derived.Shelf.SlGeneric
namespace Go.Proofs.YthghpahghjppjaaGreat.KJ
open Go Go.Vc Go.RowKit Go.Lib Go.Sort Go.Proofs Go.Shelf Go.Proofs.YthghpahghjppjaaGreat
set_option maxHeartbeats 4000000
set_option maxRecDepth 1000000
section
variable {P : Program} {ρ : Ren} {k by' : Nat} {z : Value} {T : DT}
structure IL(P:Program)(ρ:Ren)(k by':Nat)(z:Value)(T:DT):Prop where
 mixed:P.follows .mixedOrders=true
 f22:Bears P (ρ.f 22) (Body2.n22 ρ)
 f29:∀(args:Array Value) (w:World),(callFunc (ρ.f 29) args).run P w=((Extern.SlicesOverlaps.overlaps #[ρ.t 24,ρ.t 24] #[ρ.t 4] args).run P w).andThen λv w'=>.ok (.value v) w'
 by0:0<by'
 ok:Ha P (ρ.t 24) (ρ.t 9) k by'
 z0:∀{i:TypeInfo},P.info? (ρ.t 9)=some i->i.zero=some z
 zl:∀n,(Builtin.zeroCells z.cells n).toList.length=n*k
 ts:T.size=k
 hb:qj P (ρ.f 22)
 t0:P.underlying (ρ.t 0)=some (TypeDesc.tuple #[])
 a0:∀w,(isAgg (ρ.t 0)).run P w=.ok false w
 zz0:∀w,(Go.sizeOf (ρ.t 0)).run P w=.ok 1 w
 v0:∀w,(zeroValue (ρ.t 0)).run P w=.ok (Value.tuple #[]) w
 t3:P.underlying (ρ.t 3)=some (TypeDesc.int IntKind.i64)
 a3:∀w,(isAgg (ρ.t 3)).run P w=.ok false w
 z3:∀w,(Go.sizeOf (ρ.t 3)).run P w=.ok 1 w
 v3:∀w,(zeroValue (ρ.t 3)).run P w=.ok (Value.int IntKind.i64 0) w
 t4:P.underlying (ρ.t 4)=some (TypeDesc.bool)
 a4:∀w,(isAgg (ρ.t 4)).run P w=.ok false w
 z4:∀w,(Go.sizeOf (ρ.t 4)).run P w=.ok 1 w
 v4:∀w,(zeroValue (ρ.t 4)).run P w=.ok (Value.bool false) w
 z9:∀w,(Go.sizeOf (ρ.t 9)).run P w=.ok k w
 v9:∀w,(zeroValue (ρ.t 9)).run P w=.ok z w
 t24:P.underlying (ρ.t 24)=some (TypeDesc.slice (ρ.t 9))
 a24:∀w,(isAgg (ρ.t 24)).run P w=.ok false w
 z24:∀w,(Go.sizeOf (ρ.t 24)).run P w=.ok 1 w
 v24:∀w,(zeroValue (ρ.t 24)).run P w=.ok (Value.slice none 0 0) w
theorem Y'(L:IL P ρ k by' z T)(hk:k=1\/k=3\/k=4\/k=5)(g n c:Nat)(x:Addr)(vc:Nat)(vs:List Value)(w:World)(hroom:n+1<=c)(hm:c<=9223372036854775807)(hvl:vs.length=k)
 (hsp:∀t,t<c*k->(w.cell? ⟨g,t,none⟩).isSome=true) (hf:∀t,w.frozen? ⟨g,t,none⟩=false) (hvs:∀t u,vs[t]?=some u->w.cell? (x.add t)=some u) (h1v:∀u∈vs,u.oneCell'=true):
 Calls P (ρ.f 22) #[.slice (some ⟨g,0,none⟩) n c,.int .i64 n,.slice (some x) 1 vc] w λe w'=>e=.returned (.slice (some ⟨g,0,none⟩) (n+1) c)/\w'=w.setCells g (n*k) vs:=by
 have t0:=L.t0;have a0:=L.a0;have zz0:=L.zz0;have v0:=L.v0;have t3:=L.t3;have a3:=L.a3;have z3:=L.z3;have v3:=L.v3;have t4:=L.t4;have a4:=L.a4;have z4:=L.z4;have v4:=L.v4;have z9:=L.z9;have v9:=L.v9;have t24:=L.t24;have a24:=L.a24;have z24:=L.z24;have v24:=L.v24;have u0:=bj L.t0;have u3:=bj L.t3;have u4:=bj L.t4;have u24:=bj L.t24;obtain⟨nm,hnm,hf22⟩:=L.f22;obtain⟨i0,z0,hi0,hz0,hz1,hby,hzs⟩:=L.ok.info;have mixed:=L.mixed;have hy1:=kX (n+1) L.by0
 have hrun:∀ty,(Builtin.append_ #[ρ.t 24,ρ.t 24] ty #[.slice (some ⟨g,0,none⟩) n c,.slice (some x) 1 vc]).run P w=.ok (.slice (some ⟨g,0,none⟩) (n+1) c) (w.setCells g (n*k) vs):=λty=>by
  have:=run_append_room_cells (P:=P) (w:=w) (ρ.t 24) ty (ρ.t 9) i0 L.t24 hi0 g 0 n c x 1 vc vs (by rw[hvl,hz1,Dc]) hvs h1v hroom (λt ht=>hsp _ (by rw[hz1];(rcases hk with rfl|rfl|rfl|rfl<;>omega))) (λt _=>hf _)
  rwa [hz1,cg]at this
 obtain⟨W2,hW2⟩:∃W2,W2=w.setCells g (n*k) vs:=⟨_,rfl⟩;rw[<-hW2]at hrun ⊢;clear hW2 hsp hf hvs h1v hvl;go_enter hf22,Body2.n22_ntmps ρ;go_wp2_with (at_builtin;refine Lib.wpList_append_run _ rfl _ _ _ _ rfl _ _ rfl rfl _ _ (hrun _) ?_);go_ret;exact⟨rfl,rfl⟩
theorem akb(L:IL P ρ k by' z T)(hk:k=1\/k=3\/k=4\/k=5)(g n c i:Nat)(x:Addr)(vc:Nat)(us vs:List Value)(cur:Array Value)(eb:TypeId)(w:World)(hi:i<n)(hroom:n+1<=c)(hm:c<=9223372036854775807)(hul:us.length=n*k)(hvl:vs.length=k)
 (hg:w.heap[g]?=some (.cells cur eb (0,0))) (hx:x.block≠g) (hc:∀t u,us[t]?=some u->w.cell? ⟨g,t,none⟩=some u) (h1:∀u∈us,u.oneCell'=true)
 (hsp:∀t,t<c*k->(w.cell? ⟨g,t,none⟩).isSome=true) (hf:∀t,w.frozen? ⟨g,t,none⟩=false) (hvs:∀t u,vs[t]?=some u->w.cell? (x.add t)=some u) (h1v:∀u∈vs,u.oneCell'=true):
 Calls P (ρ.f 22) #[.slice (some ⟨g,0,none⟩) n c,.int .i64 i,.slice (some x) 1 vc] w λe w'=>e=.returned (.slice (some ⟨g,0,none⟩) (n+1) c)/\w'=(w.drew.setCells g ((i+1)*k) (us.drop (i*k))).setCells g (i*k) vs:=by
 have t0:=L.t0;have a0:=L.a0;have zz0:=L.zz0;have v0:=L.v0;have t3:=L.t3;have a3:=L.a3;have z3:=L.z3;have v3:=L.v3;have t4:=L.t4;have a4:=L.a4;have z4:=L.z4;have v4:=L.v4;have z9:=L.z9;have v9:=L.v9;have t24:=L.t24;have a24:=L.a24;have z24:=L.z24;have v24:=L.v24;have u0:=bj L.t0;have u3:=bj L.t3;have u4:=bj L.t4;have u24:=bj L.t24;obtain⟨nm,hnm,hf22⟩:=L.f22;obtain⟨i0,z0,hi0,hz0,hz1,hby,hzs⟩:=L.ok.info;have mixed:=L.mixed;have hy1:=kX (n+1) L.by0;obtain⟨u0,hu0⟩:∃u,vs[0]?=some u:=⟨vs[0],aw (by(rcases hk with rfl|rfl|rfl|rfl<;>omega))⟩;have hov:∀lb cb,(callFunc (ρ.f 29) #[.slice (some x) 1 vc,.slice (some ⟨g,(i+1)*k,none⟩) lb cb]).run P w=.ok (.value (.bool false)) w:=λlb cb=>by rw[L.f29,OC w (ρ.t 24) (ρ.t 4) (ρ.t 9) L.t24 k L.z9 x ⟨g,(i+1)*k,none⟩ 1 vc lb cb hx u0 0 (hvs 0 u0 hu0) cur eb hg];rfl
 have hdl:(us.drop (i*k)).length=(n-i)*k:=by rw[dk,hul,qc]
 have hcp1:∀ty dc sc,(Builtin.copy_ #[ρ.t 24,ρ.t 24] ty #[.slice (some ⟨g,(i+1)*k,none⟩) (n-i) dc,.slice (some ⟨g,i*k,none⟩) (n+1-i) sc]).run P w.drew=.ok (goInt (n-i:Nat)) (w.drew.setCells g ((i+1)*k) (us.drop (i*k))):=λty dc sc=>yg w.drew (ρ.t 24) (ρ.t 24) ty (ρ.t 9) i0 g ((i+1)*k) (n-i) dc ⟨g,i*k,none⟩ (n+1-i) sc (us.drop (i*k)) L.t24 hi0 (n-i) (by simp only[H8];split<;>(rcases hk with rfl|rfl|rfl|rfl<;>omega)) (by rw[hdl,hz1]) (λt v ht=>by rw[sQ];exact hc _ v (by rwa [cF]at ht)) (λt ht=>hsp _ (by(rcases hk with rfl|rfl|rfl|rfl<;>omega))) (λt _=>hf _) (λv hv=>h1 v (jt hv))
 obtain⟨W1,hW1⟩:∃W1,W1=w.drew.setCells g ((i+1)*k) (us.drop (i*k)):=⟨_,rfl⟩;have hsp1:∀t,t<c*k->(W1.cell? ⟨g,t,none⟩).isSome=true:=λt ht=>by rw[hW1];exact qR g _ _ w.drew (λt ht=>hsp _ (by(rcases hk with rfl|rfl|rfl|rfl<;>omega))) _ (hsp t ht)
 obtain⟨W2,hW2⟩:∃W2,W2=W1.setCells g (i*k) vs:=⟨_,rfl⟩
 have hcp2:∀ty dc,(Builtin.copy_ #[ρ.t 24,ρ.t 24] ty #[.slice (some ⟨g,i*k,none⟩) (n+1-i) dc,.slice (some x) 1 vc]).run P W1=.ok (goInt (1:Nat)) W2:=λty dc=>by
  rw[hW2]
  exact yg W1 (ρ.t 24) (ρ.t 24) ty (ρ.t 9) i0 g (i*k) (n+1-i) dc x 1 vc vs L.t24 hi0 1 (by simp only[H8];split<;>(rcases hk with rfl|rfl|rfl|rfl<;>omega)) (by rw[hvl,hz1,Dc])
   (λt v ht=>by rw[hW1,cV g _ _ _ _ (λh _=>absurd (by rwa [jH]at h) hx)];exact hvs t v ht)
   (λt ht=>hsp1 _ (by(rcases hk with rfl|rfl|rfl|rfl<;>omega))) (λt _=>by rw[hW1,qx];exact hf _) h1v
 rw[<-hW1,<-hW2];rw[<-hW1]at hcp1;have hw1:IntKind.i64.wrap ((i:Int)+1)=(i:Int)+1:=by rw[dW];(rcases hk with rfl|rfl|rfl|rfl<;>omega)
 have hw2:IntKind.i64.wrap ((n:Int)+1)=(n:Int)+1:=by rw[dW];(rcases hk with rfl|rfl|rfl|rfl<;>omega)
 have hb1:(0:Int)<=(i:Int)+1:=by(rcases hk with rfl|rfl|rfl|rfl<;>omega)
 have hb5:(0:Int)<=(n:Int)+1:=by(rcases hk with rfl|rfl|rfl|rfl<;>omega)
 have htn:((i:Int)+1).toNat=i+1:=by(rcases hk with rfl|rfl|rfl|rfl<;>omega)
 have htn2:((n:Int)+1).toNat=n+1:=by(rcases hk with rfl|rfl|rfl|rfl<;>omega)
 have hb3:(i:Int)<=(n:Int)+1:=by(rcases hk with rfl|rfl|rfl|rfl<;>omega)
 have hb6:(i:Int)+1<=(n:Int)+1:=by(rcases hk with rfl|rfl|rfl|rfl<;>omega)
 have hb7:i<=n:=by(rcases hk with rfl|rfl|rfl|rfl<;>omega)
 have hb2:¬(c=i+1):=by(rcases hk with rfl|rfl|rfl|rfl<;>omega)
 have hb4:¬(c=i):=by(rcases hk with rfl|rfl|rfl|rfl<;>omega)
 have hz2:¬((i:Int)=(n:Int)):=by(rcases hk with rfl|rfl|rfl|rfl<;>omega)
 clear hW1 hW2 hsp1 hsp hf hvs h1v hc h1 hdl hu0 hvl hul;go_enter hf22,Body2.n22_ntmps ρ;go_wp2_with (simp only[hov]);go_region_law_o (refine Hc rfl _ _ (ρ.t 24) (ρ.t 24) rfl _ _ (by simp[Act.eval,Act.put]) (by simp[Act.eval,Act.put]) (hcp1 _ _ _) ?_);go_wp2_with (at_builtin;refine xw _ rfl _ _ (ρ.t 24) (ρ.t 24) rfl _ _ rfl rfl (hcp2 _ _) ?_);go_ret;exact⟨rfl,rfl⟩
theorem Za(L:IL P ρ k by' z T)(hk:k=1\/k=3\/k=4\/k=5)(a:Option Addr)(n c:Nat)(x:Addr)(vc:Nat)(us vs:List Value)(w:World)(hroom:c<n+1)(hn:n<=c)(hbig:(n+1)*by'<=140737488355328)(hul:us.length=n*k)(hvl:vs.length=k)
 (hnil:a=none->n=0) (hsp:∀b,a=some b->b.spot=none) (hc:∀b,a=some b->∀t u,us[t]?=some u->w.cell? (b.add t)=some u)
 (hvs:∀t u,vs[t]?=some u->w.cell? (x.add t)=some u) (h1v:∀u∈vs,u.oneCell'=true):
 Calls P (ρ.f 22) #[.slice a n c,.int .i64 n,.slice (some x) 1 vc] w λe w'=>e=.returned (.slice (some ⟨w.heap.size,0,none⟩) (n+1) (grownCap w (n+1) c (ρ.t 9)))/\w'=w.drew.alloc (.cells ((us++vs).toArray++Builtin.zeroCells z.cells (grownCap w (n+1) c (ρ.t 9)-(n+1))) (ρ.t 9)):=by
 have t0:=L.t0;have a0:=L.a0;have zz0:=L.zz0;have v0:=L.v0;have t3:=L.t3;have a3:=L.a3;have z3:=L.z3;have v3:=L.v3;have t4:=L.t4;have a4:=L.a4;have z4:=L.z4;have v4:=L.v4;have z9:=L.z9;have v9:=L.v9;have t24:=L.t24;have a24:=L.a24;have z24:=L.z24;have v24:=L.v24;have u0:=bj L.t0;have u3:=bj L.t3;have u4:=bj L.t4;have u24:=bj L.t24;obtain⟨nm,hnm,hf22⟩:=L.f22;obtain⟨i0,z0,hi0,hz0,hz1,hby,hzs⟩:=L.ok.info;have mixed:=L.mixed;have hy1:=kX (n+1) L.by0;have hsrc:Src P i0.size (ρ.t 24) (.slice (some x) 1 vc) 1 vs w:=by rw[hz1];exact Src.ofSlice w L.t24 x 1 vc vs (by(rcases hk with rfl|rfl|rfl|rfl<;>omega)) hvs h1v
 have hold:(Builtin.firstCells i0.size n (.slice a n c)).run P w.drew=.ok us.toArray w.drew:=by
  rw[hz1];cases a with
  |none=>have h0:=hnil rfl;subst h0;rw[dK.1 (by(rcases hk with rfl|rfl|rfl|rfl<;>omega):us.length=0)];exact run_firstCells_none w.drew k 0 0 c
  |some b=>exact th w.drew k n b n c us hul (λj v hj=>hc b rfl j v hj)
 have hrun:∀ty,(Builtin.append_ #[ρ.t 24,ρ.t 24] ty #[.slice a n c,.slice (some x) 1 vc]).run P w=_:=λty=>run_append_grow_src w (ρ.t 24) (ρ.t 24) ty (ρ.t 9) i0 z L.t24 hi0 (L.z0 hi0) a n c us hold (.slice (some x) 1 vc) 1 vs hsrc hroom (by(rcases hk with rfl|rfl|rfl|rfl<;>omega)) (by rw[hby];exact growslice_fits hroom hbig)
 obtain⟨W2,hW2⟩:∃W2,W2=w.drew.alloc (.cells ((us++vs).toArray++Builtin.zeroCells z.cells (grownCap w (n+1) c (ρ.t 9)-(n+1))) (ρ.t 9)):=⟨_,rfl⟩;obtain⟨C,hC⟩:∃C,C=grownCap w (n+1) c (ρ.t 9):=⟨_,rfl⟩;rw[<-hW2,<-hC]at hrun;rw[<-hW2,<-hC];clear hW2 hC hc hvs h1v hvl hul hold hsrc;cases a with
 |none=>have h0:=hnil rfl;subst h0;go_enter hf22,Body2.n22_ntmps ρ;go_wp2_with (at_builtin;refine Lib.wpList_append_run _ rfl _ _ _ _ rfl _ _ rfl rfl _ _ (hrun _) ?_);go_ret;exact⟨rfl,rfl⟩
 |some b=>obtain⟨ab,ao,asp⟩:=b;have:=hsp _ rfl;simp only at this;subst this;go_enter hf22,Body2.n22_ntmps ρ;go_wp2_with (at_builtin;refine Lib.wpList_append_run _ rfl _ _ _ _ rfl _ _ rfl rfl _ _ (hrun _) ?_);all_goals (go_ret;exact⟨rfl,rfl⟩)
theorem anf(L:IL P ρ k by' z T)(hk:k=1\/k=3\/k=4\/k=5)(g n c i:Nat)(x:Addr)(vc:Nat)(us vs:List Value)(w:World)(hi:i<n)(hroom:c<n+1)(hn:n<=c)(hm:c<=9223372036854775807)(hbig:(n+1)*by'<=140737488355328)(hul:us.length=n*k)(hvl:vs.length=k)
 (hc:∀t u,us[t]?=some u->w.cell? ⟨g,t,none⟩=some u) (h1:∀u∈us,u.oneCell'=true) (hvs:∀t u,vs[t]?=some u->w.cell? (x.add t)=some u) (h1v:∀u∈vs,u.oneCell'=true):
 Calls P (ρ.f 22) #[.slice (some ⟨g,0,none⟩) n c,.int .i64 i,.slice (some x) 1 vc] w λe w'=>e=.returned (.slice (some ⟨w.heap.size,0,none⟩) (n+1) (grownCap w (n+1) c (ρ.t 9)))/\w'=(((w.alloc (.cells ((us.take (i*k)).toArray++Builtin.zeroCells z.cells (n+1-i)++Builtin.zeroCells z.cells (grownCap w (n+1) c (ρ.t 9)-(n+1))) (ρ.t 9))).drew.setCells w.heap.size (i*k) vs).drew).setCells w.heap.size ((i+1)*k) (us.drop (i*k)):=by
 have t0:=L.t0;have a0:=L.a0;have zz0:=L.zz0;have v0:=L.v0;have t3:=L.t3;have a3:=L.a3;have z3:=L.z3;have v3:=L.v3;have t4:=L.t4;have a4:=L.a4;have z4:=L.z4;have v4:=L.v4;have z9:=L.z9;have v9:=L.v9;have t24:=L.t24;have a24:=L.a24;have z24:=L.z24;have v24:=L.v24;have u0:=bj L.t0;have u3:=bj L.t3;have u4:=bj L.t4;have u24:=bj L.t24;obtain⟨nm,hnm,hf22⟩:=L.f22;obtain⟨i0,z0,hi0,hz0,hz1,hby,hzs⟩:=L.ok.info;have mixed:=L.mixed;have hy1:=kX (n+1) L.by0;have hbw:g<w.heap.size:=block_lt_of_cell (hc 0 _ (aw (by(rcases hk with rfl|rfl|rfl|rfl<;>omega))));have hxw:x.block<w.heap.size:=by have:=block_lt_of_cell (hvs 0 _ (aw (by(rcases hk with rfl|rfl|rfl|rfl<;>omega))));rwa [jH]at this
 have htl:(us.take (i*k)).length=i*k:=by rw[aX,hul];(rcases hk with rfl|rfl|rfl|rfl<;>omega)
 have hold:(Builtin.firstCells i0.size i (.slice (some ⟨g,0,none⟩) i c)).run P w.drew=.ok (us.take (i*k)).toArray w.drew:=by
  rw[hz1]
  exact th w.drew k i ⟨g,0,none⟩ i c (us.take (i*k)) htl (λj v hj=>by
   rw[sQ,cg];rw[ct]at hj;split at hj
   .exact hc j v hj
   .cases hj)
 have hkk:(n:Int)+1-(i:Int)=((n+1-i:Nat):Int):=by(rcases hk with rfl|rfl|rfl|rfl<;>omega)
 have hik:i+(n+1-i)=n+1:=by(rcases hk with rfl|rfl|rfl|rfl<;>omega)
 have hy2:(n+1-i)*by'<=(n+1)*by':=dL _ (by(rcases hk with rfl|rfl|rfl|rfl<;>omega))
 have hrz:∀ty,(Builtin.append_ #[ρ.t 24,ρ.t 3] ty #[.slice (some ⟨g,0,none⟩) i c,.int .i64 ((n:Int)+1-(i:Int))]).run P w=
  .ok (.slice (some ⟨w.heap.size,0,none⟩) (n+1) (grownCap w (n+1) c (ρ.t 9))) (w.drew.alloc (.cells ((us.take (i*k)).toArray++Builtin.zeroCells z.cells (n+1-i)++Builtin.zeroCells z.cells (grownCap w (n+1) c (ρ.t 9)-(n+1))) (ρ.t 9))):=λty=>by
  have h:=Lib.run_append_grow_zeros w (ρ.t 24) (ρ.t 3) ty (ρ.t 9) i0 z .i64 .i64 L.t24 L.t3 hi0 (L.z0 hi0) (some ⟨g,0,none⟩) i c (us.take (i*k)) hold (n+1-i) (by(rcases hk with rfl|rfl|rfl|rfl<;>omega)) (by(rcases hk with rfl|rfl|rfl|rfl<;>omega)) (by(rcases hk with rfl|rfl|rfl|rfl<;>omega)) (by(rcases hk with rfl|rfl|rfl|rfl<;>omega)) (by rw[hby];(rcases hk with rfl|rfl|rfl|rfl<;>omega)) (by rw[hby,hik];exact growslice_fits hroom hbig);rw[hik]at h;rw[hkk];exact h
 obtain⟨G,hG⟩:∃G,G=grownCap w (n+1) c (ρ.t 9):=⟨_,rfl⟩;obtain⟨ROW,hROW⟩:∃ROW:Array Value,ROW=(us.take (i*k)).toArray++Builtin.zeroCells z.cells (n+1-i)++Builtin.zeroCells z.cells (G-(n+1)):=⟨_,rfl⟩;rw[<-hG]at hrz ⊢;rw[<-hROW]at hrz ⊢;have hzl:∀m:Nat,(Builtin.zeroCells z.cells m).size=m*k:=λm=>by have:=L.zl m;simpa using this
 have hRl:(n+1)*k<=ROW.size:=by
  rw[hROW,iW,iW,hzl,hzl,fk,htl]
  (rcases hk with rfl|rfl|rfl|rfl<;>omega)
 obtain⟨W1,hW1⟩:∃W1,W1=w.drew.alloc (.cells ROW (ρ.t 9)):=⟨_,rfl⟩;rw[<-hW1]at hrz;have hN:∀j,j<(n+1)*k->(W1.cell? ⟨w.heap.size,j,none⟩).isSome=true:=λj hj=>by rw[hW1,si (w:=w.drew) ROW _ w.heap.size j rfl,sY (by(rcases hk with rfl|rfl|rfl|rfl<;>omega))];rfl
 have hNf:∀j,W1.frozen? ⟨w.heap.size,j,none⟩=false:=λj=>by rw[hW1];exact World.frozen?_alloc_at (w:=w.drew) ROW _ w.heap.size j rfl
 have hOb:∀j v,w.cell? ⟨g,j,none⟩=some v->W1.cell? ⟨g,j,none⟩=some v:=λj v h=>by rw[hW1,World.cell?_alloc_past (w:=w.drew) _ g j hbw];exact h
 have hOv:∀j v,w.cell? (x.add j)=some v->W1.cell? (x.add j)=some v:=λj v h=>by rw[hW1];refine(zp ?_).trans h;rw[jH];exact Iv w.drew _ x.block hxw
 have hdl:(us.drop (i*k)).length=(n-i)*k:=by rw[dk,hul,qc]
 have hcpA:∀(W:World),(∀x,W.cell? x=W1.cell? x)->(∀x,W.frozen? x=W1.frozen? x)->∀ty dc,(Builtin.copy_ #[ρ.t 24,ρ.t 24] ty #[.slice (some ⟨w.heap.size,i*k,none⟩) (n+1-i) dc,.slice (some x) 1 vc]).run P W=.ok (goInt (1:Nat)) (W.setCells w.heap.size (i*k) vs):=λW hWc hWf ty dc=>yg W (ρ.t 24) (ρ.t 24) ty (ρ.t 9) i0 w.heap.size (i*k) (n+1-i) dc x 1 vc vs L.t24 hi0 1 (by simp only[H8];split<;>(rcases hk with rfl|rfl|rfl|rfl<;>omega)) (by rw[hvl,hz1,Dc]) (λj v hj=>by rw[hWc];exact hOv _ v (hvs j v hj)) (λj hj=>by rw[hWc];exact hN _ (by(rcases hk with rfl|rfl|rfl|rfl<;>omega))) (λj hj=>by rw[hWf];exact hNf _) h1v
 have hGn:n+1<=G:=by rw[hG];exact Dg w _ _ _
 have hG63:G<=9223372036854775807:=by
  have:=qy w (n+1) c (ρ.t 9) (by unfold maxLen;(rcases hk with rfl|rfl|rfl|rfl<;>omega));rw[<-hG]at this;unfold maxLen at this
  (rcases hk with rfl|rfl|rfl|rfl<;>omega)
 have hGi:¬(G=i):=by(rcases hk with rfl|rfl|rfl|rfl<;>omega)
 have hGim:¬(G=i+1):=by(rcases hk with rfl|rfl|rfl|rfl<;>omega)
 have hci:¬(c=i):=by(rcases hk with rfl|rfl|rfl|rfl<;>omega)
 have hbN:g≠w.heap.size:=by(rcases hk with rfl|rfl|rfl|rfl<;>omega)
 have hcpB:∀(W:World),(∀x,W.cell? x=(W1.setCells w.heap.size (i*k) vs).cell? x)->(∀x,W.frozen? x=(W1.setCells w.heap.size (i*k) vs).frozen? x)->∀ty dc sc,(Builtin.copy_ #[ρ.t 24,ρ.t 24] ty #[.slice (some ⟨w.heap.size,(i+1)*k,none⟩) (n-i) dc,.slice (some ⟨g,i*k,none⟩) (n-i) sc]).run P W=.ok (goInt (n-i:Nat)) (W.setCells w.heap.size ((i+1)*k) (us.drop (i*k))):=λW hWc hWf ty dc sc=>
  yg W (ρ.t 24) (ρ.t 24) ty (ρ.t 9) i0 w.heap.size ((i+1)*k) (n-i) dc ⟨g,i*k,none⟩ (n-i) sc (us.drop (i*k)) L.t24 hi0 (n-i) (by simp only[H8];split<;>(rcases hk with rfl|rfl|rfl|rfl<;>omega)) (by rw[hdl,hz1])
   (λj v hj=>by rw[sQ,hWc,cV _ _ _ _ _ (λh _=>absurd h hbN)];exact hOb _ v (hc (i*k+j) v (by rwa [cF]at hj)))
   (λj hj=>by rw[hWc];exact qR _ _ _ _ (λt ht=>hN _ (by(rcases hk with rfl|rfl|rfl|rfl<;>omega))) _ (hN _ (by(rcases hk with rfl|rfl|rfl|rfl<;>omega))))
   (λj hj=>by rw[hWf,qx];exact hNf _) (λv hv=>h1 v (jt hv))
 subst hW1;have hE1:∀x,((w.alloc (.cells ROW (ρ.t 9))).drew).cell? x=(w.drew.alloc (.cells ROW (ρ.t 9))).cell? x:=λx=>rfl
 have hE2:∀x,((w.alloc (.cells ROW (ρ.t 9))).drew).frozen? x=(w.drew.alloc (.cells ROW (ρ.t 9))).frozen? x:=λx=>rfl
 have hF1:∀x,(((w.alloc (.cells ROW (ρ.t 9))).drew.setCells w.heap.size (i*k) vs).drew).cell? x=((w.drew.alloc (.cells ROW (ρ.t 9))).setCells w.heap.size (i*k) vs).cell? x:=λx=>rfl
 have hF2:∀x,(((w.alloc (.cells ROW (ρ.t 9))).drew.setCells w.heap.size (i*k) vs).drew).frozen? x=((w.drew.alloc (.cells ROW (ρ.t 9))).setCells w.heap.size (i*k) vs).frozen? x:=λx=>rfl
 have hw1:IntKind.i64.wrap ((i:Int)+1)=(i:Int)+1:=by rw[dW];(rcases hk with rfl|rfl|rfl|rfl<;>omega)
 have hb1:(0:Int)<=(i:Int)+1:=by(rcases hk with rfl|rfl|rfl|rfl<;>omega)
 have htn:((i:Int)+1).toNat=i+1:=by(rcases hk with rfl|rfl|rfl|rfl<;>omega)
 have hb3:(i:Int)<=(n:Int)+1:=by(rcases hk with rfl|rfl|rfl|rfl<;>omega)
 have hb6:(i:Int)+1<=(n:Int)+1:=by(rcases hk with rfl|rfl|rfl|rfl<;>omega)
 have hin:i<=n:=by(rcases hk with rfl|rfl|rfl|rfl<;>omega)
 have hz2:¬((i:Int)=(n:Int)):=by(rcases hk with rfl|rfl|rfl|rfl<;>omega)
 have hz3:(c:Int)<(n:Int)+1:=by(rcases hk with rfl|rfl|rfl|rfl<;>omega)
 clear hkk hik hold hROW hG hRl hc hvs h1 h1v hOb hOv hN hNf hzl htl hdl hvl hul;go_enter hf22,Body2.n22_ntmps ρ
 go_wp2_with (first
  |(at_builtin;refine Lib.wpList_append_run _ rfl _ _ _ _ rfl _ _ rfl rfl _ _ (hrz _) ?_)
  |(at_builtin;refine xw _ rfl _ _ (ρ.t 24) (ρ.t 24) rfl _ _ rfl rfl (hcpA _ hE1 hE2 _ _) ?_)
  |(at_builtin;refine xw _ rfl _ _ (ρ.t 24) (ρ.t 24) rfl _ _ rfl rfl (hcpB _ (λ_=>rfl) (λ_=>rfl) _ _ _) ?_))
 go_region_law_o (refine Hc rfl _ _ (ρ.t 24) (ρ.t 24) rfl (.slice (some ⟨w.heap.size,(i+1)*k,none⟩) (n-i) (G-(i+1))) (.slice (some ⟨g,i*k,none⟩) (n-i) (c-i)) (by simp[Act.eval,Act.put]) (by simp[Act.eval,Act.put]) (hcpB _ hF1 hF2 3 (G-(i+1)) (c-i)) ?_);go_wp2;go_ret;exact⟨rfl,rfl⟩
theorem AG{v:Value}(h:vA v=true):v.oneCell'=true:=(rJ h).2
theorem xx(L:IL P ρ k by' z T)(hk:k=1\/k=3\/k=4\/k=5):J7 P (ρ.f 22) ⟨[],[.row (ρ.t 9) T,.v (.int .i64),.v (.slc T)],[],.own (ρ.t 9) T,λz=>JW by' z.1 z.2.1 z.2.2.1⟩:=by
 rintro⟨els,i,v,⟨⟩⟩ o ho U0 B A vs0 w m hv;obtain⟨i,y,rfl,rfl,hi,hbig,rfl⟩:=avB (show JW by' els i v=some o from ho);have hy1:=kX (els.length+1) L.by0;have hv:hL (env U0 B A [] [.own (ρ.t 9) T els] w) [.row 0,.int .i64 i,.sl T [y]] vs0:=hv;have m:Mem w U0 (Ow B A [] [.own (ρ.t 9) T els]) B A [] [.own (ρ.t 9) T els] w:=m;show nz P (ρ.f 22) vs0.toArray w λv w'=>∃B' A' r pb' rw',Mem w U0 (Ow B A [] [.own (ρ.t 9) T els]) B' A' pb' rw' w'/\r.h (env U0 B' A' pb' rw' w') v/\(∀i,live [] i->live pb' i/\B' i=B i)/\pb'=[]/\(r,rw')=(DV.row 0,[DR.own (ρ.t 9) T (els.take i++y::els.drop i)])
 simp only[hL,DV.h]at hv;obtain⟨_,_,rfl,⟨e,t,l2,hj2,rfl⟩,_,_,rfl,rfl,_,_,rfl,⟨av,vc,hsv,_,_,hel0⟩,rfl⟩:=hv;have hj2:some (DR.own (ρ.t 9) T els)=some (.own e t l2):=hj2;simp only[ak,DR.own.injEq]at hj2;obtain⟨rfl,rfl,hl2⟩:=hj2;cases hl2;simp only[dO,oA]at hsv;subst hsv;obtain⟨vs,hvs,hat⟩:=hel0 0 y rfl;have hvs:T.h (Us U0 B A [] [.own (ρ.t 9) T els]) w y vs:=hvs;have hvl:vs.length=k:=(T.Bn hvs).trans L.ts;have h1v:∀u∈vs,u.oneCell'=true:=λu hu=>AG (T.Xf hvs u hu)
 obtain⟨x,rfl,hxU,hxw⟩:∃x,av=some x/\¬Us U0 B A [] [.own (ρ.t 9) T els] x.block/\x.block<w.heap.size:=by obtain⟨x,h1,h2,h3,_⟩:=hat 0 vs[0] (aw (by(rcases hk with rfl|rfl|rfl|rfl<;>omega)));exact⟨x,h1,h2,h3⟩
 have hcv:∀t u,vs[t]?=some u->w.cell? (x.add t)=some u:=λt u ht=>by
  obtain⟨x',h1,_,_,h4⟩:=hat t u ht;simp only[ak]at h1;subst h1;have h4:w.cell? (x.add (0*T.size+t))=some u:=h4
  rwa [oE,cg]at h4
 obtain⟨us,⟨hxl,ho⟩,hus⟩:=m.row 0 (ρ.t 9) T els rfl;have hxl:us.length=els.length*k:=by rw[<-L.ts];exact hxl
 have h1:∀u∈us,u.oneCell'=true:=λu hu=>AG (DT.Ep hus u hu)
 change nz P (ρ.f 22) #[Value.slice (A 0).1 els.length (A 0).2,_,_] w _;have hzl:∀m:Nat,(Builtin.zeroCells z.cells m).size=m*k:=λm=>by have:=L.zl m;simpa using this
 generalize hA1:(A 0).1=a at *;generalize hA2:(A 0).2=c at*
 have grow:(∀b,a=some b->b.spot=none)->(a=none->els.length=0)->(∀b,a=some b->∀t u,us[t]?=some u->w.cell? (b.add t)=some u)->els.length<=c->c<els.length+1->i=els.length->
  nz P (ρ.f 22) #[Value.slice a els.length c,.int .i64 (i:Int),.slice (some x) 1 vc] w λv w'=>∃B' A' r pb' rw',Mem w U0 (Ow B A [] [.own (ρ.t 9) T els]) B' A' pb' rw' w'/\r.h (env U0 B' A' pb' rw' w') v/\(∀i,live [] i->live pb' i/\B' i=B i)/\pb'=[]/\(r,rw')=(DV.row 0,[DR.own (ρ.t 9) T (els.take i++y::els.drop i)]):=by
  intro hsp hnil hc hnc hroom hie;subst hie;refine⟨.inl ⟨L.hb,(Za L hk a els.length c x vc us vs w hroom hnc hbig hxl hvl hnil hsp hc hcv h1v).mono λe w' ⟨he,hw⟩=>⟨_,he,?_⟩⟩⟩;have hC:=Dg w (els.length+1) c (ρ.t 9);have hC2:=qy w (els.length+1) c (ρ.t 9) (by rw[ic];(rcases hk with rfl|rfl|rfl|rfl<;>omega));rw[hw];generalize grownCap w (els.length+1) c (ρ.t 9)=C at *;refine RP (k:=k) L.ts (us:=us) (vs:=vs) m hus hvs hi rfl rfl rfl (by simp) (λb hb _=>Iv w.drew _ b hb) (.inl (au _)) (kM w.drew _) ?_ ?_ hC hC2
  .rw[iW,hzl,fk,ap,hxl,hvl];(rcases hk with rfl|rfl|rfl|rfl<;>omega)
  .have hcell:∀t u,(us++vs)[t]?=some u->(w.drew.alloc (.cells ((us++vs).toArray++Builtin.zeroCells z.cells (C-(els.length+1))) (ρ.t 9))).cell? ⟨w.heap.size,t,none⟩=some u:=λt u ht=>by have hlt:=(ay.1 ht).1;rw[si (w:=w.drew) _ _ w.heap.size t rfl,nf (by simpa using hlt),List.getElem?_toArray];exact ht
   rw[<-hxl,br,fH,cy];exact hcell
 rcases ho with⟨he,hn⟩|⟨g,cap,cur,heq,hbase,hg,hn1,hn2,hn3,hn4⟩
 .simp only[dh]at he;obtain⟨rfl,_,rfl⟩:=he;refine grow (by simp) (λ_=>hn) (by simp) (by(rcases hk with rfl|rfl|rfl|rfl<;>omega)) (by(rcases hk with rfl|rfl|rfl|rfl<;>omega)) (by(rcases hk with rfl|rfl|rfl|rfl<;>omega))
 simp only[dh]at heq;obtain⟨rfl,_,rfl⟩:=heq;have hn3:cur.size=c*k:=by rw[<-L.ts];exact hn3
 have hn4:cur.toList.take (els.length*k)=us:=by rw[<-L.ts];exact hn4
 have hgl:g<w.heap.size:=(cq.1 hg).1;have hxg:x.block≠g:=λe=>hxU (.inr ⟨true,0,_,_,rfl,by simp,hA1,e.symm⟩)
 have hc:∀t u,us[t]?=some u->w.cell? ⟨g,t,none⟩=some u:=λt u ht=>by
  have ht':t<us.length:=(ay.1 ht).1;have e1:(cur.toList.take (els.length*k))[t]?=us[t]?:=by rw[hn4]
  rw[dx (by(rcases hk with rfl|rfl|rfl|rfl<;>omega)),ht,dt]at e1;simp[World.cell?,hg,e1]
 have hsp:∀t,t<c*k->(w.cell? ⟨g,t,none⟩).isSome=true:=λt ht=>by simp[World.cell?,hg,hn3,ht]
 have hf:∀t,w.frozen? ⟨g,t,none⟩=false:=λt=>by simp[World.frozen?,hg]
 have hm:c<=9223372036854775807:=by rw[ic]at hn2;exact hn2
 by_cases hroom:els.length+1<=c
 .by_cases hie:i=els.length
  .subst hie;refine⟨.inl ⟨L.hb,(Y' L hk g els.length c x vc vs w hroom hm hvl hsp hf hcv h1v).mono λe w' ⟨he,hw⟩=>⟨_,he,?_⟩⟩⟩;obtain⟨cur1,hg1,hs1⟩:=Aj (o:=els.length*k) (vs:=vs) (w:=w) hg;obtain⟨a1,a2,a3,a4⟩:=sw g (els.length*k) vs w;rw[hw];refine RP (k:=k) L.ts (us:=us) (vs:=vs) m hus hvs hi a1 a2 a3 (by rw[a4];exact au _) (λb hb hn=>Ai λh=>hn _ hA1 h.symm) (.inr ⟨_,hA1,rfl⟩) hg1 (by rw[hs1,hn3]) ?_ hroom hn2;refine OE hxl hvl (au _) (λt u ht hu=>?_) (λt u hu=>?_) (λt u hu=>?_)
   .rw[cV g _ _ _ _ (λ_ _=>.inl ht)];exact hc t u hu
   .have h4:=(ay.1 hu).1;have:=gq g vs (els.length*k) w (λq hq=>hsp _ (by(rcases hk with rfl|rfl|rfl|rfl<;>omega))) t h4;rw[this,<-hu,aw h4]
   .rw[wF (by(rcases hk with rfl|rfl|rfl|rfl<;>omega))]at hu;simp at hu
  .have hlt:i<els.length:=by(rcases hk with rfl|rfl|rfl|rfl<;>omega)
   refine⟨.inl ⟨L.hb,(akb L hk g els.length c i x vc us vs cur (ρ.t 9) w hlt hroom hm hxl hvl hg hxg hc h1 hsp hf hcv h1v).mono λe w' ⟨he,hw⟩=>⟨_,he,?_⟩⟩⟩;obtain⟨cur1,hg1,hs1⟩:=Aj (o:=(i+1)*k) (vs:=us.drop (i*k)) (w:=w.drew) hg;obtain⟨cur2,hg2,hs2⟩:=Aj (o:=i*k) (vs:=vs) hg1;obtain⟨a1,a2,a3,a4⟩:=sw g ((i+1)*k) (us.drop (i*k)) w.drew;obtain⟨b1,b2,b3,b4⟩:=sw g (i*k) vs (w.drew.setCells g ((i+1)*k) (us.drop (i*k)));have hdl:(us.drop (i*k)).length=(els.length-i)*k:=by rw[dk,hxl,qc]
   have hsp1:∀t,t<c*k->((w.drew.setCells g ((i+1)*k) (us.drop (i*k))).cell? ⟨g,t,none⟩).isSome=true:=λt ht=>qR g _ _ w.drew (λt ht=>hsp _ (by(rcases hk with rfl|rfl|rfl|rfl<;>omega))) _ (hsp t ht)
   rw[hw];refine RP (k:=k) L.ts (us:=us) (vs:=vs) m hus hvs hi (b1.trans a1) (b2.trans a2) (b3.trans a3) (by rw[b4,a4];exact au _) (λb hb hn=>?_) (.inr ⟨_,hA1,rfl⟩) hg2 (by rw[hs2,hs1,hn3]) ?_ hroom hn2
   .have hne:b≠g:=λh=>hn _ hA1 h.symm
    rw[Ai hne,Ai hne];rfl
   .refine OE hxl hvl hi (λt u ht hu=>?_) (λt u hu=>?_) (λt u hu=>?_)
    .rw[cV g _ _ _ _ (λ_ _=>.inl ht),cV g _ _ _ _ (λ_ _=>.inl (by show t<(i+1)*k;(rcases hk with rfl|rfl|rfl|rfl<;>omega)))];exact hc t u hu
    .have h4:=(ay.1 hu).1;have:=gq g vs (i*k) (w.drew.setCells g ((i+1)*k) (us.drop (i*k))) (λq hq=>hsp1 _ (by(rcases hk with rfl|rfl|rfl|rfl<;>omega))) t h4;rw[this,<-hu,aw h4]
    .have h4:=(ay.1 hu).1;rw[cV g _ _ _ _ (λ_ _=>.inr (by show i*k+vs.length<=(i+1)*k+t;(rcases hk with rfl|rfl|rfl|rfl<;>omega)))];have:=gq g (us.drop (i*k)) ((i+1)*k) w.drew (λq hq=>hsp _ (by(rcases hk with rfl|rfl|rfl|rfl<;>omega))) t h4;rw[this,<-hu,aw h4]
 .by_cases hie:i=els.length
  .refine grow (λb hb=>by cases hb;rfl) (by simp) (λb hb t u hu=>?_) hn1 (by(rcases hk with rfl|rfl|rfl|rfl<;>omega)) hie;cases hb;rw[sQ,cg];exact hc t u hu
  .have hlt:i<els.length:=by(rcases hk with rfl|rfl|rfl|rfl<;>omega)
   refine⟨.inl ⟨L.hb,(anf L hk g els.length c i x vc us vs w hlt (by(rcases hk with rfl|rfl|rfl|rfl<;>omega)) hn1 hm hbig hxl hvl hc h1 hcv h1v).mono λe w' ⟨he,hw⟩=>⟨_,he,?_⟩⟩⟩;have hC:=Dg w (els.length+1) c (ρ.t 9);have hC2:=qy w (els.length+1) c (ρ.t 9) (by rw[ic];(rcases hk with rfl|rfl|rfl|rfl<;>omega));rw[hw];generalize grownCap w (els.length+1) c (ρ.t 9)=C at *;generalize hROW:(us.take (i*k)).toArray++Builtin.zeroCells z.cells (els.length+1-i)++Builtin.zeroCells z.cells (C-(els.length+1))=ROW;have htl:(us.take (i*k)).length=i*k:=by rw[aX,hxl];(rcases hk with rfl|rfl|rfl|rfl<;>omega)
   have hRs:ROW.size=C*k:=by rw[<-hROW,iW,iW,hzl,hzl,fk,htl];(rcases hk with rfl|rfl|rfl|rfl<;>omega)
   have hRt:∀t,t<i*k->ROW[t]?=us[t]?:=λt ht=>by rw[<-hROW,Array.append_assoc,nf (by rw[fk];(rcases hk with rfl|rfl|rfl|rfl<;>omega)),List.getElem?_toArray,dx ht]
   have hg0:(w.alloc (.cells ROW (ρ.t 9))).drew.heap[w.heap.size]?=some (.cells ROW (ρ.t 9) (0,0)):=kM w _;obtain⟨cur1,hg1,hs1⟩:=Aj (o:=i*k) (vs:=vs) hg0;have hg1':((w.alloc (.cells ROW (ρ.t 9))).drew.setCells w.heap.size (i*k) vs).drew.heap[w.heap.size]?=some (.cells cur1 (ρ.t 9) (0,0)):=hg1;obtain⟨cur2,hg2,hs2⟩:=Aj (o:=(i+1)*k) (vs:=us.drop (i*k)) hg1';obtain⟨a1,a2,a3,a4⟩:=sw w.heap.size (i*k) vs (w.alloc (.cells ROW (ρ.t 9))).drew;obtain⟨b1,b2,b3,b4⟩:=sw w.heap.size ((i+1)*k) (us.drop (i*k)) ((w.alloc (.cells ROW (ρ.t 9))).drew.setCells w.heap.size (i*k) vs).drew;have hdl:(us.drop (i*k)).length=(els.length-i)*k:=by rw[dk,hxl,qc]
   have hcell0:∀t,(w.alloc (.cells ROW (ρ.t 9))).drew.cell? ⟨w.heap.size,t,none⟩=ROW[t]?:=λt=>si (w:=w) ROW _ w.heap.size t rfl
   have hsp0:∀t,t<C*k->((w.alloc (.cells ROW (ρ.t 9))).drew.cell? ⟨w.heap.size,t,none⟩).isSome=true:=λt ht=>by rw[hcell0,sY (by(rcases hk with rfl|rfl|rfl|rfl<;>omega))];rfl
   have hsp1:∀t,t<C*k->(((w.alloc (.cells ROW (ρ.t 9))).drew.setCells w.heap.size (i*k) vs).drew.cell? ⟨w.heap.size,t,none⟩).isSome=true:=λt ht=>qR w.heap.size _ _ (w.alloc (.cells ROW (ρ.t 9))).drew (λt ht=>hsp0 _ (by(rcases hk with rfl|rfl|rfl|rfl<;>omega))) _ (hsp0 t ht)
   refine RP (k:=k) L.ts (us:=us) (vs:=vs) m hus hvs hi (b1.trans a1) (b2.trans a2) (b3.trans a3) (by rw[b4];show _<=(World.setCells _ _ _ _).heap.size;rw[a4];simp[World.drew]) (λb hb hn=>?_) (.inl (au _)) hg2 (by rw[hs2,hs1,hRs]) ?_ hC hC2
   .have hne:b≠w.heap.size:=by(rcases hk with rfl|rfl|rfl|rfl<;>omega)
    rw[Ai hne];show((w.alloc (.cells ROW (ρ.t 9))).drew.setCells w.heap.size (i*k) vs).heap[b]?=_;rw[Ai hne];exact Iv w _ b hb
   .refine OE hxl hvl hi (λt u ht hu=>?_) (λt u hu=>?_) (λt u hu=>?_)
    .rw[cV _ _ _ _ _ (λ_ _=>.inl (by show t<(i+1)*k;(rcases hk with rfl|rfl|rfl|rfl<;>omega)))];show((w.alloc (.cells ROW (ρ.t 9))).drew.setCells w.heap.size (i*k) vs).cell? _=_;rw[cV _ _ _ _ _ (λ_ _=>.inl ht),hcell0,hRt t ht];exact hu
    .have h4:=(ay.1 hu).1;rw[cV _ _ _ _ _ (λ_ _=>.inl (by show i*k+t<(i+1)*k;(rcases hk with rfl|rfl|rfl|rfl<;>omega)))];show((w.alloc (.cells ROW (ρ.t 9))).drew.setCells w.heap.size (i*k) vs).cell? _=_;have:=gq w.heap.size vs (i*k) (w.alloc (.cells ROW (ρ.t 9))).drew (λq hq=>hsp0 _ (by(rcases hk with rfl|rfl|rfl|rfl<;>omega))) t h4;rw[this,<-hu,aw h4]
    .have h4:=(ay.1 hu).1;have:=gq w.heap.size (us.drop (i*k)) ((i+1)*k) ((w.alloc (.cells ROW (ρ.t 9))).drew.setCells w.heap.size (i*k) vs).drew (λq hq=>hsp1 _ (by(rcases hk with rfl|rfl|rfl|rfl<;>omega))) t h4;rw[this,<-hu,aw h4]
end
end Go.Proofs.YthghpahghjppjaaGreat.KJ
namespace Go.Proofs.YthghpahghjppjaaGreat
open Go Go.Vc Go.RowKit Go.Lib Go.Sort Go.Proofs Go.Shelf
set_option maxRecDepth 1000000
theorem axX(z:Value)(n:Nat):(Builtin.zeroCells z.cells n).toList.length=n*z.cells.size:=by simp[Builtin.zeroCells]
def atM(f o sl el:Nat):Ren:=⟨λi=>if i=22 then f else if i=29 then o else if i=30 then o+1 else i,λi=>if i=24 then sl else if i=9 then el else i,id⟩
theorem afj{f o sl el k by':Nat}{z:Value}{T:DT}(hf:Bears Tryz.prog f (Body2.n22 (atM f o sl el)))
 (ho:∀(args:Array Value) (w:World),(callFunc o args).run Tryz.prog w=((Extern.SlicesOverlaps.overlaps #[sl,sl] #[4] args).run Tryz.prog w).andThen λv w'=>.ok (.value v) w')
 (by0:0<by') (ok:Ha Tryz.prog sl el k by') (zz:(Tryz.prog.info? el).bind TypeInfo.zero=some z) (zs:z.cells.size=k) (ts:T.size=k) (hb:qj Tryz.prog f)
 (z9:∀w,(Go.sizeOf el).run Tryz.prog w=.ok k w) (v9:∀w,(zeroValue el).run Tryz.prog w=.ok z w)
 (t24:Tryz.prog.underlying sl=some (.slice el)) (a24:∀w,(isAgg sl).run Tryz.prog w=.ok false w) (z24:∀w,(Go.sizeOf sl).run Tryz.prog w=.ok 1 w) (v24:∀w,(zeroValue sl).run Tryz.prog w=.ok (.slice none 0 0) w):
 KJ.IL Tryz.prog (atM f o sl el) k by' z T where
 mixed:=YV
 f22:=hf
 f29:=ho
 by0:=by0
 ok:=ok
 z0:=λh=>by change Tryz.prog.info? el=_ at h;rw[h]at zz;exact zz
 zl:=λn=>by rw[axX,zs]
 ts:=ts
 hb:=hb
 t0:=by kernel_rfl
 a0:=λw=>by kernel_rfl
 zz0:=λw=>by kernel_rfl
 v0:=λw=>by kernel_rfl
 t3:=by kernel_rfl
 a3:=λw=>by kernel_rfl
 z3:=λw=>by kernel_rfl
 v3:=λw=>by kernel_rfl
 t4:=by kernel_rfl
 a4:=λw=>by kernel_rfl
 z4:=λw=>by kernel_rfl
 v4:=λw=>by kernel_rfl
 z9:=z9
 v9:=v9
 t24:=t24
 a24:=a24
 z24:=z24
 v24:=v24
end Go.Proofs.YthghpahghjppjaaGreat
namespace Go.Proofs.YthghpahghjppjaaGreat
open Go Go.Vc Go.RowKit Go.Lib Go.Sort Go.Proofs Go.Shelf Go.Proofs.YthghpahghjppjaaGreat
theorem Y6:J7 Tryz.prog 429 ⟨[],[.row 104 Y0,.v (.int .i64),.v (.slc Y0)],[],.own 104 Y0,λz=>Es z.1 z.2.1 z.2.2.1⟩:=KJ.xx (afj (f:=429) (o:=474) (z:=.agg #[.int .i64 0,.int .i64 0,.slice none 0 0]) ⟨_,by kernel_rfl,Tryz.func429⟩ (gQ Tryz.func474 (by kernel_rfl) (by kernel_rfl) (by kernel_rfl) (e:=Extern.SlicesOverlaps.overlaps #[30,30] #[4]) (by kernel_rfl)) (by decide) (qQ (by kernel_rfl) (by kernel_rfl) (by decide)) (by kernel_rfl) rfl rfl ⟨_,Tryz.func429,by decide +kernel,rfl⟩ (λw=>by kernel_rfl) (λw=>by kernel_rfl) (by kernel_rfl) (λw=>by kernel_rfl) (λw=>by kernel_rfl) λw=>by kernel_rfl) (by decide)
def abX:KC Tryz.prog:=⟨429,λ_=>.ls ⟨[],[.row 104 Y0,.v (.int .i64),.v (.slc Y0)],[],.own 104 Y0,λz=>Es z.1 z.2.1 z.2.2.1⟩,Y6⟩
end Go.Proofs.YthghpahghjppjaaGreat
namespace Go.Proofs.YthghpahghjppjaaGreat.Lot
open Go Go.Vc Go.RowKit Go.Lib Go.Sort Go.Proofs Go.Shelf Go.Proofs.YthghpahghjppjaaGreat
theorem Y7:J7 Tryz.prog 401 ⟨[],[.row 92 YY,.v (.int .i64),.v (.slc YY)],[],.own 92 YY,λz=>Ik z.1 z.2.1 z.2.2.1⟩:=KJ.xx (afj (f:=401) (o:=450) (z:=.agg #[.int .i64 0,.int .i64 0,.int .i64 0]) ⟨_,by kernel_rfl,Tryz.func401⟩ (gQ Tryz.func450 (by kernel_rfl) (by kernel_rfl) (by kernel_rfl) (e:=Extern.SlicesOverlaps.overlaps #[54,54] #[4]) (by kernel_rfl)) (by decide) (qQ (by kernel_rfl) (by kernel_rfl) (by decide)) (by kernel_rfl) rfl rfl ⟨_,Tryz.func401,by decide +kernel,rfl⟩ (λw=>by kernel_rfl) (λw=>by kernel_rfl) (by kernel_rfl) (λw=>by kernel_rfl) (λw=>by kernel_rfl) λw=>by kernel_rfl) (by decide)
def abY:KC Tryz.prog:=⟨401,λ_=>.ls ⟨[],[.row 92 YY,.v (.int .i64),.v (.slc YY)],[],.own 92 YY,λz=>Ik z.1 z.2.1 z.2.2.1⟩,Y7⟩
end Go.Proofs.YthghpahghjppjaaGreat.Lot
namespace Go.Proofs.YthghpahghjppjaaGreat.Ay
open Go Go.Vc Go.RowKit Go.Lib Go.Sort Go.Proofs Go.Shelf Go.Proofs.YthghpahghjppjaaGreat
theorem VI:J7 Tryz.prog 228 ⟨[],[.row 174 Ak,.v (.int .i64),.v (.slc Ak)],[],.own 174 Ak,λz=>Bo z.1 z.2.1 z.2.2.1⟩:=KJ.xx (afj (f:=228) (o:=305) (z:=.agg #[.int .i64 0,.int .i64 0,.int .i64 0,.int .i64 0,.slice none 0 0]) ⟨_,by kernel_rfl,Tryz.func228⟩ (gQ Tryz.func305 (by kernel_rfl) (by kernel_rfl) (by kernel_rfl) (e:=Extern.SlicesOverlaps.overlaps #[24,24] #[4]) (by kernel_rfl)) (by decide) (qQ (by kernel_rfl) (by kernel_rfl) (by decide)) (by kernel_rfl) rfl rfl ⟨_,Tryz.func228,by decide +kernel,rfl⟩ (λw=>by kernel_rfl) (λw=>by kernel_rfl) (by kernel_rfl) (λw=>by kernel_rfl) (λw=>by kernel_rfl) λw=>by kernel_rfl) (by decide)
def Y8:KC Tryz.prog:=⟨228,λ_=>.ls ⟨[],[.row 174 Ak,.v (.int .i64),.v (.slc Ak)],[],.own 174 Ak,λz=>Bo z.1 z.2.1 z.2.2.1⟩,VI⟩
end Go.Proofs.YthghpahghjppjaaGreat.Ay
namespace Go.Proofs.YthghpahghjppjaaGreat.Az
open Go Go.Vc Go.RowKit Go.Lib Go.Sort Go.Proofs Go.Shelf Go.Proofs.YthghpahghjppjaaGreat
theorem Ta:J7 Tryz.prog 233 ⟨[],[.row 132 Ak,.v (.int .i64),.v (.slc Ak)],[],.own 132 Ak,λz=>CO z.1 z.2.1 z.2.2.1⟩:=KJ.xx (afj (f:=233) (o:=309) (z:=.agg #[.int .i64 0,.int .i64 0,.int .i64 0]) ⟨_,by kernel_rfl,Tryz.func233⟩ (gQ Tryz.func309 (by kernel_rfl) (by kernel_rfl) (by kernel_rfl) (e:=Extern.SlicesOverlaps.overlaps #[25,25] #[4]) (by kernel_rfl)) (by decide) (qQ (by kernel_rfl) (by kernel_rfl) (by decide)) (by kernel_rfl) rfl rfl ⟨_,Tryz.func233,by decide +kernel,rfl⟩ (λw=>by kernel_rfl) (λw=>by kernel_rfl) (by kernel_rfl) (λw=>by kernel_rfl) (λw=>by kernel_rfl) λw=>by kernel_rfl) (by decide)
def VJ:KC Tryz.prog:=⟨233,λ_=>.ls ⟨[],[.row 132 Ak,.v (.int .i64),.v (.slc Ak)],[],.own 132 Ak,λz=>CO z.1 z.2.1 z.2.2.1⟩,Ta⟩
end Go.Proofs.YthghpahghjppjaaGreat.Az
namespace Go.Proofs.YthghpahghjppjaaGreat.AA
open Go Go.Vc Go.RowKit Go.Lib Go.Sort Go.Proofs Go.Shelf Go.Proofs.YthghpahghjppjaaGreat
theorem OF:J7 Tryz.prog 311 ⟨[],[.row 99 Ak,.v (.int .i64),.v (.slc Ak)],[],.own 99 Ak,λz=>yh z.1 z.2.1 z.2.2.1⟩:=KJ.xx (afj (f:=311) (o:=378) (z:=.agg #[.int .i64 0,.int .i64 0,.int .i64 0,.slice none 0 0]) ⟨_,by kernel_rfl,Tryz.func311⟩ (gQ Tryz.func378 (by kernel_rfl) (by kernel_rfl) (by kernel_rfl) (e:=Extern.SlicesOverlaps.overlaps #[26,26] #[4]) (by kernel_rfl)) (by decide) (qQ (by kernel_rfl) (by kernel_rfl) (by decide)) (by kernel_rfl) rfl rfl ⟨_,Tryz.func311,by decide +kernel,rfl⟩ (λw=>by kernel_rfl) (λw=>by kernel_rfl) (by kernel_rfl) (λw=>by kernel_rfl) (λw=>by kernel_rfl) λw=>by kernel_rfl) (by decide)
def QP:KC Tryz.prog:=⟨311,λ_=>.ls ⟨[],[.row 99 Ak,.v (.int .i64),.v (.slc Ak)],[],.own 99 Ak,λz=>yh z.1 z.2.1 z.2.2.1⟩,OF⟩
end Go.Proofs.YthghpahghjppjaaGreat.AA
namespace Go.Proofs.YthghpahghjppjaaGreat.AB
open Go Go.Vc Go.RowKit Go.Lib Go.Sort Go.Proofs Go.Shelf Go.Proofs.YthghpahghjppjaaGreat
theorem QQ:J7 Tryz.prog 344 ⟨[],[.row 177 Ak,.v (.int .i64),.v (.slc Ak)],[],.own 177 Ak,λz=>Al z.1 z.2.1 z.2.2.1⟩:=KJ.xx (afj (f:=344) (o:=412) (z:=.agg #[.int .i64 0,.int .i64 0,.int .i64 0,.int .i64 0,.bool false]) ⟨_,by kernel_rfl,Tryz.func344⟩ (gQ Tryz.func412 (by kernel_rfl) (by kernel_rfl) (by kernel_rfl) (e:=Extern.SlicesOverlaps.overlaps #[27,27] #[4]) (by kernel_rfl)) (by decide) (qQ (by kernel_rfl) (by kernel_rfl) (by decide)) (by kernel_rfl) rfl rfl ⟨_,Tryz.func344,by decide +kernel,rfl⟩ (λw=>by kernel_rfl) (λw=>by kernel_rfl) (by kernel_rfl) (λw=>by kernel_rfl) (λw=>by kernel_rfl) λw=>by kernel_rfl) (by decide)
def Tb:KC Tryz.prog:=⟨344,λ_=>.ls ⟨[],[.row 177 Ak,.v (.int .i64),.v (.slc Ak)],[],.own 177 Ak,λz=>Al z.1 z.2.1 z.2.2.1⟩,QQ⟩
end Go.Proofs.YthghpahghjppjaaGreat.AB
namespace Go.Proofs.YthghpahghjppjaaGreat.AD
open Go Go.Vc Go.RowKit Go.Lib Go.Sort Go.Proofs Go.Shelf Go.Proofs.YthghpahghjppjaaGreat
theorem Y9:J7 Tryz.prog 313 ⟨[],[.row 3 Ak,.v (.int .i64),.v (.slc Ak)],[],.own 3 Ak,λz=>Iw z.1 z.2.1 z.2.2.1⟩:=KJ.xx (afj (f:=313) (o:=382) (z:=.int .i64 0) ⟨_,by kernel_rfl,Tryz.func313⟩ (gQ Tryz.func382 (by kernel_rfl) (by kernel_rfl) (by kernel_rfl) (e:=Extern.SlicesOverlaps.overlaps #[97,97] #[4]) (by kernel_rfl)) (by decide) (qQ (by kernel_rfl) (by kernel_rfl) (by decide)) (by kernel_rfl) rfl rfl ⟨_,Tryz.func313,by decide +kernel,rfl⟩ (λw=>by kernel_rfl) (λw=>by kernel_rfl) (by kernel_rfl) (λw=>by kernel_rfl) (λw=>by kernel_rfl) λw=>by kernel_rfl) (by decide)
def abZ:KC Tryz.prog:=⟨313,λ_=>.ls ⟨[],[.row 3 Ak,.v (.int .i64),.v (.slc Ak)],[],.own 3 Ak,λz=>Iw z.1 z.2.1 z.2.2.1⟩,Y9⟩
end Go.Proofs.YthghpahghjppjaaGreat.AD




