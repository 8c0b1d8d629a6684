import Derived.Test.YtllkmncnmlmefaaGreatB2
import Derived.Lib.AppendZeros
namespace Go.Vc
open Go Go.RowKit
theorem Ctx.growZ {P:Program} {t tn ty e:TypeId} {k bytes:Nat} {kn kq:IntKind} (he:ElemOk P t e k bytes) (htn:P.underlying tn=some (.int kn)) {V W w:World} {U0:Nat→Prop} {L bs:List Nat} {os:List Own} {G:List (Value × R)} {bx:List Box} {K:Value→World→Prop} {m:Int}
    (H:Ctx V U0 L bs os G W) (hs:Sync bx W w) (n:Nat) (hm:m=n) (h0:0 < n) (hbytes:n * bytes≤140737488355328) (h63:n≤maxLen)
    (g:∀ a c w2,n≤c→Ctx V U0 L bs (Own.row e k a c [] :: os) G w2→K (.slice a n c) w2) (hb:blks bx=bs:=by rfl) :
    RunsX P (Builtin.append_ #[t,tn] ty #[.slice none 0 0,.int kq m]) w λv w' => Kept (blks bx) w w'∧K v w':=by
  obtain ⟨i,z,hi,hz,hs1,hby,hzs⟩:=he.info
  have hlt:=hs.blt hb
  have H:=H.sync (w:=w.drew) ⟨hs.os,hs.tape,hs.output,hs.size,hs.same,hs.own⟩ hb
  subst hm hb
  have hrun:=Lib.run_append_nil_zeros (P:=P) w t tn ty e i z kq kn he.under htn hi hz n h0 (by rw [hs1];exact he.pos) (by rw [zap] at h63;omega) (by rw [hby];omega)
  have hcap:=grownCap_ge w n 0 e
  have HC:=H.newRoom (e:=e) (k:=k) (c:=grownCap w n 0 e) (cur:=Builtin.zeroCells z.cells n ++ Builtin.zeroCells z.cells (grownCap w n 0 e - n)) hlt (by
    rw [Array.size_append,size_zeroCells,size_zeroCells,hzs,← Nat.add_mul];congr 1;omega) (grownCap_le_maxLen w n 0 e h63)
  exact ⟨_,_,hrun,λb hm => Below.heap_alloc _ _ _ (hlt b hm),g _ _ _ hcap HC⟩
end Go.Vc
namespace Go.Proofs.YtllkmncnmlmefaaGreat
open Go Go.Vc Go.RowKit
theorem yti:ElemOk Tryz.prog 30 143 3 24:=ydi (by kernel_rfl) (by kernel_rfl) (by decide)
theorem und3:Tryz.prog.underlying 3=some (.int .i64):=by kernel_rfl
set_option maxRecDepth 100000 in
theorem growF (n:Nat) (hn:n * 24≤140737488355328):CtG Tryz.prog 401 [.slice none 0 0,.int .i64 n] [] [] λv os _ => ∃ a c,v=.slice a 0 c∧os=[Own.row 143 3 a c []]:=by
  refine zxo Tryz.func401 rfl (by decide +kernel) rfl ?_
  intro U w H
  apply And.intro <;> intro q
  · exfalso
    have:=of_decide_eq_true q
    omega
  · have e1:IntKind.i64.wrap ((n:Int) - IntKind.i64.wrap ((0:Nat) - (0:Nat)))=n:=by
      have e0:IntKind.i64.wrap (((0:Nat):Int) - ((0:Nat):Int))=0:=by decide
      rw [e0,IntKind.wrap_i64];omega
    apply And.intro <;> intro q2
    · have q2:=of_decide_eq_true q2
      have hn0:0 < n:=by
        have:(0:Int) < IntKind.i64.wrap ((n:Int) - IntKind.i64.wrap ((0:Nat) - (0:Nat))):=q2
        rw [e1] at this;omega
      refine ⟨by decide,by decide,?_⟩
      intro w' t
      refine H.growZ (e:=143) (k:=3) yti und3 t n e1 hn0 hn (by rw [zap];omega) ?_
      intro a c w2 hc H
      refine ⟨by decide,by simp,?_⟩
      intro w' t
      exact H.retG (os':=[Own.row 143 3 a c []]) t (List.Sublist.refl _) ⟨a,c,rfl,rfl⟩
    · have H:=H.newRow 143 3
      intro w' t
      exact H.retG (os':=[Own.row 143 3 none 0 []]) t (List.Sublist.refl _) ⟨none,0,rfl,rfl⟩
theorem aft0 {dst:Option Tmp} {ts:List XV} {K:KT} {v:Value} {w':World} (h:retX dst (inject v) ts [] w' K):aftK dst ts [] K v w' :=
  ⟨inject v,[],w',(zqs v).symm,zsp _ v,⟨[],rfl⟩,List.nodup_nil,by simp,⟨rfl,rfl,rfl,Nat.le_refl _,λ_ _ _ => rfl,by simp⟩,h⟩
def sumF (ll:List (List FlD)):Nat:=(ll.map List.length).foldl (· + ·) 0
theorem sumF_step (ll:List (List FlD)) (l:List FlD):sumF (ll ++ [l])=sumF ll + l.length:=by simp [sumF]
theorem ylo (ll:List (List FlD)) (i:Nat):sumF (ll.take i)≤sumF ll:=by
  have h:sumF ll=sumF (ll.take i) + sumF (ll.drop i):=by
    have e:∀ a b:List (List FlD),sumF (a ++ b)=sumF a + sumF b:=by
      intro a b
      have:∀ (l:List Nat) (n:Nat),l.foldl (· + ·) n=n + l.foldl (· + ·) 0:=by
        intro l
        induction l with
        | nil => simp
        | cons x l ih => intro n;simp only [List.foldl_cons];rw [ih,ih (0 + x)];omega
      simp only [sumF,List.map_append,List.foldl_append]
      rw [this]
    rw [← e,List.take_append_drop]
  omega
theorem ylp (ll:List (List FlD)):ll.flatten.length=sumF ll:=by
  have:∀ (l:List Nat) (n:Nat),l.foldl (· + ·) n=n + l.foldl (· + ·) 0:=by
    intro l
    induction l with
    | nil => simp
    | cons x l ih => intro n;simp only [List.foldl_cons];rw [ih,ih (0 + x)];omega
  induction ll with
  | nil => rfl
  | cons l ll ih => simp only [List.flatten_cons,List.length_append,ih,sumF,List.map_cons,List.foldl_cons];rw [this _ (0 + _)];omega
theorem flat_step (ll:List (List FlD)) (l:List FlD):(ll ++ [l]).flatten=ll.flatten ++ l:=by simp
set_option maxRecDepth 100000 in
theorem concatF_ct (ll:List (List FlD)) (hs:sumF ll * 24≤140737488355328):CtQ Tryz.prog 360 [.sl 1 (ll.map λl => [.sl 3 (l.map flR)])] (.own 143 3 (ll.flatten.map flR)):=by
  refine CtQ.ofG ?_
  intro a1 n2 c3 h4 h4l h4c
  refine zxo Tryz.func360 rfl (by decide +kernel) rfl ?_
  intro U w H
  simp only [List.length_map] at h4
  have hmx:c3≤9223372036854775807:=by rw [zap] at h4c;exact h4c
  refine ⟨[3,5,11,12,13,14,15,16,17,18,19,20,21,22],
    { X:=(Nat) × (Nat),slots:=[3,11],vals:=λ(i,s) => [.int .i64 ((s:Int)),.int .i64 ((i:Int))],boxes:=[],cells:=λ(i,s) => [],
      inv:=λ(i,s) w' => Ctx w U [] [] [] [(.slice a1 n2 c3,.sl 1 (ll.map λl => [.sl 3 (l.map flR)]))] w'∧(i≤ll.length∧s=sumF (ll.take i)),μ:=λ(i,s) => ll.length - i },by kernel_rfl,?_,?_,?_⟩
  · rintro ⟨i,s⟩;exact ⟨⟨trivial,trivial,trivial⟩,trivial⟩
  · intro w' t
    refine ⟨⟨0,0⟩,rfl,rfl,H.fin t 0 _,?_⟩
    exact ⟨by omega,rfl⟩
  · rintro ⟨i,s⟩ w' ⟨H,hI⟩
    obtain ⟨hi1,hss⟩:=hI
    apply And.intro <;> intro q5
    · have q5':=of_decide_eq_true q5
      have hin:i < ll.length:=by omega
      refine H.at (a:=a1) (n:=n2) (c:=c3) (els:=ll.map λl => [.sl 3 (l.map flR)]) (i:=((i:Int)).toNat) (cs:=[.sl 3 ((ll[i]'hin).map flR)]) (by simp [hin]) (Nat.succ_pos _) ?_
      intro ad7 hn8e hn8 a9 n10 c11 h12 h12l h12c H hat13l hat13
      simp only [List.length_map] at h12
      refine ⟨ad7,hn8e,Int.natCast_nonneg _,by omega,?_⟩
      refine ⟨.slice a9 n10 c11,hat13.1,Us.box (Us.ad hn8),?_⟩
      have hstep:sumF (ll.take (i + 1))=s + n10:=by
        rw [List.take_succ_eq_append_getElem hin,sumF_step,← hss,h12]
      have hle:=ylo ll (i + 1)
      rw [hstep] at hle
      have e1:IntKind.i64.wrap ((s:Int) + (n10:Int))=((s + n10:Nat):Int):=by rw [IntKind.wrap_i64];omega
      apply And.intro <;> intro q6
      · exfalso
        have q6:=of_decide_eq_true q6
        have:IntKind.i64.wrap ((s:Int) + (n10:Int)) < 0:=q6
        rw [e1] at this;omega
      · intro w' t
        refine ⟨⟨i + 1,s + n10⟩,?_,xInc (by rw [zap];omega),⟨H.fin t 0 _,?_⟩,?_⟩
        · show XV.int .i64 (IntKind.i64.wrap ((s:Int) + (n10:Int)))=XV.int .i64 (((s + n10:Nat)):Int)
          rw [e1]
        · exact ⟨by omega,hstep.symm⟩
        · show ll.length - (i + 1) < ll.length - i;omega
    · have q5':=of_decide_eq_false q5
      rw [List.take_of_length_le (by omega)] at hss
      subst hss
      intro w' t
      refine (H.cg (os1:=[]) (os2:=[]) (Gc:=[]) (ids:=[]) (K:=λv w' => ∃ a c,v=.slice a 0 c∧Ctx w U [] [] [Own.row 143 3 a c []] [(.slice a1 n2 c3,.sl 1 (ll.map λl => [.sl 3 (l.map flR)]))] w') t (growF (sumF ll) hs) ?_).mono ?_
      · rintro v os' G' w2 ⟨a,c,rfl,rfl⟩ H
        exact ⟨a,c,rfl,Ctx.keep (os:=[Own.row 143 3 a c []]) H [(Value.slice a1 n2 c3,R.sl 1 (ll.map λl => [R.sl 3 (l.map flR)]))] ⟨by rw [yqo];simp,trivial⟩⟩
      rintro v w3 ⟨_,a,c,rfl,H⟩
      refine aft0 ?_
      refine ⟨[6,8,27,28,29,30,31,32,33,34],
        { X:=(Nat) × (List FlD) × (Option Addr) × (Nat),slots:=[6,27],vals:=λ(i,xs,ra,rc) => [.slc ra xs.length rc,.int .i64 ((i:Int))],boxes:=[],cells:=λ(i,xs,ra,rc) => [],
          inv:=λ(i,xs,ra,rc) w' => Ctx w U [] [] [Own.row 143 3 ra rc (xs.map flR)] [(.slice a1 n2 c3,.sl 1 (ll.map λl => [.sl 3 (l.map flR)]))] w'∧(i≤ll.length∧xs=(ll.take i).flatten),μ:=λ(i,xs,ra,rc) => ll.length - i },by kernel_rfl,?_,?_,?_⟩
      · rintro ⟨i,xs,ra,rc⟩;exact ⟨⟨trivial,trivial,trivial⟩,trivial⟩
      · intro w' t
        refine ⟨⟨0,[],a,c⟩,rfl,rfl,H.fin t 0 _,?_⟩
        exact ⟨by omega,rfl⟩
      · rintro ⟨i,xs,ra,rc⟩ w' ⟨H,hI⟩
        obtain ⟨hi1,hxs⟩:=hI
        apply And.intro <;> intro q5
        · have q5':=of_decide_eq_true q5
          have hin:i < ll.length:=by omega
          refine H.at (a:=a1) (n:=n2) (c:=c3) (els:=ll.map λl => [.sl 3 (l.map flR)]) (i:=((i:Int)).toNat) (cs:=[.sl 3 ((ll[i]'hin).map flR)]) (by simp [hin]) (Nat.succ_pos _) ?_
          intro ad7 hn8e hn8 a9 n10 c11 h12 h12l h12c H hat13l hat13
          simp only [List.length_map] at h12
          refine ⟨ad7,hn8e,Int.natCast_nonneg _,by omega,?_⟩
          refine ⟨.slice a9 n10 c11,hat13.1,Us.box (Us.ad hn8),?_⟩
          have hstep:(ll.take (i + 1)).flatten=xs ++ ll[i]:=by
            rw [List.take_succ_eq_append_getElem hin,flat_step,← hxs]
          have hle:=ylo ll (i + 1)
          rw [← ylp,hstep,List.length_append] at hle
          intro w' t
          refine H.ap (a2:=a9) (m:=n10) (c2:=c11) (news:=(ll[i]'hin).map flR) t yti (by simp) (by rw [zap];simp;omega) (by simp;omega) ?_
          intro a' c' w2 H hlq
          have hlq2:xs.length + n10=(xs ++ ll[i]).length:=by simp [h12]
          have H:=H.rowEq ((xs ++ ll[i]).map flR) (by simp)
          intro w' t
          refine ⟨⟨i + 1,xs ++ ll[i],a',c'⟩,?_,xInc (by rw [zap];omega),⟨H.fin t 0 _,?_⟩,?_⟩
          · show XV.slc a' (xs.length + n10) c'=XV.slc a' (xs ++ ll[i]).length c'
            rw [hlq2]
          · exact ⟨by omega,hstep.symm⟩
          · show ll.length - (i + 1) < ll.length - i;omega
        · have q5':=of_decide_eq_false q5
          rw [List.take_of_length_le (by omega)] at hxs
          subst hxs
          intro w' t
          exact H.retG (os':=[Own.row 143 3 ra rc (ll.flatten.map flR)]) t (List.Sublist.refl _) ⟨ra,rc,by rw [List.length_map];rfl,rfl⟩
end Go.Proofs.YtllkmncnmlmefaaGreat

namespace Go.Vc
open Go Go.RowKit
structure LB where
  ty : TypeId
  cells : List QR
inductive LA where
  | r (q : R)
  | ptr (i : Nat)
  | fn (g : FuncId) (is : List Nat)
  | row (e k : Nat) (els : List (List R))
inductive LQ where
  | q (q : QR)
  | ptr (i : Nat)
  | obj (B : LB)
def objs : List Nat → List LB → List (List Value) → List Own
  | b :: bl, B :: Bs, us :: uss => Own.obj b B.ty us :: objs bl Bs uss
  | _, _, _ => []
def lbH (U : Nat → Prop) (w : World) : List LB → List (List Value) → List (List Own) → Prop
  | [], uss, oss => uss = [] ∧ oss = []
  | B :: Bs, uss, oss => ∃ us uss' os oss', uss = us :: uss' ∧ oss = os :: oss' ∧ QRsH U w B.cells us os ∧ lbH U w Bs uss' oss'
def ptrsH (bl : List Nat) : List Nat → List Value → Prop
  | [], vs => vs = []
  | i :: is, vs => ∃ b vs', bl[i]? = some b ∧ vs = .pointer (some ⟨b, 0, none⟩) :: vs' ∧ ptrsH bl is vs'
def laH (U : Nat → Prop) (w : World) (bl : List Nat) : List LA → List Value → List Own → Prop
  | [], vs, ars => vs = [] ∧ ars = []
  | .r q :: las, vs, ars => ∃ v vs', vs = v :: vs' ∧ q.h U w v ∧ laH U w bl las vs' ars
  | .ptr i :: las, vs, ars => ∃ b vs', bl[i]? = some b ∧ vs = .pointer (some ⟨b, 0, none⟩) :: vs' ∧ laH U w bl las vs' ars
  | .fn g is :: las, vs, ars => ∃ cs vs', ptrsH bl is cs ∧ vs = .func (.func g) #[] cs.toArray :: vs' ∧ laH U w bl las vs' ars
  | .row e k els :: las, vs, ars => ∃ v vs' o ars', vs = v :: vs' ∧ ars = o ++ ars' ∧ (QR.own e k els).h U w v o ∧ laH U w bl las vs' ars'
def lqH (U : Nat → Prop) (w : World) (bl : List Nat) : LQ → Value → List Own → Prop
  | .q q, v, os => q.h U w v os
  | .ptr i, v, os => os = [] ∧ ∃ b, bl[i]? = some b ∧ v = .pointer (some ⟨b, 0, none⟩)
  | .obj B, v, os => ∃ b us os', v = .pointer (some ⟨b, 0, none⟩) ∧ os = Own.obj b B.ty us :: os' ∧ QRsH U w B.cells us os'
def CtL (P : Program) (f : FuncId) (las : List LA) (Bs : List LB) (lq : LQ) (Bs' : List LB) : Prop :=
  ∀ (U : Nat → Prop) (w : World) (vs : List Value) (bl : List Nat) (uss : List (List Value)) (oss : List (List Own)) (ars : List Own), bl.length = Bs.length →
    Ctx w U (bl ++ ownBl (oss.flatten ++ ars)) [] (objs bl Bs uss ++ (oss.flatten ++ ars)) [] w → (∀ b ∈ bl ++ ownBl (oss.flatten ++ ars), ¬ U b) →
    lbH (Us U [] (objs bl Bs uss ++ (oss.flatten ++ ars))) w Bs uss oss → laH (Us U [] (objs bl Bs uss ++ (oss.flatten ++ ars))) w bl las vs ars →
    CallsX P f vs.toArray w λv w' => ∃ uss' oss' os, Ctx w U (bl ++ ownBl (oss.flatten ++ ars)) [] (objs bl Bs' uss' ++ (os ++ oss'.flatten)) [] w' ∧
      lbH (Us U [] (objs bl Bs' uss' ++ (os ++ oss'.flatten))) w' Bs' uss' oss' ∧ lqH (Us U [] (objs bl Bs' uss' ++ (os ++ oss'.flatten))) w' bl lq v os
def lbK : List LB → PBs → List RS → (PBs → List RS → Prop) → Prop
  | [], pb, rw, K => K pb rw
  | B :: Bs, pb, rw, K => q0LK B.cells rw λps rw => pushK pb (some ⟨B.ty, ps⟩) λpb => lbK Bs pb rw K
def laK : List LA → List RS → (List PV → List RS → Prop) → Prop
  | [], rw, K => K [] rw
  | .r q :: las, rw, K => r1pK q λp => laK las rw λps rw => K (p :: ps) rw
  | .ptr i :: las, rw, K => laK las rw λps rw => K (.own i 0 :: ps) rw
  | .fn g is :: las, rw, K => laK las rw λps rw => K (.fn g (is.map λi => .own i 0) :: ps) rw
  | .row e k els :: las, rw, K => q0K (.own e k els) rw λp rw => laK las rw λps rw => K (p :: ps) rw
def lendK : List LB → Nat → PBs → (List PV → Prop) → Prop
  | [], _, _, K => K []
  | B :: Bs, n, pb, K => pbK pb n λx => x.ty = B.ty ∧ lendK Bs (n + 1) pb λps => K (.agg x.cells :: ps)
def aggQ : List LB → List QR
  | [] => []
  | B :: Bs => .agg B.cells :: aggQ Bs
def endL (lq : LQ) (Bs : List LB) (p : PV) (ts : List PV) (pb : PBs) (rw : List RS) : Prop :=
  lendK Bs 0 pb λps => match lq with
    | .q q => endP 0 (.tup (q :: aggQ Bs)) (.tup (p :: ps)) ts pb rw
    | .ptr i => p = .own i 0 ∧ i < Bs.length ∧ endP 0 (.tup (aggQ Bs)) (.tup ps) ts pb rw
    | .obj B => match p with
      | .own i o => o = 0 ∧ Bs.length ≤ i ∧ pbK pb i λx => x.ty = B.ty ∧ endP 0 (.tup (.agg B.cells :: aggQ Bs)) (.tup (.agg x.cells :: ps)) ts pb rw
      | _ => False
def retPL (T : List TI) (rs : List ResultVar) (lq : LQ) (Bs : List LB) : PQ := λe ts pb rw =>
  match e with
  | .normal => resP T rs ts pb rw λxs => endL lq Bs (oneP' xs) ts pb rw
  | .ret => resP T rs ts pb rw λxs => endL lq Bs (oneP' xs) ts pb rw
  | _ => False
def zce : List Nat → List LB → List (List Value) → List Box
  | b :: bl, B :: Bs, us :: uss => ⟨b, B.ty, injL us⟩ :: zce bl Bs uss
  | _, _, _ => []
theorem ypp {U : Nat → Prop} {w : World} : ∀ {Bs : List LB} {uss : List (List Value)} {oss : List (List Own)}, lbH U w Bs uss oss → uss.length = Bs.length ∧ oss.length = Bs.length
  | [], uss, oss, h => by obtain ⟨rfl, rfl⟩ := h; exact ⟨rfl, rfl⟩
  | B :: Bs, uss, oss, h => by
    obtain ⟨us, uss', os, oss', rfl, rfl, _, h⟩ := h
    obtain ⟨h1, h2⟩ := ypp h
    exact ⟨by simp [h1], by simp [h2]⟩
theorem ycf : ∀ {bl : List Nat} {Bs : List LB} {uss : List (List Value)}, bl.length = Bs.length → uss.length = Bs.length → ownBl (objs bl Bs uss) = bl
  | [], [], [], _, _ => rfl
  | b :: bl, B :: Bs, us :: uss, h, h' => by
    simp only [objs, ownBl, Own.obj, List.singleton_append]
    rw [ycf (by simpa using h) (by simpa using h')]
  | [], _ :: _, _, h, _ => by simp at h
  | _ :: _, [], _, h, _ => by simp at h
  | _ :: _, _ :: _, [], _, h => by simp at h
  | [], [], _ :: _, _, h => by simp at h
theorem zyo : ∀ {bl : List Nat} {Bs : List LB} {uss : List (List Value)}, bl.length = Bs.length → uss.length = Bs.length → blks (zce bl Bs uss) = bl
  | [], [], [], _, _ => rfl
  | b :: bl, B :: Bs, us :: uss, h, h' => by
    have := zyo (bl := bl) (Bs := Bs) (uss := uss) (by simpa using h) (by simpa using h')
    simp only [zce, blks, List.map_cons] at *
    rw [this]
  | [], _ :: _, _, h, _ => by simp at h
  | _ :: _, [], _, h, _ => by simp at h
  | _ :: _, _ :: _, [], _, h => by simp at h
  | [], [], _ :: _, _, h => by simp at h
theorem ydp {U : Nat → Prop} {w : World} : ∀ {bl : List Nat} {Bs : List LB} {uss : List (List Value)}, (∀ o ∈ objs bl Bs uss, o.h U w) → ∀ x ∈ zce bl Bs uss, w.heap[x.blk]? = some (.cells (denL x.cells).toArray x.ty (0, 0))
  | b :: bl, B :: Bs, us :: uss, h, x, hx => by
    rcases List.mem_cons.1 hx with rfl | hx
    · have := h (Own.obj b B.ty us) (by simp [objs])
      simpa [Own.obj, zjl] using this
    · exact ydp (λo ho => h o (by simp [objs, ho])) x hx
  | [], _, _, h, x, hx => by simp [zce] at hx
  | _ :: _, [], _, h, x, hx => by simp [zce] at hx
  | _ :: _, _ :: _, [], h, x, hx => by simp [zce] at hx
theorem ysq {nl : Nat} {V W : World} {U0 : Nat → Prop} {L : List Nat} {bx : List Box} {U : Nat → Prop} {π : Nat → Option Nat} {goal : Prop} {o2 : List Own} : ∀ {Bs : List LB} {uss : List (List Value)} {oss : List (List Own)} {pb : PBs} {rw : List RS} {A : Asg} {K : PBs → List RS → Prop},
    lbK Bs pb rw K → (∀ B ∈ Bs, ∀ q ∈ B.cells, cellQ q) → lbH U W Bs uss oss → Tk nl V U0 L bx W U (oss.flatten ++ o2) rw A →
    (∀ l rw' A', K (pb ++ l) rw' → l.length = Bs.length → Tk nl V U0 L bx W U o2 rw' A' → More rw A rw' A' → (∀ (i : Nat) (p : Option PBox), l[i]? = some p → ∃ x B us, p = some x ∧ Bs[i]? = some B ∧ uss[i]? = some us ∧ x.ty = B.ty ∧ PVsH U W (blks bx) π rw' A' x.cells (injL us)) → goal) → goal
  | [], uss, oss, pb, rw, A, K, h, _, hb, H, m => by
    obtain ⟨rfl, rfl⟩ := hb
    exact m [] rw A (by simpa [lbK] using h) rfl (by simpa using H) (More.refl _ _) (by simp)
  | B :: Bs, uss, oss, pb, rw, A, K, h, hc, hb, H, m => by
    obtain ⟨us, uss', os, oss', rfl, rfl, hq, hb⟩ := hb
    simp only [lbK] at h
    refine zzg (π := π) h (hc B (by simp)) hq (o2 := oss'.flatten ++ o2) (by simpa using H) λps rw1 A1 h H1 m1 hps => ?_
    rw [zbo] at h
    refine ysq (π := π) h (λB hB => hc B (by simp [hB])) hb H1 λl rw2 A2 h hl H2 m2 hall => ?_
    refine m (some ⟨B.ty, ps⟩ :: l) rw2 A2 (by simpa using h) (by simp [hl]) H2 (m1.trans m2) λi p hp => ?_
    cases i with
    | zero => simp at hp; subst hp; exact ⟨_, B, us, rfl, rfl, rfl, rfl, zbu m2.sub hps⟩
    | succ i =>
      obtain ⟨x, B', us', h1, h2, h3, h4, h5⟩ := hall i p (by simpa using hp)
      exact ⟨x, B', us', h1, by simpa using h2, by simpa using h3, h4, h5⟩
def flatLA : List LA → Prop
  | [] => True
  | .r q :: las => flatR q ∧ flatLA las
  | .ptr _ :: las => flatLA las
  | .fn _ _ :: las => flatLA las
  | .row _ _ _ :: las => flatLA las
theorem ymn {U : Nat → Prop} {W : World} {bx : List Box} {bl : List Nat} {π : Nat → Option Nat} {rw : List RS} {A : Asg} (hbl : blks bx = bl) (hπ : ∀ (i b : Nat), bl[i]? = some b → π i = some i) : ∀ {is : List Nat} {cs : List Value}, ptrsH bl is cs →
    ∃ ys, denL ys = cs ∧ wfL (blks bx) ys ∧ PVsH U W (blks bx) π rw A (is.map λi => .own i 0) ys
  | [], cs, h => by simp only [ptrsH] at h; subst h; exact ⟨[], rfl, trivial, by simp [PVsH]⟩
  | i :: is, cs, h => by
    obtain ⟨b, vs', hb, rfl, h⟩ := h
    obtain ⟨ys, h1, h2, h3⟩ := ymn (U := U) (W := W) (rw := rw) (A := A) hbl hπ h
    refine ⟨.own i b 0 :: ys, by simp [denL, XV.den, h1], ⟨by simp only [XV.wf]; rw [hbl]; exact hb, h2⟩, ?_⟩
    simp only [List.map_cons, PVsH]
    exact ⟨_, _, rfl, (by simp only [PV.h]; exact ⟨i, b, hπ i b hb, by rw [hbl]; exact hb, rfl⟩), h3⟩
theorem zup {nl : Nat} {V : World} {U0 : Nat → Prop} {L : List Nat} {U : Nat → Prop} {W : World} {bx : List Box} {bl : List Nat} {π : Nat → Option Nat} {o2 : List Own} (hbl : blks bx = bl) (hπ : ∀ (i b : Nat), bl[i]? = some b → π i = some i) : ∀ {las : List LA} {vs : List Value} {ars : List Own} {rw : List RS} {A : Asg} {K : List PV → List RS → Prop} {G : Prop}, laK las rw K → flatLA las → laH U W bl las vs ars → Tk nl V U0 L bx W U (ars ++ o2) rw A →
    (∀ ps zs rw' A', K ps rw' → denL zs = vs → wfL (blks bx) zs → Tk nl V U0 L bx W U o2 rw' A' → More rw A rw' A' → PVsH U W (blks bx) π rw' A' ps zs → G) → G
  | [], vs, ars, rw, A, K, G, h, _, hv, H, m => by
    obtain ⟨rfl, rfl⟩ := hv
    exact m [] [] rw A h rfl (by simp [wfL]) (by simpa using H) (More.refl _ _) (by simp [PVsH])
  | .r q :: las, vs, ars, rw, A, K, G, h, hf, hv, H, m => by
    obtain ⟨v, vs', rfl, h1, hv⟩ := hv
    refine yiu (bs := blks bx) (π := π) (rw := rw) (A := A) h h1 (hf.1.one h1) λp h hp => zup hbl hπ h hf.2 hv H λps zs rw1 A1 h hz hw H1 m1 hps => m (p :: ps) (inj1 v :: zs) rw1 A1 h (by simp [denL, yaf, hz]) ⟨zrm _ v, hw⟩ H1 m1 (by simp only [PVsH]; exact ⟨_, _, rfl, PV.h_mono m1.sub hp, hps⟩)
  | .ptr i :: las, vs, ars, rw, A, K, G, h, hf, hv, H, m => by
    obtain ⟨b, vs', hb, rfl, hv⟩ := hv
    simp only [laK] at h
    simp only [flatLA] at hf
    refine zup (las := las) hbl hπ h hf hv H λps zs rw1 A1 h hz hw H1 m1 hps => m (.own i 0 :: ps) (.own i b 0 :: zs) rw1 A1 h (by simp [denL, XV.den, hz]) ⟨by simp only [XV.wf]; rw [hbl]; exact hb, hw⟩ H1 m1 (by
      simp only [PVsH]
      exact ⟨_, _, rfl, (by simp only [PV.h]; exact ⟨i, b, hπ i b hb, by rw [hbl]; exact hb, rfl⟩), hps⟩)
  | .fn g is :: las, vs, ars, rw, A, K, G, h, hf, hv, H, m => by
    obtain ⟨cs, vs', hcs, rfl, hv⟩ := hv
    simp only [laK] at h
    simp only [flatLA] at hf
    refine zup (las := las) hbl hπ h hf hv H λps zs rw1 A1 h hz hw H1 m1 hps => ?_
    obtain ⟨ys, h1, h2, h3⟩ := ymn (U := U) (W := W) (rw := rw1) (A := A1) hbl hπ hcs
    exact m (.fn g (is.map λi => .own i 0) :: ps) (.fn g ys :: zs) rw1 A1 h (by simp [denL, XV.den, hz, h1]) ⟨by simp only [XV.wf]; exact h2, hw⟩ H1 m1 (by
      simp only [PVsH]
      exact ⟨_, _, rfl, (by simp only [PV.h]; exact ⟨ys, rfl, h3⟩), hps⟩)
  | .row e k els :: las, vs, ars, rw, A, K, G, h, hf, hv, H, m => by
    obtain ⟨v, vs', o, ars', rfl, rfl, hq, hv⟩ := hv
    simp only [laK] at h
    simp only [flatLA] at hf
    refine yiw (π := π) (q := .own e k els) h trivial hq (o2 := ars' ++ o2) (by simpa using H) λp rw1 A1 h H1 m1 hp => ?_
    refine zup (las := las) hbl hπ h hf hv H1 λps zs rw2 A2 h hz hw H2 m2 hps => m (p :: ps) (inj0 v :: zs) rw2 A2 h (by simp [denL, zvc, hz]) ⟨znb _ v, hw⟩ H2 (m1.trans m2) (by simp only [PVsH]; exact ⟨_, _, rfl, PV.h_mono m2.sub hp, hps⟩)
theorem PVsH_two {U : Nat → Prop} {W : World} {bs : List Nat} {π : Nat → Option Nat} {rw : List RS} {A : Asg} {p : PV} {z : XV} (h : p.h U W bs π rw A z) : PVsH U W bs π rw A [p] [z] := by
  simp only [PVsH]; exact ⟨_, _, rfl, h, rfl⟩
theorem endP_L {bx0 : List Box} {p0 : Nat → Option Nat} {V W w : World} {U0 : Nat → Prop} {L : List Nat} {rw : List RS} {ts : List PV} {pb : PBs} {xs : List XV} {bx : List Box} {π : Nat → Option Nat} {A : Asg} {q : QR} {p : PV} {z : XV}
    (H : StB 0 bx0 p0 V U0 L rw ts pb xs bx W π A) (hs : Sync bx W w) (hp : p.h (UU U0 bx rw A) W (blks bx) π rw A z) (h : endP 0 q p ts pb rw) : ∃ os, q.h (Us U0 (blks bx) os) w z.den os ∧ Ctx V U0 L (blks bx) os [] w := by
  refine zef (zzv h) H (ps := [p]) (zs := [z]) (PVsH_two hp) λts pb rw ps ⟨h, hl⟩ H hps => ?_
  match ps, h, hps with
  | [p], h, hps =>
    have hps := H.syncPV hs hps
    simp only [PVsH] at hps
    obtain ⟨_, _, he, hp, rfl⟩ := hps
    simp only [List.cons.injEq] at he
    obtain ⟨rfl, _⟩ := he
    have H := H.sync hs
    obtain ⟨os, rw2, _, _, h3, h4, hsub⟩ := yiv (acc := []) q h (RSub.refl _) hp (by simpa using H.rep.c)
    rw [List.nil_append] at h3
    refine ⟨os, QR.mono ⟨λ_ _ _ => rfl, Nat.le_refl _, λb _ hb => ?_⟩ q h4, h3.weak (List.Sublist.refl _) (List.sublist_append_left _ _) λ_ h => h⟩
    rcases hb with hb | hb | hb
    · exact .inl hb
    · exact .inr (.inl hb)
    · exact .inr (.inr (hsub b hb).mem)
  | [], h, _ => exact h.elim
  | _ :: _ :: _, h, _ => exact h.elim
theorem yfu {V W : World} {U0 : Nat → Prop} {L : List Nat} {rw : List RS} {ts : List PV} {pb : PBs} {xs : List XV} {bx : List Box} {π : Nat → Option Nat} {A : Asg} {goal : Prop} (H : Rep V U0 L rw ts pb xs bx W π A) (hπ : ∀ (i q : Nat), π i = some q → π i = some q) :
    ∀ {Bs : List LB} {n : Nat} {K : List PV → Prop}, lendK Bs n pb K → (∀ i, i < n + Bs.length → π i = some i) →
      (∀ (ps : List PV) (uss : List (List XV)), K ps → uss.length = Bs.length → (∀ (i : Nat) (us : List XV), uss[i]? = some us → ∃ x B, bx[n + i]? = some x ∧ Bs[i]? = some B ∧ x.ty = B.ty ∧ x.cells = us) →
        PVsH (UU U0 bx rw A) W (blks bx) π rw A ps (uss.map .agg) → goal) → goal
  | [], n, K, h, _, m => m [] [] h rfl (by simp) (by simp [PVsH])
  | B :: Bs, n, K, h, hi, m => by
    obtain ⟨x, hx, hty, h⟩ := zhw h
    obtain ⟨q, y, h1, h2, h3, h4⟩ := H.pb.at_ n x hx
    rw [hi n (by simp)] at h1; cases h1
    refine yfu (Bs := Bs) H hπ h (λi h' => hi i (by simp; omega)) λps uss h hl hall hps => m (.agg x.cells :: ps) (y.cells :: uss) h (by simp [hl]) (λi us hus => ?_) (by
      simp only [List.map_cons, PVsH]; exact ⟨_, _, rfl, (by simp only [PV.h]; exact ⟨_, rfl, h4⟩), hps⟩)
    cases i with
    | zero => simp at hus; subst hus; exact ⟨y, B, by simpa using h2, rfl, h3.trans hty, rfl⟩
    | succ i =>
      obtain ⟨x', B', g1, g2, g3, g4⟩ := hall i us (by simpa using hus)
      exact ⟨x', B', by rw [← g1]; congr 1; omega, by simpa using g2, g3, g4⟩
theorem ydq : ∀ {bl : List Nat} {Bs : List LB} {uss : List (List Value)} {i b : Nat} {B : LB} {us : List Value}, bl[i]? = some b → Bs[i]? = some B → uss[i]? = some us → (zce bl Bs uss)[i]? = some ⟨b, B.ty, injL us⟩
  | b :: bl, B :: Bs, us :: uss, 0, _, _, _, h1, h2, h3 => by simp at h1 h2 h3; subst h1; subst h2; subst h3; rfl
  | b :: bl, B :: Bs, us :: uss, i + 1, _, _, _, h1, h2, h3 => by simpa [zce] using ydq (i := i) (by simpa using h1) (by simpa using h2) (by simpa using h3)
  | [], _, _, i, _, _, _, h1, _, _ => by simp at h1
  | _ :: _, [], _, i, _, _, _, _, h2, _ => by simp at h2
  | _ :: _, _ :: _, [], i, _, _, _, _, _, h3 => by simp at h3
theorem ygl : ∀ {bl : List Nat} {Bs : List LB} {uss : List (List Value)} {bs : List Nat}, ∀ x ∈ zce bl Bs uss, wfL bs x.cells
  | b :: bl, B :: Bs, us :: uss, bs, x, hx => by
    rcases List.mem_cons.1 hx with rfl | hx
    · exact ygw _ _
    · exact ygl x hx
  | [], _, _, _, x, hx => by simp [zce] at hx
  | _ :: _, [], _, _, x, hx => by simp [zce] at hx
  | _ :: _, _ :: _, [], _, x, hx => by simp [zce] at hx
theorem aggQ_h {U : Nat → Prop} {w : World} : ∀ {Bs : List LB} {uss : List (List XV)} {os : List Own}, QRsH U w (aggQ Bs) (denL (uss.map .agg)) os → ∃ oss : List (List Own), os = oss.flatten ∧ lbH U w Bs (uss.map denL) oss
  | [], uss, os, h => by
    simp only [aggQ, QRsH] at h
    obtain ⟨h1, rfl⟩ := h
    cases uss with
    | nil => exact ⟨[], rfl, rfl, rfl⟩
    | cons _ _ => simp [denL] at h1
  | B :: Bs, uss, os, h => by
    simp only [aggQ, QRsH] at h
    obtain ⟨u, us', o1, o2, h1, rfl, h2, h3⟩ := h
    cases uss with
    | nil => simp [denL] at h1
    | cons us uss =>
      simp only [List.map_cons, denL, List.cons.injEq] at h1
      obtain ⟨rfl, rfl⟩ := h1
      simp only [QR.h, XV.den, Value.agg.injEq] at h2
      obtain ⟨vs, hvs, h2⟩ := h2
      obtain ⟨oss, rfl, h4⟩ := aggQ_h h3
      refine ⟨o1 :: oss, rfl, denL us, uss.map denL, o1, oss, rfl, rfl, ?_, h4⟩
      rw [← hvs] at h2
      simpa using h2
theorem yse {U : Nat → Prop} {w : World} : ∀ {bl : List Nat} {Bs : List LB} {uss : List (List XV)}, bl.length = Bs.length → uss.length = Bs.length → (∀ (i : Nat) (us : List XV) (b : Nat) (B : LB), uss[i]? = some us → bl[i]? = some b → Bs[i]? = some B → w.heap[b]? = some (.cells (denL us).toArray B.ty (0, 0))) →
    ∀ o ∈ objs bl Bs (uss.map denL), o.h U w
  | [], [], [], _, _, _, o, ho => by simp [objs] at ho
  | b :: bl, B :: Bs, us :: uss, h1, h2, h, o, ho => by
    simp only [List.map_cons, objs] at ho
    rcases List.mem_cons.1 ho with rfl | ho
    · exact h 0 us b B rfl rfl rfl
    · exact yse (by simpa using h1) (by simpa using h2) (λi us b B g1 g2 g3 => h (i + 1) us b B (by simpa using g1) (by simpa using g2) (by simpa using g3)) o ho
  | [], _ :: _, _, h, _, _, _, _ => by simp at h
  | _ :: _, [], _, h, _, _, _, _ => by simp at h
  | _ :: _, _ :: _, [], _, h, _, _, _ => by simp at h
  | [], [], _ :: _, _, h, _, _, _ => by simp at h
theorem zqc {U U' : Nat → Prop} {w w' : World} (l : Later U U' w w') : ∀ {Bs : List LB} {uss : List (List Value)} {oss : List (List Own)}, lbH U w Bs uss oss → lbH U' w' Bs uss oss
  | [], uss, oss, h => h
  | B :: Bs, uss, oss, h => by
    obtain ⟨us, uss', os, oss', rfl, rfl, h1, h2⟩ := h
    exact ⟨us, uss', os, oss', rfl, rfl, zjq l _ h1, zqc l h2⟩
theorem zuq {U U' : Nat → Prop} {w w' : World} {bl : List Nat} (l : Later U U' w w') : ∀ {las : List LA} {vs : List Value} {ars : List Own}, laH U w bl las vs ars → laH U' w' bl las vs ars
  | [], vs, _, h => h
  | .r q :: las, vs, _, h => by
    obtain ⟨v, vs', rfl, h1, h2⟩ := h
    exact ⟨v, vs', rfl, R.mono l _ h1, zuq l h2⟩
  | .ptr i :: las, vs, _, h => by
    obtain ⟨b, vs', h0, rfl, h2⟩ := h
    exact ⟨b, vs', h0, rfl, zuq l h2⟩
  | .fn g is :: las, vs, _, h => by
    obtain ⟨cs, vs', h0, rfl, h2⟩ := h
    exact ⟨cs, vs', h0, rfl, zuq l h2⟩
  | .row e k els :: las, vs, _, h => by
    obtain ⟨v, vs', o, ars', rfl, rfl, h1, h2⟩ := h
    exact ⟨v, vs', o, ars', rfl, rfl, QR.mono l _ h1, zuq l h2⟩
theorem ctl_start {P : Program} {T : List TI} {LK : List (Nat × List Nat)} {C : Specs} {O : Trees} (cs : List Nat) (hT : zbb P T) (hC : zeb P C) (hm : P.follows .mixedOrders = true) {f : FuncId} {fn : Func} {c : Code} {las : List LA} {Bs Bs' : List LB} {lq : LQ}
    (hf : P.funcs[f]? = some fn) (hb : fn.body = some c) (hn : (fn.name == "runtime.NumGoroutine") = false) (hl : zdc (cuts cs) c = true) (hfl : flatLA las) (hcq : ∀ B ∈ Bs, ∀ q ∈ B.cells, cellQ q) (hlen : Bs'.length = Bs.length)
    (h : lbK Bs [] [] λpb rw => laK las rw λps rw => initP ps fn.ntmps λts => pv T LK C O cs 0 c (retPL T fn.results.toList lq Bs') ts pb rw) : CtL P f las Bs lq Bs' := by
  intro U w vs bl uss oss ars hbl HC hnU hlb hla
  obtain ⟨hul, hol⟩ := ypp hlb
  obtain ⟨o0, ho0⟩ : ∃ o0, o0 = oss.flatten ++ ars := ⟨_, rfl⟩
  rw [← ho0] at HC hnU hlb hla ⊢
  have hblk : blks (zce bl Bs uss) = bl := zyo hbl hul
  have hob : ownBl (objs bl Bs uss) = bl := ycf hbl hul
  have eU : Us U [] (objs bl Bs uss ++ o0) = Us U (blks (zce bl Bs uss)) (o0 ++ ownsOf [] 0 λ_ => (none, 0)) := by
    funext b; simp [Us, zac, hob, hblk, ownsOf]
  have HC1 : Ctx w U (bl ++ ownBl o0) bl o0 [] w := HC.reown (by rw [zac, hob]; simp) (λb hb => .inr (List.mem_append.2 (.inl hb))) (λb hb => .inr (List.mem_append.2 (.inr hb))) λU' l o ho => o.mono (HC.own o (List.mem_append.2 (.inr ho))) l λ_ _ => rfl
  have hTk : Tk 0 w U (bl ++ ownBl o0) (zce bl Bs uss) w (Us U (blks (zce bl Bs uss)) (o0 ++ ownsOf [] 0 λ_ => (none, 0))) o0 [] (λ_ => (none, 0)) :=
    ⟨by rw [hblk]; simpa [ownsOf] using HC1, rfl, by intro j e k els _ h; simp at h, λb hb => hnU b (List.mem_append.2 (.inr hb))⟩
  rw [eU] at hlb hla
  let π : Nat → Option Nat := λi => if i < bl.length then some i else none
  have hπ : ∀ (i b : Nat), bl[i]? = some b → π i = some i := λi b hb => by simp only [π]; rw [if_pos (List.getElem?_eq_some_iff.1 hb).1]
  have hπ' : ∀ i q, π i = some q → i = q ∧ q < bl.length := λi q hq => by simp only [π] at hq; split at hq <;> simp_all
  refine ysq (π := π) (o2 := ars) h hcq hlb (by rw [← ho0]; exact hTk) λl rw0 A0 h hl0 hT1 _ hall0 => ?_
  refine zup (π := π) (o2 := []) hblk hπ h hfl hla (by rw [List.append_nil]; exact hT1) λps zs rw A h hz hwz hT2 m2 hps => ?_
  have hall : ∀ (i : Nat) (p : Option PBox), l[i]? = some p → ∃ x B us, p = some x ∧ Bs[i]? = some B ∧ uss[i]? = some us ∧ x.ty = B.ty ∧ PVsH (Us U (blks (zce bl Bs uss)) (o0 ++ ownsOf [] 0 λ_ => (none, 0))) w (blks (zce bl Bs uss)) π rw A x.cells (injL us) := λi p hp => by
    obtain ⟨x, B, us, h1, h2, h3, h4, h5⟩ := hall0 i p hp
    exact ⟨x, B, us, h1, h2, h3, h4, zbu m2.sub h5⟩
  have eU2 : UU U (zce bl Bs uss) rw A = Us U (blks (zce bl Bs uss)) (o0 ++ ownsOf [] 0 λ_ => (none, 0)) := by have := hT2.u; rwa [List.nil_append] at this
  rw [← eU2] at hps hall
  have hnd : (blks (zce bl Bs uss)).Nodup := by rw [hblk]; exact (List.nodup_append.1 HC1.nd).1
  refine ykr (D := drawT P T O) (A := cuts cs) (W := w) (bx := zce bl Bs uss) hT (ykm hT hm O) hf hb hn hl zs (by rw [hz]) hwz (λx hx => ygl x hx) hnd
    ⟨rfl, rfl, rfl, Nat.le_refl _, λ_ _ _ => rfl, ydp λo ho => HC.own o (List.mem_append.2 (.inl ho))⟩ ?_
  refine zxc h hps λts xs h hts => ?_
  have hll : l.length = bl.length := by rw [hl0, hbl]
  have HR : Rep w U (bl ++ ownBl o0) rw ts ([] ++ l) xs (zce bl Bs uss) w π A := by
    refine ⟨by simpa using hT2.c, hts, ⟨λi p hp => ?_, λi j q hi hj => ?_, λi q hi => ?_, λq x hx => ?_⟩⟩
    · rw [List.nil_append] at hp
      obtain ⟨x, B, us, h1, h2, h3, h4, h5⟩ := hall i _ hp
      simp only [Option.some.injEq] at h1; subst h1
      have hi : i < bl.length := by rw [← hll]; exact (List.getElem?_eq_some_iff.1 hp).1
      exact ⟨i, _, hπ i _ (List.getElem?_eq_getElem hi), ydq (List.getElem?_eq_getElem hi) h2 h3, h4.symm, h5⟩
    · obtain ⟨h1, _⟩ := hπ' i q hi; obtain ⟨h2, _⟩ := hπ' j q hj; omega
    · obtain ⟨rfl, h1⟩ := hπ' i q hi
      have hi : i < l.length := by rw [hll]; exact h1
      obtain ⟨x, B, us, h1, _⟩ := hall i _ (List.getElem?_eq_getElem hi)
      exact ⟨x, by rw [List.nil_append, List.getElem?_eq_getElem hi, h1]⟩
    · have : q < bl.length := by
        have h1 := (List.getElem?_eq_some_iff.1 hx).1
        have h2 := congrArg List.length hblk
        simp only [blks, List.length_map] at h2; omega
      exact ⟨q, hπ q _ (List.getElem?_eq_getElem this)⟩
  have HS : StB 0 (zce bl Bs uss) π w U (bl ++ ownBl o0) rw ts ([] ++ l) xs (zce bl Bs uss) w π A :=
    StB.mk' HR hT2.low (λi q hi => by obtain ⟨rfl, h1⟩ := hπ' i q hi; simp; omega) (λ_ _ h => h) (λi x hx => ⟨x, hx, rfl, rfl⟩) ⟨[], by simp⟩
  have fin : ∀ {rw2 : List RS} {ts2 : List PV} {pb2 : PBs} {xs2 : List XV} {bx2 : List Box} {W2 : World} {π2 : Nat → Option Nat} {A2 : Asg} {ps2 : List PV} {zs2 : List XV}, StB 0 (zce bl Bs uss) π w U (bl ++ ownBl o0) rw2 ts2 pb2 xs2 bx2 W2 π2 A2 →
      PVsH (UU U bx2 rw2 A2) W2 (blks bx2) π2 rw2 A2 ps2 zs2 → endL lq Bs' (oneP' ps2) ts2 pb2 rw2 → ∀ w2, Sync bx2 W2 w2 → ∃ uss' oss' os, Ctx w U (bl ++ ownBl o0) [] (objs bl Bs' uss' ++ (os ++ oss'.flatten)) [] w2 ∧
        lbH (Us U [] (objs bl Bs' uss' ++ (os ++ oss'.flatten))) w2 Bs' uss' oss' ∧ lqH (Us U [] (objs bl Bs' uss' ++ (os ++ oss'.flatten))) w2 bl lq (oneRes zs2).den os := by
    intro rw2 ts2 pb2 xs2 bx2 W2 π2 A2 ps2 zs2 H2 hps2 he w2 hs2
    obtain ⟨l2, hl2, _⟩ := H2.pre
    rw [hblk] at hl2
    unfold endL at he
    refine yfu H2.rep (λ_ _ h => h) he (λi hi => H2.px i i (hπ i _ (List.getElem?_eq_getElem (by rw [hbl, ← hlen]; omega)))) λpcs usx he hux hux2 hpcs => ?_
    have hobj : ∀ o ∈ objs bl Bs' (usx.map denL), ∀ U', o.h U' w2 := by
      intro o ho U'
      refine yse (by rw [hbl, hlen]) hux (λi us b B g1 g2 g3 => ?_) o ho
      obtain ⟨x, B', k1, k2, k3, k4⟩ := hux2 i us g1
      rw [Nat.zero_add] at k1
      rw [g3] at k2; simp only [Option.some.injEq] at k2; subst k2
      have hxb : x.blk = b := by
        have h1 : (blks bx2)[i]? = some x.blk := by simp [blks, k1]
        rw [hl2, List.getElem?_append_left (List.getElem?_eq_some_iff.1 g2).1, g2] at h1
        simpa using h1.symm
      have := hs2.own x (List.mem_of_getElem? k1)
      rw [hxb, k4, k3] at this; exact this
    have key : ∀ {q : QR} {p : PV} {z : XV} (xo : List Own), (∀ o ∈ xo, ∀ U', o.h U' w2) → (bl ++ ownBl xo).Sublist (blks bx2) → p.h (UU U bx2 rw2 A2) W2 (blks bx2) π2 rw2 A2 z → endP 0 q p ts2 pb2 rw2 →
        ∃ os, q.h (Us U (blks bx2) os) w2 z.den os ∧ Ctx w U (bl ++ ownBl o0) [] (objs bl Bs' (usx.map denL) ++ (xo ++ os)) [] w2 ∧ Later (Us U (blks bx2) os) (Us U [] (objs bl Bs' (usx.map denL) ++ (xo ++ os))) w2 w2 := by
      intro q p z xo hxo hsl hp he
      obtain ⟨os, h1, h2⟩ := endP_L H2 hs2 hp he
      have hob' : ownBl (objs bl Bs' (usx.map denL)) = bl := ycf (by rw [hbl, hlen]) (by simpa using hux)
      have hbs : Ctx w U (bl ++ ownBl o0) (bl ++ ownBl xo) os [] w2 := h2.weak hsl (List.Sublist.refl _) λ_ h => h
      refine ⟨os, h1, hbs.reown (by rw [zac, zac, hob']; simp) (by simp) (λb hb => ?_) λU' lt o ho => ?_, ⟨λ_ _ _ => rfl, Nat.le_refl _, λb _ hb => ?_⟩⟩
      · rw [zac, zac, hob', ← List.append_assoc] at hb
        rcases List.mem_append.1 hb with hb | hb
        · exact hbs.low b hb
        · exact hbs.lowo b hb
      · rcases List.mem_append.1 ho with ho | ho
        · exact hobj o ho U'
        · rcases List.mem_append.1 ho with ho | ho
          · exact hxo o ho U'
          · exact o.mono (hbs.own o ho) lt λ_ _ => rfl
      · rcases hb with hb | hb | hb
        · exact .inl hb
        · simp at hb
        · rw [zac, zac, hob', ← List.append_assoc] at hb
          rcases List.mem_append.1 hb with hb | hb
          · exact .inr (.inl (hsl.subset hb))
          · exact .inr (.inr hb)
    have hsl0 : (bl ++ ownBl []).Sublist (blks bx2) := by simp only [ownBl, List.append_nil]; rw [hl2]; exact List.sublist_append_left _ _
    cases lq with
    | q q =>
      simp only at he
      obtain ⟨os, h1, h2, lt⟩ := key (z := .tup (oneRes zs2 :: usx.map .agg)) [] (by simp) hsl0 (by simp only [PV.h]; exact ⟨_, rfl, by simp only [PVsH]; exact ⟨_, _, rfl, zui hps2, hpcs⟩⟩) he
      simp only [QR.h, XV.den, Value.tuple.injEq] at h1
      obtain ⟨vs', hvs, h1⟩ := h1
      rw [← hvs] at h1
      simp only [denL, QRsH] at h1
      obtain ⟨u, us', o1, o2, he1, rfl, h3, h4⟩ := h1
      simp only [List.cons.injEq] at he1
      obtain ⟨rfl, rfl⟩ := he1
      obtain ⟨oss', rfl, h5⟩ := aggQ_h h4
      exact ⟨usx.map denL, oss', o1, h2, zqc lt h5, QR.mono lt q h3⟩
    | ptr i =>
      simp only at he
      obtain ⟨hpi, hi, he⟩ := he
      obtain ⟨os, h1, h2, lt⟩ := key (z := .tup (usx.map .agg)) [] (by simp) hsl0 (by simp only [PV.h]; exact ⟨_, rfl, hpcs⟩) he
      simp only [QR.h, XV.den, Value.tuple.injEq] at h1
      obtain ⟨vs', hvs, h1⟩ := h1
      rw [← hvs] at h1
      obtain ⟨oss', rfl, h5⟩ := aggQ_h (by simpa using h1)
      refine ⟨usx.map denL, oss', [], by simpa using h2, by simpa using zqc lt h5, rfl, ?_⟩
      have h6 := zui hps2
      rw [hpi] at h6
      simp only [PV.h] at h6
      obtain ⟨q, b, hq, hb, hz2⟩ := h6
      have hib : i < bl.length := by rw [hbl, ← hlen]; exact hi
      have := H2.px i i (hπ i _ (List.getElem?_eq_getElem hib))
      rw [this] at hq; cases hq
      rw [hl2, List.getElem?_append_left hib] at hb
      exact ⟨b, hb, by rw [hz2]; rfl⟩
    | obj B =>
      simp only at he
      have h6 := zui hps2
      cases hp : oneP' ps2 with
      | own i o =>
        rw [hp] at he h6
        simp only at he
        obtain ⟨rfl, hi, he⟩ := he
        obtain ⟨x, hx, hty, he⟩ := zhw he
        obtain ⟨q, y, g1, g2, g3, g4⟩ := H2.rep.pb.at_ i x hx
        simp only [PV.h] at h6
        obtain ⟨q', b, hq, hb, hz2⟩ := h6
        rw [g1] at hq; cases hq
        have hyb : y.blk = b := by have h1 : (blks bx2)[q]? = some y.blk := by simp [blks, g2]
                                   rw [hb] at h1; simpa using h1.symm
        have hqn : bl.length ≤ q := by
          rcases Nat.lt_or_ge q bl.length with h' | h'
          · have := H2.px q q (hπ q _ (List.getElem?_eq_getElem h'))
            have := H2.rep.pb.inj i q q g1 this
            subst this
            rw [hlen, ← hbl] at hi; omega
          · exact h'
        have hsl : (bl ++ ownBl [Own.obj b B.ty (denL y.cells)]).Sublist (blks bx2) := by
          rw [hl2]
          refine List.Sublist.append (List.Sublist.refl _) ?_
          simp only [ownBl, Own.obj, List.append_nil, List.singleton_sublist]
          rw [hl2, List.getElem?_append_right hqn] at hb
          exact List.mem_of_getElem? hb
        have hob2 : ∀ o ∈ [Own.obj b B.ty (denL y.cells)], ∀ U', o.h U' w2 := by
          intro o ho U'
          simp only [List.mem_singleton] at ho; subst ho
          have := hs2.own y (List.mem_of_getElem? g2)
          show w2.heap[b]? = some (.cells (denL y.cells).toArray B.ty (0, 0))
          rw [← hyb, ← hty, ← g3]; exact this
        obtain ⟨os, h1, h2, lt⟩ := key (z := .tup (.agg y.cells :: usx.map .agg)) _ hob2 hsl (by simp only [PV.h]; exact ⟨_, rfl, by simp only [PVsH]; exact ⟨_, _, rfl, (by simp only [PV.h]; exact ⟨_, rfl, g4⟩), hpcs⟩⟩) he
        simp only [QR.h, XV.den, Value.tuple.injEq] at h1
        obtain ⟨vs', hvs, h1⟩ := h1
        rw [← hvs] at h1
        simp only [denL, QRsH] at h1
        obtain ⟨u, us', o1, o2, he1, rfl, h3, h4⟩ := h1
        simp only [List.cons.injEq] at he1
        obtain ⟨rfl, rfl⟩ := he1
        obtain ⟨oss', rfl, h5⟩ := aggQ_h h4
        simp only [QR.h, XV.den, Value.agg.injEq] at h3
        obtain ⟨us2, hus2, h3⟩ := h3
        have hus2 : denL y.cells = us2.toList := by rw [← hus2]
        rw [← hus2] at h3
        have ea : [Own.obj b B.ty (denL y.cells)] ++ (o1 ++ oss'.flatten) = ([Own.obj b B.ty (denL y.cells)] ++ o1) ++ oss'.flatten := (List.append_assoc _ _ _).symm
        rw [ea] at h2 lt
        exact ⟨usx.map denL, oss', [Own.obj b B.ty (denL y.cells)] ++ o1, h2, zqc lt h5, b, denL y.cells, o1, by rw [hz2]; rfl, rfl, zjq lt _ h3⟩
      | _ => rw [hp] at he; exact he.elim
  refine pv_then hT hC c (λe ts2 pb2 rw2 xs2 bx2 W2 π2 A2 h2 H2 => ?_) h HS
  cases e <;> simp only [retPL] at h2
  case normal => exact ziu H2 h2 λps3 zs3 h3 hps3 w3 hs3 => fin H2 hps3 h3 w3 hs3
  case ret => exact ziu H2 h2 λps3 zs3 h3 hps3 w3 hs3 => fin H2 hps3 h3 w3 hs3
end Go.Vc
namespace Go.Vc
open Go Go.RowKit
def ptrsOk(ids:List Nat):List PV→List Nat→Prop
 |[],is=>match is with|[]=>True|_=>False
 |p::ps,is=>match is with
  |k::is=>(match p with | .own i o=>o=0∧ids[k]?=some i|_=>False)∧ptrsOk ids ps is
  |[]=>False
def laOk(ids:List Nat):List PV→List LA→Prop
 |[],las=>match las with|[]=>True|_=>False
 |p::ps,las=>match las with
  | .r q::las=>argOk p q∧laOk ids ps las
  | .ptr k::las=>(match p with | .own i o=>o=0∧ids[k]?=some i|_=>False)∧laOk ids ps las
  | .fn g is::las=>(match p with | .fn g' cs=>g'=g∧ptrsOk ids cs is|_=>False)∧laOk ids ps las
  | .row _ _ _::las=>laOk ids ps las
  |[]=>False
def rowQs:List LA→List QR
 |[]=>[]
 | .row e k els::las=>.own e k els::rowQs las
 |_::las=>rowQs las
def rowPs:List LA→List PV→List PV
 |[],_=>[]
 | .row _ _ _::las,ps=>match ps with|p::ps=>p::rowPs las ps|[]=>[]
 |_::las,ps=>match ps with|_::ps=>rowPs las ps|[]=>[]
def rowXs:List LA→List XV→List XV
 |[],_=>[]
 | .row _ _ _::las,ps=>match ps with|p::ps=>p::rowXs las ps|[]=>[]
 |_::las,ps=>match ps with|_::ps=>rowXs las ps|[]=>[]
def lgetK:List LB→List Nat→PBs→(List PV→Prop)→Prop
 |[],ids,_,K=>match ids with|[]=>K []|_=>False
 |B::Bs,ids,pb,K=>match ids with
  |i::ids=>pbK pb i λx=>x.ty=B.ty∧lgetK Bs ids pb λps=>K (.agg x.cells::ps)
  |[]=>False
def fill1(p:PV)(q:QR)(rw:List RS)(K:PV→List RS→Prop):Prop:=
 match q with
 | .r q=>r2pK q λp'=>K p' rw
 | .own e k els=>match p with
  | .row j=>rw[j]?=some .dead∧setRS rw j (.own e k els) λrw=>K (.row j) rw
  |_=>pushK rw (.own e k els) λrw'=>litK rw.length λn=>K (.row n) rw'
 |_=>False
def fillQ:List QR→List PV→List RS→(List PV→List RS→Prop)→Prop
 |[],ps,rw,K=>match ps with|[]=>K [] rw|_=>False
 |q::qs,ps,rw,K=>match ps with
  |p::ps=>fill1 p q rw λp' rw=>fillQ qs ps rw λps' rw=>K (p'::ps') rw
  |[]=>False
def fillB:List LB→List Nat→List PV→PBs→List RS→(PBs→List RS→Prop)→Prop
 |[],_,_,pb,rw,K=>K pb rw
 |B::Bs,ids,olds,pb,rw,K=>match ids,olds with
  |i::ids,.agg cs::olds=>fillQ B.cells cs rw λcs' rw=>pbK pb i λx=>setPBK pb i (some ⟨x.ty,cs'⟩) λpb=>fillB Bs ids olds pb rw K
  |_,_=>False
def qFill(ps:List PV)(q:QR)(rw:List RS)(K:PV→List RS→Prop):Prop:=
 match ps with
 |p::_=>match p with
  | .row j=>match q with | .own e k els=>fill1 (.row j) (.own e k els) rw K|q=>qK q rw K
  |_=>qK q rw K
 |[]=>qK q rw K
def lentS(X:Type)(las:X→List LA)(Bs:X→List LB)(pre:X→Prop)(lq:X→LQ)(Bs':X→List LB):Spec:=λnl args pb rw K=>
 nl=0∧∃(x:X) (ids:List Nat),ids.Nodup∧(∀i∈ids,PV.own i 0∈zba args)∧laOk ids args (las x)∧pre x∧lgetK (Bs x) ids pb λolds=>qOkL (aggQ (Bs x)) olds rw λrw0=>qOkL (rowQs (las x)) (rowPs (las x) args) rw0 λrw1=>
  subBK (lentF (lentR pb (zba args))) pb λpb1=>fillB (Bs' x) ids olds pb1 rw1 λpb2 rw2=>match lq x with
   | .q q=>qFill (rowPs (las x) args) q rw2 λp rw3=>K p pb2 rw3
   | .ptr k=>∃i,ids[k]?=some i∧K (.own i 0) pb2 rw2
   | .obj B=>q0LK B.cells rw2 λps rw3=>pushK pb2 (some ⟨B.ty,ps⟩) λpb3=>litK pb2.length λn=>K (.own n 0) pb3 rw3
theorem ycc:∀{rw:List RS} {j:Nat} (n:Nat) (A:Asg) (v:Option Addr×Nat) (e k:Nat) (els:List (List R)),rw[j]?=some .dead→
  ∃P Q,ownsOf rw n A=P++Q∧ownsOf (rw.set j (.own e k els)) n (upd A (n+j) v)=P++Own.row e k v.1 v.2 els::Q
 |[],j,n,A,v,e,k,els,h=>by simp at h
 |r::rs,0,n,A,v,e,k,els,h=>by
  simp at h; subst h
  refine⟨[],ownsOf rs (n+1) A,rfl,?_⟩
  simp only[List.set_cons_zero,ownsOf,Nat.add_zero,upd_eq,List.nil_append]
  rw[zga (n:=n+1) (A:=upd A n v) (A':=A) λi hi=>upd_ne A v (by omega)]
 |r::rs,j+1,n,A,v,e,k,els,h=>by
  obtain⟨P,Q,h1,h2⟩:=ycc (rw:=rs) (j:=j) (n+1) A v e k els (by simpa using h)
  rw[show n+1+j=n+(j+1) by omega]at h2
  cases r with
  |own e0 k0 els0=>
   refine⟨Own.row e0 k0 (A n).1 (A n).2 els0::P,Q,by simp only[ownsOf,h1,List.cons_append],?_⟩
   simp only[List.set_cons_succ,ownsOf,h2,List.cons_append]
   rw[upd_ne A v (by omega:n≠n+(j+1))]
  |ob o=>
   refine⟨Own.ob (A n).1 o::P,Q,by simp only[ownsOf,h1,List.cons_append],?_⟩
   simp only[List.set_cons_succ,ownsOf,h2,List.cons_append]
   rw[upd_ne A v (by omega:n≠n+(j+1))]
  |dead=>exact⟨P,Q,by simp only[ownsOf,h1],by simp only[List.set_cons_succ,ownsOf,h2]⟩
section
variable {nl:Nat} {V W w:World} {U0:Nat→Prop} {L:List Nat} {rw:List RS} {bx:List Box} {π:Nat→Option Nat} {A:Asg}
theorem Tk.fill{U:Nat→Prop}{os:List Own}{e k c j:Nat}{a:Option Addr}{els:List (List R)}(H:Tk nl V U0 L bx W U (Own.row e k a c els::os) rw A)(hj:rw[j]?=some .dead):
  Tk nl V U0 L bx W U os (rw.set j (.own e k els)) (upd A j (a,c))∧More rw A (rw.set j (.own e k els)) (upd A j (a,c)):=by
 obtain⟨P,Q,h1,h2⟩:=ycc 0 A (a,c) e k els hj
 rw[Nat.zero_add]at h2
 have hperm:List.Perm (Own.row e k a c els::os++ownsOf rw 0 A) (os++ownsOf (rw.set j (.own e k els)) 0 (upd A j (a,c))):=by
  rw[h1,h2,List.cons_append]
  refine List.Perm.trans ?_ (List.Perm.append_left os (List.perm_middle (a:=Own.row e k a c els) (l₁:=P) (l₂:=Q)).symm)
  exact(List.perm_middle (a:=Own.row e k a c els) (l₁:=os) (l₂:=P++Q)).symm
 refine⟨⟨H.c.perm hperm,?_,λi e' k' els' hi hr=>?_,λb hb=>H.new b (by simp only[ownBl]; exact List.mem_append.2 (.inr hb))⟩,⟨λi e' k' els' hi=>?_,λi o hi=>?_⟩⟩
 ·rw[←H.u]
  funext b
  have:=(zwp hperm).mem_iff (a:=b)
  simp only[Us]
  rw[this]
 ·by_cases hij:i=j
  ·subst hij; rw[upd_eq]; exact λb hb=>H.new b (by simp only[ownBl,Own.row]; exact List.mem_append.2 (.inl hb))
  ·rw[List.getElem?_set_ne (Ne.symm hij)]at hr; rw[upd_ne _ _ hij]; exact H.low i e' k' els' hi hr
 ·have hij:i≠j:=λhe=>by subst he; rw[hj]at hi; cases hi
  exact⟨by rw[List.getElem?_set_ne (Ne.symm hij)]; exact hi,upd_ne _ _ hij⟩
 ·have hij:i≠j:=λhe=>by subst he; rw[hj]at hi; cases hi
  exact⟨⟨o,by rw[List.getElem?_set_ne (Ne.symm hij)]; exact hi⟩,upd_ne _ _ hij⟩
theorem ygf{U:Nat→Prop}{p:PV}{q:QR}{u:Value}{o1 o2:List Own}{K:PV→List RS→Prop}{goal:Prop}(h:fill1 p q rw K)(hq:cellQ q)(hu:q.h U W u o1)(H:Tk nl V U0 L bx W U (o1++o2) rw A)
  (m:∀p rw' A',K p rw'→Tk nl V U0 L bx W U o2 rw' A'→More rw A rw' A'→p.h U W (blks bx) π rw' A' (inj0 u)→goal):goal:=by
 cases q with
 |r q=>exact yiw (π:=π) (q:=.r q) h hq hu H m
 |own e k els=>
  simp only[fill1]at h
  split at h
  ·rename_i j
   obtain⟨hd,h⟩:=h
   rw[zby]at h
   simp only[QR.h]at hu
   obtain⟨a,c,rfl,rfl⟩:=hu
   obtain⟨H',hm⟩:=Tk.fill (os:=o2) (by simpa using H) hd
   exact m _ _ _ h H' hm (by simp only[PV.h]; exact⟨e,k,els,by simp[(List.getElem?_eq_some_iff.1 hd).1],by rw[upd_eq]; rfl⟩)
  ·exact yiw (π:=π) (q:=.own e k els) h hq hu H m
 |_=>exact hq.elim
theorem ygb{U:Nat→Prop}:∀{qs:List QR} {ps:List PV} {us:List Value} {rw:List RS} {A:Asg} {o1 o2:List Own} {K:List PV→List RS→Prop} {goal:Prop},fillQ qs ps rw K→(∀q∈qs,cellQ q)→QRsH U W qs us o1→Tk nl V U0 L bx W U (o1++o2) rw A→
  (∀ps rw' A',K ps rw'→Tk nl V U0 L bx W U o2 rw' A'→More rw A rw' A'→PVsH U W (blks bx) π rw' A' ps (injL us)→goal)→goal
 |[],ps,us,rw,A,o1,o2,K,goal,h,_,hu,H,m=>by
  simp only[QRsH]at hu; obtain⟨rfl,rfl⟩:=hu
  simp only[fillQ]at h
  cases ps with
  |nil=>exact m [] rw A h (by simpa using H) (More.refl _ _) (by simp[PVsH,injL])
  |cons _ _=>exact h.elim
 |q::qs,ps,us,rw,A,o1,o2,K,goal,h,hq,hu,H,m=>by
  simp only[QRsH]at hu
  obtain⟨u,us',a1,a2,rfl,rfl,h1,h2⟩:=hu
  simp only[fillQ]at h
  cases ps with
  |nil=>exact h.elim
  |cons p ps=>
   refine ygf (π:=π) h (hq q (by simp)) h1 (o2:=a2++o2) (by simpa using H) λp rw1 A1 h H1 m1 hp=>?_
   refine ygb h (λq hq'=>hq q (by simp[hq'])) h2 H1 λps rw2 A2 h H2 m2 hps=>?_
   exact m (p::ps) rw2 A2 h H2 (m1.trans m2) (by simp only[PVsH,injL]; exact⟨_,_,rfl,PV.h_mono m2.sub hp,hps⟩)
def lkH(bx0:List Box)(w:World)(π:Nat→Option Nat):List LB→List Nat→List (List Value)→Prop
 |[],_,_=>True
 |B::Bs,ids,uss=>match ids,uss with
  |i::ids,us::uss=>(∃q x,π i=some q∧bx0[q]?=some x∧x.ty=B.ty∧w.heap[x.blk]?=some (.cells us.toArray B.ty (0,0)))∧lkH bx0 w π Bs ids uss
  |_,_=>False
structure SameB(bx bx':List Box):Prop where
 at_:∀(q:Nat) (x':Box),bx'[q]?=some x'→∃x:Box,bx[q]?=some x∧x'.blk=x.blk∧x'.ty=x.ty
 to:∀(q:Nat) (x:Box),bx[q]?=some x→∃x':Box,bx'[q]?=some x'∧x'.blk=x.blk∧x'.ty=x.ty
 blk:blks bx'=blks bx
theorem SameB.refl(bx:List Box):SameB bx bx:=⟨λ_ x h=>⟨x,h,rfl,rfl⟩,λ_ x h=>⟨x,h,rfl,rfl⟩,rfl⟩
theorem SameB.set{bx bx':List Box}(h:SameB bx bx')(q:Nat)(cs:List XV):SameB bx (setBox bx' q cs):=by
 refine⟨λi x' hi=>?_,λi x hi=>?_,by rw[zhc,h.blk]⟩
 ·rw[getElem?_setBox]at hi
  split at hi
  ·rename_i hiq; subst hiq
   cases hx:bx'[i]? with
   |none=>rw[hx]at hi; cases hi
   |some y=>rw[hx]at hi; simp at hi; subst hi; exact h.at_ i y hx
  ·exact h.at_ i x' hi
 ·obtain⟨x',h1,h2,h3⟩:=h.to i x hi
  rw[getElem?_setBox]
  split
  ·rename_i hiq; subst hiq; exact⟨{ x' with cells:=cs },by rw[h1]; rfl,h2,h3⟩
  ·exact⟨x',h1,h2,h3⟩
theorem yge{U:Nat→Prop}{o2:List Own}{goal:Prop}:∀{Bs:List LB} {ids:List Nat} {olds:List PV} {pb:PBs} {rw:List RS} {A:Asg} {K:PBs→List RS→Prop} {uss:List (List Value)} {oss:List (List Own)} {bx':List Box},
  fillB Bs ids olds pb rw K→(∀B∈Bs,∀q∈B.cells,cellQ q)→lbH U W Bs uss oss→Tk nl V U0 L bx W U (oss.flatten++o2) rw A→PBsH U W (blks bx) π rw A pb bx'→SameB bx bx'→lkH bx W π Bs ids uss→
  (∀(q:Nat) (x:Box),bx'[q]?=some x→(∃(k i:Nat),k<Bs.length∧ids[k]?=some i∧π i=some q)∨W.heap[x.blk]?=some (.cells (denL x.cells).toArray x.ty (0,0)))→
  (∀(pb':PBs) (rw':List RS) (A':Asg) (bx'':List Box),K pb' rw'→Tk nl V U0 L bx W U o2 rw' A'→More rw A rw' A'→PBsH U W (blks bx) π rw' A' pb' bx''→SameB bx bx''→pb'.length=pb.length→
   (∀(q:Nat) (x:Box),bx''[q]?=some x→W.heap[x.blk]?=some (.cells (denL x.cells).toArray x.ty (0,0)))→(∀(q:Nat),(∀(k i:Nat),k<Bs.length→ids[k]?=some i→π i≠some q)→bx''[q]?=bx'[q]?)→goal)→goal
 |[],ids,olds,pb,rw,A,K,uss,oss,bx',h,_,hl,H,hpb,hsb,_,hs,m=>by
  obtain⟨rfl,rfl⟩:=hl
  exact m pb rw A bx' h (by simpa using H) (More.refl _ _) hpb hsb rfl (λq x hx=>(hs q x hx).elim (λ⟨k,_,hk,_⟩=>by simp at hk) id) λ_ _=>rfl
 |B::Bs,ids,olds,pb,rw,A,K,uss,oss,bx',h,hc,hl,H,hpb,hsb,hk,hs,m=>by
  obtain⟨us,uss',os,oss',rfl,rfl,hq,hl⟩:=hl
  simp only[fillB]at h
  cases ids with
  |nil=>exact h.elim
  |cons i ids=>
   match olds,h with
   | .agg cs::olds,h=>
    simp only[lkH]at hk
    obtain⟨⟨q,x,hqi,hx,hty,hheap⟩,hk⟩:=hk
    refine ygb (π:=π) h (hc B (by simp)) hq (o2:=oss'.flatten++o2) (by simpa using H) λps' rw1 A1 h H1 m1 hps=>?_
    obtain⟨y,hy,h⟩:=zhw h
    rw[zep]at h
    have hpb1:PBsH U W (blks bx) π rw1 A1 pb bx':=zdx m1.sub (λ_ _ h=>h) hpb
    have hpb2:=yts hpb1 hy hqi hps
    obtain⟨x',hx',hxb,hxt⟩:=hsb.to q x hx
    refine yge h (λB hB=>hc B (by simp[hB])) hl H1 hpb2 (hsb.set q _) hk (λq' z hz=>?_) λpb3 rw3 A3 bx3 h H3 m3 hpb3 hsb3 hlen hs3 hkeep=>m pb3 rw3 A3 bx3 h H3 (m1.trans m3) hpb3 hsb3 (by rw[hlen,List.length_set]) hs3 λq' hq'=>?_
    ·rw[getElem?_setBox]at hz
     split at hz
     ·rename_i hqq; subst hqq
      rw[hx']at hz; simp at hz; subst hz
      right
      simp only[zjl]
      rw[hxb,hxt,hty]; exact hheap
     ·rename_i hqq
      rcases hs q' z hz with ⟨k,i',hk1,hk2,hk3⟩|h'
      ·cases k with
       |zero=>simp at hk2; subst hk2; rw[hqi]at hk3; cases hk3; exact(hqq rfl).elim
       |succ k=>exact .inl ⟨k,i',by simpa using hk1,by simpa using hk2,hk3⟩
      ·exact .inr h'
    ·rw[hkeep q' λk i' hk1 hk2=>hq' (k+1) i' (by simpa using hk1) (by simpa using hk2),getElem?_setBox,if_neg]
     rintro rfl
     exact hq' 0 i (by simp) rfl hqi
theorem ybe:∀{rw:List RS} {j:Nat} {K K':Nat→Nat→List (List R)→Prop},rsK rw j K→(∀e k els,K e k els→K' e k els)→rsK rw j K'
 |[],j,K,K',h,m=>h.elim
 |r::rw,0,K,K',h,m=>by cases r with
  |own e k els=>exact m _ _ _ h
  |ob o=>exact h.elim
  |dead=>exact h.elim
 |r::rw,j+1,K,K',h,m=>ybe (rw:=rw) (j:=j) h m
mutual
theorem PV.rows_acc:(p:PV)→(acc:List Nat)→p.rows acc=p.rows []++acc
 | .row j,acc=>rfl
 | .fn _ cs,acc=>by simp only[PV.rows]; exact zfx cs acc
 | .agg cs,acc=>by simp only[PV.rows]; exact zfx cs acc
 | .tup cs,acc=>by simp only[PV.rows]; exact zfx cs acc
 | .x _,acc=>rfl
 | .sl _ _,acc=>rfl
 | .el _ _,acc=>rfl
 | .re _ _ _,acc=>rfl
 | .rt _ _,acc=>rfl
 | .ob _,acc=>rfl
 | .own _ _,acc=>rfl
 | .junk,acc=>rfl
theorem zfx:(ps:List PV)→(acc:List Nat)→rowsL ps acc=rowsL ps []++acc
 |[],acc=>rfl
 |p::ps,acc=>by simp only[rowsL]; rw[PV.rows_acc p,zfx ps acc,PV.rows_acc p (rowsL ps [])]; simp
end
mutual
theorem qOk_keep:(q:QR)→{p:PV}→{rw:List RS}→{K:List RS→Prop}→qOk q p rw K→qOk q p rw λrw1=>K rw1∧∀i,i∉p.rows []→rw1[i]?=rw[i]?
 | .r q,p,rw,K,h=>⟨h.1,h.2,λ_ _=>rfl⟩
 | .own e k els,p,rw,K,h=>by
  cases p with
  |row j=>
   refine ybe h λe' k' els' ⟨h1,h2,h3,h4⟩=>⟨h1,h2,h3,?_⟩
   rw[zby]at h4 ⊢
   exact⟨h4,λi hi=>by rw[List.getElem?_set_ne]; intro he; subst he; exact hi (by simp[PV.rows])⟩
  |x y=>exact⟨h.1,h.2.1,h.2.2,λ_ _=>rfl⟩
  |_=>exact h.elim
 | .agg qs,p,rw,K,h=>by
  cases p with
  |agg ps=>exact znk qs h
  |_=>exact h.elim
 | .tup qs,p,rw,K,h=>by
  cases p with
  |tup ps=>exact znk qs h
  |_=>exact h.elim
theorem znk:(qs:List QR)→{ps:List PV}→{rw:List RS}→{K:List RS→Prop}→qOkL qs ps rw K→qOkL qs ps rw λrw1=>K rw1∧∀i,i∉rowsL ps []→rw1[i]?=rw[i]?
 |[],ps,rw,K,h=>by
  cases ps with
  |nil=>exact⟨h,λ_ _=>rfl⟩
  |cons _ _=>exact h.elim
 |q::qs,ps,rw,K,h=>by
  cases ps with
  |nil=>exact h.elim
  |cons p ps=>
   simp only[qOkL]at h ⊢
   refine yrz q (qOk_keep q h) λrw1 ⟨h1,h2⟩=>zuc qs (znk qs h1) λrw2 ⟨h3,h4⟩=>⟨h3,λi hi=>?_⟩
   simp only[rowsL]at hi
   rw[PV.rows_acc]at hi
   simp only[List.mem_append,not_or]at hi
   rw[h4 i hi.2,h2 i hi.1]
theorem yrz:(q:QR)→{p:PV}→{rw:List RS}→{K K':List RS→Prop}→qOk q p rw K→(∀rw,K rw→K' rw)→qOk q p rw K'
 | .r q,p,rw,K,K',h,m=>⟨h.1,m _ h.2⟩
 | .own e k els,p,rw,K,K',h,m=>by
  cases p with
  |row j=>
   refine ybe h λe' k' els' ⟨h1,h2,h3,h4⟩=>⟨h1,h2,h3,?_⟩
   rw[zby]at h4 ⊢
   exact m _ h4
  |x y=>exact⟨h.1,h.2.1,m _ h.2.2⟩
  |_=>exact h.elim
 | .agg qs,p,rw,K,K',h,m=>by
  cases p with
  |agg ps=>exact zuc qs h m
  |_=>exact h.elim
 | .tup qs,p,rw,K,K',h,m=>by
  cases p with
  |tup ps=>exact zuc qs h m
  |_=>exact h.elim
theorem zuc:(qs:List QR)→{ps:List PV}→{rw:List RS}→{K K':List RS→Prop}→qOkL qs ps rw K→(∀rw,K rw→K' rw)→qOkL qs ps rw K'
 |[],ps,rw,K,K',h,m=>by
  cases ps with
  |nil=>exact m _ h
  |cons _ _=>exact h.elim
 |q::qs,ps,rw,K,K',h,m=>by
  cases ps with
  |nil=>exact h.elim
  |cons p ps=>exact yrz q h λrw h=>zuc qs h m
end
end
end Go.Vc

namespace Go.Vc
open Go Go.RowKit
def lkB(bx:List Box)(π:Nat→Option Nat):List Nat→List LB→List Nat→List (List XV)→Prop
 |[],Bs,bl,xss=>Bs=[]∧bl=[]∧xss=[]
 |i::ids,Bs,bl,xss=>∃B Bs' b bl' xs xss' q x,Bs=B::Bs'∧bl=b::bl'∧xss=xs::xss'∧π i=some q∧bx[q]?=some x∧x.ty=B.ty∧x.blk=b∧x.cells=xs∧lkB bx π ids Bs' bl' xss'
theorem lkB_len{bx:List Box}{π:Nat→Option Nat}:∀{ids:List Nat} {Bs:List LB} {bl:List Nat} {xss:List (List XV)},lkB bx π ids Bs bl xss→Bs.length=ids.length∧bl.length=ids.length∧xss.length=ids.length
 |[],Bs,bl,xss,h=>by obtain⟨rfl,rfl,rfl⟩:=h; exact⟨rfl,rfl,rfl⟩
 |i::ids,Bs,bl,xss,h=>by
  obtain⟨B,Bs',b,bl',xs,xss',q,x,rfl,rfl,rfl,_,_,_,_,_,h⟩:=h
  obtain⟨h1,h2,h3⟩:=lkB_len h
  exact⟨by simp[h1],by simp[h2],by simp[h3]⟩
theorem yjv{bx:List Box}{π:Nat→Option Nat}:∀{ids:List Nat} {Bs:List LB} {bl:List Nat} {xss:List (List XV)},lkB bx π ids Bs bl xss→∀b∈bl,∃i q x,i∈ids∧π i=some q∧bx[q]?=some x∧x.blk=b
 |[],Bs,bl,xss,h,b,hb=>by obtain⟨rfl,rfl,rfl⟩:=h; cases hb
 |i::ids,Bs,bl,xss,h,b,hb=>by
  obtain⟨B,Bs',b',bl',xs,xss',q,x,rfl,rfl,rfl,h1,h2,_,h4,_,h⟩:=h
  rcases List.mem_cons.1 hb with rfl|hb
  ·exact⟨i,q,x,by simp,h1,h2,h4⟩
  ·obtain⟨i',q',x',g1,g2,g3,g4⟩:=yjv h b hb
   exact⟨i',q',x',by simp[g1],g2,g3,g4⟩
theorem yjw{bx:List Box}{π:Nat→Option Nat}:∀{ids:List Nat} {Bs:List LB} {bl:List Nat} {xss:List (List XV)},lkB bx π ids Bs bl xss→∀(k i:Nat),ids[k]?=some i→∃b q x,bl[k]?=some b∧π i=some q∧bx[q]?=some x∧x.blk=b
 |[],Bs,bl,xss,h,k,i,hk=>by simp at hk
 |i0::ids,Bs,bl,xss,h,k,i,hk=>by
  obtain⟨B,Bs',b',bl',xs,xss',q,x,rfl,rfl,rfl,h1,h2,_,h4,_,h⟩:=h
  cases k with
  |zero=>simp at hk; subst hk; exact⟨b',q,x,rfl,h1,h2,h4⟩
  |succ k=>simpa using yjw h k i (by simpa using hk)
theorem ymy{bx:List Box}{π:Nat→Option Nat}(hinj:∀i j q,π i=some q→π j=some q→i=j)(hnd:(blks bx).Nodup):∀{ids:List Nat} {Bs:List LB} {bl:List Nat} {xss:List (List XV)},lkB bx π ids Bs bl xss→ids.Nodup→bl.Nodup
 |[],Bs,bl,xss,h,_=>by obtain⟨rfl,rfl,rfl⟩:=h; exact List.nodup_nil
 |i::ids,Bs,bl,xss,h,hi=>by
  obtain⟨B,Bs',b,bl',xs,xss',q,x,rfl,rfl,rfl,h1,h2,_,h4,_,h⟩:=h
  have hi:=List.nodup_cons.1 hi
  refine List.nodup_cons.2 ⟨λhm=>?_,ymy hinj hnd h hi.2⟩
  obtain⟨i',q',x',g1,g2,g3,g4⟩:=yjv h b hm
  have e1:(blks bx)[q]?=some b:=by simp[blks,h2,h4]
  have e2:(blks bx)[q']?=some b:=by simp[blks,g3,g4]
  have hq:=(List.getElem?_eq_some_iff.1 e1)
  have hq':=(List.getElem?_eq_some_iff.1 e2)
  have:q=q':=(List.getElem_inj hnd).1 (hq.2.trans hq'.2.symm)
  subst this
  have:=hinj _ _ _ h1 g2
  subst this
  exact hi.1 g1
theorem ysm{bx:List Box}{π:Nat→Option Nat}{U:Nat→Prop}{w:World}(hs:∀x∈bx,w.heap[x.blk]?=some (.cells (denL x.cells).toArray x.ty (0,0))):∀{ids:List Nat} {Bs:List LB} {bl:List Nat} {xss:List (List XV)},lkB bx π ids Bs bl xss→∀o∈objs bl Bs (xss.map denL),o.h U w
 |[],Bs,bl,xss,h,o,ho=>by obtain⟨rfl,rfl,rfl⟩:=h; simp[objs]at ho
 |i::ids,Bs,bl,xss,h,o,ho=>by
  obtain⟨B,Bs',b,bl',xs,xss',q,x,rfl,rfl,rfl,h1,h2,h3,h4,h5,h⟩:=h
  simp only[List.map_cons,objs]at ho
  rcases List.mem_cons.1 ho with rfl|ho
  ·have:=hs x (List.mem_of_getElem? h2)
   show w.heap[b]?=some (.cells (denL xs).toArray B.ty (0,0))
   rw[←h4,←h5,←h3]; exact this
  ·exact ysm hs h o ho
theorem lkB_lkH{bx:List Box}{π:Nat→Option Nat}{U:Nat→Prop}{w:World}:∀{ids:List Nat} {Bs Bs':List LB} {bl:List Nat} {xss:List (List XV)} {uss:List (List Value)},lkB bx π ids Bs bl xss→Bs'.map (·.ty)=Bs.map (·.ty)→uss.length=Bs'.length→(∀o∈objs bl Bs' uss,o.h U w)→lkH bx w π Bs' ids uss
 |[],Bs,Bs',bl,xss,uss,h,ht,hu,ho=>by
  obtain⟨rfl,rfl,rfl⟩:=h
  cases Bs' with
  |nil=>trivial
  |cons _ _=>simp at ht
 |i::ids,Bs,Bs',bl,xss,uss,h,ht,hu,ho=>by
  obtain⟨B,Bs1,b,bl',xs,xss',q,x,rfl,rfl,rfl,h1,h2,h3,h4,h5,h⟩:=h
  cases Bs' with
  |nil=>simp at ht
  |cons B' Bs'=>
   cases uss with
   |nil=>simp at hu
   |cons us uss=>
    simp only[List.map_cons,List.cons.injEq]at ht
    refine⟨⟨q,x,h1,h2,h3.trans ht.1.symm,?_⟩,lkB_lkH (U:=U) h ht.2 (by simpa using hu) λo h'=>ho o (by simp[objs,h'])⟩
    have:=ho (Own.obj b B'.ty us) (by simp[objs])
    rw[h4]; exact this
section
variable {nl:Nat} {al:Nat→Bool} {I:List Nat} {bx0:List Box} {p0:Nat→Option Nat} {V W w:World} {U0:Nat→Prop} {L:List Nat} {rw:List RS} {ts:List PV} {pb:PBs} {xs:List XV} {bx:List Box} {π:Nat→Option Nat} {A:Asg}
theorem yna(H:Rep V U0 L rw ts pb xs bx W π A):∀{Bs:List LB} {ids:List Nat} {K:List PV→Prop},lgetK Bs ids pb K→
  ∃olds bl xss,K olds∧lkB bx π ids Bs bl xss∧PVsH (UU U0 bx rw A) W (blks bx) π rw A olds (xss.map .agg)∧∀j∈rowsL olds [],∃i∈ids,j∈rowsL (zmt pb i) []
 |[],ids,K,h=>by
  simp only[lgetK]at h
  cases ids with
  |nil=>exact⟨[],[],[],h,⟨rfl,rfl,rfl⟩,by simp[PVsH],by simp[rowsL]⟩
  |cons _ _=>exact h.elim
 |B::Bs,ids,K,h=>by
  simp only[lgetK]at h
  cases ids with
  |nil=>exact h.elim
  |cons i ids=>
   obtain⟨p,hp,hty,h⟩:=zhw h
   obtain⟨q,x,h1,h2,h3,h4⟩:=H.pb.at_ i p hp
   obtain⟨olds,bl,xss,g1,g2,g3,g4⟩:=yna H h
   refine⟨.agg p.cells::olds,x.blk::bl,x.cells::xss,g1,⟨B,Bs,_,_,_,_,q,x,rfl,rfl,rfl,h1,h2,h3.trans hty,rfl,rfl,g2⟩,by simp only[List.map_cons,PVsH]; exact⟨_,_,rfl,(by simp only[PV.h]; exact⟨_,rfl,h4⟩),g3⟩,λj hj=>?_⟩
   have hbc:∀{pb:PBs} {i:Nat} {p:PBox},pb[i]?=some (some p)→zmt pb i=p.cells:=by
    intro pb
    induction pb with
    |nil=>intro i p h; simp at h
    |cons o pb ih=>intro i p h; cases i with
     |zero=>simp at h; subst h; rfl
     |succ i=>exact ih (by simpa using h)
   simp only[rowsL,PV.rows]at hj
   rw[zfx]at hj
   rcases List.mem_append.1 hj with hj|hj
   ·exact⟨i,by simp,by rw[hbc hp]; exact hj⟩
   ·obtain⟨i',hi',hj'⟩:=g4 j hj
    exact⟨i',by simp[hi'],hj'⟩
theorem ycp{pb:PBs}{i o j:Nat}:∀{args:List PV},PV.own i o∈args→j∈rowsL (zmt pb i) []→j∈lentR pb args
 |[],h,_=>by cases h
 |p::ps,h,hj=>by
  rcases List.mem_cons.1 h with rfl|h
  ·simp only[lentR]; rw[zfx]; exact List.mem_append.2 (.inl hj)
  ·have:=ycp h hj
   cases p<;>simp only[lentR]<;>first|(rw[zfx]; exact List.mem_append.2 (.inr this))|(rw[PV.rows_acc]; exact List.mem_append.2 (.inr this))
theorem zsh{p:PV}{j:Nat}:∀{args:List PV},p∈args→j∈p.rows []→∃p'∈zba args,j∈p'.rows []
 |[],h,_=>by cases h
 |q::ps,h,hj=>by
  have up:∀{p':PV},p'∈zba ps→p'∈zba (q::ps):=λh'=>by
   simp only[zba]; split
   ·exact List.mem_append.2 (.inr h')
   ·exact List.mem_cons_of_mem _ h'
  rcases List.mem_cons.1 h with rfl|h
  ·cases p with
   |fn g cs=>
    simp only[PV.rows]at hj
    have:∀{cs:List PV},j∈rowsL cs []→∃p'∈cs,j∈p'.rows []:=by
     intro cs
     induction cs with
     |nil=>intro h; simp[rowsL]at h
     |cons c cs ih=>
      intro h
      simp only[rowsL]at h
      rw[PV.rows_acc]at h
      rcases List.mem_append.1 h with h|h
      ·exact⟨c,by simp,h⟩
      ·obtain⟨p',h1,h2⟩:=ih h; exact⟨p',by simp[h1],h2⟩
    obtain⟨p',h1,h2⟩:=this hj
    exact⟨p',by simp only[zba]; exact List.mem_append.2 (.inl h1),h2⟩
   |_=>exact⟨_,by simp[zba],hj⟩
  ·obtain⟨p',h1,h2⟩:=zsh h hj
   exact⟨p',up h1,h2⟩
theorem zww{pb:PBs}{p:PV}{j:Nat}:∀{args:List PV},p∈args→j∈p.rows []→j∈lentR pb args
 |[],h,_=>by cases h
 |q::ps,h,hj=>by
  rcases List.mem_cons.1 h with rfl|h
  ·cases p<;>first|(simp only[PV.rows]at hj; cases hj; done)|(simp only[lentR]; rw[PV.rows_acc]; exact List.mem_append.2 (.inl hj))
  ·have:=zww (pb:=pb) h hj
   cases q<;>simp only[lentR]<;>first|(rw[zfx]; exact List.mem_append.2 (.inr this))|(rw[PV.rows_acc]; exact List.mem_append.2 (.inr this))
theorem ybg{j:Nat}:∀{las:List LA} {args:List PV},j∈rowsL (rowPs las args) []→∃p∈args,j∈p.rows []
 |[],args,h=>by simp[rowPs,rowsL]at h
 |la::las,args,h=>by
  cases args with
  |nil=>cases la<;>simp[rowPs,rowsL]at h
  |cons p ps=>
   have later:j∈rowsL (rowPs las ps) []→∃p'∈p::ps,j∈p'.rows []:=λh=>by
    obtain⟨p',h1,h2⟩:=ybg h; exact⟨p',by simp[h1],h2⟩
   cases la with
   |row e k els=>
    simp only[rowPs,rowsL]at h
    rw[PV.rows_acc]at h
    rcases List.mem_append.1 h with h|h
    ·exact⟨p,by simp,h⟩
    ·exact later h
   |_=>exact later (by simpa only[rowPs]using h)
theorem yow{U:Nat→Prop}{W:World}{bs:List Nat}{π:Nat→Option Nat}{rw:List RS}{A:Asg}:∀{las:List LA} {ps:List PV} {zs:List XV},PVsH U W bs π rw A ps zs→PVsH U W bs π rw A (rowPs las ps) (rowXs las zs)
 |[],ps,zs,h=>by simp[rowPs,rowXs,PVsH]
 |la::las,ps,zs,h=>by
  cases ps with
  |nil=>simp only[PVsH]at h; subst h; cases la<;>simp[rowPs,rowXs,PVsH]
  |cons p ps=>
   simp only[PVsH]at h
   obtain⟨z,zs',rfl,h1,h2⟩:=h
   cases la with
   |row e k els=>simp only[rowPs,rowXs,PVsH]; exact⟨_,_,rfl,h1,yow h2⟩
   |_=>simp only[rowPs,rowXs]; exact yow h2
theorem yfn{i o:Nat}:∀{args:List PV},ownsOk al args=true→PV.own i o∈args→al i=true
 |[],_,h=>by cases h
 |p::ps,hk,h=>by
  rcases List.mem_cons.1 h with rfl|h
  ·simp only[ownsOk,Bool.and_eq_true]at hk; exact hk.1
  ·refine yfn (args:=ps) ?_ h
   cases p<;>simp only[ownsOk,Bool.and_eq_true]at hk<;>first|exact hk|exact hk.2
theorem yby{U:Nat→Prop}{bl ids:List Nat}{Bs:List LB}{xss:List (List XV)}(hk:lkB bx π ids Bs bl xss):∀{ps:List PV} {is:List Nat} {ys:List XV},ptrsOk ids ps is→PVsH U W (blks bx) π rw A ps ys→ptrsH bl is (denL ys)
 |[],is,ys,h,hp=>by
  simp only[PVsH]at hp; subst hp
  cases is with
  |nil=>simp[ptrsH,denL]
  |cons _ _=>exact h.elim
 |p::ps,is,ys,h,hp=>by
  simp only[PVsH]at hp
  obtain⟨z,zs',rfl,h1,h2⟩:=hp
  cases is with
  |nil=>exact h.elim
  |cons k is=>
   obtain⟨h3,h4⟩:=h
   cases p with
   |own i o=>
    obtain⟨rfl,hi⟩:=h3
    simp only[PV.h]at h1
    obtain⟨q,b,hq,hb,rfl⟩:=h1
    obtain⟨b',q',x,g1,g2,g3,g4⟩:=yjw hk k i hi
    rw[hq]at g2; cases g2
    have:b'=b:=by rw[←g4]; have:=hb; simp[blks,g3]at this; exact this
    subst this
    exact⟨b',_,g1,rfl,yby hk h4 h2⟩
   |_=>exact h3.elim
theorem znw{U:Nat→Prop}{bl ids:List Nat}{Bs:List LB}{xss:List (List XV)}(hk:lkB bx π ids Bs bl xss):∀{ps:List PV} {las:List LA} {zs:List XV} {ars:List Own},laOk ids ps las→PVsH U W (blks bx) π rw A ps zs→QRsH U W (rowQs las) (denL (rowXs las zs)) ars→laH U W bl las (denL zs) ars
 |[],las,zs,ars,h,hp,hr=>by
  simp only[PVsH]at hp; subst hp
  cases las with
  |nil=>simp only[rowQs,QRsH]at hr; exact⟨rfl,hr.2⟩
  |cons _ _=>exact h.elim
 |p::ps,las,zs,ars,h,hp,hr=>by
  simp only[PVsH]at hp
  obtain⟨z,zs',rfl,h1,h2⟩:=hp
  simp only[laOk]at h
  match las,h with
  | .r q::las,h=>exact⟨_,_,rfl,(ygn p h.1 h1).1,znw hk h.2 h2 hr⟩
  | .ptr k::las,h=>
   obtain⟨h3,h4⟩:=h
   cases p with
   |own i o=>
    obtain⟨rfl,hi⟩:=h3
    simp only[PV.h]at h1
    obtain⟨q,b,hq,hb,rfl⟩:=h1
    obtain⟨b',q',x,g1,g2,g3,g4⟩:=yjw hk k i hi
    rw[hq]at g2; cases g2
    have:b'=b:=by rw[←g4]; have:=hb; simp[blks,g3]at this; exact this
    subst this
    exact⟨b',_,g1,rfl,znw hk h4 h2 hr⟩
   |_=>exact h3.elim
  | .fn g is::las,h=>
   obtain⟨h3,h4⟩:=h
   cases p with
   |fn g' cs=>
    obtain⟨rfl,h3⟩:=h3
    simp only[PV.h]at h1
    obtain⟨ys,rfl,h1⟩:=h1
    exact⟨denL ys,_,yby hk h3 h1,rfl,znw hk h4 h2 hr⟩
   |_=>exact h3.elim
  | .row e k els::las,h=>
   simp only[rowQs,rowXs,denL,QRsH]at hr
   obtain⟨u,us',o1,o2,he,rfl,h3,h4⟩:=hr
   simp only[List.cons.injEq]at he
   obtain⟨rfl,rfl⟩:=he
   exact⟨_,_,o1,o2,rfl,rfl,h3,znw hk h h2 h4⟩
theorem zri:∀{rw:List RS} {n:Nat} {A:Asg} {o:Own},o∈ownsOf rw n A→(∃(j e k:Nat) (els:List (List R)),rw[j]?=some (.own e k els)∧o=Own.row e k (A (n+j)).1 (A (n+j)).2 els)∨∃(j:Nat) (x:Obj),rw[j]?=some (.ob x)∧o=Own.ob (A (n+j)).1 x
 |[],n,A,o,h=>by simp[ownsOf]at h
 |r::rs,n,A,o,h=>by
  have later:o∈ownsOf rs (n+1) A→(∃(j e k:Nat) (els:List (List R)),(r::rs)[j]?=some (.own e k els)∧o=Own.row e k (A (n+j)).1 (A (n+j)).2 els)∨∃(j:Nat) (x:Obj),(r::rs)[j]?=some (.ob x)∧o=Own.ob (A (n+j)).1 x:=by
   intro h
   rcases zri h with ⟨j,e',k',els',h1,h2⟩|⟨j,x,h1,h2⟩
   ·exact .inl ⟨j+1,e',k',els',by simpa using h1,by rw[h2,show n+1+j=n+(j+1) by omega]⟩
   ·exact .inr ⟨j+1,x,by simpa using h1,by rw[h2,show n+1+j=n+(j+1) by omega]⟩
  cases r with
  |own e k els=>
   simp only[ownsOf]at h
   rcases List.mem_cons.1 h with rfl|h
   ·exact .inl ⟨0,e,k,els,rfl,rfl⟩
   ·exact later h
  |ob x=>
   simp only[ownsOf]at h
   rcases List.mem_cons.1 h with rfl|h
   ·exact .inr ⟨0,x,rfl,rfl⟩
   ·exact later h
  |dead=>exact later h
theorem ypl{rw:List RS}{j:Nat}{o:Obj}(n:Nat)(A:Asg)(h:rw[j]?=some (.ob o)):Own.ob (A (n+j)).1 o∈ownsOf rw n A:=by
 obtain⟨P,Q,h1,_⟩:=zlr n A h
 rw[h1]; simp
theorem Ctx.lendL{bs:List Nat}{os1 os2:List Own}(H:Ctx V U0 L bs (os1++os2) [] w)(hb:∀b∈bs,b<w.heap.size):Ctx w (λb=>Us U0 bs os2 b∧b∉ownBl os1) (ownBl os1) [] os1 [] w:=by
 have hnd:=(List.nodup_append.1 H.nd).2.1
 rw[zac]at hnd
 refine⟨rfl,rfl,rfl,Nat.le_refl _,λ_ _ _=>rfl,by simp,λb hb=>.inr hb,λb hu=>?_,by simpa using(List.nodup_append.1 hnd).1,λo ho=>o.mono (H.own o (List.mem_append.2 (.inl ho))) ⟨λ_ _ _=>rfl,Nat.le_refl _,λb _ h=>?_⟩ λ_ _=>rfl,by intro p hp; cases hp⟩
 ·rcases hu.1 with hu|hu|hu
  ·exact Nat.lt_of_lt_of_le (H.u0 b hu) H.size
  ·exact hb b hu
  ·exact H.ltOwn (by rw[zac]; exact List.mem_append.2 (.inr hu))
 ·rcases h with h|h|h
  ·rcases h.1 with h|h|h
   ·exact .inl h
   ·exact .inr (.inl h)
   ·exact .inr (.inr (by rw[zac]; exact List.mem_append.2 (.inr h)))
  ·simp at h
  ·exact .inr (.inr (by rw[zac]; exact List.mem_append.2 (.inl h)))
theorem Ctx.calledL{bs:List Nat}{os1 os2 os':List Own}{w':World}(H:Ctx V U0 L bs (os1++os2) [] w)(hb:∀b∈bs,b<w.heap.size)(h:Ctx w (λb=>Us U0 bs os2 b∧b∉ownBl os1) (ownBl os1) [] os' [] w')(h0:∀b,U0 b→b∈ownBl os1→b∈ownBl os'):
  Ctx V U0 L bs (os'++os2) [] w'∧∀b,Us U0 bs (os'++os2) b→Us (λb=>Us U0 bs os2 b∧b∉ownBl os1) [] os' b:=by
 have hnd0:=List.nodup_append.1 H.nd
 have hnd1:=hnd0.2.1
 rw[zac]at hnd1
 have hnd1:=List.nodup_append.1 hnd1
 have d12:∀b,b∈ownBl os1→b∉ownBl os2:=λb h1 h2=>hnd1.2.2 b h1 b h2 rfl
 have d1b:∀b,b∈ownBl os1→b∉bs:=λb h1 h2=>hnd0.2.2 b h2 b (by rw[zac]; exact List.mem_append.2 (.inl h1)) rfl
 have d2b:∀b,b∈ownBl os2→b∉bs:=λb h1 h2=>hnd0.2.2 b h2 b (by rw[zac]; exact List.mem_append.2 (.inr h1)) rfl
 have lt2:∀b,b∈ownBl os2→b<w.heap.size:=λb h1=>H.ltOwn (by rw[zac]; exact List.mem_append.2 (.inr h1))
 have new:∀b,b∈ownBl os'→w.heap.size≤b∨b∈ownBl os1:=λb h1=>h.lowo b h1
 have hincl:∀b,Us U0 bs (os'++os2) b→Us (λb=>Us U0 bs os2 b∧b∉ownBl os1) [] os' b:=by
  intro b hb
  rcases hb with hb|hb|hb
  ·by_cases hm:b∈ownBl os1
   ·exact .inr (.inr (h0 b hb hm))
   ·exact .inl ⟨.inl hb,hm⟩
  ·exact .inl ⟨.inr (.inl hb),λhm=>d1b b hm hb⟩
  ·rw[zac]at hb
   rcases List.mem_append.1 hb with hb|hb
   ·exact .inr (.inr hb)
   ·exact .inl ⟨.inr (.inr hb),λhm=>d12 b hm hb⟩
 refine⟨⟨h.os_.trans H.os_,h.tape.trans H.tape,h.output.trans H.output,Nat.le_trans H.size h.size,λb hb1 hL=>?_,H.low,λb hb1=>?_,H.u0,?_,λo ho=>?_,by intro p hp; cases hp⟩,hincl⟩
 ·rw[h.same b (Nat.lt_of_lt_of_le hb1 H.size) λhm=>?_,H.same b hb1 hL]
  rcases H.lowo b (by rw[zac]; exact List.mem_append.2 (.inl hm)) with h'|h'
  ·omega
  ·exact hL h'
 ·rw[zac]at hb1
  rcases List.mem_append.1 hb1 with hb1|hb1
  ·rcases new b hb1 with h'|h'
   ·exact .inl (Nat.le_trans H.size h')
   ·exact H.lowo b (by rw[zac]; exact List.mem_append.2 (.inl h'))
  ·exact H.lowo b (by rw[zac]; exact List.mem_append.2 (.inr hb1))
 ·have hnd':=h.nd
  rw[List.nil_append]at hnd'
  rw[zac]
  refine List.nodup_append.2 ⟨hnd0.1,List.nodup_append.2 ⟨hnd',hnd1.2.1,λa ha b hb2 he=>?_⟩,λa ha b hb2 he=>?_⟩
  ·subst he
   rcases new a ha with h'|h'
   ·have:=lt2 a hb2; omega
   ·exact d12 a h' hb2
  ·subst he
   rcases List.mem_append.1 hb2 with hb2|hb2
   ·rcases new a hb2 with h'|h'
    ·have:=hb a ha; omega
    ·exact d1b a h' ha
   ·exact d2b a hb2 ha
 ·rcases List.mem_append.1 ho with ho|ho
  ·exact o.mono (h.own o ho) ⟨λ_ _ _=>rfl,Nat.le_refl _,λb _ hb1=>hincl b hb1⟩ λ_ _=>rfl
  ·refine o.mono (H.own o (List.mem_append.2 (.inr ho))) ⟨λb hb1 hu=>h.same b hb1 λhm=>hu (.inr (.inr (by rw[zac]; exact List.mem_append.2 (.inl hm)))),h.size,λb hb1 hu=>?_⟩ λb hb1=>?_
   ·rcases hu with hu|hu|hu
    ·exact .inl hu
    ·exact .inr (.inl hu)
    ·rw[zac]at hu
     rcases List.mem_append.1 hu with hu|hu
     ·rcases new b hu with h'|h'
      ·omega
      ·exact .inr (.inr (by rw[zac]; exact List.mem_append.2 (.inl h')))
     ·exact .inr (.inr (by rw[zac]; exact List.mem_append.2 (.inr hu)))
   ·have:b∈ownBl os2:=zcv.2 ⟨o,ho,hb1⟩
    exact h.same b (lt2 b this) λhm=>d12 b hm this
end
end Go.Vc

namespace Go.Vc
open Go Go.RowKit
theorem yqi{bs bl:List Nat}(hb:bs.Nodup)(hl:bl.Nodup)(hs:∀b∈bl,b∈bs):List.Perm bs (bl++bs.filter λb=>!(bl.contains b)):=by
 refine(List.perm_ext_iff_of_nodup hb ?_).2 λb=>?_
 ·refine List.nodup_append.2 ⟨hl,hb.sublist List.filter_sublist,λa ha b hb2 he=>?_⟩
  subst he
  simp at hb2
  exact hb2.2 ha
 ·simp only[List.mem_append,List.mem_filter,Bool.not_eq_true',List.contains_eq_mem,decide_eq_false_iff_not]
  constructor
  ·intro h
   by_cases hm:b∈bl
   ·exact .inl hm
   ·exact .inr ⟨h,hm⟩
  ·rintro(h|h)
   ·exact hs b h
   ·exact h.1
section
variable {nl:Nat} {al:Nat→Bool} {I:List Nat} {bx0:List Box} {p0:Nat→Option Nat} {V W w:World} {U0:Nat→Prop} {L:List Nat} {rw:List RS} {ts:List PV} {pb:PBs} {xs:List XV} {bx:List Box} {π:Nat→Option Nat} {A:Asg}
theorem St.bornC{i b:Nat}{x:PBox}{cs:List XV}(HC:Ctx V U0 L (blks bx++[b]) (ownsOf rw 0 A) [] W)(hT:PVsH (Us U0 (blks bx++[b]) (ownsOf rw 0 A)) W (blks bx) π rw A ts xs)(h4:PBsH (Us U0 (blks bx++[b]) (ownsOf rw 0 A)) W (blks bx) π rw A pb bx)
  (hC:PVsH (Us U0 (blks bx++[b]) (ownsOf rw 0 A)) W (blks bx++[b]) π rw A x.cells cs)
  (hlow:∀j e k els,nl≤j→rw[j]?=some (.own e k els)→∀b∈oblk (A j).1,¬U0 b) (hkp:∀i x,bx0[i]?=some x→i∉I→bx[i]?=some x) (hpre:∃l,blks bx=blks bx0++l∧∀b∈l,V.heap.size≤b∨b∈L)
  (hhal:∀i q,al i=true→π i=some q→q∈I∨bx0.length≤q) (hpx:∀i q,p0 i=some q→π i=some q) (hbt:∀(i:Nat) (x:Box),bx0[i]?=some x→∃y:Box,bx[i]?=some y∧y.blk=x.blk∧y.ty=x.ty)
  (hb:V.heap.size≤b∨b∈L) (hi:π i=none) {pb':PBs} (hpb:∀j,pb'[j]?=if j=i then some (some x) else pb[j]?):
  St nl al I bx0 p0 V U0 L rw ts pb' xs (bx++[⟨b,x.ty,cs⟩]) W (upd π i (some bx.length)) A∧PV.h (UU U0 (bx++[⟨b,x.ty,cs⟩]) rw A) W (blks (bx++[⟨b,x.ty,cs⟩])) (upd π i (some bx.length)) rw A (.own i 0) (.own bx.length b 0):=by
 have hbs:blks (bx++[⟨b,x.ty,cs⟩])=blks bx++[b]:=by simp[blks]
 have s:Sub noF (Us U0 (blks bx++[b]) (ownsOf rw 0 A)) (Us U0 (blks bx++[b]) (ownsOf rw 0 A)) W W (blks bx) (blks bx++[b]) π (upd π i (some bx.length)) rw rw A A:=
  ⟨⟨λ_ _ _=>rfl,Nat.le_refl _,λ_ _ h=>h⟩,⟨[b],rfl⟩,λj q hq=>(by rw[upd_ne]; exact hq; rintro rfl; rw[hi]at hq; cases hq),λ_ _ _ _ _ h=>⟨h,rfl⟩,λ_ _ _ h=>⟨⟨_,h⟩,rfl⟩,by intro i p e k els h; cases h⟩
 have s2:Sub noF (Us U0 (blks bx++[b]) (ownsOf rw 0 A)) (Us U0 (blks bx++[b]) (ownsOf rw 0 A)) W W (blks bx++[b]) (blks bx++[b]) π (upd π i (some bx.length)) rw rw A A:=
  ⟨⟨λ_ _ _=>rfl,Nat.le_refl _,λ_ _ h=>h⟩,⟨[],by simp⟩,λj q hq=>(by rw[upd_ne]; exact hq; rintro rfl; rw[hi]at hq; cases hq),λ_ _ _ _ _ h=>⟨h,rfl⟩,λ_ _ _ h=>⟨⟨_,h⟩,rfl⟩,by intro i p e k els h; cases h⟩
 have h5:=zbu s hT
 have h6:=zbu s2 hC
 have hpl:∀j q,π j=some q→j≠i:=by rintro j q hq rfl; rw[hi]at hq; cases hq
 have hqlt:∀j q,π j=some q→q<bx.length:=λj q hq=>by
  obtain⟨p,hp⟩:=h4.born j q hq
  obtain⟨q',y,h1,h2,_⟩:=h4.at_ j p hp
  rw[hq]at h1; cases h1
  exact(List.getElem?_eq_some_iff.1 h2).1
 unfold UU
 rw[hbs]
 have hPB:PBsH (Us U0 (blks bx++[b]) (ownsOf rw 0 A)) W (blks bx++[b]) (upd π i (some bx.length)) rw A pb' (bx++[⟨b,x.ty,cs⟩]):=by
  refine⟨λj p hp=>?_,λj j' q hj hj'=>?_,λj q hj=>?_,λq y hy=>?_⟩
  ·rw[hpb]at hp
   split at hp
   ·rename_i hji; subst hji
    simp only[Option.some.injEq]at hp; subst hp
    exact⟨bx.length,⟨b,x.ty,cs⟩,upd_eq _ _ _,by simp,rfl,h6⟩
   ·rename_i hji
    obtain⟨q,y,h1,h2,h7,h8⟩:=h4.at_ j p hp
    refine⟨q,y,by rw[upd_ne _ _ hji]; exact h1,?_,h7,zbu s h8⟩
    rw[List.getElem?_append_left (List.getElem?_eq_some_iff.1 h2).1]; exact h2
  ·by_cases h1:j=i<;>by_cases h2:j'=i
   ·rw[h1,h2]
   ·subst h1; rw[upd_eq]at hj; rw[upd_ne _ _ h2]at hj'; cases hj; exact absurd (hqlt _ _ hj') (by omega)
   ·subst h2; rw[upd_eq]at hj'; rw[upd_ne _ _ h1]at hj; cases hj'; exact absurd (hqlt _ _ hj) (by omega)
   ·rw[upd_ne _ _ h1]at hj; rw[upd_ne _ _ h2]at hj'; exact h4.inj j j' q hj hj'
  ·by_cases h1:j=i
   ·subst h1; exact⟨x,by rw[hpb,if_pos rfl]⟩
   ·rw[upd_ne _ _ h1]at hj; obtain⟨p,hp⟩:=h4.born j q hj; exact⟨p,by rw[hpb,if_neg h1]; exact hp⟩
  ·rcases Nat.lt_or_ge q bx.length with h'|h'
   ·rw[List.getElem?_append_left h']at hy
    obtain⟨j,hj⟩:=h4.cov q y hy
    exact⟨j,by rw[upd_ne _ _ (hpl j q hj)]; exact hj⟩
   ·have:q=bx.length:=by have:=(List.getElem?_eq_some_iff.1 hy).1; simp at this; omega
    exact⟨i,by rw[upd_eq,this]⟩
 refine⟨⟨⟨by rw[hbs]; exact HC,by rw[hbs]; exact h5,by rw[hbs]; exact hPB⟩,hlow,λn y hy hn=>?_,?_,λj q hj hq=>?_,λj q hq=>?_,λj q hq=>?_,λn y hy=>?_⟩,?_⟩
 ·rw[List.getElem?_append_left (List.getElem?_eq_some_iff.1 (hkp n y hy hn)).1]; exact hkp n y hy hn
 ·obtain⟨l,h1,h2⟩:=hpre
  refine⟨l++[b],by rw[hbs,h1,List.append_assoc],λc hc=>?_⟩
  rcases List.mem_append.1 hc with hc|hc
  ·exact h2 c hc
  ·simp at hc; subst hc; exact hb
 ·by_cases h1:j=i
  ·subst h1; rw[upd_eq]at hq; cases hq
   obtain⟨l,h2,_⟩:=hpre
   have:=congrArg List.length h2
   simp[blks]at this
   exact .inr (by omega)
  ·rw[upd_ne _ _ h1]at hq; exact hhal j q hj hq
 ·by_cases h1:j=i
  ·subst h1
   have:=hpb j; rw[if_pos rfl]at this
   exact(List.getElem?_eq_some_iff.1 this).1
  ·rw[upd_ne _ _ h1]at hq
   obtain⟨p,hp⟩:=h4.born j q hq
   have:=hpb j; rw[if_neg h1,hp]at this
   exact(List.getElem?_eq_some_iff.1 this).1
 ·rw[upd_ne]; exact hpx j q hq; rintro rfl; have:=hpx j q hq; rw[hi]at this; cases this
 ·obtain⟨y',h1,h2,h3⟩:=hbt n y hy
  exact⟨y',by rw[List.getElem?_append_left (List.getElem?_eq_some_iff.1 h1).1]; exact h1,h2,h3⟩
 ·simp only[PV.h]
  refine⟨bx.length,b,upd_eq _ _ _,?_,rfl⟩
  rw[List.getElem?_append_right (by simp[blks])]; simp[blks]
end
set_option maxHeartbeats 2000000 in
theorem ysn{P:Program}{g:FuncId}{X:Type}{las:X→List LA}{Bs:X→List LB}{pre:X→Prop}{lq:X→LQ}{Bs':X→List LB}(h:∀x,pre x→CtL P g (las x) (Bs x) (lq x) (Bs' x))(hty:∀x,(Bs' x).map (·.ty)=(Bs x).map (·.ty))
  (hc:∀x,∀B∈Bs' x,∀q∈B.cells,cellQ q) (hf:∀x q,lq x=.q q→flatQs q) (ho:∀x B,lq x=.obj B→∀q∈B.cells,cellQ q):SpecOk P g (lentS X las Bs pre lq Bs'):=by
 intro nl args pb rw K ⟨hnl,x,ids,hndi,hmem,hla,hpre,hk⟩ al I bx0 p0 V U0 L ts xs bx W π A zs w H hz hs hal hts
 subst hnl
 have hz':=H.syncPV hs hz
 have H:=H.sync hs
 obtain⟨olds,bl,xss,hkq,hlk,hold,hrows⟩:=yna H.rep hk
 obtain⟨hl1,hl2,hl3⟩:=lkB_len hlk
 have hndb:(blks bx).Nodup:=(List.nodup_append.1 H.rep.c.nd).1
 have hnbl:bl.Nodup:=ymy H.rep.pb.inj hndb hlk hndi
 have hblm:∀b∈bl,b∈blks bx:=λb hb=>by
  obtain⟨i,q,y,_,_,h2,h3⟩:=yjv hlk b hb
  rw[←h3]; exact List.mem_map.2 ⟨y,List.mem_of_getElem? h2,rfl⟩
 have hblt:∀b∈blks bx,b<w.heap.size:=λb hb=>zhd hs b hb
 have HC0:Ctx V U0 L (blks bx) ([Own.pv (blks bx) π rw A ts xs pb bx]++ownsOf rw 0 A) [] w:=H.rep.ctx.perm List.perm_append_comm
 obtain⟨os,rwm,⟨hkr,hkeep1⟩,hsub1,HCm,hQ,hosb1⟩:=znj (acc:=[Own.pv (blks bx) π rw A ts xs pb bx]) _ (znk _ hkq) (RSub.refl _) hold HC0
 obtain⟨ars,rw1,⟨hK,hkeep2⟩,hsub,HC1,hQr,hosb2⟩:=znj (acc:=[Own.pv (blks bx) π rw A ts xs pb bx]++os) _ (znk _ hkr) hsub1 (yow (las:=las x) hz') HCm
 obtain⟨oss,rfl,hlb⟩:=aggQ_h hQ
 rw[List.append_assoc [Own.pv (blks bx) π rw A ts xs pb bx]]at HC1
 obtain⟨o0,ho0⟩:∃o0,o0=oss.flatten++ars:=⟨_,rfl⟩
 rw[←ho0]at HC1
 have hosb:∀b∈ownBl o0,RowBl rw A b:=λb hb=>by
  rw[ho0,zac]at hb
  rcases List.mem_append.1 hb with hb|hb
  ·exact hosb1 b hb
  ·exact hosb2 b hb
 have hkeep:∀i,i∉rowsL olds []→i∉rowsL (rowPs (las x) args) []→rw1[i]?=rw[i]?:=λi h1 h2=>(hkeep2 i h2).trans (hkeep1 i h1)
 have hbb:bl.length=(Bs x).length:=by rw[hl1,hl2]
 have hxx:(xss.map denL).length=(Bs x).length:=by simp[hl1,hl3]
 have hob:ownBl (objs bl (Bs x) (xss.map denL))=bl:=ycf hbb hxx
 have hpvb:(Own.pv (blks bx) π rw A ts xs pb bx).bl=[]:=rfl
 let bsm:=(blks bx).filter λb=>!(bl.contains b)
 have hbsm:∀b∈bsm,b∈blks bx:=λb hb=>(List.mem_filter.1 hb).1
 have hpm:List.Perm (blks bx) (bl++bsm):=yqi hndb hnbl hblm
 have HC2:Ctx V U0 L bsm ((objs bl (Bs x) (xss.map denL)++o0)++(Own.pv (blks bx) π rw A ts xs pb bx::ownsOf rw1 0 A)) [] w:=by
  refine HC1.reown ?_ (λb hb=>H.rep.c.low b (hbsm b hb)) (λb hb=>?_) λU' lt o ho=>?_
  ·simp only[zac,ownBl,hpvb,List.nil_append,List.append_nil,hob]
   refine(List.Perm.append_right _ hpm).trans ?_
   rw[List.append_assoc,List.append_assoc]
   exact(List.perm_append_comm_assoc bl bsm _)
  ·simp only[zac,ownBl,hpvb,List.nil_append,hob,List.mem_append]at hb
   rcases hb with (hb|hb)|hb
   ·exact H.rep.c.low b (hblm b hb)
   ·exact HC1.lowo b (by simp only[zac,List.mem_append]; exact .inl (.inr hb))
   ·exact HC1.lowo b (by simp only[zac,List.mem_append]; exact .inr hb)
  ·simp only[List.mem_append,List.mem_cons]at ho
   rcases ho with (ho|ho)|rfl|ho
   ·exact ysm hs.own hlk o ho
   ·exact o.mono (HC1.own o (by simp only[List.mem_append]; exact .inl (.inr ho))) lt λ_ _=>rfl
   ·exact Own.mono _ (HC1.own _ (by simp)) lt λ_ _=>rfl
   ·exact o.mono (HC1.own o (by simp only[List.mem_append]; exact .inr ho)) lt λ_ _=>rfl
 have hbs2:∀b∈bsm,b<w.heap.size:=λb hb=>hblt b (hbsm b hb)
 have hlend:=HC2.lendL hbs2
 have eob:ownBl (objs bl (Bs x) (xss.map denL)++o0)=bl++ownBl o0:=by rw[zac,hob]
 rw[eob]at hlend
 have lt1:Later (UU U0 bx rw A) (Us (λb=>Us U0 bsm (Own.pv (blks bx) π rw A ts xs pb bx::ownsOf rw1 0 A) b∧b∉bl++ownBl o0) [] (objs bl (Bs x) (xss.map denL)++o0)) w w:=by
  refine⟨λ_ _ _=>rfl,Nat.le_refl _,λb _ hb=>?_⟩
  rcases hb with hb|hb|hb
  ·rcases hb.1 with hb|hb|hb
   ·exact .inl hb
   ·exact .inr (.inl (hbsm b hb))
   ·simp only[ownBl,hpvb,List.nil_append]at hb
    obtain⟨o,ho,hb⟩:=zcv.1 hb
    rcases zri ho with ⟨j,e,k,els,h1,rfl⟩|⟨j,o,h1,rfl⟩
    ·exact .inr (.inr (zcv.2 ⟨_,zpx 0 A (hsub.own h1),hb⟩))
    ·exact .inr (.inr (zcv.2 ⟨_,ypl 0 A (hsub.ob h1),hb⟩))
  ·simp at hb
  ·rw[eob]at hb
   rcases List.mem_append.1 hb with hb|hb
   ·exact .inr (.inl (hblm b hb))
   ·exact .inr (.inr (hosb b hb).mem)
 have hrowU:∀b∈ownBl o0,¬U0 b:=λb hb=>by
  obtain⟨j,e,k,els,h1,hb⟩:=hosb b hb
  exact H.low j e k els (Nat.zero_le _) h1 b hb
 have hcall:=λU=>h x hpre U w (denL zs) bl (xss.map denL) oss ars hbb
 simp only[←ho0]at hcall
 refine(hcall _ hlend (λb hb hu=>hu.2 hb) (zqc lt1 hlb) (zuq lt1 (znw hlk hla hz' hQr))).mono λv w' ⟨uss',oss',osr,HC3,hlb',hlq⟩=>?_
 have hbb':bl.length=(Bs' x).length:=by have:=congrArg List.length (hty x); simp at this; rw[this]; exact hbb
 have huu':uss'.length=(Bs' x).length:=(ypp hlb').1
 have hob':ownBl (objs bl (Bs' x) uss')=bl:=ycf hbb' huu'
 obtain⟨HC4,hincl⟩:=HC2.calledL hbs2 (by rw[eob]; exact HC3) (λb hu hb=>by
  rw[eob]at hb
  rcases List.mem_append.1 hb with hb|hb
  ·rw[zac,hob']; exact List.mem_append.2 (.inl hb)
  ·exact(hrowU b hb hu).elim)
 rw[eob]at hincl
 have HC5:Ctx V U0 L (blks bx) (((oss'.flatten++osr)++ownsOf rw1 0 A)++[Own.pv (blks bx) π rw A ts xs pb bx]) [] w':=by
  refine HC4.reown ?_ H.rep.c.low (λb hb=>?_) λU' lt o ho=>?_
  ·simp only[zac,ownBl,hpvb,List.nil_append,List.append_nil,hob']
   refine List.Perm.trans ?_ (List.Perm.append_right _ hpm.symm)
   simp only[List.append_assoc]
   exact(List.perm_append_comm_assoc bsm bl _).trans (List.Perm.append_left _ (List.Perm.append_left _ (List.perm_append_comm_assoc _ _ _)))
  ·refine HC4.lowo b ?_
   simp only[zac,ownBl,hpvb,List.nil_append,List.append_nil,hob',List.mem_append]at hb ⊢
   rcases hb with (hb|hb)|hb
   ·exact .inl (.inr (.inr hb))
   ·exact .inl (.inr (.inl hb))
   ·exact .inr hb
  ·refine o.mono (HC4.own o ?_) lt λ_ _=>rfl
   simp only[List.mem_append,List.mem_cons]at ho ⊢
   rcases ho with ((ho|ho)|ho)|ho
   ·exact .inl (.inr (.inr ho))
   ·exact .inl (.inr (.inl ho))
   ·exact .inr (.inr ho)
   ·exact .inr (.inl (ho.elim id λh=>by cases h))
 obtain⟨HC6,hpv1,hpv2⟩:=HC5.less rfl
 have lt2:Later (Us (λb=>Us U0 bsm (Own.pv (blks bx) π rw A ts xs pb bx::ownsOf rw1 0 A) b∧b∉bl++ownBl o0) [] (objs bl (Bs' x) uss'++(osr++oss'.flatten))) (Us U0 (blks bx) ((oss'.flatten++osr)++ownsOf rw1 0 A)) w' w':=by
  refine⟨λ_ _ _=>rfl,Nat.le_refl _,λb _ hb=>hincl b ?_⟩
  rcases hb with hb|hb|hb
  ·exact .inl hb
  ·rcases List.mem_append.1 (hpm.mem_iff.1 hb) with hb|hb
   ·refine .inr (.inr ?_)
    simp only[zac,hob',List.mem_append]; exact .inl (.inl hb)
   ·exact .inr (.inl hb)
  ·refine .inr (.inr ?_)
   simp only[zac,ownBl,hpvb,List.nil_append,List.mem_append]at hb ⊢
   rcases hb with (hb|hb)|hb
   ·exact .inl (.inr (.inr hb))
   ·exact .inl (.inr (.inl hb))
   ·exact .inr hb
 have hTk:Tk 0 V U0 L bx w' (Us U0 (blks bx) ((oss'.flatten++osr)++ownsOf rw1 0 A)) (oss'.flatten++osr) rw1 A:=by
  refine⟨HC6.weak (List.Sublist.refl _) (List.Sublist.refl _) (by intro p hp; cases hp),rfl,λj e k els hj hr=>H.low j e k els hj (hsub.own hr),λb hb hu=>?_⟩
  have hbo:b∈ownBl (objs bl (Bs' x) uss'++(osr++oss'.flatten)):=by
   simp only[zac,List.mem_append]at hb ⊢
   rcases hb with hb|hb
   ·exact .inr (.inr hb)
   ·exact .inr (.inl hb)
  rcases HC3.lowo b hbo with h'|h'
  ·have h1:=H.rep.c.u0 b hu
   have h2:=H.rep.c.size
   omega
  ·rcases List.mem_append.1 h' with h'|h'
   ·have hnd:=HC3.nd
    rw[List.nil_append,zac,hob']at hnd
    refine(List.nodup_append.1 hnd).2.2 b h' b ?_ rfl
    simp only[zac,List.mem_append]at hb ⊢
    exact hb.symm
   ·exact hrowU b h' hu
 have sb:Sub (lentF (lentR pb (zba args))) (Us U0 (blks bx) ((oss'.flatten++osr)++ownsOf rw1 0 A)) (Us U0 (blks bx) ((oss'.flatten++osr)++ownsOf rw1 0 A)) w' w' (blks bx) (blks bx) π π rw rw1 A A:=by
  refine⟨⟨λ_ _ _=>rfl,Nat.le_refl _,λ_ _ h=>h⟩,⟨[],by simp⟩,λ_ _ h=>h,λi e k els hi hr=>⟨?_,rfl⟩,λi o hi hr=>⟨⟨o,?_⟩,rfl⟩,λi p e k els hp hi=>?_⟩
  ·rw[hkeep i (λhm=>?_) λhm=>?_]; exact hr
   ·obtain⟨i',hi',hj⟩:=hrows i hm
    have:=ycp (hmem i' hi') hj
    unfold lentF at hi
    rw[zcg.2 this]at hi; cases hi
   ·obtain⟨p',hp',hj⟩:=ybg hm
    obtain⟨p2,hp2,hj2⟩:=zsh hp' hj
    have:=zww (pb:=pb) hp2 hj2
    unfold lentF at hi
    rw[zcg.2 this]at hi; cases hi
  ·rw[hkeep i (λhm=>?_) λhm=>?_]; exact hr
   ·obtain⟨i',hi',hj⟩:=hrows i hm
    have:=ycp (hmem i' hi') hj
    unfold lentF at hi
    rw[zcg.2 this]at hi; cases hi
   ·obtain⟨p',hp',hj⟩:=ybg hm
    obtain⟨p2,hp2,hj2⟩:=zsh hp' hj
    have:=zww (pb:=pb) hp2 hj2
    unfold lentF at hi
    rw[zcg.2 this]at hi; cases hi
  ·rw[zwx hp]; simp[PV.h,XV.wf]
 have hts2:=zfd sb _ hpv1
 rw[hts]at hts2
 have hpb2:=zvo sb (λ_ _ h=>h) hpv2
 rw[zdr]at hK
 refine yge (π:=π) hK (hc x) (zqc lt2 hlb') hTk hpb2 (SameB.refl bx) (lkB_lkH (U:=λ_=>True) hlk (hty x) huu' λo ho=>?_) (λq y hy=>?_) λpb3 rw3 A3 bx3 hK3 hTk3 hm3 hpb3 hsb3 hlen3 hs3 hkeep3=>?_
 ·-- the objects' cells
  have:=HC3.own o (List.mem_append.2 (.inl ho))
  have key:∀{bl:List Nat} {Bs:List LB} {uss:List (List Value)},∀o∈objs bl Bs uss,∀{U U':Nat→Prop},o.h U w'→o.h U' w':=by
   intro bl
   induction bl with
   |nil=>intro Bs uss o ho; simp[objs]at ho
   |cons b bl ih=>
    intro Bs uss o ho U U' hh
    cases Bs with
    |nil=>simp[objs]at ho
    |cons B Bs=>
     cases uss with
     |nil=>simp[objs]at ho
     |cons us uss=>
      simp only[objs]at ho
      rcases List.mem_cons.1 ho with rfl|ho
      ·exact hh
      ·exact ih o ho hh
  exact key o ho this
 ·by_cases hm:y.blk∈bl
  ·left
   obtain⟨i,q',y',g1,g2,g3,g4⟩:=yjv hlk _ hm
   have e1:(blks bx)[q]?=some y.blk:=by simp[blks,hy]
   have e2:(blks bx)[q']?=some y.blk:=by simp[blks,g3,g4]
   have hq:=(List.getElem?_eq_some_iff.1 e1)
   have hq':=(List.getElem?_eq_some_iff.1 e2)
   have:q=q':=(List.getElem_inj hndb).1 (hq.2.trans hq'.2.symm)
   subst this
   obtain⟨k,hk1,hk2⟩:=List.mem_iff_getElem.1 g1
   exact⟨k,i,by rw[←hbb',hl2]; exact hk1,by rw[List.getElem?_eq_getElem hk1,hk2],g2⟩
  ·right
   have hyb:y.blk∈blks bx:=List.mem_map.2 ⟨y,List.mem_of_getElem? hy,rfl⟩
   rw[HC3.same y.blk (hblt _ hyb) λhm'=>?_]
   ·exact hs.own y (List.mem_of_getElem? hy)
   ·rcases List.mem_append.1 hm' with hm'|hm'
    ·exact hm hm'
    ·refine(List.nodup_append.1 H.rep.c.nd).2.2 _ hyb _ (hosb _ hm').mem rfl
 ·have hkp:∀i y,bx0[i]?=some y→i∉I→bx3[i]?=some y:=λi y hi hn=>by
   rw[hkeep3 i λk i' hk1 hk2 hk3=>?_]
   ·exact H.kp i y hi hn
   ·have hi':i'∈ids:=List.mem_of_getElem? hk2
    rcases H.hal i' i (yfn hal (hmem i' hi')) hk3 with h'|h'
    ·exact hn h'
    ·have:=(List.getElem?_eq_some_iff.1 hi).1; omega
  have hpl:∀i q,π i=some q→i<pb3.length:=λi q hq=>by
   rw[hlen3]
   have:=H.pl i q hq
   have e:(subB' (lentF (lentR pb (zba args))) pb).length=pb.length:=by
    have:∀(f:Nat→Option PV) (l:PBs),(subB' f l).length=l.length:=by
     intro f l
     induction l with
     |nil=>rfl
     |cons o l ih=>cases o with
      |none=>simp[subB',ih]
      |some b=>cases b; simp[subB',ih]
    exact this _ _
   rw[e]; exact this
  have hbt:∀(i:Nat) (y:Box),bx0[i]?=some y→∃z:Box,bx3[i]?=some z∧z.blk=y.blk∧z.ty=y.ty:=λi y hi=>by
   obtain⟨z,g1,g2,g3⟩:=H.bt i y hi
   obtain⟨z',g4,g5,g6⟩:=hsb3.to i z g1
   exact⟨z',g4,g5.trans g2,g6.trans g3⟩
  have hsync:Sync bx3 w' w':=⟨rfl,rfl,rfl,Nat.le_refl _,λ_ _ _=>rfl,λy hy=>by obtain⟨q,hq⟩:=List.mem_iff_getElem?.1 hy; exact hs3 q y hq⟩
  have hpre3:∃l,blks bx3=blks bx0++l∧∀b∈l,V.heap.size≤b∨b∈L:=by rw[hsb3.blk]; exact H.pre
  cases hlqx:lq x with
  |q q=>
   rw[hlqx]at hK3 hlq
   have byq:qK q rw3 (λp rw3=>K p pb3 rw3)→∃r pb' rw' π' A' bx' W' z,K r pb' rw'∧v=z.den∧St 0 al I bx0 p0 V U0 L rw' ts pb' xs bx' W' π' A'∧Sync bx' W' w'∧(∃l,blks bx'=blks bx++l)∧r.h (UU U0 bx' rw' A') W' (blks bx') π' rw' A' z:=λhK3=>by
    refine qK_then (π:=π) (goal:=∃r pb' rw' π' A' bx' W' z,_) hK3 (hf x q hlqx) (QR.mono lt2 q hlq) (by simpa using hTk3) λp rw4 A4 hK4 hT4 hm4 hp4=>?_
    have eu:UU U0 bx3 rw4 A4=Us U0 (blks bx) ((oss'.flatten++osr)++ownsOf rw1 0 A):=by have:=hT4.u; rw[List.nil_append]at this; show Us U0 (blks bx3) _=_; rw[hsb3.blk]; exact this
    refine⟨p,pb3,rw4,π,A4,bx3,w',inject v,hK4,(zqs v).symm,⟨⟨?_,?_,?_⟩,hT4.low,hkp,hpre3,H.hal,hpl,H.px,hbt⟩,hsync,⟨[],by rw[hsb3.blk]; simp⟩,?_⟩
    ·rw[hsb3.blk]; simpa using hT4.c
    ·show PVsH (UU U0 bx3 rw4 A4) _ _ _ _ _ _ _
     rw[eu,hsb3.blk]; exact zbu (hm3.trans hm4).sub hts2
    ·show PBsH (UU U0 bx3 rw4 A4) _ _ _ _ _ _ _
     rw[eu,hsb3.blk]; exact zdx hm4.sub (λ_ _ h=>h) hpb3
    ·rw[eu,hsb3.blk]; exact hp4
   have hK3:qFill (rowPs (las x) args) q rw3 (λp rw3=>K p pb3 rw3):=hK3
   by_cases hc':∃j rest e k els,rowPs (las x) args=.row j::rest∧q=.own e k els
   ·obtain⟨j,rest,e,k,els,h1,rfl⟩:=hc'
    rw[h1]at hK3
    have hK3:fill1 (.row j) (.own e k els) rw3 (λp rw3=>K p pb3 rw3):=hK3
    refine ygf (π:=π) (q:=.own e k els) (o1:=osr) (o2:=[]) (goal:=∃r pb' rw' π' A' bx' W' z,_) hK3 trivial (QR.mono lt2 _ hlq) (by simpa using hTk3) λp rw4 A4 hK4 hT4 hm4 hp4=>?_
    have eu:UU U0 bx3 rw4 A4=Us U0 (blks bx) ((oss'.flatten++osr)++ownsOf rw1 0 A):=by have:=hT4.u; rw[List.nil_append]at this; show Us U0 (blks bx3) _=_; rw[hsb3.blk]; exact this
    refine⟨p,pb3,rw4,π,A4,bx3,w',inj0 v,hK4,(zvc v).symm,⟨⟨?_,?_,?_⟩,hT4.low,hkp,hpre3,H.hal,hpl,H.px,hbt⟩,hsync,⟨[],by rw[hsb3.blk]; simp⟩,?_⟩
    ·rw[hsb3.blk]; simpa using hT4.c
    ·show PVsH (UU U0 bx3 rw4 A4) _ _ _ _ _ _ _
     rw[eu,hsb3.blk]; exact zbu (hm3.trans hm4).sub hts2
    ·show PBsH (UU U0 bx3 rw4 A4) _ _ _ _ _ _ _
     rw[eu,hsb3.blk]; exact zdx hm4.sub (λ_ _ h=>h) hpb3
    ·rw[eu,hsb3.blk]; exact hp4
   ·refine byq ?_
    unfold qFill at hK3
    split at hK3
    ·split at hK3
     ·split at hK3
      ·exact(hc' ⟨_,_,_,_,_,by assumption,rfl⟩).elim
      ·exact hK3
     ·exact hK3
    ·exact hK3
  |ptr k=>
   rw[hlqx]at hK3 hlq
   simp only at hK3
   obtain⟨i,hi,hK3⟩:=hK3
   obtain⟨rfl,b,hb,rfl⟩:=hlq
   have hT4:Tk 0 V U0 L bx w' _ [] rw3 A3:=hTk3
   have eu:UU U0 bx3 rw3 A3=Us U0 (blks bx) ((oss'.flatten++[])++ownsOf rw1 0 A):=by have:=hT4.u; rw[List.nil_append]at this; show Us U0 (blks bx3) _=_; rw[hsb3.blk]; exact this
   obtain⟨b',q,y,g1,g2,g3,g4⟩:=yjw hlk k i hi
   rw[hb]at g1; simp only[Option.some.injEq]at g1; subst g1
   have hqb:(blks bx)[q]?=some b:=by simp[blks,g3,g4]
   refine⟨.own i 0,pb3,rw3,π,A3,bx3,w',.own q b 0,hK3,rfl,⟨⟨?_,?_,?_⟩,hT4.low,hkp,hpre3,H.hal,hpl,H.px,hbt⟩,hsync,⟨[],by rw[hsb3.blk]; simp⟩,?_⟩
   ·rw[hsb3.blk]; simpa using hT4.c
   ·show PVsH (UU U0 bx3 rw3 A3) _ _ _ _ _ _ _
    rw[eu,hsb3.blk]; exact zbu hm3.sub hts2
   ·show PBsH (UU U0 bx3 rw3 A3) _ _ _ _ _ _ _
    rw[eu,hsb3.blk]; exact hpb3
   ·rw[hsb3.blk]; simp only[PV.h]; exact⟨q,b,g2,hqb,rfl⟩
  |obj B=>
   rw[hlqx]at hK3 hlq
   simp only at hK3
   obtain⟨b,us,os',rfl,rfl,hq⟩:=hlq
   have hq:=zjq lt2 B.cells hq
   have hbox:w'.heap[b]?=some (.cells us.toArray B.ty (0,0)):=HC3.own (Own.obj b B.ty us) (by simp)
   have hbV:V.heap.size≤b∨b∈L:=hTk3.c.lowo b (by simp[ownBl,Own.obj])
   have hb4:blks (bx3++[⟨b,B.ty,injL us⟩])=blks bx++[b]:=by rw[show blks (bx3++[⟨b,B.ty,injL us⟩])=blks bx3++[b] by simp[blks],hsb3.blk]
   have hC5:Ctx V U0 L (blks bx++[b]) (os'++ownsOf rw3 0 A3) [] w':=by
    refine hTk3.c.reown ?_ (λb' hb'=>?_) (λb' hb'=>hTk3.c.lowo b' (by simp only[List.cons_append,ownBl,Own.obj]; exact List.mem_cons_of_mem _ hb')) λU' lt o ho'=>o.mono (hTk3.c.own o (by simp[ho'])) lt λ_ _=>rfl
    ·simp only[List.cons_append,ownBl,Own.obj,List.append_assoc]
     exact List.Perm.refl _
    ·rcases List.mem_append.1 hb' with hb'|hb'
     ·exact hTk3.c.low b' hb'
     ·simp at hb'; subst hb'; exact hbV
   have hU5:Us U0 (blks bx++[b]) (os'++ownsOf rw3 0 A3)=Us U0 (blks bx) ((oss'.flatten++(Own.obj b B.ty us::os'))++ownsOf rw1 0 A):=by
    rw[←hTk3.u]
    funext c
    simp only[Us,List.cons_append,ownBl,Own.obj,List.mem_append,List.mem_cons,List.not_mem_nil,or_false,false_or]
    apply propext
    constructor
    ·rintro(h|(h|h)|h)
     ·exact .inl h
     ·exact .inr (.inl h)
     ·exact .inr (.inr (.inl h))
     ·exact .inr (.inr (.inr h))
    ·rintro(h|h|h|h)
     ·exact .inl h
     ·exact .inr (.inl (.inl h))
     ·exact .inr (.inl (.inr h))
     ·exact .inr (.inr h)
   have hT5:Tk 0 V U0 L (bx3++[⟨b,B.ty,injL us⟩]) w' (Us U0 (blks bx) ((oss'.flatten++(Own.obj b B.ty us::os'))++ownsOf rw1 0 A)) (os'++[]) rw3 A3:=
    ⟨by rw[hb4]; simpa using hC5,by rw[hb4,List.append_nil]; exact hU5,hTk3.low,λc hc=>hTk3.new c (by simp only[List.append_nil]at hc; simp only[ownBl]; exact List.mem_append.2 (.inr hc))⟩
   refine zzg (π:=π) hK3 (ho x B hlqx) hq hT5 λps rw4 A4 hK4 hT4 hm4 hp4=>?_
   rw[zbo,zca]at hK4
   have eu:Us U0 (blks bx++[b]) (ownsOf rw4 0 A4)=Us U0 (blks bx) ((oss'.flatten++(Own.obj b B.ty us::os'))++ownsOf rw1 0 A):=by have:=hT4.u; rw[List.nil_append,hb4]at this; exact this
   have hi:π pb3.length=none:=by
    cases hp:π pb3.length with
    |none=>rfl
    |some q=>exact absurd (hpl _ q hp) (by omega)
   have hc4:=hT4.c
   rw[hb4,List.nil_append]at hc4
   have e3:blks bx3=blks bx:=hsb3.blk
   have hts4:=zbu (hm3.trans hm4).sub hts2
   have hpb4:=zdx hm4.sub (λ_ _ h=>h) hpb3
   rw[hb4]at hp4
   rw[←eu,←e3]at hts4 hpb4 hp4
   rw[←e3]at hc4
   obtain⟨HS,hpv⟩:=St.bornC (nl:=0) (al:=al) (I:=I) (bx0:=bx0) (p0:=p0) (x:=⟨B.ty,ps⟩) hc4 hts4 hpb4 hp4 hT4.low hkp hpre3 H.hal H.px hbt hbV hi (pb':=pb3++[some ⟨B.ty,ps⟩]) (λj=>by
    by_cases hji:j=pb3.length
    ·subst hji; simp
    ·rw[if_neg hji]
     rcases Nat.lt_or_ge j pb3.length with h'|h'
     ·rw[List.getElem?_append_left h']
     ·rw[List.getElem?_eq_none (by simp; omega),List.getElem?_eq_none h'])
   refine⟨.own pb3.length 0,_,rw4,_,A4,_,w',.own bx3.length b 0,hK4,rfl,HS,⟨rfl,rfl,rfl,Nat.le_refl _,λ_ _ _=>rfl,λy hy=>?_⟩,⟨[b],by rw[hb4]⟩,hpv⟩
   rcases List.mem_append.1 hy with hy|hy
   ·exact hsync.own y hy
   ·simp only[List.mem_singleton]at hy; subst hy
    simp only[zjl]; exact hbox
end Go.Vc

namespace Go.Vc
open Go Go.RowKit
inductive DT where
 |int (k:IntKind)
 |bool
 |str
 |slc (t:DT)
 |unit
 |pair (a b:DT)
@[reducible] def DT.den:DT→Type
 | .int _=>Int
 | .bool=>Bool
 | .str=>ByteArray
 | .slc t=>List t.den
 | .unit=>Unit
 | .pair a b=>a.den×b.den
def DT.size:DT→Nat
 | .int _=>1
 | .bool=>1
 | .str=>1
 | .slc _=>1
 | .unit=>0
 | .pair a b=>a.size+b.size
def DT.agg:DT→Bool
 | .unit=>true
 | .pair _ _=>true
 |_=>false
def DT.enc:(t:DT)→t.den→List R
 | .int k,n=>[.val (.int k n)]
 | .bool,b=>[.val (.bool b)]
 | .str,s=>[.val (.string s)]
 | .slc t,l=>[.sl t.size (l.map λx=>t.enc x)]
 | .unit,_=>[]
 | .pair a b,x=>a.enc x.1++b.enc x.2
def DT.encA:(t:DT)→t.den→R
 | .int k,n=>.val (.int k n)
 | .bool,b=>.val (.bool b)
 | .str,s=>.val (.string s)
 | .slc t,l=>.sl t.size (l.map λx=>t.enc x)
 | .unit,_=>.agg []
 | .pair a b,x=>.agg (a.enc x.1++b.enc x.2)
def DT.same:(a b:DT)→Option (PLift (a=b))
 | .int k,.int k'=>if h:eqk k k'=true then some ⟨by rw[eqk_eq h]⟩ else none
 | .bool,.bool=>some ⟨rfl⟩
 | .str,.str=>some ⟨rfl⟩
 | .unit,.unit=>some ⟨rfl⟩
 | .slc a,.slc b=>match a.same b with
  |some ⟨h⟩=>some ⟨by rw[h]⟩
  |none=>none
 | .pair a b,.pair a' b'=>match a.same a',b.same b' with
  |some ⟨h⟩,some ⟨h'⟩=>some ⟨by rw[h,h']⟩
  |_,_=>none
 |_,_=>none
def DT.castL{a b:DT}(h:a=b)(l:List a.den):List b.den:=h▸l
def DT.ks:DT→List Nat→List Nat
 | .slc t,r=>t.size::r
 | .unit,r=>r
 | .pair a b,r=>a.ks (b.ks r)
 |_,r=>0::r
inductive DV:Type where
 |x (y:XV)
 |sl (t:DT) (l:List t.den)
 |row (j:Nat)
 |el (t:DT) (x:t.den) (off:Nat)
 |re (j i off:Nat)
 |rt (j i:Nat)
 |ob (j:Nat)
 |own (i off:Nat)
 |fn (f:FuncId) (caps:List DV)
 |agg (xs:List DV)
 |tup (xs:List DV)
 |junk
structure DB where
 ty:TypeId
 cells:List DV
 w:Bool
abbrev DBs:=List (Option DB)
inductive DR where
 |own (e:TypeId) (t:DT) (l:List t.den)
 |itr (s:ByteArray) (p:Int)
 |dead
def DT.cells:(t:DT)→t.den→List DV→List DV
 | .int k,n,r=>.x (.int k n)::r
 | .bool,b,r=>.x (.bool b)::r
 | .str,s,r=>.x (.str s)::r
 | .slc t,l,r=>.sl t l::r
 | .unit,_,r=>r
 | .pair a b,x,r=>a.cells x.1 (b.cells x.2 r)
def DT.val:(t:DT)→t.den→DV
 | .int k,n=>.x (.int k n)
 | .bool,b=>.x (.bool b)
 | .str,s=>.x (.str s)
 | .slc t,l=>.sl t l
 | .unit,_=>.agg []
 | .pair a b,x=>.agg (a.cells x.1 (b.cells x.2 []))
def DT.of:(t:DT)→List DV→Option (t.den×List DV)
 | .int k,cs=>match cs with
  | .x (.int k' n)::r=>match eqk k k' with|true=>some (n,r)|false=>none
  |_=>none
 | .bool,cs=>match cs with
  | .x (.bool b)::r=>some (b,r)
  | .x (.lit b)::r=>some (b,r)
  |_=>none
 | .str,cs=>match cs with
  | .x (.str s)::r=>some (s,r)
  |_=>none
 | .slc t,cs=>match cs with
  | .sl t' l::r=>match t'.same t with|some ⟨h⟩=>some (DT.castL h l,r)|none=>none
  | .x (.slc none 0 0)::r=>some ([],r)
  |_=>none
 | .unit,cs=>some ((),cs)
 | .pair a b,cs=>match a.of cs with
  |some (x,r)=>match b.of r with
   |some (y,r)=>some ((x,y),r)
   |none=>none
  |none=>none
def DT.ofV(t:DT)(v:DV):Option t.den:=
 match t.agg with
 |true=>match v with
  | .agg cs=>match t.of cs with|some (x,r)=>(match r with|[]=>some x|_=>none)|none=>none
  |_=>none
 |false=>match t.of [v]with|some (x,r)=>(match r with|[]=>some x|_=>none)|none=>none
mutual
def DV.p:DV→PV
 | .x y=>.x y
 | .sl t l=>.sl t.size (l.map λx=>t.enc x)
 | .row j=>.row j
 | .el t x off=>.el (t.enc x) off
 | .re j i off=>.re j i off
 | .rt j i=>.rt j i
 | .ob j=>.ob j
 | .own i off=>.own i off
 | .fn f cs=>.fn f (pL cs)
 | .agg xs=>.agg (pL xs)
 | .tup xs=>.tup (pL xs)
 | .junk=>.junk
def pL:List DV→List PV
 |[]=>[]
 |x::xs=>x.p::pL xs
end
def bP:DBs→PBs
 |[]=>[]
 |some b::bs=>some ⟨b.ty,pL b.cells⟩::bP bs
 |none::bs=>none::bP bs
def DR.p:DR→RS
 | .own e t l=>.own e t.size (l.map λx=>t.enc x)
 | .itr s p=>.ob (.stringIter s p.toNat)
 | .dead=>.dead
def rP:List DR→List RS
 |[]=>[]
 |r::rs=>r.p::rP rs
variable {β:Type}
abbrev DK(β:Type):=List DV→DBs→List DR→Option β
def gtV:List DV→Nat→Option DV
 |[],_=>some (.x .und)
 |p::_,0=>match p with
  | .junk=>none
  | .x y=>match y with
   | .junk=>none
   |y=>some (.x y)
  |p=>some p
 |_::ps,n+1=>gtV ps n
def setE:List DV→Nat→DV→(List DV→Option β)→Option β
 |[],_,_,K=>K []
 |_::ps,0,y,K=>K (y::ps)
 |p::ps,n+1,y,K=>setE ps n y λl=>K (p::l)
def opV(ts:List DV)(o:Operand):Option DV:=
 match o with
 | .tmp t=>gtV ts t
 | .const c=>some (.x (zgg c))
 | .global g=>some (.x (.ptr ⟨g,0,none⟩))
 | .func f=>some (.fn f [])
def opsV(ts:List DV):List Operand→Option (List DV)
 |[]=>some []
 |o::os=>match opV ts o with
  |some x=>match opsV ts os with|some xs=>some (x::xs)|none=>none
  |none=>none
def subV:List DV→Nat→Nat→Option (List DV)
 |_::xs,o+1,n=>subV xs o n
 |_,0,0=>some []
 |x::xs,0,n+1=>match subV xs 0 n with|some l=>some (x::l)|none=>none
 |[],_,_=>none
def wrE:List DV→Nat→List DV→(List DV→Option β)→Option β
 |xs,_,[],K=>K xs
 |xs,off,v::vs,K=>setE xs off v λl=>wrE l (off+1) vs K
def dbV:DBs→Nat→Option DB
 |[],_=>none
 |o::_,0=>o
 |_::xs,n+1=>dbV xs n
def setDB:DBs→Nat→Option DB→(DBs→Option β)→Option β
 |[],_,_,K=>K []
 |_::xs,0,y,K=>K (y::xs)
 |x::xs,n+1,y,K=>setDB xs n y λl=>K (x::l)
def yhe:DBs→Nat→Bool
 |[],_=>false
 |o::_,0=>match o with|some _=>false|none=>true
 |_::xs,n+1=>yhe xs n
def drV:List DR→Nat→Option DR
 |[],_=>none
 |r::_,0=>some r
 |_::rs,n+1=>drV rs n
def setDR:List DR→Nat→DR→(List DR→Option β)→Option β
 |[],_,_,K=>K []
 |_::rs,0,y,K=>K (y::rs)
 |r::rs,n+1,y,K=>setDR rs n y λl=>K (r::l)
def litE(n:Nat)(K:Nat→Option β):Option β:=
 match n with
 |0=>K 0
 |1=>K 1
 |2=>K 2
 |3=>K 3
 |4=>K 4
 |5=>K 5
 |6=>K 6
 |7=>K 7
 |8=>K 8
 |9=>K 9
 |10=>K 10
 |11=>K 11
 |n=>K n
def pushE{α:Type}:List α→α→(List α→Option β)→Option β
 |[],y,K=>K [y]
 |x::xs,y,K=>pushE xs y λl=>K (x::l)
mutual
def DV.subE(f:Nat→Option DV):DV→(DV→Option β)→Option β
 | .row i,K=>match f i with|some p=>K p|none=>K (.row i)
 | .re i a b,K=>match f i with|some _=>K .junk|none=>K (.re i a b)
 | .rt i a,K=>match f i with|some _=>K .junk|none=>K (.rt i a)
 | .ob i,K=>match f i with|some _=>K .junk|none=>K (.ob i)
 | .fn g cs,K=>subLE f cs λcs=>K (.fn g cs)
 | .agg xs,K=>subLE f xs λxs=>K (.agg xs)
 | .tup xs,K=>subLE f xs λxs=>K (.tup xs)
 | .x y,K=>K (.x y)
 | .sl t l,K=>K (.sl t l)
 | .el t x o,K=>K (.el t x o)
 | .own i o,K=>K (.own i o)
 | .junk,K=>K .junk
def subLE(f:Nat→Option DV):List DV→(List DV→Option β)→Option β
 |[],K=>K []
 |p::ps,K=>p.subE f λp=>subLE f ps λps=>K (p::ps)
end
def subBE(f:Nat→Option DV):DBs→(DBs→Option β)→Option β
 |[],K=>K []
 |some ⟨t,cs,w⟩::ps,K=>subLE f cs λcs=>subBE f ps λps=>K (some ⟨t,cs,w⟩::ps)
 |none::ps,K=>subBE f ps λps=>K (none::ps)
def oneD(j:Nat)(p:DV):Nat→Option DV:=λi=>match Nat.beq i j with|true=>some p|false=>none
def norowD:Nat→Option DV:=λ_=>some .junk
def flatV:List DV→Option (List XV)
 |[]=>some []
 |p::ps=>match p with
  | .x y=>match flatV ps with|some l=>some (y::l)|none=>none
  |_=>none
def partsV(ts:List DV):List (Nat×Operand)→Option (List (Nat×DV))
 |[]=>some []
 |(i,o)::ps=>match opV ts o with
  |some x=>match partsV ts ps with|some xs=>some ((i,x)::xs)|none=>none
  |none=>none
def oneX(y:XV):Bool:=
 match y with
 | .v y=>oneC y
 | .agg _=>false
 | .tup _=>false
 | .und=>false
 | .junk=>false
 |_=>true
def oneD1(p:DV):Bool:=
 match p with
 | .x y=>oneX y
 | .agg _=>false
 | .tup _=>false
 | .junk=>false
 |_=>true
def cellsV(x:DV):Option (List DV):=
 match x with
 | .agg xs=>some xs
 |x=>match oneD1 x with|true=>some [x]|false=>none
def oneDL:List DV→Bool
 |[]=>true
 |p::ps=>match oneD1 p with|true=>oneDL ps|false=>false
def tiV:List TI→Nat→Option TI
 |[],_=>none
 |ti::_,0=>match ti.ok with|true=>some ti|false=>none
 |_::T,n+1=>tiV T n
def fldV:List (Nat×Nat×Nat)→Nat→Option (Nat×Nat×Nat)
 |[],_=>none
 |(off,ty,sz)::_,0=>match sz with|0=>none|n+1=>some (off,ty,n+1)
 |_::fs,i+1=>fldV fs i
def posV:List (Nat×Nat×Nat)→Bool
 |[]=>true
 |(_,_,sz)::fs=>match sz with|0=>false|_+1=>posV fs
def fillE(fs:List (Nat×Nat×Nat)):List DV→List (Nat×DV)→(List DV→Option β)→Option β
 |cells,[],K=>K cells
 |cells,(i,x)::ps,K=>match fldV fs i with
  |some (off,_,sz)=>match cellsV x with
   |some cs=>match Nat.beq cs.length sz,subV cells off sz with
    |true,some _=>wrE cells off cs λcells=>fillE fs cells ps K
    |_,_=>none
   |none=>none
  |none=>none
def constV:List Value→List DV
 |[]=>[]
 |x::xs=>.x (zgg x)::constV xs
def opOV(ts:List DV)(o:Option Operand):Option (Option DV):=
 match o with
 |none=>some none
 |some o=>match opV ts o with|some x=>some (some x)|none=>none
def idxF{α:Type}(l:List α)(i:Int)(K:α→Option β):Option β:=
 match l[i.toNat]? with
 |some x=>bif decide (0≤i) then K x else none
 |none=>none
def idxR{α:Type}(l:List α)(i:Nat)(K:α→Option β):Option β:=
 match l[i]? with
 |some x=>K x
 |none=>none
def bndF(i:Int)(n:Nat)(K:Nat→Option β):Option β:=bif decide (0≤i)&&decide (i≤(n:Int)) then K i.toNat else none
def nzF(b:Int)(K:Option β):Option β:=bif decide (b=0) then none else K
def nnF(b:Int)(K:Option β):Option β:=bif decide (0≤b) then K else none
def roomF(n b:Nat)(K:Option β):Option β:=bif decide (n≤281474976710656)&&decide (n*b≤140737488355328) then K else none
def strF(n:Int)(K:Option β):Option β:=bif decide (n≤9223372036854775807) then K else none
def sidxF(s:ByteArray)(i:Int)(K:Int→Option β):Option β:=bif decide (0≤i) then (match s[i.toNat]? with|some b=>K (b.toNat:Int)|none=>none) else none
def nextF(s:ByteArray)(p:Int)(K:Int→Int→Option β)(N:Option β):Option β:=bif decide (p.toNat<s.size) then K ((Utf8.decode s p.toNat).1:Int) ((p.toNat+(Utf8.decode s p.toNat).2:Nat):Int) else N
def joinF{X:Type}(k:X→Option β)(f:(X→Option β)→Option β):Option β:=f k
def loopF{X:Type}:Nat→(X→(X→Option β)→Option β)→X→Option β
 |0,_,_=>none
 |n+1,f,z=>f z (loopF n f)
open Classical in
noncomputable def bothF(a b:Option β):Option β:=if a=b then a else none
noncomputable def nilF(e:Bool)(f:Bool→Option β):Option β:=bif e then bothF (f true) (f false) else f false
theorem FU_ex:∃n:Nat,n=18446744073709551616:=⟨_,rfl⟩
noncomputable def FU:Nat:=Classical.choose FU_ex
theorem FU_eq:FU=18446744073709551616:=Classical.choose_spec FU_ex
structure Wd:Type 1 where
 cnd:{β:Type}→Bool→Option β→Option β→Option β
 idx:{α β:Type}→List α→Int→(α→Option β)→Option β
 nth:{α β:Type}→List α→Nat→(α→Option β)→Option β
 bnd:{β:Type}→Int→Nat→(Nat→Option β)→Option β
 nz:{β:Type}→Int→Option β→Option β
 nn:{β:Type}→Int→Option β→Option β
 room:{β:Type}→Nat→Nat→Option β→Option β
 str:{β:Type}→Int→Option β→Option β
 join:{X β:Type}→(X→Option β)→((X→Option β)→Option β)→Option β
 loop:{X β:Type}→(X→(X→Option β)→Option β)→X→Option β
 both:{β:Type}→Option β→Option β→Option β
 call:{α β:Type}→Option α→(α→Option β)→Option β
 nilq:{β:Type}→Bool→(Bool→Option β)→Option β
 sidx:{β:Type}→ByteArray→Int→(Int→Option β)→Option β
 next:{β:Type}→ByteArray→Int→(Int→Int→Option β)→Option β→Option β
@[reducible] noncomputable def stdW:Wd where
 cnd:=λc a b=>bif c then a else b
 idx:=idxF
 nth:=idxR
 bnd:=bndF
 nz:=nzF
 nn:=nnF
 room:=roomF
 str:=strF
 join:=joinF
 loop:=loopF FU
 both:=bothF
 call:=Option.bind
 nilq:=nilF
 sidx:=sidxF
 next:=nextF
def bndD(W:Wd)(o:Option DV)(dflt bound:Nat)(K:Nat→Option β):Option β:=
 match o with
 |none=>K dflt
 |some (.x (.int _ i))=>W.bnd i bound K
 |_=>none
def ypv(W:Wd)(op:BinOp)(k:IntKind)(a b:Int)(ret:XV→Option β):Option β:=
 match op with
 | .add=>ret (.int k (k.wrap (a+b)))
 | .sub=>ret (.int k (k.wrap (a - b)))
 | .mul=>ret (.int k (k.wrap (a*b)))
 | .quo=>W.nz b (ret (.int k (k.wrap (a.tdiv b))))
 | .rem=>W.nz b (ret (.int k (a.tmod b)))
 | .and=>ret (.int k (bits .and k a b))
 | .or=>ret (.int k (bits .or k a b))
 | .xor=>ret (.int k (bits .xor k a b))
 | .eql=>ret (.bool (a==b))
 | .neq=>ret (.bool (a != b))
 | .lss=>ret (.bool (decide (a<b)))
 | .leq=>ret (.bool (decide (a≤b)))
 | .gtr=>ret (.bool (decide (b<a)))
 | .geq=>ret (.bool (decide (b≤a)))
 |_=>none
def leafV(l:LK)(x y:XV):Option Bool:=
 match l,x,y with
 | .int _,.int k a,.int k' b=>match eqk k k' with|true=>some (a==b)|false=>none
 | .bool,.bool a,.bool b=>some (a==b)
 | .bool,.lit a,.bool b=>some (a==b)
 | .bool,.bool a,.lit b=>some (a==b)
 | .bool,.lit a,.lit b=>some (a==b)
 | .str,.str a,.str b=>some (a.toList==b.toList)
 |_,_,_=>none
def cmpXV:List LK→List XV→List XV→Option Bool
 |[l],[x],[y]=>leafV l x y
 |l::ls,x::xs,y::ys=>match leafV l x y with
  |some r=>match cmpXV ls xs ys with|some r'=>some (r&&r')|none=>none
  |none=>none
 |_,_,_=>none
def tdV(T:List TI)(t:TypeId):Option TD:=match tiV T t with|some ti=>some ti.td|none=>none
def eqXV(T:List TI)(neg:Bool)(t:TypeId)(a b:XV):Option XV:=
 match a,b with
 | .str s,.str u=>some (.bool (notIf neg (s.toList==u.toList)))
 | .agg xs,.agg ys=>match tiV T t with
  |some ti=>match ti.leaves,ti.td with
   |some ls,.struct _=>match cmpXV ls xs ys with|some r=>some (.bool (notIf neg r))|none=>none
   |_,_=>none
  |none=>none
 | .bool x,.bool y=>match tdV T t with|some .bool=>some (.bool (notIf neg (x==y)))|_=>none
 | .bool x,.lit y=>match tdV T t with|some .bool=>some (.bool (notIf neg (x==y)))|_=>none
 | .lit x,.bool y=>match tdV T t with|some .bool=>some (.bool (notIf neg (x==y)))|_=>none
 | .lit x,.lit y=>match tdV T t with|some .bool=>some (.bool (notIf neg (x==y)))|_=>none
 | .v (.pointer none),.v (.pointer none)=>match tdV T t with|some (.ptr _)=>some (.lit (!neg))|_=>none
 | .slc x _ _,.slc none 0 0=>match tdV T t with|some (.slice _)=>some (.bool (notIf neg x.isNone))|_=>none
 |_,_=>none
def binXE(W:Wd)(T:List TI)(op:BinOp)(t:TypeId)(a b:XV)(ret:XV→Option β):Option β:=
 match op,a,b with
 | .shl,.int k x,.int _ y=>W.nn y (ret (.int k (k.wrap (x*2 ^ (min y.toNat k.bits)))))
 | .shr,.int k x,.int _ y=>W.nn y (ret (.int k (x.fdiv (2 ^ (min y.toNat k.bits)))))
 |op,.int k x,.int k' y=>match eqk k k' with|true=>ypv W op k x y ret|false=>none
 | .add,.str s,.str u=>W.str ((s.size:Int)+u.size) (ret (.str (s++u)))
 | .eql,a,b=>match eqXV T false t a b with|some y=>ret y|none=>none
 | .neq,a,b=>match eqXV T true t a b with|some y=>ret y|none=>none
 |_,_,_=>none
def binE(W:Wd)(T:List TI)(op:BinOp)(t:TypeId)(a b:DV)(ret:DV→Option β):Option β:=
 match a,b with
 | .x y,.x z=>binXE W T op t y z λr=>ret (.x r)
 | .agg ps,.agg qs=>match flatV ps,flatV qs with
  |some ys,some zs=>binXE W T op t (.agg ys) (.agg zs) λr=>ret (.x r)
  |_,_=>none
 | .own _ _,.x (.v (.pointer none))=>match tdV T t,op with
  |some (.ptr _),.eql=>ret (.x (.lit false))
  |some (.ptr _),.neq=>ret (.x (.lit true))
  |_,_=>none
 |_,_=>none
def argTyV(T:List TI)(ats:Array TypeId):Option TD:=
 match ats.toList with
 |[t]=>tdV T t
 |_=>none
def lenV(xs:List DV)(rw:List DR):Option Nat:=
 match xs with
 |[.sl _ l]=>some l.length
 |[.row j]=>match drV rw j with|some (.own _ _ l)=>some l.length|_=>none
 |[.x (.slc none 0 0)]=>some 0
 |_=>none
def yaj(T:List TI)(b:Builtin)(ats:Array TypeId)(xs:List DV)(rw:List DR)(ret:DV→Option β):Option β:=
 match b with
 | .len=>match argTyV T ats with
  |some (.slice _)=>match lenV xs rw with|some n=>ret (.x (.int .i64 (n:Nat)))|none=>none
  |some .string=>match xs with|[.x (.str s)]=>ret (.x (.int .i64 s.size))|_=>none
  |_=>none
 | .max=>match xs with|[.x (.int k x),.x (.int _ y)]=>ret (.x (.int k (if y>x then y else x)))|_=>none
 | .min=>match xs with|[.x (.int k x),.x (.int _ y)]=>ret (.x (.int k (if y<x then y else x)))|_=>none
 |_=>none
def pickV(g:Bool)(a b:XV):Option XV:=
 match a,b with
 | .lit true,.bool y=>some (.bool (g||y))
 | .bool x,.lit false=>some (.bool (g&&x))
 | .lit true,.lit y=>some (.bool (g||y))
 | .lit false,.lit y=>some (.bool (!g&&y))
 | .bool x,.lit y=>some (.bool (bif g then x else y))
 | .lit x,.bool y=>some (.bool (bif g then x else y))
 | .bool x,.bool y=>some (.bool (bif g then x else y))
 |_,_=>none
def unV(op:UnOp)(a:XV):Option XV:=
 match op,a with
 | .not,.bool b=>some (.bool (!b))
 | .not,.lit b=>some (.lit (!b))
 | .neg,.int k n=>some (.int k (k.wrap (0 - n)))
 | .xor,.int k n=>some (.int k (bits .xor k (if k.signed then -1 else k.max) n))
 |_,_=>none
def o1(o:Option DV)(K:DV→Option β):Option β:=match o with|some x=>K x|none=>none
def purE(W:Wd)(T:List TI)(op:Op)(ts:List DV)(rw:List DR)(ret:DV→Option β):Option β:=
 match op with
 | .move x=>o1 (opV ts x) ret
 | .assign x=>o1 (opV ts x) ret
 | .pick c a b=>o1 (opV ts c) λc=>match c with
  | .x (.lit true)=>o1 (opV ts a) ret
  | .x (.lit false)=>o1 (opV ts b) ret
  | .x (.bool g)=>o1 (opV ts a) λa=>o1 (opV ts b) λb=>match a,b with
   | .x a,.x b=>match pickV g a b with|some r=>ret (.x r)|none=>none
   |_,_=>none
  |_=>none
 | .nilCheck x=>o1 (opV ts x) λp=>match p with
  | .own i o=>ret (.own i o)
  | .el t x o=>ret (.el t x o)
  | .re j i o=>ret (.re j i o)
  | .fn f cs=>ret (.fn f cs)
  |_=>none
 | .binOp op t x y _=>o1 (opV ts x) λa=>o1 (opV ts y) λb=>binE W T op t a b ret
 | .unOp op _ x=>o1 (opV ts x) λa=>match a with
  | .x a=>match unV op a with|some r=>ret (.x r)|none=>none
  |_=>none
 | .convert src dst x=>o1 (opV ts x) λa=>match tiV T src,tdV T dst,a with
  |some _,some (.int k),.x (.int _ n)=>ret (.x (.int k (k.wrap n)))
  |some _,some .string,.x (.str s)=>ret (.x (.str s))
  |_,_,_=>none
 | .fieldAddr s x f=>o1 (opV ts x) λa=>match tdV T s with
  |some (.struct fs)=>match fldV fs f with
   |some (off,_,_)=>match a with
    | .own i o'=>ret (.own i (o'+off))
    | .el t x o'=>ret (.el t x (o'+off))
    | .re j i o'=>ret (.re j i (o'+off))
    |_=>none
   |none=>none
  |_=>none
 | .field s x f=>o1 (opV ts x) λa=>match tdV T s,a with
  |some (.struct fs),.agg xs=>match fldV fs f with
   |some (off,ty,sz)=>match tiV T ty with
    |some tf=>match tf.agg with
     |true=>match subV xs off sz with|some l=>ret (.agg l)|none=>none
     |false=>match subV xs off 1 with|some [x]=>ret x|_=>none
    |none=>none
   |none=>none
  |_,_=>none
 | .indexAddr t x ix=>o1 (opV ts x) λa=>o1 (opV ts ix) λi=>match tdV T t,a,i with
  |some (.slice e),.sl t' l,.x (.int _ i)=>match tiV T e with
   |some te=>match Nat.beq te.size t'.size,Nat.blt 0 t'.size with
    |true,true=>W.idx l i λx=>ret (.el t' x 0)
    |_,_=>none
   |none=>none
  |some (.slice e),.row j,.x (.int _ i)=>match tiV T e,drV rw j with
   |some te,some (.own _ t' l)=>match Nat.beq te.size t'.size,Nat.blt 0 t'.size with
    |true,true=>W.idx l i λ_=>ret (.re j i.toNat 0)
    |_,_=>none
   |_,_=>none
  |_,_,_=>none
 | .extract t i=>o1 (opV ts t) λa=>match a with
  | .tup xs=>match subV xs i 1 with|some [x]=>ret x|_=>none
  |_=>none
 | .slice t x lo hi mx=>o1 (opV ts x) λa=>match opOV ts lo,opOV ts hi with
  |some lo,some hi=>match tdV T t,a,mx with
   |some (.slice e),.sl t' l,none=>match tiV T e with
    |some te=>match Nat.beq te.size t'.size with
     |true=>match lo with
      |none=>bndD W hi l.length l.length λh=>ret (.sl t' (l.take h))
      |some lo=>bndD W hi l.length l.length λh=>bndD W (some lo) 0 h λk=>ret (.sl t' ((l.take h).drop k))
     |false=>none
    |none=>none
   |some .string,.x (.str s),none=>bndD W hi s.size s.size λh=>bndD W lo 0 h λl=>ret (.x (.str (s.extract l h)))
   |_,_,_=>none
  |_,_=>none
 | .build t parts=>match partsV ts parts.toList with
  |some ps=>match tiV T t with
   |some ti=>match ti.td,ti.zero with
    | .struct fs,z::zs=>match posV fs with
     |true=>fillE fs (constV (z::zs)) ps λcells=>ret (.agg cells)
     |false=>none
    |_,_=>none
   |none=>none
  |none=>none
 | .makeFunc fn first caps=>match fn,first.toList with
  | .func f,[]=>match opsV ts caps.toList with|some cs=>ret (.fn f cs)|none=>none
  |_,_=>none
 | .call c=>match c.callee with
  | .builtin b=>match opsV ts c.args.toList with|some xs=>yaj T b c.argTypes xs rw ret|none=>none
  |_=>none
 |_=>none
def loadE(W:Wd)(T:List TI)(t:TypeId)(A:DV)(pb:DBs)(rw:List DR)(ret:DV→Option β):Option β:=
 match tiV T t with
 |some ti=>match A with
  | .own i off=>match dbV pb i with
   |some b=>match ti.agg with
    |true=>match subV b.cells off ti.size with|some l=>ret (.agg l)|none=>none
    |false=>match subV b.cells off 1 with|some [x]=>ret x|_=>none
   |none=>none
  | .el t' x off=>match ti.agg,ti.size with
   |true,n+1=>match subV (t'.cells x []) off (n+1) with|some l=>ret (.agg l)|none=>none
   |false,_=>match subV (t'.cells x []) off 1 with|some [x]=>ret x|_=>none
   |_,_=>none
  | .re j i off=>match drV rw j with
   |some (.own _ t' l)=>W.nth l i λx=>match ti.agg,ti.size with
    |true,n+1=>match subV (t'.cells x []) off (n+1) with|some l=>ret (.agg l)|none=>none
    |false,_=>match subV (t'.cells x []) off 1 with|some [x]=>ret x|_=>none
    |_,_=>none
   |_=>none
  |_=>none
 |none=>none
def ofVs(t:DT):List (Nat×DV)→Nat→Option (List t.den)
 |[],_=>some []
 |(i,p)::ps,n=>match Nat.beq i n,t.ofV p with
  |true,some x=>match ofVs t ps (n+1) with|some l=>some (x::l)|none=>none
  |_,_=>none
mutual
def DV.rows:DV→List Nat→List Nat
 | .row j,acc=>j::acc
 | .fn _ cs,acc=>rowsDL cs acc
 | .agg cs,acc=>rowsDL cs acc
 | .tup cs,acc=>rowsDL cs acc
 |_,acc=>acc
def rowsDL:List DV→List Nat→List Nat
 |[],acc=>acc
 |p::ps,acc=>p.rows (rowsDL ps acc)
end
def frzE(nl:Nat):List Nat→List DV→DBs→List DR→List DV→(List DV→DBs→List DR→List DV→Option β)→Option β
 |[],ts,pb,rw,ps,K=>K ts pb rw ps
 |j::js,ts,pb,rw,ps,K=>match drV rw j with
  |some (.own _ t l)=>match Nat.ble nl j with
   |true=>subLE (oneD j (.sl t l)) ts λts=>subBE (oneD j (.sl t l)) pb λpb=>subLE (oneD j (.sl t l)) ps λps=>setDR rw j .dead λrw=>frzE nl js ts pb rw ps K
   |false=>none
  |_=>frzE nl js ts pb rw ps K
def retE(dst:Option Tmp)(x:DV)(ts:List DV)(pb:DBs)(rw:List DR)(K:DK β):Option β:=
 match dst with
 |none=>K ts pb rw
 |some d=>setE ts d x λl=>K l pb rw
inductive QT where
 |v (t:DT)
 |own (e:TypeId) (t:DT)
 |unit
 |pair (a b:QT)
@[reducible] def QT.den:QT→Type
 | .v t=>t.den
 | .own _ t=>List t.den
 | .unit=>Unit
 | .pair a b=>a.den×b.den
structure ES where
 P:DT
 Q:QT
 fn:P.den→Option Q.den
inductive PK where
 |v (t:DT)
 |ptr
 |fn (g n:Nat)
 |row (e:TypeId) (t:DT)
inductive CK where
 |v (t:DT)
 |row (e:TypeId) (t:DT)
structure BK where
 ty:TypeId
 cells:List CK
def pkT:List PK→DT→DT
 |[],r=>r
 |d::l,r=>match d with
  | .v t=>.pair t (pkT l r)
  | .ptr=>pkT l r
  | .fn _ _=>pkT l r
  | .row _ _=>pkT l r
def rowC:List PK→List CK
 |[]=>[]
 |d::l=>match d with
  | .row e t=>.row e t::rowC l
  | .v _=>rowC l
  | .ptr=>rowC l
  | .fn _ _=>rowC l
def ckT:List CK→DT→DT
 |[],r=>r
 |d::l,r=>match d with
  | .v t=>.pair t (ckT l r)
  | .row _ t=>.pair (.slc t) (ckT l r)
def bkT:List BK→DT→DT
 |[],r=>r
 |B::l,r=>ckT B.cells (bkT l r)
inductive LQT where
 |q (Q:QT)
 |ptr (k:Nat)
 |obj (B:BK)
@[reducible] def LQT.den:LQT→Type
 | .q Q=>Q.den
 | .ptr _=>Unit
 | .obj B=>(ckT B.cells .unit).den
structure LS where
 P:List PK
 B:List BK
 E:List BK
 Q:LQT
 fn:(pkT P (bkT B (ckT (rowC P) .unit))).den→Option (Q.den×(bkT E .unit).den)
def tysE:List BK→List BK→Bool
 |[],l=>match l with|[]=>true|_=>false
 |B::l,l'=>match l' with|E::l'=>Nat.beq B.ty E.ty&&tysE l l'|[]=>false
inductive EC where
 |es (s:ES)
 |ls (s:LS)
 |lb (s:LS)
abbrev ESs:=List (Nat×EC)
def esV:ESs→Nat→Option EC
 |[],_=>none
 |(n,s)::ss,f=>match Nat.beq n f with|true=>some s|false=>esV ss f
def takesE(n:Nat):Nat→List PK→List Nat
 |_,[]=>[]
 |i,d::l=>match d with
  | .row _ _=>takesN n i::takesE n (i+1) l
  | .v _=>takesE n (i+1) l
  | .ptr=>takesE n (i+1) l
  | .fn _ _=>takesE n (i+1) l
def keysE:ESs→List Nat
 |[]=>[]
 |(n,s)::ss=>match s with
  | .es _=>keysE ss
  | .ls s=>takesE n 0 s.P++keysE ss
  | .lb s=>takesE n 0 s.P++keysE ss
def keysF:ESs→List Nat
 |[]=>[]
 |(n,_)::ss=>n::keysF ss
def rowsAV(C:ESs)(g:Nat):Nat→List DV→List Nat→List Nat
 |_,[],acc=>acc
 |i,p::ps,acc=>match memN (takesN g i) (keysF C++keysE C) with|true=>rowsAV C g (i+1) ps acc|false=>p.rows (rowsAV C g (i+1) ps acc)
def ofA:(P:DT)→List DV→Option P.den
 | .unit,vs=>match vs with|[]=>some ()|_=>none
 | .pair a b,vs=>match vs with
  |v::vs=>match a.ofV v,ofA b vs with|some x,some y=>some (x,y)|_,_=>none
  |_=>none
 |_,_=>none
def argVs:(P:DT)→P.den→List DV
 | .pair a b,x=>a.val x.1::argVs b x.2
 |_,_=>[]
def resQ:(Q:QT)→Q.den→List DR→(DV→List DR→Option β)→Option β
 | .v t,x,rw,K=>K (t.val x) rw
 | .own e t,l,rw,K=>pushE rw (.own e t l) λrw'=>litE rw.length λn=>K (.row n) rw'
 |_,_,_,_=>none
def resQs:(Q:QT)→Q.den→List DR→(List DV→List DR→Option β)→Option β
 | .unit,_,rw,K=>K [] rw
 | .pair a b,x,rw,K=>resQ a x.1 rw λv rw=>resQs b x.2 rw λvs rw=>K (v::vs) rw
 |_,_,_,_=>none
def resT(Q:QT)(q:Q.den)(rw:List DR)(K:DV→List DR→Option β):Option β:=
 match Q,q with
 | .v t,x=>K (t.val x) rw
 | .own e t,l=>resQ (.own e t) l rw K
 | .unit,_=>K (.tup []) rw
 | .pair a b,q=>resQs (.pair a b) q rw λvs rw=>K (.tup vs) rw
def zdp:List DV→List DV
 |[]=>[]
 |p::ps=>match p with
  | .fn _ cs=>cs++zdp ps
  |p=>p::zdp ps
def zwo(al:Nat→Bool):List DV→Bool
 |[]=>true
 | .own i _::ps=>al i&&zwo al ps
 |_::ps=>zwo al ps
def boxCs:DBs→Nat→List DV
 |[],_=>[]
 |o::_,0=>match o with|some b=>b.cells|none=>[]
 |_::pb,n+1=>boxCs pb n
def lentRV(pb:DBs):List DV→List Nat
 |[]=>[]
 | .own i _::ps=>rowsDL (boxCs pb i) (lentRV pb ps)
 |p::ps=>p.rows (lentRV pb ps)
def lentFV(js:List Nat):Nat→Option DV:=λj=>match memN j js with|true=>some .junk|false=>none
def idsC:Nat→List DV→Option (List Nat)
 |0,cs=>match cs with|[]=>some []|_=>none
 |n+1,cs=>match cs with
  | .own i o::cs=>match o,idsC n cs with|0,some ids=>some (i::ids)|_,_=>none
  |_=>none
def idsV:List PK→List DV→Option (List Nat)
 |[],vs=>match vs with|[]=>some []|_=>none
 | .v _::l,vs=>match vs with|_::vs=>idsV l vs|_=>none
 | .ptr::l,vs=>match vs with
  | .own i o::vs=>match o,idsV l vs with|0,some ids=>some (i::ids)|_,_=>none
  |_=>none
 | .fn g n::l,vs=>match vs with
  | .fn g' cs::vs=>match Nat.beq g' g,idsC n cs,idsV l vs with|true,some a,some b=>some (a++b)|_,_,_=>none
  |_=>none
 | .row _ _::l,vs=>match vs with|_::vs=>idsV l vs|_=>none
def rowVs:List PK→List DV→List DV
 |[],_=>[]
 | .row _ _::l,vs=>match vs with|v::vs=>v::rowVs l vs|[]=>[]
 | .v _::l,vs=>match vs with|_::vs=>rowVs l vs|[]=>[]
 | .ptr::l,vs=>match vs with|_::vs=>rowVs l vs|[]=>[]
 | .fn _ _::l,vs=>match vs with|_::vs=>rowVs l vs|[]=>[]
def pkX:(l:List PK)→(r:DT)→List DV→r.den→Option (pkT l r).den
 |[],_,_,y=>some y
 | .v t::l,r,vs,y=>match vs with
  |v::vs=>match t.ofV v,pkX l r vs y with|some x,some z=>some (x,z)|_,_=>none
  |_=>none
 | .ptr::l,r,vs,y=>match vs with|_::vs=>pkX l r vs y|_=>none
 | .fn _ _::l,r,vs,y=>match vs with|_::vs=>pkX l r vs y|_=>none
 | .row _ _::l,r,vs,y=>match vs with|_::vs=>pkX l r vs y|_=>none
def ckX:(l:List CK)→(r:DT)→List DV→List DR→(List DR→Option (r.den×List DR))→Option ((ckT l r).den×List DR)
 |[],_,cs,rw,k=>match cs with|[]=>k rw|_=>none
 | .v t::l,r,cs,rw,k=>match cs with
  |c::cs=>match t.ofV c,ckX l r cs rw k with|some x,some (y,rw)=>some ((x,y),rw)|_,_=>none
  |_=>none
 | .row e t::l,r,cs,rw,k=>match cs with
  | .row j::cs=>match drV rw j with
   |some (.own e' t' xs)=>match Nat.beq e' e,t'.same t,ckX l r cs (rw.set j .dead) k with
    |true,some ⟨h⟩,some (y,rw)=>some ((DT.castL h xs,y),rw)
    |_,_,_=>none
   |_=>none
  | .x (.slc none 0 0)::cs=>match ckX l r cs rw k with|some (y,rw)=>some (([],y),rw)|none=>none
  |_=>none
def bkX:(l:List BK)→(r:DT)→List DV→List DR→(List DR→Option (r.den×List DR))→Option ((bkT l r).den×List DR)
 |[],_,olds,rw,k=>match olds with|[]=>k rw|_=>none
 |B::l,r,olds,rw,k=>match olds with
  | .agg cs::olds=>ckX B.cells (bkT l r) cs rw λrw=>bkX l r olds rw k
  |_=>none
def lgetV:List BK→List Nat→DBs→Option (List DV)
 |[],ids,_=>match ids with|[]=>some []|_=>none
 |B::l,ids,pb=>match ids with
  |i::ids=>match dbV pb i with
   |some b=>match Nat.beq b.ty B.ty,lgetV l ids pb with|true,some vs=>some (.agg b.cells::vs)|_,_=>none
   |none=>none
  |[]=>none
def ckF:(l:List CK)→(r:DT)→(ckT l r).den→List DV→List DR→(List DV→r.den→List DR→Option β)→Option β
 |[],_,z,cs,rw,K=>match cs with|[]=>K [] z rw|_=>none
 | .v t::l,r,z,cs,rw,K=>match cs with
  |_::cs=>match t.agg with|false=>ckF l r z.2 cs rw λvs y rw=>K (t.val z.1::vs) y rw|true=>none
  |_=>none
 | .row e t::l,r,z,cs,rw,K=>match cs with
  |c::cs=>match c with
   | .row j=>match drV rw j with
    |some .dead=>setDR rw j (.own e t z.1) λrw=>ckF l r z.2 cs rw λvs y rw=>K (.row j::vs) y rw
    |_=>none
   |_=>pushE rw (.own e t z.1) λrw'=>litE rw.length λn=>ckF l r z.2 cs rw' λvs y rw=>K (.row n::vs) y rw
  |_=>none
def bkF:(l:List BK)→(r:DT)→(bkT l r).den→List Nat→List DV→DBs→List DR→(r.den→DBs→List DR→Option β)→Option β
 |[],_,z,_,_,pb,rw,K=>K z pb rw
 |B::l,r,z,ids,olds,pb,rw,K=>match ids,olds with
  |i::ids,.agg cs::olds=>ckF B.cells (bkT l r) z cs rw λvs y rw=>match dbV pb i with
   |some b=>setDB pb i (some ⟨b.ty,vs,true⟩) λpb=>bkF l r y ids olds pb rw K
   |none=>none
  |_,_=>none
def ckS:(l:List CK)→(r:DT)→(ckT l r).den→List DR→(List DV→r.den→List DR→Option β)→Option β
 |[],_,z,rw,K=>K [] z rw
 | .v t::l,r,z,rw,K=>match t.agg with
  |false=>ckS l r z.2 rw λvs y rw=>K (t.val z.1::vs) y rw
  |true=>none
 | .row e t::l,r,z,rw,K=>pushE rw (.own e t z.1) λrw'=>litE rw.length λn=>ckS l r z.2 rw' λvs y rw=>K (.row n::vs) y rw
def ndV:List Nat→Bool
 |[]=>true
 |n::l=>!memN n l&&ndV l
def resF(rs:List DV)(Q:QT)(q:Q.den)(rw:List DR)(K:DV→List DR→Option β):Option β:=
 match rs with
 |p::_=>match p with
  | .row j=>match Q,q with
   | .own e t,l=>match drV rw j with
    |some .dead=>setDR rw j (.own e t l) λrw=>K (.row j) rw
    |_=>none
   |Q,q=>resT Q q rw K
  |_=>resT Q q rw K
 |[]=>resT Q q rw K
def callLV(W:Wd)(s:LS)(nl:Nat)(xs:List DV)(pb:DBs)(rw:List DR)(K:DV→DBs→List DR→Option β):Option β:=
 match nl,idsV s.P xs with
 |0,some ids=>match ndV ids,lgetV s.B ids pb with
  |true,some olds=>match bkX s.B (ckT (rowC s.P) .unit) olds rw (λrw=>ckX (rowC s.P) .unit (rowVs s.P xs) rw λrw=>some ((),rw)) with
   |some (z,rw1)=>match pkX s.P (bkT s.B (ckT (rowC s.P) .unit)) xs z with
    |some z=>subBE (lentFV (lentRV pb (zdp xs))) pb λpb1=>W.call (s.fn z) λo=>bkF s.E .unit o.2 ids olds pb1 rw1 λ_ pb2 rw2=>match s.Q,o.1 with
     | .q Q,q=>resF (rowVs s.P xs) Q q rw2 λv rw3=>K v pb2 rw3
     | .ptr k,_=>match ids[k]? with|some i=>K (.own i 0) pb2 rw2|none=>none
     | .obj B,x=>ckS B.cells .unit x rw2 λvs _ rw3=>pushE pb2 (some ⟨B.ty,vs,true⟩) λpb3=>litE pb2.length λn=>K (.own n 0) pb3 rw3
    |none=>none
   |none=>none
  |_,_=>none
 |_,_=>none
def rowAt:List PK→List DV→Option Nat
 |[],_=>none
 | .v t::l,vs=>match vs with
  |v::vs=>match t,v with
   | .slc _,.row j=>some j
   |_,_=>rowAt l vs
  |[]=>none
 | .ptr::l,vs=>match vs with|_::vs=>rowAt l vs|[]=>none
 | .fn _ _::l,vs=>match vs with|_::vs=>rowAt l vs|[]=>none
 | .row _ _::l,vs=>match vs with|_::vs=>rowAt l vs|[]=>none
def brwV(j:Nat)(t:DT)(l:List t.den):Nat→Option DV:=λi=>match Nat.beq i j with|true=>some (.sl t l)|false=>some .junk
def deadDR:List DR→List DR
 |[]=>[]
 |_::rw=>.dead::deadDR rw
def deadOk:List DR→List DR→Bool
 |[],rw=>match rw with|[]=>true|_=>false
 |d::ds,rw=>match d,rw with | .dead,_::rw=>deadOk ds rw|_,_=>false
def allX:List DV→Bool
 |[]=>true
 |v::vs=>match v with | .x _=>allX vs|_=>false
def zul:List DV→List Nat
 |[]=>[]
 | .own i _::ps=>i::zul ps
 |_::ps=>zul ps
def mrgB(ids:List Nat):Nat→DBs→DBs→Option DBs
 |_,[],pb1=>match pb1 with|[]=>some []|_=>none
 |n,b::pb,pb1=>match pb1 with
  |b1::pb1=>match memN n ids with
   |true=>match b,b1 with
    |some x,some y=>match Nat.beq y.ty x.ty,allX y.cells,mrgB ids (n+1) pb pb1 with
     |true,true,some l=>some (some ⟨y.ty,y.cells,true⟩::l)
     |_,_,_=>none
    |_,_=>none
   |false=>match b,b1,mrgB ids (n+1) pb pb1 with
    |some x,_,some l=>some (some x::l)
    |none,none,some l=>some (none::l)
    |_,_,_=>none
  |[]=>none
def brwQ(C:ESs)(g nl:Nat)(rw:List DR)(xs:List DV):Option (LS×Nat×TypeId×(t:DT)×List t.den):=
 match esV C g with
 |some (.lb s)=>match rowAt s.P xs with
  |some j=>match Nat.ble nl j,drV rw j with
   |true,some (.own e t l)=>some (s,j,e,⟨t,l⟩)
   |_,_=>none
  |none=>none
 |_=>none
def callBV(W:Wd)(s:LS)(nl j:Nat)(t:DT)(l:List t.den)(xs:List DV)(pb:DBs)(rw:List DR)(K:DV→DBs→List DR→Option β):Option β:=
 subLE (brwV j t l) xs λxs'=>subBE (brwV j t l) pb λpb'=>callLV W s nl xs' pb' (deadDR rw) λr pb1 rw1=>match r,deadOk rw1 rw,mrgB (zul (zdp xs')) 0 pb pb1 with
  | .x y,true,some pb2=>K (.x y) pb2 rw
  |_,_,_=>none
def avV:List (Nat×Nat)→Nat→Option Nat
 |[],_=>none
 |(d,i)::l,n=>match Nat.beq d n with|true=>some i|false=>avV l n
def newDB(av:List (Nat×Nat))(dst:Option Tmp)(ty:TypeId)(cs:List DV)(ts:List DV)(pb:DBs)(rw:List DR)(K:DK β):Option β:=
 match dst with
 |none=>none
 |some d=>match avV av d with
  |some i=>match yhe pb i with
   |true=>setDB pb i (some ⟨ty,cs,true⟩) λpb'=>retE (some d) (.own i 0) ts pb' rw K
   |false=>none
  |none=>pushE pb (some ⟨ty,cs,true⟩) λpb'=>litE pb.length λn=>retE (some d) (.own n 0) ts pb' rw K
def sndsD:List (Nat×DV)→List DV
 |[]=>[]
 |(_,p)::ps=>p::sndsD ps
def rezipD:List (Nat×DV)→List DV→List (Nat×DV)
 |(i,_)::ps,q::qs=>(i,q)::rezipD ps qs
 |_,_=>[]
def tyOfs(f:TypeId→Option DT):List (Nat×Nat×Nat)→Option DT
 |[]=>some .unit
 |(_,ty,_)::fs=>match f ty,tyOfs f fs with
  |some a,some b=>some (.pair a b)
  |_,_=>none
def tyOf(T:List TI):Nat→TypeId→Option DT
 |0,_=>none
 |n+1,t=>match tdV T t with
  |some (.int k)=>some (.int k)
  |some .bool=>some .bool
  |some .string=>some .str
  |some (.slice e)=>match tyOf T n e with|some a=>some (.slc a)|none=>none
  |some (.struct fs)=>tyOfs (tyOf T n) fs
  |_=>none
def bytesQ(T:List TI)(o:Oper)(ts:List DV):Option ByteArray:=
 match o.op with
 | .convert src dst x=>match opV ts x with
  |some (.sl (.int .u8) l)=>match tdV T src,tdV T dst with
   |some (.slice e),some .string=>match tdV T e with|some (.int .u8)=>some (strOf l)|_=>none
   |_,_=>none
  |_=>none
 |_=>none
def zeroO:Operand→Bool
 | .const (.int _ (.ofNat 0))=>true
 |_=>false
def evOp(W:Wd)(T:List TI)(C:ESs)(nl:Nat)(al:Nat→Bool)(av:List (Nat×Nat))(o:Oper)(ts:List DV)(pb:DBs)(rw:List DR)(K:DK β):Option β:=
 match o.op with
 | .alloc t=>match tiV T t with
  |some ti=>match ti.zero with
   |z::zs=>newDB av o.dst t (constV (z::zs)) ts pb rw K
   |[]=>none
  |none=>none
 | .box t x=>match opV ts x with
  |some a=>match cellsV a with|some cs=>newDB av o.dst t cs ts pb rw K|none=>none
  |none=>none
 | .load t a=>match opV ts a with
  |some A=>loadE W T t A pb rw λx=>retE o.dst x ts pb rw K
  |none=>none
 | .store t a x=>match opV ts a,opV ts x,tiV T t with
  |some a,some x,some ti=>match cellsV x with
   |some cs=>match Nat.beq cs.length ti.size,oneDL cs,a with
    |true,true,.own i off=>match al i,dbV pb i with
     |true,some y=>match subV y.cells off ti.size with
      |some _=>wrE y.cells off cs λcells=>setDB pb i (some ⟨y.ty,cells,true⟩) λpb'=>retE o.dst (.x .und) ts pb' rw K
      |none=>none
     |_,_=>none
    |true,true,.re j i off=>frzE nl (rowsDL cs []) ts pb rw (.re j i off::cs) λts pb rw ps=>match ps with
     | .re j i off::cs=>match drV rw j with
      |some (.own e t' l)=>match Nat.ble (off+cs.length) t'.size with
       |true=>W.nth l i λy=>wrE (t'.cells y []) off cs λcells=>match t'.of cells with
        |some (y',[])=>setDR rw j (.own e t' (l.set i y')) λrw=>retE o.dst (.x .und) ts pb rw K
        |_=>none
       |false=>none
      |_=>none
     |_=>none
    |_,_,_=>none
   |none=>none
  |_,_,_=>none
 | .call c=>match c.callee with
  | .value f=>match opV ts f,opsV ts c.args.toList with
   |some (.fn g caps),some xs=>match brwQ C g nl rw (xs++caps) with
    |some (s,j,_,⟨t,l⟩)=>match zwo al (zdp (xs++caps)) with
     |true=>callBV W s nl j t l (xs++caps) pb rw λr pb rw=>retE o.dst r ts pb rw K
     |false=>none
    |none=>frzE nl (rowsAV C g 0 xs (rowsDL caps [])) ts pb rw (xs++caps) λts pb rw xs=>match zwo al (zdp xs) with
     |true=>subLE (lentFV (lentRV pb (zdp xs))) ts λts=>match esV C g with
      |some (.es s)=>match ofA s.P xs with
       |some x=>W.call (s.fn x) λq=>resT s.Q q rw λr rw=>retE o.dst r ts pb rw K
       |none=>none
      |some (.ls s)=>callLV W s nl xs pb rw λr pb rw=>retE o.dst r ts pb rw K
      |some (.lb s)=>callLV W s nl xs pb rw λr pb rw=>retE o.dst r ts pb rw K
      |none=>none
     |false=>none
   |_,_=>none
  | .builtin b=>match opsV ts c.args.toList with
   |some xs=>match b with
    | .append=>match xs with
     |[a,b]=>frzE nl (b.rows []) ts pb rw [a,b] λts pb rw xs=>match xs,c.argTypes.toList with
      |[a,b],[t,t']=>match tdV T t with
       |some (.slice e)=>match tiV T e with
        |some te=>match Nat.beq t t',Nat.beq te.zero.length te.size,b with
         |true,true,.sl t2 news=>match Nat.blt 0 t2.size,a with
          |true,.row j=>match drV rw j with
           |some (.own e2 t1 l)=>match Nat.beq e e2,Nat.beq t1.size te.size,t2.same t1 with
            |true,true,some ⟨h⟩=>W.room (l.length+news.length) te.bytes (subLE (oneD j .junk) ts λts=>subBE (oneD j .junk) pb λpb=>setDR rw j (.own e t1 (l++DT.castL h news)) λrw=>retE o.dst (.row j) ts pb rw K)
            |_,_,_=>none
           |_=>none
          |true,.x (.slc none 0 0)=>match Nat.beq t2.size te.size with
           |true=>W.room news.length te.bytes (pushE rw (.own e t2 news) λrw'=>litE rw.length λn=>retE o.dst (.row n) ts pb rw' K)
           |false=>none
          |_,_=>none
         |_,_,_=>none
        |none=>none
       |_=>none
      |_,_=>none
     |_=>none
    | .clear=>match xs,c.argTypes.toList with
     |[.rt j i],[t]=>match tdV T t with
      |some (.slice e)=>match tiV T e,drV rw j with
       |some te,some (.own e2 t' l)=>match Nat.beq e e2,Nat.beq t'.size te.size,Nat.beq te.zero.length te.size,Nat.ble 1 te.size,t'.of (constV te.zero) with
        |true,true,true,true,some (z,[])=>W.bnd (.ofNat i) l.length λn=>setDR rw j (.own e2 t' (l.take n++List.replicate (l.length - n) z)) λrw=>retE o.dst .junk ts pb rw K
        |_,_,_,_,_=>none
       |_,_=>none
      |_=>none
     |_,_=>none
    |b=>yaj T b c.argTypes xs rw λx=>retE o.dst x ts pb rw K
   |none=>none
  |_=>none
 | .buildSlice t len parts=>match partsV ts parts.toList with
  |some ps=>frzE nl (rowsDL (sndsD ps) []) ts pb rw (sndsD ps) λts pb rw qs=>match tdV T t with
   |some (.slice e)=>match tiV T e,tyOf T 9 e with
    |some te,some te'=>match ofVs te' (rezipD ps qs) 0 with
     |some l=>match Nat.beq te'.size te.size,Nat.beq len l.length,Nat.ble 1 te.size,Nat.ble (len*te.size) 16777216,Nat.beq te.zero.length te.size with
      |true,true,true,true,true=>pushE rw (.own e te' l) λrw'=>litE rw.length λn=>retE o.dst (.row n) ts pb rw' K
      |_,_,_,_,_=>none
     |none=>none
    |_,_=>none
   |_=>none
  |none=>none
 | .slice t x lo hi mx=>match opV ts x with
  |some a=>frzE nl (a.rows []) ts pb rw [] λts pb rw _=>purE W T (.slice t x lo hi mx) ts rw λy=>retE o.dst y ts pb rw K
  |none=>none
 | .makeSlice t l c=>match opV ts l,opV ts c,tdV T t with
  |some (.x (.int _ n)),some (.x (.int _ c)),some (.slice e)=>match tiV T e,tyOf T 9 e with
   |some te,some te'=>match Nat.beq te'.size te.size,Nat.ble 1 te.size,Nat.beq te.zero.length te.size,te'.of (constV te.zero) with
    |true,true,true,some (z,[])=>match zeroO l with
     |true=>match n with
      | .ofNat 0=>W.nn c (W.room c.toNat te.bytes (pushE rw (.own e te' []) λrw'=>litE rw.length λn=>retE o.dst (.row n) ts pb rw' K))
      |_=>none
     |false=>W.nn c (W.room c.toNat te.bytes (W.bnd n c.toNat λn=>pushE rw (.own e te' (List.replicate n z)) λrw'=>litE rw.length λn=>retE o.dst (.row n) ts pb rw' K))
    |_,_,_,_=>none
   |_,_=>none
  |_,_,_=>none
 | .index t x ix=>match opV ts x,opV ts ix,tdV T t with
  |some (.x (.str s)),some (.x (.int _ i)),some .string=>W.sidx s i λb=>retE o.dst (.x (.int .u8 b)) ts pb rw K
  |_,_,_=>none
 | .range t x=>match opV ts x,tdV T t with
  |some (.x (.str s)),some .string=>pushE rw (.itr s 0) λrw'=>litE rw.length λn=>retE o.dst (.ob n) ts pb rw' K
  |_,_=>none
 | .next it b=>match opV ts it,b with
  |some (.ob j),true=>match drV rw j with
   |some (.itr s p)=>W.next s p (λc q=>setDR rw j (.itr s q) λrw'=>retE o.dst (.tup [.x (.lit true),.x (.int .i64 (p.toNat:Int)),.x (.int .i32 c)]) ts pb rw' K) (retE o.dst (.tup [.x (.lit false)]) ts pb rw K)
   |_=>none
  |_,_=>none
 | .convert src dst x=>match bytesQ T o ts with
  |some s=>retE o.dst (.x (.str s)) ts pb rw K
  |none=>purE W T (.convert src dst x) ts rw λx=>retE o.dst x ts pb rw K
 |op=>purE W T op ts rw λx=>retE o.dst x ts pb rw K
def nilQ(T:List TI)(o:Oper)(ts:List DV):Option (Bool×Bool):=
 match o.op with
 | .binOp op t x y _=>match tdV T t,opV ts x,opV ts y with
  |some (.slice _),some (.sl d l),some (.x (.slc none 0 0))=>match Nat.blt 0 d.size with
   |true=>match op with
    | .eql=>some (List.isEmpty l,false)
    | .neq=>some (List.isEmpty l,true)
    |_=>none
   |false=>none
  |_,_,_=>none
 |_=>none
def evOpN(W:Wd)(T:List TI)(C:ESs)(nl:Nat)(al:Nat→Bool)(av:List (Nat×Nat))(o:Oper)(ts:List DV)(pb:DBs)(rw:List DR)(K:DK β):Option β:=
 match nilQ T o ts with
 |some (e,neg)=>W.nilq e λg=>retE o.dst (.x (.bool (notIf neg g))) ts pb rw K
 |none=>evOp W T C nl al av o ts pb rw K
def isClear:List Oper→Bool
 |o::_=>match o.op with
  | .call c=>match c.callee with | .builtin .clear=>true|_=>false
  |_=>false
 |[]=>false
def tailQ(T:List TI)(o:Oper)(rest:List Oper)(ts:List DV)(rw:List DR):Option (Nat×Int×Nat):=
 match isClear rest with
 |true=>match o.op with
  | .slice t x (some lo) none none=>match tdV T t,opV ts x,opV ts lo with
   |some (.slice e),some (.row j),some (.x (.int _ i))=>match tiV T e,drV rw j with
    |some te,some (.own _ t' l)=>match Nat.beq t'.size te.size with|true=>some (j,i,l.length)|false=>none
    |_,_=>none
   |_,_,_=>none
  |_=>none
 |false=>none
def evOpT(W:Wd)(T:List TI)(C:ESs)(nl:Nat)(al:Nat→Bool)(av:List (Nat×Nat))(o:Oper)(rest:List Oper)(ts:List DV)(pb:DBs)(rw:List DR)(K:DK β):Option β:=
 match tailQ T o rest ts rw with
 |some (j,i,n)=>W.bnd i n λm=>retE o.dst (.rt j m) ts pb rw K
 |none=>evOpN W T C nl al av o ts pb rw K
end Go.Vc

namespace Go.Vc
open Go Go.RowKit
variable {β:Type} {r:β}
theorem pL_map(l:List DV):pL l=l.map DV.p:=by induction l with|nil=>rfl|cons x l ih=>simp[pL,ih]
theorem bP_map(l:DBs):bP l=l.map λo=>o.map λb=>⟨b.ty,pL b.cells⟩:=by
 induction l with
 |nil=>rfl
 |cons x l ih=>cases x<;>simp[bP,ih]
theorem rP_map(l:List DR):rP l=l.map DR.p:=by induction l with|nil=>rfl|cons x l ih=>simp[rP,ih]
theorem pL_set(l:List DV)(n:Nat)(v:DV):pL (l.set n v)=(pL l).set n v.p:=by simp[pL_map,List.map_set]
theorem bP_set(l:DBs)(n:Nat)(b:DB):bP (l.set n (some b))=(bP l).set n (some ⟨b.ty,pL b.cells⟩):=by simp[bP_map,List.map_set]
theorem rP_set(l:List DR)(n:Nat)(v:DR):rP (l.set n v)=(rP l).set n v.p:=by simp[rP_map,List.map_set]
theorem pL_app(l m:List DV):pL (l++m)=pL l++pL m:=by simp[pL_map]
theorem bP_app(l m:DBs):bP (l++m)=bP l++bP m:=by simp[bP_map]
theorem rP_app(l m:List DR):rP (l++m)=rP l++rP m:=by simp[rP_map]
theorem pL_len(l:List DV):(pL l).length=l.length:=by simp[pL_map]
theorem bP_len(l:DBs):(bP l).length=l.length:=by simp[bP_map]
theorem rP_len(l:List DR):(rP l).length=l.length:=by simp[rP_map]
theorem ybb(l:List DV)(n:Nat)(v:DV)(K:List DV→Option β):setE l n v K=K (l.set n v):=by
 induction l generalizing n K with
 |nil=>simp[setE]
 |cons x l ih=>cases n<;>simp[setE,ih]
theorem wrE_eq(vs:List DV)(l:List DV)(off:Nat)(K:List DV→Option β):wrE l off vs K=K (wr l off vs):=by
 induction vs generalizing l off with
 |nil=>simp[wrE,wr]
 |cons v vs ih=>simp only[wrE,ybb,wr,ih]
theorem pL_wr(vs:List DV)(l:List DV)(off:Nat):pL (wr l off vs)=wr (pL l) off (pL vs):=by
 induction vs generalizing l off with
 |nil=>simp[wr,pL]
 |cons v vs ih=>simp only[wr,pL,ih,pL_set]
theorem zzc(l:DBs)(n:Nat)(v:Option DB)(K:DBs→Option β):setDB l n v K=K (l.set n v):=by
 induction l generalizing n K with
 |nil=>simp[setDB]
 |cons x l ih=>cases n<;>simp[setDB,ih]
theorem zjw(l:List DR)(n:Nat)(v:DR)(K:List DR→Option β):setDR l n v K=K (l.set n v):=by
 induction l generalizing n K with
 |nil=>simp[setDR]
 |cons x l ih=>cases n<;>simp[setDR,ih]
theorem zgh(n:Nat)(K:Nat→Option β):litE n K=K n:=by unfold litE; split<;>rfl
theorem zeh{α:Type}(l:List α)(y:α)(K:List α→Option β):pushE l y K=K (l++[y]):=by
 induction l generalizing K with
 |nil=>rfl
 |cons x l ih=>simp[pushE,ih]
mutual
def DV.sub(f:Nat→Option DV):DV→DV
 | .row i=>match f i with|some p=>p|none=>.row i
 | .re i a b=>match f i with|some _=>.junk|none=>.re i a b
 | .rt i a=>match f i with|some _=>.junk|none=>.rt i a
 | .ob i=>match f i with|some _=>.junk|none=>.ob i
 | .fn g cs=>.fn g (subDL f cs)
 | .agg xs=>.agg (subDL f xs)
 | .tup xs=>.tup (subDL f xs)
 | .x y=>.x y
 | .sl t l=>.sl t l
 | .el t x o=>.el t x o
 | .own i o=>.own i o
 | .junk=>.junk
def subDL(f:Nat→Option DV):List DV→List DV
 |[]=>[]
 |p::ps=>p.sub f::subDL f ps
end
def subDB(f:Nat→Option DV):DBs→DBs
 |[]=>[]
 |some ⟨t,cs,w⟩::ps=>some ⟨t,subDL f cs,w⟩::subDB f ps
 |none::ps=>none::subDB f ps
mutual
theorem DV.subE_eq(f:Nat→Option DV):(p:DV)→(K:DV→Option β)→p.subE f K=K (p.sub f)
 | .row i,K=>by simp only[DV.subE,DV.sub]; cases f i<;>rfl
 | .re i a b,K=>by simp only[DV.subE,DV.sub]; cases f i<;>rfl
 | .rt i a,K=>by simp only[DV.subE,DV.sub]; cases f i<;>rfl
 | .ob i,K=>by simp only[DV.subE,DV.sub]; cases f i<;>rfl
 | .fn g cs,K=>by simp only[DV.subE,DV.sub,zeu f cs]
 | .agg xs,K=>by simp only[DV.subE,DV.sub,zeu f xs]
 | .tup xs,K=>by simp only[DV.subE,DV.sub,zeu f xs]
 | .x y,K=>rfl
 | .sl t l,K=>rfl
 | .el t x o,K=>rfl
 | .own i o,K=>rfl
 | .junk,K=>rfl
theorem zeu(f:Nat→Option DV):(ps:List DV)→(K:List DV→Option β)→subLE f ps K=K (subDL f ps)
 |[],K=>rfl
 |p::ps,K=>by simp only[subLE,subDL,DV.subE_eq f p,zeu f ps]
end
theorem zjv(f:Nat→Option DV):(ps:DBs)→(K:DBs→Option β)→subBE f ps K=K (subDB f ps)
 |[],K=>rfl
 |some ⟨t,cs,w⟩::ps,K=>by simp only[subBE,subDB,zeu,zjv f ps]
 |none::ps,K=>by simp only[subBE,subDB,zjv f ps]
def fP(f:Nat→Option DV):Nat→Option PV:=λi=>(f i).map DV.p
mutual
theorem DV.p_sub(f:Nat→Option DV):(p:DV)→(p.sub f).p=p.p.sub (fP f)
 | .row i=>by simp only[DV.sub,DV.p,PV.sub,fP]; cases h:f i<;>simp[DV.p]
 | .re i a b=>by simp only[DV.sub,DV.p,PV.sub,fP]; cases h:f i<;>simp[DV.p]
 | .rt i a=>by simp only[DV.sub,DV.p,PV.sub,fP]; cases h:f i<;>simp[DV.p]
 | .ob i=>by simp only[DV.sub,DV.p,PV.sub,fP]; cases h:f i<;>simp[DV.p]
 | .fn g cs=>by simp only[DV.sub,DV.p,PV.sub,pL_sub f cs]
 | .agg xs=>by simp only[DV.sub,DV.p,PV.sub,pL_sub f xs]
 | .tup xs=>by simp only[DV.sub,DV.p,PV.sub,pL_sub f xs]
 | .x y=>rfl
 | .sl t l=>rfl
 | .el t x o=>rfl
 | .own i o=>rfl
 | .junk=>rfl
theorem pL_sub(f:Nat→Option DV):(ps:List DV)→pL (subDL f ps)=subL (fP f) (pL ps)
 |[]=>rfl
 |p::ps=>by simp only[subDL,pL,subL,DV.p_sub f p,pL_sub f ps]
end
theorem bP_sub(f:Nat→Option DV):(ps:DBs)→bP (subDB f ps)=subB' (fP f) (bP ps)
 |[]=>rfl
 |some ⟨t,cs,w⟩::ps=>by simp only[subDB,bP,subB',pL_sub,bP_sub f ps]
 |none::ps=>by simp only[subDB,bP,subB',bP_sub f ps]
theorem fP_one(j:Nat)(v:DV):fP (oneD j v)=oneF j v.p:=by
 funext i; unfold fP oneD oneF; cases Nat.beq i j<;>rfl
theorem ytf:fP norowD=norowF:=by funext i; rfl
theorem gtV_p:∀{ts:List DV} {n:Nat} {v:DV} {K:RP},gtV ts n=some v→K v.p→getP (pL ts) n K
 |[],n,v,K,h,k=>by simp only[gtV,Option.some.injEq]at h; subst h; exact k
 |p::ts,0,v,K,h,k=>by
  simp only[gtV]at h
  simp only[pL,getP]
  cases p with
  |junk=>cases h
  |x y=>cases y<;>first|(cases h; done)|(simp only[Option.some.injEq]at h; subst h; exact k)
  |_=>simp only[Option.some.injEq]at h; subst h; exact k
 |p::ts,n+1,v,K,h,k=>by simp only[gtV]at h; simp only[pL,getP]; exact gtV_p h k
theorem opV_p{ts:List DV}{o:Operand}{v:DV}{K:RP}(h:opV ts o=some v)(k:K v.p):opP (pL ts) o K:=by
 cases o with
 |tmp t=>exact gtV_p h k
 |_=>simp only[opV,Option.some.injEq]at h; subst h; exact k
theorem opsV_p:∀{os:List Operand} {ts vs:List DV} {K:List PV→Prop},opsV ts os=some vs→K (pL vs)→opsP (pL ts) os K
 |[],ts,vs,K,h,k=>by simp only[opsV,Option.some.injEq]at h; subst h; exact k
 |o::os,ts,vs,K,h,k=>by
  simp only[opsV]at h
  split at h
  ·rename_i x hx
   split at h
   ·rename_i xs hxs
    simp only[Option.some.injEq]at h; subst h
    exact opV_p hx (opsV_p hxs k)
   ·cases h
  ·cases h
theorem subV_p:∀{xs:List DV} {o n:Nat} {l:List DV} {K:List PV→Prop},subV xs o n=some l→K (pL l)→subP (pL xs) o n K
 |x::xs,o+1,n,l,K,h,k=>by simp only[subV]at h; simp only[pL,subP]; exact subV_p h k
 |[],o+1,n,l,K,h,k=>by simp[subV]at h
 |[],0,0,l,K,h,k=>by simp only[subV,Option.some.injEq]at h; subst h; exact k
 |x::xs,0,0,l,K,h,k=>by simp only[subV,Option.some.injEq]at h; subst h; exact k
 |[],0,n+1,l,K,h,k=>by simp[subV]at h
 |x::xs,0,n+1,l,K,h,k=>by
  simp only[subV]at h
  split at h
  ·rename_i l' hl
   simp only[Option.some.injEq]at h; subst h
   simp only[pL,subP]
   exact subV_p hl k
  ·cases h
theorem dbV_p:∀{pb:DBs} {i:Nat} {b:DB} {K:PBox→Prop},dbV pb i=some b→K ⟨b.ty,pL b.cells⟩→pbK (bP pb) i K
 |[],i,b,K,h,k=>by cases h
 |o::pb,0,b,K,h,k=>by simp only[dbV]at h; subst h; exact k
 |o::pb,i+1,b,K,h,k=>by
  simp only[dbV]at h
  have:=dbV_p h k
  cases o<;>simpa only[bP,pbK]using this
theorem zxn:∀{pb:DBs} {i:Nat} {b:DB},dbV pb i=some b→pb[i]?=some (some b)
 |[],i,b,h=>by cases h
 |o::pb,0,b,h=>by simp only[dbV]at h; subst h; rfl
 |o::pb,i+1,b,h=>by simpa using zxn (pb:=pb) (i:=i) h
theorem ylk:∀{pb:DBs} {i:Nat} {K:Prop},yhe pb i=true→K→yaw (bP pb) i K
 |[],i,K,h,k=>by cases h
 |o::pb,0,K,h,k=>by cases o with
  |none=>exact k
  |some b=>cases h
 |o::pb,i+1,K,h,k=>by
  have:=ylk (pb:=pb) (i:=i) h k
  cases o<;>simpa only[bP,yaw]using this
theorem yav:∀{pb:DBs} {i:Nat},yhe pb i=true→pb[i]?=some none
 |[],i,h=>by cases h
 |o::pb,0,h=>by cases o with
  |none=>rfl
  |some b=>cases h
 |o::pb,i+1,h=>by simpa using yav (pb:=pb) (i:=i) h
theorem drV_p:∀{rw:List DR} {j:Nat} {e:TypeId} {t:DT} {l:List t.den} {K:Nat→Nat→List (List R)→Prop},drV rw j=some (.own e t l)→K e t.size (l.map λx=>t.enc x)→rsK (rP rw) j K
 |[],j,e,t,l,K,h,k=>by cases h
 |x::rw,0,e,t,l,K,h,k=>by simp only[drV,Option.some.injEq]at h; subst h; exact k
 |x::rw,j+1,e,t,l,K,h,k=>by simp only[drV]at h; simp only[rP,rsK]; exact drV_p h k
theorem drV_d:∀{rw:List DR} {j:Nat} {e:TypeId} {t:DT} {l:List t.den} {K:Nat→Nat→List (List R)→Prop} {N:Prop},drV rw j=some (.own e t l)→K e t.size (l.map λx=>t.enc x)→rsD (rP rw) j K N
 |[],j,e,t,l,K,N,h,k=>by cases h
 |x::rw,0,e,t,l,K,N,h,k=>by simp only[drV,Option.some.injEq]at h; subst h; exact k
 |x::rw,j+1,e,t,l,K,N,h,k=>by simp only[drV]at h; simp only[rP,rsD]; exact drV_d h k
theorem drV_n:∀{rw:List DR} {j:Nat} {K:Nat→Nat→List (List R)→Prop} {N:Prop},(∀e t l,drV rw j≠some (.own e t l))→N→rsD (rP rw) j K N
 |[],j,K,N,h,k=>k
 |x::rw,0,K,N,h,k=>by
  cases x with
  |own e t l=>exact absurd rfl (h e t l)
  |itr s p=>exact k
  |dead=>exact k
 |x::rw,j+1,K,N,h,k=>by simp only[rP,rsD]; exact drV_n (rw:=rw) (λe t l=>h e t l) k
theorem drV_o:∀{rw:List DR} {j:Nat} {s:ByteArray} {p:Int} {K:Obj→Prop},drV rw j=some (.itr s p)→K (.stringIter s p.toNat)→obK (rP rw) j K
 |[],j,s,p,K,h,k=>by cases h
 |x::rw,0,s,p,K,h,k=>by simp only[drV,Option.some.injEq]at h; subst h; exact k
 |x::rw,j+1,s,p,K,h,k=>by simp only[drV]at h; simp only[rP,obK]; exact drV_o h k
theorem yqf:∀{ps:List DV} {ys:List XV} {K:List XV→Prop},flatV ps=some ys→K ys→flatK (pL ps) K
 |[],ys,K,h,k=>by simp only[flatV,Option.some.injEq]at h; subst h; exact k
 |p::ps,ys,K,h,k=>by
  simp only[flatV]at h
  cases p with
  |x y=>
   simp only at h
   split at h
   ·rename_i l hl
    simp only[Option.some.injEq]at h; subst h
    simp only[pL,DV.p,flatK]
    exact yqf hl k
   ·cases h
  |_=>cases h
def ndP:List (Nat×DV)→List (Nat×PV)
 |[]=>[]
 |(i,v)::l=>(i,v.p)::ndP l
theorem yjf:∀{l:List (Nat×Operand)} {ts:List DV} {ps:List (Nat×DV)} {K:List (Nat×PV)→Prop},partsV ts l=some ps→K (ndP ps)→partsP (pL ts) l K
 |[],ts,ps,K,h,k=>by simp only[partsV,Option.some.injEq]at h; subst h; exact k
 |(i,o)::l,ts,ps,K,h,k=>by
  simp only[partsV]at h
  split at h
  ·rename_i x hx
   split at h
   ·rename_i xs hxs
    simp only[Option.some.injEq]at h; subst h
    exact opV_p hx (yjf hxs k)
   ·cases h
  ·cases h
theorem zvf{x:DV}{cs:List DV}{K:List PV→Prop}(h:cellsV x=some cs)(k:K (pL cs)):cellsP x.p K:=by
 unfold cellsV at h
 cases x with
 |agg xs=>simp only[Option.some.injEq]at h; subst h; exact k
 |x y=>
  simp only[oneD1]at h
  split at h
  ·rename_i ho
   simp only[Option.some.injEq]at h; subst h
   simp only[DV.p,cellsP]
   cases y<;>first|(cases ho; done)|exact k|exact⟨ho,k⟩
  ·cases h
 |tup xs=>cases h
 |junk=>cases h
 |_=>simp only[oneD1,Option.some.injEq]at h; subst h; exact k
theorem ypi:∀{cs:List DV} {K:Prop},oneDL cs=true→K→oneP (pL cs) K
 |[],K,_,k=>k
 |c::cs,K,h,k=>by
  simp only[oneDL]at h
  split at h
  ·rename_i ho
   have ih:=ypi h k
   cases c with
   |x y=>
    simp only[oneD1]at ho
    simp only[pL,DV.p,oneP]
    cases y<;>first|(cases ho; done)|exact ih|exact⟨ho,ih⟩
   |agg _=>cases ho
   |tup _=>cases ho
   |junk=>cases ho
   |_=>exact ih
  ·cases h
theorem lenP_p:∀{cs:List DV} {n:Nat} {K:Prop},Nat.beq cs.length n=true→K→lenP (pL cs) n K
 |[],0,K,_,k=>k
 |[],n+1,K,h,k=>by simp at h
 |c::cs,0,K,h,k=>by simp at h
 |c::cs,n+1,K,h,k=>by simp only[pL,lenP]; exact lenP_p (by simpa using h) k
theorem tiV_p:∀{T:List TI} {t:Nat} {ti:TI} {K:TI→Prop},tiV T t=some ti→K ti→tiK T t K
 |[],t,ti,K,h,k=>by cases h
 |x::T,0,ti,K,h,k=>by
  simp only[tiV]at h
  split at h
  ·rename_i ho; simp only[Option.some.injEq]at h; subst h; simp only[tiK,ho]; exact k
  ·cases h
 |x::T,t+1,ti,K,h,k=>tiV_p (T:=T) (t:=t) h k
theorem tdV_p{T:List TI}{t:Nat}{d:TD}{K:TI→Prop}(h:tdV T t=some d)(k:∀ti,ti.td=d→K ti):tiK T t K:=by
 unfold tdV at h
 split at h
 ·rename_i ti hti; simp only[Option.some.injEq]at h; exact tiV_p hti (k ti h)
 ·cases h
theorem fldV_p:∀{fs:List (Nat×Nat×Nat)} {i off ty sz:Nat} {K:Nat→Nat→Nat→Prop},fldV fs i=some (off,ty,sz)→K off ty sz→fldK fs i K
 |[],i,off,ty,sz,K,h,k=>by cases h
 |(a,b,c)::fs,0,off,ty,sz,K,h,k=>by
  cases c with
  |zero=>cases h
  |succ c=>simp only[fldV,Option.some.injEq,Prod.mk.injEq]at h; obtain⟨rfl,rfl,rfl⟩:=h; exact k
 |f::fs,i+1,off,ty,sz,K,h,k=>fldV_p (fs:=fs) (i:=i) h k
theorem posV_p:∀{fs:List (Nat×Nat×Nat)} {K:Prop},posV fs=true→K→posK fs K
 |[],K,_,k=>k
 |(a,b,c)::fs,K,h,k=>by
  cases c with
  |zero=>cases h
  |succ c=>exact posV_p (fs:=fs) h k
theorem yag(l:List Value):pL (constV l)=constP l:=by
 induction l with
 |nil=>rfl
 |cons x l ih=>simp only[constV,pL,constP,DV.p,ih]
theorem fillE_p{fs:List (Nat×Nat×Nat)}:∀{ps:List (Nat×DV)} {cells:List DV} {K:List DV→Option β},fillE fs cells ps K=some r→∃out,K out=some r∧∀K':List PV→Prop,K' (pL out)→fillP fs (pL cells) (ndP ps) K'
 |[],cells,K,h=>⟨cells,h,λ_ k=>k⟩
 |(i,x)::ps,cells,K,h=>by
  simp only[fillE]at h
  split at h
  ·rename_i off ty sz hf
   split at h
   ·rename_i cs hcs
    split at h
    ·rename_i l h1 h2
     rw[wrE_eq]at h
     obtain⟨out,h3,h4⟩:=fillE_p h
     refine⟨out,h3,λK' k=>?_⟩
     simp only[ndP,fillP]
     refine fldV_p hf (zvf hcs (lenP_p h1 (subV_p h2 ((ygr _ _ _ _).2 ?_))))
     rw[←pL_wr]
     exact h4 K' k
    ·cases h
   ·cases h
  ·cases h
theorem opOV_p{ts:List DV}{o:Option Operand}{v:Option DV}{K:Option PV→Prop}(h:opOV ts o=some v)(k:K (v.map DV.p)):opOP (pL ts) o K:=by
 cases o with
 |none=>simp only[opOV,Option.some.injEq]at h; subst h; exact k
 |some o=>
  simp only[opOV]at h
  split at h
  ·rename_i x hx; simp only[Option.some.injEq]at h; subst h; exact opV_p hx k
  ·cases h
theorem zdv{c:Bool}{a:Option β}(h:(bif c then a else none)=some r):c=true∧a=some r:=by cases c<;>simp_all
theorem bndF_p{i:Int}{n:Nat}{K:Nat→Option β}(h:bndF i n K=some r):0≤i∧i≤(n:Int)∧K i.toNat=some r:=by
 obtain⟨h1,h2⟩:=zdv h
 simp only[Bool.and_eq_true,decide_eq_true_eq]at h1
 exact⟨h1.1,h1.2,h2⟩
theorem bndD_p{o:Option DV}{d b:Nat}{K:Nat→Option β}(h:bndD stdW o d b K=some r):∃n,K n=some r∧∀K':Nat→Prop,K' n→bndP (o.map DV.p) d b K':=by
 unfold bndD at h
 split at h
 ·exact⟨_,h,λ_ k=>k⟩
 ·obtain⟨h1,h2,h3⟩:=bndF_p h
  exact⟨_,h3,λ_ k=>⟨h1,h2,k⟩⟩
 ·cases h
theorem idxF_p{α:Type}{l:List α}{i:Int}{K:α→Option β}(h:idxF l i K=some r):∃x,0≤i∧i<(l.length:Int)∧l[i.toNat]?=some x∧K x=some r:=by
 unfold idxF at h
 split at h
 ·rename_i x hx
  obtain⟨h1,h2⟩:=zdv h
  have h1:=of_decide_eq_true h1
  have:=(List.getElem?_eq_some_iff.1 hx).1
  exact⟨x,h1,by omega,hx,h2⟩
 ·cases h
theorem idxR_p{α:Type}{l:List α}{i:Nat}{K:α→Option β}(h:idxR l i K=some r):∃x,l[i]?=some x∧K x=some r:=by
 unfold idxR at h
 split at h
 ·rename_i x hx; exact⟨x,hx,h⟩
 ·cases h
end Go.Vc

namespace Go.Vc
open Go Go.RowKit
variable {β:Type} {r:β}
def relC:List R→List DV→Prop
 |[],vs=>vs=[]
 |q::qs,vs=>∃v vs',vs=v::vs'∧(∀K:RP,K v.p→r2pK q K)∧relC qs vs'
theorem yrq:∀{qs qs':List R} {vs vs':List DV},relC qs vs→relC qs' vs'→relC (qs++qs') (vs++vs')
 |[],qs',vs,vs',h,h'=>by simp only[relC]at h; subst h; exact h'
 |q::qs,qs',vs,vs',h,h'=>by
  simp only[relC]at h
  obtain⟨v,vs1,rfl,h1,h2⟩:=h
  exact⟨v,_,rfl,h1,yrq h2 h'⟩
theorem ydm(t:DT)(x:t.den)(l:List DV):t.cells x l=t.cells x []++l:=by
 induction t generalizing l with
 |pair a b iha ihb=>simp only[DT.cells]; rw[iha,ihb,iha x.1 (b.cells x.2 [])]; simp
 |_=>rfl
theorem zwb(t:DT)(x:t.den):relC (t.enc x) (t.cells x []):=by
 induction t with
 |pair a b iha ihb=>simp only[DT.enc,DT.cells]; rw[ydm]; exact yrq (iha x.1) (ihb x.2)
 |unit=>rfl
 |_=>exact⟨_,_,rfl,λK k=>k,rfl⟩
theorem relC_K:∀{qs:List R} {vs:List DV} {K:List PV→Prop},relC qs vs→K (pL vs)→r2pLK qs K
 |[],vs,K,h,k=>by simp only[relC]at h; subst h; exact k
 |q::qs,vs,K,h,k=>by
  simp only[relC]at h
  obtain⟨v,vs1,rfl,h1,h2⟩:=h
  exact h1 _ (relC_K h2 k)
theorem zzf:∀{qs:List R} {vs:List DV} {o n:Nat} {l:List DV},relC qs vs→subV vs o n=some l→∃ls,relC ls l∧∀K:List R→Prop,K ls→subR qs o n K
 |q::qs,vs,o+1,n,l,h,hs=>by
  simp only[relC]at h
  obtain⟨v,vs1,rfl,h1,h2⟩:=h
  simp only[subV]at hs
  obtain⟨ls,h3,h4⟩:=zzf h2 hs
  exact⟨ls,h3,λK k=>by simp only[subR]; exact h4 K k⟩
 |[],vs,o,n,l,h,hs=>by
  simp only[relC]at h; subst h
  cases o<;>cases n<;>simp[subV]at hs
  subst hs
  exact⟨[],rfl,λK k=>k⟩
 |q::qs,vs,0,0,l,h,hs=>by
  simp only[relC]at h
  obtain⟨v,vs1,rfl,h1,h2⟩:=h
  simp only[subV,Option.some.injEq]at hs; subst hs
  exact⟨[],rfl,λK k=>k⟩
 |q::qs,vs,0,n+1,l,h,hs=>by
  simp only[relC]at h
  obtain⟨v,vs1,rfl,h1,h2⟩:=h
  simp only[subV]at hs
  split at hs
  ·rename_i l' hl
   simp only[Option.some.injEq]at hs; subst hs
   obtain⟨ls,h3,h4⟩:=zzf h2 hl
   exact⟨q::ls,⟨_,_,rfl,h1,h3⟩,λK k=>by simp only[subR]; exact h4 _ k⟩
  ·cases hs
theorem enc_one(t:DT)(x:t.den):(t.enc x).all oneR=true:=by
 induction t with
 |pair a b iha ihb=>simp only[DT.enc,List.all_append,iha,ihb,Bool.and_self]
 |_=>rfl
theorem cells_len(t:DT)(x:t.den):(t.cells x []).length=t.size:=by
 induction t with
 |pair a b iha ihb=>simp only[DT.cells]; rw[ydm]; simp[DT.size,iha,ihb]
 |_=>rfl
theorem castL_enc{a b:DT}(h:a=b)(l:List a.den):(DT.castL h l).map (λx=>b.enc x)=l.map λx=>a.enc x:=by subst h; rfl
theorem yji{t:DT}:∀{cs:List DV} {x:t.den} {rest:List DV},t.of cs=some (x,rest)→∃hd,cs=hd++rest∧argsOk (pL hd) (t.enc x)∧rOkL (t.enc x) (pL hd)∧hd.length=t.size∧oneDL hd=true∧
  (∀(kr:List Nat) (rs:List R) (K:List R→Prop),(∀K',K' rs→toRK kr (pL rest) K')→K (t.enc x++rs)→toRK (t.ks kr) (pL cs) K):=by
 induction t with
 |int k=>
  intro cs x rest h
  unfold DT.of at h
  split at h
  ·rename_i k' n r'
   split at h
   ·rename_i hk
    have:=eqk_eq hk; subst this
    simp only[Option.some.injEq,Prod.mk.injEq]at h
    obtain⟨rfl,rfl⟩:=h
    exact⟨[_],rfl,⟨rfl,trivial⟩,⟨rfl,trivial⟩,rfl,rfl,λkr rs K m k=>m _ k⟩
   ·cases h
  ·cases h
 |bool=>
  intro cs x rest h
  unfold DT.of at h
  split at h
  ·simp only[Option.some.injEq,Prod.mk.injEq]at h
   obtain⟨rfl,rfl⟩:=h
   exact⟨[_],rfl,⟨rfl,trivial⟩,⟨rfl,trivial⟩,rfl,rfl,λkr rs K m k=>m _ k⟩
  ·simp only[Option.some.injEq,Prod.mk.injEq]at h
   obtain⟨rfl,rfl⟩:=h
   exact⟨[_],rfl,⟨rfl,trivial⟩,⟨rfl,trivial⟩,rfl,rfl,λkr rs K m k=>m _ k⟩
  ·cases h
 |str=>
  intro cs x rest h
  unfold DT.of at h
  split at h
  ·simp only[Option.some.injEq,Prod.mk.injEq]at h
   obtain⟨rfl,rfl⟩:=h
   exact⟨[_],rfl,⟨rfl,trivial⟩,⟨rfl,trivial⟩,rfl,rfl,λkr rs K m k=>m _ k⟩
  ·cases h
 |slc t ih=>
  intro cs x rest h
  unfold DT.of at h
  split at h
  ·rename_i t' l r'
   split at h
   ·rename_i he _
    subst he
    simp only[Option.some.injEq,Prod.mk.injEq]at h
    obtain⟨rfl,rfl⟩:=h
    exact⟨[_],rfl,⟨⟨rfl,rfl⟩,trivial⟩,⟨⟨rfl,rfl⟩,trivial⟩,rfl,rfl,λkr rs K m k=>m _ k⟩
   ·cases h
  ·simp only[Option.some.injEq,Prod.mk.injEq]at h
   obtain⟨rfl,rfl⟩:=h
   exact⟨[_],rfl,⟨⟨trivial,rfl⟩,trivial⟩,⟨⟨trivial,rfl⟩,trivial⟩,rfl,rfl,λkr rs K m k=>m _ k⟩
  ·cases h
 |unit=>
  intro cs x rest h
  simp only[DT.of,Option.some.injEq,Prod.mk.injEq]at h
  obtain⟨_,rfl⟩:=h
  exact⟨[],rfl,trivial,trivial,rfl,rfl,λkr rs K m k=>m K k⟩
 |pair a b iha ihb=>
  intro cs x rest h
  simp only[DT.of]at h
  split at h
  ·rename_i x1 r1 h1
   split at h
   ·rename_i x2 r2 h2
    simp only[Option.some.injEq,Prod.mk.injEq]at h
    obtain⟨rfl,rfl⟩:=h
    obtain⟨hd1,rfl,a1,a2,a3,a4,a5⟩:=iha h1
    obtain⟨hd2,rfl,b1,b2,b3,b4,b5⟩:=ihb h2
    have A:∀{ps qs:List PV} {rs ss:List R},argsOk ps rs→argsOk qs ss→argsOk (ps++qs) (rs++ss):=by
     intro ps
     induction ps with
     |nil=>intro qs rs ss h h'; cases rs with|nil=>exact h'|cons _ _=>exact h.elim
     |cons p ps ih=>intro qs rs ss h h'; cases rs with|nil=>exact h.elim|cons r rs=>exact⟨h.1,ih h.2 h'⟩
    have B:∀{rs ss:List R} {ps qs:List PV},rOkL rs ps→rOkL ss qs→rOkL (rs++ss) (ps++qs):=by
     intro rs
     induction rs with
     |nil=>intro ss ps qs h h'; cases ps with|nil=>exact h'|cons _ _=>exact h.elim
     |cons r rs ih=>intro ss ps qs h h'; cases ps with|nil=>exact h.elim|cons p ps=>exact⟨h.1,ih h.2 h'⟩
    have D:∀{xs ys:List DV},oneDL xs=true→oneDL ys=true→oneDL (xs++ys)=true:=by
     intro xs
     induction xs with
     |nil=>intro ys _ h; exact h
     |cons x xs ih=>
      intro ys h h'
      simp only[List.cons_append,oneDL]at h ⊢
      split at h
      ·exact ih h h'
      ·cases h
    refine⟨hd1++hd2,by simp,by rw[pL_app]; exact A a1 b1,by rw[pL_app]; exact B a2 b2,by simp[DT.size,a3,b3],D a4 b4,λkr rs K m k=>?_⟩
    simp only[DT.ks]
    simp only[DT.enc,List.append_assoc]at k
    exact a5 _ _ K (λK' k'=>b5 kr rs K' m k') k
   ·cases h
  ·cases h
theorem zuj{t:DT}{v:DV}{x:t.den}(h:t.ofV v=some x):argOk v.p (t.encA x)∧rOk (t.encA x) v.p∧(∀K:List PV→Prop,(∀cs,cs.length=t.size→(∀(K:List R→Prop),K (t.enc x)→toRK (t.ks []) cs K)→K cs)→cellsP v.p K):=by
 unfold DT.ofV at h
 have key:∀{cs:List DV} {y:t.den},t.of cs=some (y,[])→argsOk (pL cs) (t.enc y)∧rOkL (t.enc y) (pL cs)∧cs.length=t.size∧oneDL cs=true∧∀(K:List R→Prop),K (t.enc y)→toRK (t.ks []) (pL cs) K:=by
  intro cs y h
  obtain⟨hd,rfl,h1,h2,h3,h3',h4⟩:=yji h
  simp only[List.append_nil]at*
  exact⟨h1,h2,h3,h3',λK k=>h4 [] [] K (λK' k'=>k') (by simpa using k)⟩
 split at h
 ·rename_i ha
  split at h
  ·rename_i cs
   split at h
   ·rename_i y rest hy
    split at h
    ·simp only[Option.some.injEq]at h; subst h
     obtain⟨h1,h2,h3,h3',h4⟩:=key hy
     have e:t.encA y=.agg (t.enc y):=by cases t<;>first|rfl|cases ha
     rw[e]
     exact⟨h1,h2,λK m=>m _ (by rw[pL_len]; exact h3) h4⟩
    ·cases h
   ·cases h
  ·cases h
 ·rename_i ha
  split at h
  ·rename_i y rest hy
   split at h
   ·simp only[Option.some.injEq]at h; subst h
    obtain⟨h1,h2,h3,h3',h4⟩:=key hy
    have e:t.enc y=[t.encA y]:=by cases t<;>first|rfl|cases ha
    rw[e]at h1 h2
    refine⟨h1.1,h2.1,λK m=>zvf (cs:=[v]) ?_ (m _ (by rw[pL_len]; exact h3) h4)⟩
    simp only[oneDL]at h3'
    split at h3'
    ·rename_i ho; unfold cellsV; cases v<;>first|(cases ho; done)|simp[ho]
    ·cases h3'
   ·cases h
  ·cases h
theorem nzF_p{b:Int}{K:Option β}(h:nzF b K=some r):b≠0∧K=some r:=by
 unfold nzF at h
 by_cases hb:b=0
 ·simp[hb]at h
 ·simp[hb]at h; exact⟨hb,h⟩
theorem intBinD_p{op:BinOp}{k:IntKind}{a b:Int}{ret:XV→Option β}(h:ypv stdW op k a b ret=some r):∃y,ret y=some r∧∀R:XV→Prop,R y→intBin op k a b R:=by
 unfold ypv at h
 split at h
 case h_4=>replace h:=nzF_p h; obtain⟨h1,h2⟩:=h; exact⟨_,h2,λR k=>⟨h1,k⟩⟩
 case h_5=>replace h:=nzF_p h; obtain⟨h1,h2⟩:=h; exact⟨_,h2,λR k=>⟨h1,k⟩⟩
 all_goals first|(cases h; done)|exact⟨_,h,λR k=>k⟩
theorem leafV_p{l:LK}{x y:XV}{b:Bool}(h:leafV l x y=some b){K:Bool→Prop}(k:K b):leafK l x y K:=by
 unfold leafV at h
 split at h
 ·rename_i k1 a k2 b'
  split at h
  ·rename_i hk; simp only[Option.some.injEq]at h; subst h; simp only[leafK,hk]; exact k
  ·cases h
 all_goals first|(cases h; done)|(simp only[Option.some.injEq]at h; subst h; exact k)
theorem cmpXV_p:∀{ls:List LK} {xs ys:List XV} {b:Bool},cmpXV ls xs ys=some b→∀{K:Bool→Prop},K b→cmpXK ls xs ys K
 |[],xs,ys,b,h,K,k=>by simp[cmpXV]at h
 |l::ls,xs,ys,b,h,K,k=>by
  unfold cmpXV at h
  split at h
  ·rename_i h1
   injection h1 with h1 h2
   subst h1; subst h2
   simp only[cmpXK]; exact leafV_p h k
  ·rename_i l' ls' x xs' y ys' hne h1
   injection h1 with h1 h2
   subst h1; subst h2
   split at h
   ·rename_i b1 hb1
    split at h
    ·rename_i b2 hb2
     simp only[Option.some.injEq]at h; subst h
     unfold cmpXK
     split
     ·rename_i he1 he2 he3
      injection he1 with _ he1; injection he2 with _ he2; injection he3 with _ he3
      subst he1; subst he2; subst he3
      exact(hne rfl rfl rfl).elim
     ·rename_i he1 he2 he3
      injection he1 with e1 e2; injection he2 with e3 e4; injection he3 with e5 e6
      subst e1; subst e2; subst e3; subst e4; subst e5; subst e6
      exact leafV_p hb1 (cmpXV_p hb2 k)
     ·rename_i hh; exact(hh _ _ _ _ _ _ rfl rfl rfl).elim
    ·cases h
   ·cases h
  ·cases h
theorem eqXV_p{T:List TI}{neg:Bool}{t:TypeId}{a b c:XV}(h:eqXV T neg t a b=some c){R:XV→Prop}(k:R c):eqX T neg t a b R:=by
 unfold eqXV at h
 split at h
 case h_1=>simp only[Option.some.injEq]at h; subst h; exact k
 case h_2=>
  split at h
  ·rename_i ti hti
   split at h
   ·rename_i ls fs h1 h2
    split at h
    ·rename_i b' hb
     simp only[Option.some.injEq]at h; subst h
     simp only[eqX]
     refine tiV_p hti ?_
     rw[h1,h2]
     exact cmpXV_p hb k
    ·cases h
   ·cases h
  ·cases h
 case h_9=>cases h
 all_goals
  split at h
  ·rename_i ht
   simp only[Option.some.injEq]at h; subst h
   simp only[eqX]
   refine tdV_p ht λti hti=>?_
   rw[hti]; exact k
  ·cases h
theorem binXE_p{T:List TI}{op:BinOp}{t:TypeId}{a b:XV}{ret:XV→Option β}(h:binXE stdW T op t a b ret=some r):∃y,ret y=some r∧∀R:XV→Prop,R y→binX T op t a b R:=by
 unfold binXE at h
 split at h
 ·replace h:=zdv h; obtain⟨h1,h2⟩:=h; exact⟨_,h2,λR k=>⟨of_decide_eq_true h1,k⟩⟩
 ·replace h:=zdv h; obtain⟨h1,h2⟩:=h; exact⟨_,h2,λR k=>⟨of_decide_eq_true h1,k⟩⟩
 ·rename_i k x k' y hn1 hn2
  split at h
  ·rename_i hk
   replace h:=intBinD_p h; obtain⟨z,h1,h2⟩:=h
   refine⟨z,h1,λR hR=>?_⟩
   have h3:=h2 R hR
   cases op<;>first|(exact(hn1 rfl).elim)|(exact(hn2 rfl).elim)|(simp only[binX,hk]; exact h3)
  ·cases h
 ·replace h:=zdv h; obtain⟨h1,h2⟩:=h; exact⟨_,h2,λR k=>⟨of_decide_eq_true h1,k⟩⟩
 ·rename_i hn1
  split at h
  ·rename_i y hy
   refine⟨y,h,λR k=>?_⟩
   have:=eqXV_p hy k
   cases a<;>cases b<;>first|exact this|(simp[eqXV]at hy; done)
  ·cases h
 ·rename_i hn1
  split at h
  ·rename_i y hy
   refine⟨y,h,λR k=>?_⟩
   have:=eqXV_p hy k
   cases a<;>cases b<;>first|exact this|(simp[eqXV]at hy; done)
  ·cases h
 ·cases h
theorem binE_p{T:List TI}{op:BinOp}{t:TypeId}{a b:DV}{ret:DV→Option β}(h:binE stdW T op t a b ret=some r):∃v,ret v=some r∧∀R:RP,R v.p→binP T op t a.p b.p R:=by
 unfold binE at h
 split at h
 ·replace h:=binXE_p h; obtain⟨y,h1,h2⟩:=h; exact⟨_,h1,λR k=>by simp only[DV.p,binP]; exact h2 _ k⟩
 ·split at h
  ·rename_i h1 h2
   replace h:=binXE_p h; obtain⟨y,h3,h4⟩:=h
   exact⟨_,h3,λR k=>by simp only[DV.p,binP]; exact yqf h1 (yqf h2 (h4 _ k))⟩
  ·cases h
 ·split at h
  ·rename_i h1; exact⟨_,h,λR k=>by simp only[DV.p,binP]; exact tdV_p h1 λti hti=>by rw[hti]; exact k⟩
  ·rename_i h1; exact⟨_,h,λR k=>by simp only[DV.p,binP]; exact tdV_p h1 λti hti=>by rw[hti]; exact k⟩
  ·cases h
 ·cases h
theorem yan{T:List TI}{ats:Array TypeId}{d:TD}(h:argTyV T ats=some d){K:TI→Prop}(k:∀ti,ti.td=d→K ti):argTy T ats K:=by
 unfold argTyV at h
 unfold argTy
 split at h
 ·rename_i he; rw[he]; exact tdV_p h k
 ·cases h
theorem ygk{T:List TI}{b:Builtin}{ats:Array TypeId}{xs:List DV}{rw:List DR}{ret:DV→Option β}(h:yaj T b ats xs rw ret=some r):∃v,ret v=some r∧∀R:RP,R v.p→zej T b ats (pL xs) (rP rw) R:=by
 unfold yaj at h
 split at h
 ·split at h
  ·rename_i e ht
   split at h
   ·rename_i n hn
    refine⟨_,h,λR k=>?_⟩
    unfold lenV at hn
    split at hn
    ·simp only[Option.some.injEq]at hn; subst hn
     simp only[pL,DV.p,zej]
     exact yan ht λti hti=>by rw[hti,List.length_map]; exact k
    ·rename_i j
     split at hn
     ·rename_i hd
      simp only[Option.some.injEq]at hn; subst hn
      simp only[pL,DV.p,zej]
      exact drV_p hd (yan ht λti hti=>by rw[hti,List.length_map]; exact k)
     ·cases hn
    ·simp only[Option.some.injEq]at hn; subst hn
     simp only[pL,DV.p,zej]
     exact yan ht λti hti=>by rw[hti]; exact k
    ·cases hn
   ·cases h
  ·rename_i ht
   split at h
   ·exact⟨_,h,λR k=>by simp only[pL,DV.p,zej]; exact yan ht λti hti=>by rw[hti]; exact k⟩
   ·cases h
  ·cases h
 ·split at h
  ·exact⟨_,h,λR k=>by simpa only[pL,DV.p,zej]using k⟩
  ·cases h
 ·split at h
  ·exact⟨_,h,λR k=>by simpa only[pL,DV.p,zej]using k⟩
  ·cases h
 ·cases h
theorem pickV_p{g:Bool}{a b c:XV}(h:pickV g a b=some c){R:XV→Prop}(k:R c):pickK g a b R:=by
 unfold pickV at h
 split at h
 all_goals first|(cases h; done)|(simp only[Option.some.injEq]at h; subst h; exact k)|(simp only[Option.some.injEq]at h; subst h; unfold pickK; split<;>first|exact k|(simp_all; done))
theorem o1_p{o:Option DV}{K:DV→Option β}(h:o1 o K=some r):∃v,o=some v∧K v=some r:=by
 unfold o1 at h; cases o with
 |none=>cases h
 |some v=>exact⟨v,rfl,h⟩
theorem purE_p{T:List TI}{op:Op}{ts:List DV}{rw:List DR}{ret:DV→Option β}(h:purE stdW T op ts rw ret=some r):∃v,ret v=some r∧∀R:RP,R v.p→purP T op (pL ts) (rP rw) R:=by
 unfold purE at h
 split at h
 ·replace h:=o1_p h; obtain⟨v,h1,h2⟩:=h; exact⟨v,h2,λR k=>opV_p h1 k⟩
 ·replace h:=o1_p h; obtain⟨v,h1,h2⟩:=h; exact⟨v,h2,λR k=>opV_p h1 k⟩
 ·-- pick
  replace h:=o1_p h; obtain⟨c,h1,h⟩:=h
  split at h
  ·replace h:=o1_p h; obtain⟨v,h2,h⟩:=h; exact⟨v,h,λR k=>opV_p h1 (opV_p h2 k)⟩
  ·replace h:=o1_p h; obtain⟨v,h2,h⟩:=h; exact⟨v,h,λR k=>opV_p h1 (opV_p h2 k)⟩
  ·replace h:=o1_p h; obtain⟨a,h2,h⟩:=h
   replace h:=o1_p h; obtain⟨b,h3,h⟩:=h
   split at h
   ·split at h
    ·rename_i hp
     exact⟨_,h,λR k=>opV_p h1 (opV_p h2 (opV_p h3 (pickV_p (R:=λr=>R (.x r)) hp k)))⟩
    ·cases h
   ·cases h
  ·cases h
 ·-- nilCheck
  replace h:=o1_p h; obtain⟨p,h1,h⟩:=h
  split at h
  all_goals first|(cases h; done)|exact⟨_,h,λR k=>opV_p h1 k⟩
 ·replace h:=o1_p h; obtain⟨a,h1,h⟩:=h
  replace h:=o1_p h; obtain⟨b,h2,h⟩:=h
  replace h:=binE_p h; obtain⟨v,h3,h4⟩:=h
  exact⟨v,h3,λR k=>opV_p h1 (opV_p h2 (h4 R k))⟩
 ·-- unOp
  replace h:=o1_p h; obtain⟨a,h1,h⟩:=h
  split at h
  ·split at h
   ·rename_i hu
    refine⟨_,h,λR k=>opV_p h1 ?_⟩
    unfold unV at hu
    split at hu
    all_goals first|(cases hu; done)|(simp only[Option.some.injEq]at hu; subst hu; exact k)
   ·cases h
  ·cases h
 ·-- convert
  replace h:=o1_p h; obtain⟨a,h1,h⟩:=h
  split at h
  ·rename_i h2 h3
   exact⟨_,h,λR k=>opV_p h1 (tiV_p h2 (tdV_p h3 λti hti=>by rw[hti]; exact k))⟩
  ·rename_i h2 h3
   exact⟨_,h,λR k=>opV_p h1 (tiV_p h2 (tdV_p h3 λti hti=>by rw[hti]; exact k))⟩
  ·cases h
 ·-- fieldAddr
  replace h:=o1_p h; obtain⟨a,h1,h⟩:=h
  split at h
  ·rename_i h2
   split at h
   ·rename_i h3
    split at h
    all_goals first|(cases h; done)|exact⟨_,h,λR k=>opV_p h1 (tdV_p h2 λti hti=>by rw[hti]; exact fldV_p h3 k)⟩
   ·cases h
  ·cases h
 ·-- field
  replace h:=o1_p h; obtain⟨a,h1,h⟩:=h
  split at h
  ·rename_i h2
   split at h
   ·rename_i h3
    split at h
    ·rename_i tf h4
     split at h
     ·rename_i ha
      split at h
      ·rename_i hs
       refine⟨_,h,λR k=>opV_p h1 (tdV_p h2 λti hti=>?_)⟩
       rw[hti]
       refine fldV_p h3 (tiV_p h4 ?_)
       rw[ha]; exact subV_p hs k
      ·cases h
     ·rename_i ha
      split at h
      ·rename_i hs
       refine⟨_,h,λR k=>opV_p h1 (tdV_p h2 λti hti=>?_)⟩
       rw[hti]
       refine fldV_p h3 (tiV_p h4 ?_)
       rw[ha]; exact subV_p hs k
      ·cases h
    ·cases h
   ·cases h
  ·cases h
 ·-- indexAddr
  replace h:=o1_p h; obtain⟨a,h1,h⟩:=h
  replace h:=o1_p h; obtain⟨i,h2,h⟩:=h
  split at h
  ·rename_i e t' l k i h3
   split at h
   ·rename_i te h4
    split at h
    ·rename_i h5 h6
     replace h:=idxF_p h; obtain⟨x,h7,h8,h9,h⟩:=h
     refine⟨_,h,λR hR=>opV_p h1 (opV_p h2 (tdV_p h3 λti hti=>?_))⟩
     rw[hti]
     have h5:=Nat.eq_of_beq_eq_true h5
     have h6:1≤t'.size:=by simpa[Nat.blt]using h6
     obtain⟨n,hn⟩:∃n,t'.size=n+1:=⟨t'.size - 1,by omega⟩
     simp only[DV.p,hn]
     exact tiV_p h4 ⟨by rw[h5,hn]; exact Nat.beq_refl _,h7,by simpa using h8,t'.enc x,by simp[h9],hR⟩
    ·cases h
   ·cases h
  ·rename_i e j k i h3
   split at h
   ·rename_i te e' t' l h4 h5
    split at h
    ·rename_i h6 h6'
     replace h:=idxF_p h; obtain⟨x,h7,h8,h9,h⟩:=h
     refine⟨_,h,λR hR=>opV_p h1 (opV_p h2 (tdV_p h3 λti hti=>?_))⟩
     rw[hti]
     exact tiV_p h4 (drV_p h5 ⟨h6,(show 1≤t'.size by simpa[Nat.blt]using h6'),h7,by simpa using h8,hR⟩)
    ·cases h
   ·cases h
  ·cases h
 ·-- extract
  replace h:=o1_p h; obtain⟨a,h1,h⟩:=h
  split at h
  ·split at h
   ·rename_i hs; exact⟨_,h,λR k=>opV_p h1 (subV_p hs k)⟩
   ·cases h
  ·cases h
 ·-- slice
  replace h:=o1_p h; obtain⟨a,h1,h⟩:=h
  split at h
  ·rename_i lo hi h2 h3
   split at h
   ·rename_i e t' l h4
    split at h
    ·rename_i te h5
     split at h
     ·rename_i h6
      split at h
      ·replace h:=bndD_p h; obtain⟨n,h,h7⟩:=h
       refine⟨_,h,λR k=>opV_p h1 (opOV_p h2 (opOV_p h3 (tdV_p h4 λti hti=>?_)))⟩
       rw[hti]
       refine tiV_p h5 ⟨h6,?_⟩
       simp only[Option.map_none,List.length_map]
       refine h7 _ ?_
       rw[←List.map_take]; exact k
      ·replace h:=bndD_p h; obtain⟨n,h,h7⟩:=h
       replace h:=bndD_p h; obtain⟨m,h,h8⟩:=h
       refine⟨_,h,λR k=>opV_p h1 (opOV_p h2 (opOV_p h3 (tdV_p h4 λti hti=>?_)))⟩
       rw[hti]
       refine tiV_p h5 ⟨h6,?_⟩
       simp only[Option.map_some,List.length_map]
       refine h7 _ (h8 _ ?_)
       rw[←List.map_take,←List.map_drop]; exact k
     ·cases h
    ·cases h
   ·rename_i s h4
    replace h:=bndD_p h; obtain⟨n,h,h7⟩:=h
    replace h:=bndD_p h; obtain⟨m,h,h8⟩:=h
    refine⟨_,h,λR k=>opV_p h1 (opOV_p h2 (opOV_p h3 (tdV_p h4 λti hti=>?_)))⟩
    rw[hti]
    exact h7 _ (h8 _ k)
   ·cases h
  ·cases h
 ·-- build
  split at h
  ·rename_i ps h1
   split at h
   ·rename_i ti h2
    split at h
    ·rename_i fs z zs h3 h4
     split at h
     ·rename_i h5
      replace h:=fillE_p h; obtain⟨out,h,h6⟩:=h
      refine⟨_,h,λR k=>?_⟩
      refine yjf h1 (tiV_p h2 ?_)
      rw[h3,h4]
      refine posV_p h5 ?_
      have:=h6 (λcells=>R (.agg cells)) k
      rwa [yag]at this
     ·cases h
    ·cases h
   ·cases h
  ·cases h
 ·-- makeFunc
  split at h
  ·rename_i f h1
   split at h
   ·rename_i cs h2
    refine⟨_,h,λR k=>?_⟩
    simp only[purP]
    rw[h1]
    exact opsV_p h2 k
   ·cases h
  ·cases h
 ·-- call
  rename_i c
  split at h
  ·rename_i b hb
   split at h
   ·rename_i xs hx
    replace h:=ygk h; obtain⟨v,h,h1⟩:=h
    refine⟨v,h,λR k=>?_⟩
    simp only[purP]
    rw[hb]
    exact opsV_p hx (h1 R k)
   ·cases h
  ·cases h
 ·cases h
theorem yju{T:List TI}{t:TypeId}{A:DV}{pb:DBs}{rw:List DR}{ret:DV→Option β}(h:loadE stdW T t A pb rw ret=some r):∃v,ret v=some r∧∀R:RP,R v.p→loadP T t A.p (bP pb) (rP rw) R:=by
 unfold loadE at h
 have one:∀{t':DT} {x:t'.den} {off:Nat} {v:DV},subV (t'.cells x []) off 1=some [v]→∀R:RP,R v.p→subR (t'.enc x) off 1 λl=>match l with|[r]=>r2pK r R|_=>False:=by
  intro t' x off v hs R k
  obtain⟨ls,h1,h2⟩:=zzf (zwb t' x) hs
  refine h2 _ ?_
  cases ls with
  |nil=>simp[relC]at h1
  |cons q ls=>
   obtain⟨v',vs',he,h3,h4⟩:=h1
   simp only[List.cons.injEq]at he
   obtain⟨rfl,rfl⟩:=he
   cases ls with
   |nil=>exact h3 R k
   |cons q' ls=>obtain⟨_,_,he,_⟩:=h4; cases he
 have many:∀{t':DT} {x:t'.den} {off n:Nat} {l:List DV},subV (t'.cells x []) off (n+1)=some l→∀R:RP,R (.agg (pL l))→subR (t'.enc x) off (n+1) λl=>r2pLK l λl=>R (.agg l):=by
  intro t' x off n l hs R k
  obtain⟨ls,h1,h2⟩:=zzf (zwb t' x) hs
  exact h2 _ (relC_K h1 k)
 split at h
 ·rename_i ti h1
  split at h
  ·split at h
   ·rename_i b hb
    split at h
    ·rename_i ha
     split at h
     ·rename_i hs
      refine⟨_,h,λR k=>tiV_p h1 (dbV_p hb ?_)⟩
      rw[ha]; exact subV_p hs k
     ·cases h
    ·rename_i ha
     split at h
     ·rename_i hs
      refine⟨_,h,λR k=>tiV_p h1 (dbV_p hb ?_)⟩
      rw[ha]; exact subV_p hs k
     ·cases h
   ·cases h
  ·split at h
   ·rename_i n ha hn
    split at h
    ·rename_i hs
     refine⟨_,h,λR k=>tiV_p h1 ?_⟩
     simp only[DV.p,ha,hn]; exact many hs R k
    ·cases h
   ·rename_i ha
    split at h
    ·rename_i hs
     refine⟨_,h,λR k=>tiV_p h1 ?_⟩
     simp only[DV.p,ha]; exact one hs R k
    ·cases h
   ·cases h
  ·split at h
   ·rename_i hd
    replace h:=idxR_p h; obtain⟨x,hx,h⟩:=h
    split at h
    ·rename_i n ha hn
     split at h
     ·rename_i hs
      refine⟨_,h,λR k=>tiV_p h1 (drV_p hd ⟨_,(by rw[List.getElem?_map,hx]; rfl),?_⟩)⟩
      simp only[ha,hn]; exact many hs R k
     ·cases h
    ·rename_i ha
     split at h
     ·rename_i hs
      refine⟨_,h,λR k=>tiV_p h1 (drV_p hd ⟨_,(by rw[List.getElem?_map,hx]; rfl),?_⟩)⟩
      simp only[ha]; exact one hs R k
     ·cases h
    ·cases h
   ·cases h
  ·cases h
 ·cases h
end Go.Vc

namespace Go.Vc
open Go Go.RowKit
def selR(k:Nat):PV→Option R
 | .x (.slc none 0 0)=>some (.sl k [])
 | .x (.int k n)=>some (.val (.int k n))
 | .x (.bool b)=>some (.val (.bool b))
 | .x (.lit b)=>some (.val (.bool b))
 | .x (.str s)=>some (.val (.string s))
 | .sl k els=>some (.sl k els)
 |_=>none
def selL:List Nat→List PV→Option (List R)
 |_,[]=>some []
 |ks,p::ps=>match selR ks.head! p with
  |some r=>match selL ks.tail ps with|some rs=>some (r::rs)|none=>none
  |none=>none
theorem yhf:∀(ps:List PV) (ks:List Nat) (K:List R→Prop),toRK ks ps K↔∃rs,selL ks ps=some rs∧K rs
 |[],ks,K=>by
  have:toRK ks [] K↔K []:=by cases ks<;>exact Iff.rfl
  rw[this]
  exact⟨λh=>⟨[],rfl,h⟩,λ⟨rs,h,k⟩=>by simp only[selL,Option.some.injEq]at h; subst h; exact k⟩
 |p::ps,ks,K=>by
  have step:∀r,selR ks.head! p=some r→((∃rs,selL ks (p::ps)=some rs∧K rs)↔toRK ks.tail ps λl=>K (r::l)):=by
   intro r hr
   rw[yhf ps]
   simp only[selL,hr]
   constructor
   ·rintro⟨rs,h,k⟩
    cases hs:selL ks.tail ps with
    |none=>rw[hs]at h; cases h
    |some l=>rw[hs]at h; simp only[Option.some.injEq]at h; subst h; exact⟨l,rfl,k⟩
   ·rintro⟨l,h,k⟩
    rw[h]; exact⟨_,rfl,k⟩
  have stop:selR ks.head! p=none→((∃rs,selL ks (p::ps)=some rs∧K rs)↔False):=by
   intro hr
   simp only[selL,hr]
   exact⟨(λ⟨_,h,_⟩=>by cases h),λh=>h.elim⟩
  unfold toRK
  split
  ·exact(step _ rfl).symm
  ·split
   ·exact(step _ rfl).symm
   ·exact(step _ rfl).symm
   ·exact(step _ rfl).symm
   ·exact(step _ rfl).symm
   ·rename_i y hne y2 h1 h2 h3 h4
    refine(stop ?_).symm
    unfold selR
    split
    ·rename_i e; cases e; exact(hne rfl).elim
    ·rename_i e; cases e; exact(h1 _ _ rfl).elim
    ·rename_i e; cases e; exact(h2 _ rfl).elim
    ·rename_i e; cases e; exact(h3 _ rfl).elim
    ·rename_i e; cases e; exact(h4 _ rfl).elim
    ·rename_i e; cases e
    ·rfl
  ·exact(step _ rfl).symm
  ·rename_i h1 h2 h3
   refine(stop ?_).symm
   unfold selR
   split
   ·exact(h1 rfl).elim
   ·exact(h2 _ rfl).elim
   ·exact(h2 _ rfl).elim
   ·exact(h2 _ rfl).elim
   ·exact(h2 _ rfl).elim
   ·exact(h3 _ _ rfl).elim
   ·rfl
theorem zzd:∀{ps:List PV} {ks:List Nat} {rs:List R},selL ks ps=some rs→rs.length=ps.length
 |[],ks,rs,h=>by simp only[selL,Option.some.injEq]at h; subst h; rfl
 |p::ps,ks,rs,h=>by
  simp only[selL]at h
  split at h
  ·split at h
   ·rename_i l hl
    simp only[Option.some.injEq]at h; subst h
    simp[zzd hl]
   ·cases h
  ·cases h
theorem ztd:∀{a b:List PV} {ks:List Nat} {rs:List R},selL ks (a++b)=some rs→∃ra rb,selL ks a=some ra∧selL (ks.drop a.length) b=some rb∧rs=ra++rb
 |[],b,ks,rs,h=>⟨[],rs,rfl,h,rfl⟩
 |p::a,b,ks,rs,h=>by
  simp only[List.cons_append,selL]at h
  split at h
  ·rename_i r hr
   split at h
   ·rename_i l hl
    simp only[Option.some.injEq]at h; subst h
    obtain⟨ra,rb,h1,h2,rfl⟩:=ztd hl
    refine⟨r::ra,rb,by simp only[selL,hr,h1],?_,rfl⟩
    rw[List.length_cons,←List.drop_tail]; exact h2
   ·cases h
  ·cases h
theorem sel_cells{t:DT}:∀(y:t.den) (r:List DV) (kr:List Nat) (rs:List R),selL kr (pL r)=some rs→selL (t.ks kr) (pL (t.cells y r))=some (t.enc y++rs):=by
 induction t with
 |pair a b iha ihb=>
  intro y r kr rs h
  simp only[DT.ks,DT.cells,DT.enc,List.append_assoc]
  exact iha y.1 _ _ _ (ihb y.2 r kr rs h)
 |unit=>intro y r kr rs h; exact h
 |int k=>intro y r kr rs h; simp only[DT.ks,DT.cells,DT.enc,pL,DV.p,selL,List.tail_cons,h]; rfl
 |bool=>intro y r kr rs h; simp only[DT.ks,DT.cells,DT.enc,pL,DV.p,selL,List.tail_cons,h]; rfl
 |str=>intro y r kr rs h; simp only[DT.ks,DT.cells,DT.enc,pL,DV.p,selL,List.tail_cons,h]; rfl
 |slc t ih=>intro y r kr rs h; simp only[DT.ks,DT.cells,DT.enc,pL,DV.p,selL,List.tail_cons,h]; rfl
theorem yqt{α:Type}:∀(vs xs:List α) (off:Nat),off+vs.length≤xs.length→wr xs off vs=xs.take off++(vs++xs.drop (off+vs.length))
 |[],xs,off,h=>by simp[wr]
 |v::vs,xs,off,h=>by
  simp only[List.length_cons]at h
  simp only[wr]
  rw[yqt vs _ (off+1) (by rw[List.length_set]; omega)]
  have e1:(xs.set off v).take (off+1)=xs.take off++[v]:=by
   rw[List.set_eq_take_append_cons_drop,if_pos (by omega),List.take_append,List.take_of_length_le (by rw[List.length_take]; omega),List.length_take,Nat.min_eq_left (by omega),show off+1 - off=1 by omega]
   rfl
  have e2:(xs.set off v).drop (off+1+vs.length)=xs.drop (off+(v::vs).length):=by
   rw[List.drop_set_of_lt (by omega),List.length_cons]
   congr 1; omega
  rw[e1,e2,List.append_assoc]; rfl
theorem pL_ln(xs:List DV):(pL xs).length=xs.length:=by
 induction xs with
 |nil=>rfl
 |cons x xs ih=>simp[pL,ih]
theorem of_part{t:DT}{y y':t.den}{cs:List DV}{off:Nat}(h:t.of (wr (t.cells y []) off cs)=some (y',[]))(hk:off+cs.length≤t.size):
  ∃rs,(∀K:List R→Prop,K rs→toRK ((t.ks []).drop off) (pL cs) K)∧rs.length=cs.length∧t.enc y'=(t.enc y).take off++rs++(t.enc y).drop (off+rs.length):=by
 obtain⟨hd,e1,_,_,_,_,h6⟩:=yji h
 have h7:=h6 [] [] (λl=>l=t.enc y') (λK' k=>k) (by simp)
 obtain⟨rs,h8,rfl⟩:=(yhf _ _ _).1 h7
 have hcl:=cells_len t y
 rw[yqt _ _ _ (by omega),pL_app,pL_app]at h8
 obtain⟨ra,rx,a1,a2,a3⟩:=ztd h8
 obtain⟨rc,rb,b1,b2,b3⟩:=ztd a2
 have h9:=sel_cells (t:=t) y [] [] [] rfl
 rw[List.append_nil]at h9
 have e2:t.cells y []=(t.cells y []).take off++(((t.cells y []).drop off).take cs.length++(t.cells y []).drop (off+cs.length)):=by
  conv=>lhs; rw[←List.take_append_drop off (t.cells y [])]
  congr 1
  conv=>lhs; rw[←List.take_append_drop cs.length ((t.cells y []).drop off)]
  rw[List.drop_drop]
 rw[e2,pL_app,pL_app]at h9
 obtain⟨ra',rx',a1',a2',a3'⟩:=ztd h9
 obtain⟨rc',rb',b1',b2',b3'⟩:=ztd a2'
 rw[a1]at a1'
 obtain rfl:=Option.some.inj a1'
 have lra:=zzd a1
 have lrc:=zzd b1
 have lrc':=zzd b1'
 rw[pL_ln,List.length_take,Nat.min_eq_left (by omega)]at lra
 rw[pL_ln]at lrc lrc'
 rw[List.length_take,List.length_drop,Nat.min_eq_left (by omega)]at lrc'
 have eb:rb=rb':=by
  have hl:(pL (((t.cells y []).drop off).take cs.length)).length=(pL cs).length:=by rw[pL_ln,pL_ln,List.length_take,List.length_drop,Nat.min_eq_left (by omega)]
  rw[hl]at b2'
  rw[b2]at b2'
  exact Option.some.inj b2'
 refine⟨rc,λK k=>(yhf _ _ _).2 ⟨rc,?_,k⟩,lrc,?_⟩
 ·rw[pL_ln,List.length_take,Nat.min_eq_left (by omega)]at b1
  exact b1
 ·rw[a3,b3,a3',b3',←eb,←lra,List.take_left,List.append_assoc]
  congr 2
  rw[←lra]at*
  rw[List.drop_append,List.drop_eq_nil_of_le (by omega),List.nil_append,show ra.length+rc.length - ra.length=rc'.length by omega,List.drop_left]
end Go.Vc