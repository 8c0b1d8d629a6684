import Derived.Test.YthghpahghjppjaaGreatB1
import Derived.Lib.AppendStr
import Derived.Lib.AppendZerosOnto
import Derived.Laws.MakeOwn
import Derived.Laws.BytesString
import Derived.Great.BuildSlice
import Derived.Lib.SliceRun
import Derived.Lib.ConvBytes
namespace Go.Vc
open Go Go.RowKit
section
variable {β : Type} {q : β}
theorem xB{α}{o:Option α}{K:α->Option β}(h:o1 o K=some q):∃x,o=some x/\K x=some q:=by
 cases o with
 |none=>cases h
 |some x=>exact⟨x,rfl,h⟩
theorem yN{c}{K N}(h:(bif c then K else N)=some q):(c=true/\K=some q)\/(c=false/\N=some q):=by cases c<;>simp_all
theorem a02{b}{K}(h:aj.Ey b K=some q):b≠0/\K=some q:=by
 change nzF b K=_ at h;unfold nzF at h;rcases yN h with⟨_,h⟩|⟨h1,h⟩
 .cases h
 .exact⟨by simpa using h1,h⟩
theorem arS{b}{K}(h:aj.i7 b K=some q):0<=b/\K=some q:=by
 change nnF b K=_ at h;unfold nnF at h;rcases yN h with⟨h1,h⟩|⟨_,h⟩
 .exact⟨by simpa using h1,h⟩
 .cases h
theorem ay7{n}{K}(h:aj.afy n K=some q):n<=9223372036854775807/\K=some q:=by
 change avM n K=_ at h;unfold avM at h;rcases yN h with⟨h1,h⟩|⟨_,h⟩
 .exact⟨by simpa using h1,h⟩
 .cases h
theorem anW{i}{n}{K}(h:aj.kY i n K=some q):0<=i/\i<=(n:Int)/\K i.toNat=some q:=by
 change afx i n K=_ at h;unfold afx at h;rcases yN h with⟨h1,h⟩|⟨_,h⟩
 .simp at h1;exact⟨h1.1,h1.2,h⟩
 .cases h
theorem au3{α}{l}{i:Int}{K:α->Option β}(h:aj.aI l i K=some q):0<=i/\∃x,l[i.toNat]?=some x/\K x=some q:=by
 change acu l i K=_ at h;unfold acu at h;split at h
 .rename_i x hx;rcases yN h with⟨h1,h⟩|⟨_,h⟩
  .exact⟨by simpa using h1,x,hx,h⟩
  .cases h
 .cases h
theorem au4{α}{l}{i:Nat}{K:α->Option β}(h:aj.cr l i K=some q):∃x,l[i]?=some x/\K x=some q:=by
 change an3 l i K=_ at h;unfold an3 at h;split at h
 .rename_i x hx;exact⟨x,hx,h⟩
 .cases h
theorem TQ{n b}{K}(h:aj.bi n b K=some q):n<=281474976710656/\n*b<=140737488355328/\K=some q:=by
 change acv n b K=_ at h;unfold acv at h;rcases yN h with⟨h1,h⟩|⟨_,h⟩
 .simp at h1;exact⟨h1.1,h1.2,h⟩
 .cases h
theorem anX{c}{a b}(h:aj.af c a b=some q):(c=true/\a=some q)\/(c=false/\b=some q):=yN h
theorem af6{α}{a:Option α}{K:α->Option β}(h:aj.ae a K=some q):∃x,a=some x/\K x=some q:=Option.bind_eq_some_iff.1 h
theorem KK[rB β]{a b}(h:aj.gJ a b=some q):a=some q/\b=some q:=by
 change Gh a b=_ at h;unfold Gh at h;split at h
 .rcases yN h with⟨h1,h2⟩|⟨_,h2⟩
  .rw[(rB.iff _ _).1 h1]at h2 ⊢;exact⟨h2,h2⟩
  .cases h2
 .cases h
end
section
variable {P : Program} {T : List TI} {E : Env} {ts : List DV} {a : Act} {β : Type} {q : β}
theorem MN:∀{ts:List DV} {vs:List Value} {t:Nat} {p:DV},gtV ts t=some p->hL E ts vs->p.h E ((vs[t]?).getD undef)
 |[],vs,t,p,h,hv=>by simp only[hL]at hv;subst hv;simp[gtV]at h;subst h;simp[DV.h]
 |x::ts,vs,0,p,h,hv=>by
  simp only[hL]at hv;obtain⟨v,Cz,rfl,h1,_⟩:=hv;simp only[gtV]at h;split at h
  .cases h
  .simp only[ak]at h;subst h;simpa using h1
 |x::ts,vs,t+1,p,h,hv=>by simp only[hL]at hv;obtain⟨v,Cz,rfl,_,h2⟩:=hv;simp only[gtV]at h;simpa using MN h h2
theorem Xv(c):(RR c).h E c:=by unfold RR;split<;>simp only[DV.h]
theorem gD{o}{p}(h:wO ts o=some p)(hv:hL E ts a.tmps.toList):p.h E (a.eval o):=by
 cases o with
 |tmp t=>have:=MN h hv;simpa[Act.eval]using this
 |const c=>simp only[wO,ak]at h;subst h;exact Xv c
 |global g=>simp only[wO,ak]at h;subst h;simp only[DV.h];rfl
 |func f=>
  simp only[wO]at h;split at h
  .cases h
  .rename_i hb;simp only[ak]at h;subst h;simp only[DV.h];exact⟨#[],by unfold fnV;rw[hb];rfl,by simp[hL]⟩
theorem OS:∀{os:List Operand} {ps:List DV},opsV ts os=some ps->hL E ts a.tmps.toList->hL E ps (os.map a.eval)
 |[],ps,h,_=>by simp[opsV]at h;subst h;simp[hL]
 |o::os,ps,h,hv=>by
  simp only[opsV]at h;split at h
  .rename_i x hx;split at h
   .rename_i xs hxs;simp only[ak]at h;subst h;simp only[bK,hL];exact⟨_,_,rfl,gD hx hv,OS hxs hv⟩
   .cases h
  .cases h
theorem anY:∀{T:List TI} {t:Nat} {ti:TI},MH T t=some ti->T[t]?=some ti/\ti.ok=true
 |[],t,ti,h=>by simp[MH]at h
 |x::T,0,ti,h=>by
  simp only[MH]at h;split at h
  .rename_i ho;simp only[ak]at h;subst h;exact⟨rfl,ho⟩
  .cases h
 |x::T,t+1,ti,h=>by simp only[MH]at h;simpa using anY h
theorem sV(hT:dP P T){t}{ti}(h:MH T t=some ti):oQ P t ti:=let ⟨h1,h2⟩:=anY h;hT.facts h1 h2
theorem ay8(hT:dP P T){t k e}(h:CQ T t=some (.map k e)):ahH P k e:=by
 unfold CQ at h;split at h
 .rename_i ti hti;obtain⟨h1,h2⟩:=anY hti;exact hT.keys ti (kN h1) h2 k e (cJ h)
 .cases h
theorem pZ(hT:dP P T){t}{td}(h:CQ T t=some td):∃ti,oQ P t ti/\ti.td=td:=by
 unfold CQ at h;split at h
 .rename_i ti hti;simp only[ak]at h;exact⟨ti,sV hT hti,h⟩
 .cases h
theorem Zv:∀{fs:List (Nat×Nat×Nat)} {i:Nat} {f:Nat×Nat×Nat},acy fs i=some f->fs[i]?=some f/\f.2.2≠0
 |[],i,f,h=>by simp[acy]at h
 |(off,ty,sz)::fs,0,f,h=>by
  simp only[acy]at h;split at h
  .cases h
  .simp only[ak]at h;subst h;exact⟨rfl,by simp⟩
 |_::fs,i+1,f,h=>by simp only[acy]at h;simpa using Zv h
theorem anZ:∀{fs:List (Nat×Nat×Nat)},arD fs=true->∀f∈fs,f.2.2≠0
 |[],_=>by simp
 |(x,y,sz)::fs,h=>by
  simp only[arD]at h;split at h
  .cases h
  .intro f hf;rcases aF.1 hf with rfl|hf
   .simp
   .exact anZ h f hf
theorem ahY{p}(h:ahL p=true){v}(hv:p.h E v):v.cells = #[v]/\Ts v=true:=by
 cases p<;>simp only[ahL]at h<;>try (cases h;done)
 all_goals simp only[DV.h]at hv
 case v y=>subst hv;cases v<;>simp_all [Ts,Value.cells]
 case sl t l=>obtain⟨a,c,e,_⟩:=hv;simp at e;subst e;exact⟨rfl,rfl⟩
 case set ks=>obtain⟨b,es,clock,e,_⟩:=hv;simp at e;subst e;exact⟨rfl,rfl⟩
 case fn f cs=>obtain⟨vs,rfl,_⟩:=hv;unfold fnV;cases Nat.ble 1000000 f<;>exact⟨rfl,rfl⟩
 case row j=>obtain⟨_,_,_,_,rfl⟩:=hv;exact⟨rfl,rfl⟩
 case el t x off=>obtain⟨_,_,rfl,_⟩:=hv;exact⟨rfl,rfl⟩
 case re j i off=>obtain⟨_,_,_,_,_,_,_,rfl⟩:=hv;exact⟨rfl,rfl⟩
 case rt j i=>obtain⟨_,_,_,_,_,rfl⟩:=hv;exact⟨rfl,rfl⟩
 case ob j=>obtain⟨d,_,_,_,rfl⟩:=hv;cases d<;>exact⟨rfl,rfl⟩
 case own i off=>obtain⟨_,rfl⟩:=hv;exact⟨rfl,rfl⟩
 case fns xs=>obtain⟨_,_,_,rfl,_⟩:=hv;exact⟨rfl,rfl⟩
 case fp xs k=>obtain⟨_,_,rfl,_⟩:=hv;exact⟨rfl,rfl⟩
 case ra j=>obtain⟨_,_,_,_,_,_,_,rfl⟩:=hv;exact⟨rfl,rfl⟩
 case rs j i=>obtain⟨_,_,_,_,_,_,_,rfl⟩:=hv;exact⟨rfl,rfl⟩
 case cs t l=>obtain⟨_,_,rfl⟩:=hv;exact⟨rfl,rfl⟩
 all_goals (subst hv;exact⟨rfl,rfl⟩)
theorem TR{p}{cs}(h:Ty p=some cs){v}(hv:p.h E v):hL E cs v.cells.toList:=by
 unfold Ty at h;split at h
 .simp only[ak]at h;subst h;simp only[DV.h]at hv;obtain⟨vs,rfl,hv⟩:=hv;exact hv
 .split at h
  .rename_i h1;simp only[ak]at h;subst h;rw[(ahY h1 hv).1];simp only[hL];exact⟨v,[],rfl,hv,rfl⟩
  .cases h
theorem Zw:∀{ps:List DV} {vs:List Value},ahM ps=true->hL E ps vs->∀v∈vs,Ts v=true
 |[],vs,_,hv=>by simp only[hL]at hv;subst hv;simp
 |p::ps,vs,h,hv=>by
  simp only[ahM]at h;split at h
  .rename_i h1;simp only[hL]at hv;obtain⟨v,Cz,rfl,h2,h3⟩:=hv;intro u hu;rcases aF.1 hu with rfl|hu
   .exact(ahY h1 h2).2
   .exact Zw h h3 u hu
  .cases h
theorem Hn:∀(xs:List Value),hL E (Dv xs) xs
 |[]=>by simp[Dv,hL]
 |x::xs=>by simp only[Dv,hL];exact⟨x,xs,rfl,Xv x,Hn xs⟩
theorem TS:∀{ps:List (Nat×Operand)} {xs:List (Nat×DV)},OL ts ps=some xs->hL E ts a.tmps.toList->hL E (xs.map (·.2)) (ps.map λp=>a.eval p.2)/\xs.map (·.1)=ps.map (·.1)
 |[],xs,h,_=>by simp[OL]at h;subst h;simp[hL]
 |(i,o)::ps,xs,h,hv=>by
  simp only[OL]at h;split at h
  .rename_i x hx;split at h
   .rename_i ys hys;simp only[ak]at h;subst h;obtain⟨h1,h2⟩:=TS hys hv;refine⟨?_,by simp[h2]⟩;simp only[bK,hL];exact⟨_,_,rfl,gD hx hv,h1⟩
   .cases h
  .cases h
theorem aoa{o}{x}(h:an5 ts o=some x)(hv:hL E ts a.tmps.toList):(o=none/\x=none)\/∃o' p,o=some o'/\x=some p/\p.h E (a.eval o'):=by
 cases o with
 |none=>simp[an5]at h;exact .inl ⟨rfl,h.symm⟩
 |some o=>
  simp only[an5]at h;split at h
  .rename_i p hp;simp only[ak]at h;subst h;exact .inr ⟨o,p,rfl,rfl,gD hp hv⟩
  .cases h
theorem TT{x}{d n}{K}(h:afz aj x d n K=some q):∃m,K m=some q/\((x=none/\m=d)\/∃k i,x=some (.int k i)/\0<=i/\i<=(n:Int)/\m=i.toNat):=by
 unfold afz at h;split at h
 .exact⟨d,h,.inl ⟨rfl,rfl⟩⟩
 .obtain⟨h1,h2,h3⟩:=anW h;exact⟨_,h3,.inr ⟨_,_,rfl,h1,h2,rfl⟩⟩
 .cases h
theorem ahZ{l}{x y}{r}(h:ahP l x y=some r){u v}(hu:x.h E u)(hv:y.h E v):∀ls xs ys,uW (l::ls) (u::xs) (v::ys)=(uW ls xs ys).map (r&&·):=by
 unfold ahP at h;split at h
 .split at h
  .rename_i hk;have:=Td hk;subst this;simp only[ak]at h;subst h;simp only[DV.h]at hu hv;subst hu;subst hv;intro ls xs ys;simp[uW]
  .cases h
 all_goals first
  |cases h;done
  |(simp only[ak]at h;subst h;simp only[DV.h]at hu hv;subst hu;subst hv;intro ls xs ys;simp[uW])
theorem aia:∀{ls:List LK} {xs ys:List DV} {r:Bool},Xo ls xs ys=some r->∀{us vs:List Value},hL E xs us->hL E ys vs->uW ls us vs=some r:=by
 intro ls;induction ls with
 |nil=>intro xs ys r h;simp[Xo]at h
 |cons l ls ih=>
  intro xs ys r h us vs hu hv;unfold Xo at h;split at h
  .rename_i h1;injection h1 with h1 h2;subst h1;subst h2;simp only[hL]at hu hv;obtain⟨u,_,rfl,hu,rfl⟩:=hu;obtain⟨v,_,rfl,hv,rfl⟩:=hv;rw[ahZ h hu hv];simp[uW]
  .rename_i h1;injection h1 with h1 h2;subst h1;subst h2;split at h
   .rename_i r1 RB;split at h
    .rename_i r2 hr2;simp only[ak]at h;subst h;simp only[hL]at hu hv;obtain⟨u,us,rfl,hu,hus⟩:=hu;obtain⟨v,vs,rfl,hv,hvs⟩:=hv;rw[ahZ RB hu hv,ih hr2 hus hvs];simp
    .cases h
   .cases h
  .cases h
theorem ac5 (hT : dP P T) {neg} {t} {p1 p2 r} (h : arE T neg t p1 p2 = some r) {u v} (hu : p1.h E u) (hv : p2.h E v) (x y) :
    ∃ z, r.h E z /\ ∀ w : World, (do eqGuard (if neg then .neq else .eql) t x y u v; binOp (if neg then .neq else .eql) t u v).run P w = .ok z w := by
  unfold arE at h
  split at h
  case h_1 =>
    simp only [ak] at h; subst h
    simp only [DV.h] at hu hv ⊢; subst hu; subst hv
    exact ⟨_, rfl, λw => afv neg x y _ _ w⟩
  case h_2 =>
    split at h
    · rename_i ti hti
      have hf := sV hT hti
      split at h
      · rename_i ls fs hls mj
        split at h
        · rename_i r0 hr0
          simp only [ak] at h; subst h
          simp only [DV.h] at hu hv ⊢
          obtain ⟨us, rfl, hu⟩ := hu
          obtain ⟨vs, rfl, hv⟩ := hv
          have hc := aia hr0 hu hv
          obtain ⟨d, i, hd, hi, h1, h2, h3, h4, h5, h6⟩ := hf.ex
          refine ⟨_, rfl, λw => ?_⟩
          rw [hls] at h6
          split at h6
          · cases h6
          · rename_i hg
            obtain ⟨fl, LX, _⟩ := IB hf mj
            have := OG (P := P) 8 t ls h6.symm 10000 (by omega) _ _ _ hc w
            simp only [zN, LX] at this
            simp only [aP, run_eqGuard_agg (hm := by simpa using hg), bn]
            cases neg
            · simp only [fb, oG, run_eql_struct, this, bn, dq]
            · simp only [sR, run_neq_struct, this, bn, dq]
        · cases h
      · rename_i ls n e hls mj
        split at h
        · rename_i r0 hr0
          simp only [ak] at h; subst h
          simp only [DV.h] at hu hv ⊢
          obtain ⟨us, rfl, hu⟩ := hu
          obtain ⟨vs, rfl, hv⟩ := hv
          have hc := aia hr0 hu hv
          obtain ⟨d, i, hd, hi, h1, h2, h3, h4, h5, h6⟩ := hf.ex
          refine ⟨_, rfl, λw => ?_⟩
          rw [hls] at h6
          split at h6
          · cases h6
          · rename_i hg
            have LX := acr hf mj
            have := OG (P := P) 8 t ls h6.symm 10000 (by omega) _ _ _ hc w
            simp only [zN, LX] at this
            simp only [aP, run_eqGuard_agg (hm := by simpa using hg), bn]
            cases neg
            · simp only [fb, oG, run_eql_struct, this, bn, dq]
            · simp only [sR, run_neq_struct, this, bn, dq]
        · cases h
      · cases h
    · cases h
  all_goals first
    | (cases h; done)
    | (split at h
       · rename_i mj
         obtain ⟨ti, hf, mj⟩ := pZ hT mj
         simp only [ak] at h; subst h
         simp only [DV.h] at hu hv ⊢
         first
           | (subst hu; subst hv; exact ⟨_, rfl, λw => acq neg x y _ _ w (ar9 hf mj)⟩)
           | (subst hu; subst hv; exact ⟨_, rfl, λw => Tq neg x y none 0 0 w (rK hf mj)⟩)
           | (subst hu; subst hv; exact ⟨_, rfl, λw => by cases neg <;> first | exact FD false x y none w (Zj hf mj) | exact FD true x y none w (Zj hf mj)⟩)
           | (obtain ⟨_, rfl⟩ := hu; subst hv; exact ⟨_, rfl, λw => by cases neg <;> first | exact FD false x y (some _) w (Zj hf mj) | exact FD true x y (some _) w (Zj hf mj)⟩)
       · cases h)
theorem aob(hT:dP P T){op}{t}{p1 p2}{ret}(h:avP aj T op t p1 p2 ret=some q){u v}(hu:p1.h E u)(hv:p2.h E v)(x y):
 ∃r z,ret r=some q/\r.h E z/\∀w:World,(do eqGuard op t x y u v;binOp op t u v).run P w=.ok z w:=by
 unfold avP at h;split at h
 .obtain⟨h1,h⟩:=arS h;simp only[DV.h]at hu hv;subst hu;subst hv;exact⟨_,_,h,by simp only[DV.h];rfl,λw=>by simp[Ck,binOp_shl,Op.shift,Int.not_lt.2 h1]⟩
 .obtain⟨h1,h⟩:=arS h;simp only[DV.h]at hu hv;subst hu;subst hv;exact⟨_,_,h,by simp only[DV.h];rfl,λw=>by simp[Ck,binOp_shr,Op.shift,Int.not_lt.2 h1]⟩
 .split at h
  .rename_i hk;have:=Td hk;subst this;simp only[DV.h]at hu hv;subst hu;subst hv;unfold ahO at h;split at h
   all_goals first
    |(cases h;done)
    |exact⟨_,_,h,by simp only[DV.h];rfl,λw=>by simp[Ck,binOp,Op.intArith,Op.intBits,Op.intCmp,bits]⟩
    |(obtain⟨h1,h⟩:=a02 h;exact⟨_,_,h,by simp only[DV.h];rfl,λw=>by simp[Ck,binOp,Op.intDiv,h1]⟩)
  .cases h
 .obtain⟨h1,h⟩:=ay7 h;simp only[DV.h]at hu hv;subst hu;subst hv;refine⟨_,_,h,by simp only[DV.h];rfl,λw=>?_⟩;simp[eqGuard_at_string,binOp,Op.stringOp];omega
 .split at h
  .rename_i r hr;obtain⟨z,h1,h2⟩:=ac5 hT hr hu hv x y;exact⟨r,z,h,h1,h2⟩
  .cases h
 .split at h
  .rename_i r hr;obtain⟨z,h1,h2⟩:=ac5 hT hr hu hv x y;exact⟨r,z,h,h1,h2⟩
  .cases h
 .cases h
end
section
variable {P : Program} {T : List TI} {E : Env} {ts : List DV} {a : Act} {β : Type} {q : β} {o : Oper} {ret : DV -> Option β} {rw : List DR}
def aoc(E:Env):Prop:=∀j e t l,E.rw[j]?=some (.own e t l)->(E.A j).1=none->l.length=0
def ug(P:Program)(E:Env)(a:Act)(o:Oper)(ret:DV->Option β)(q:β):Prop:=∃r v,ret r=some q/\r.h E v/\∀w,(execOp a.eval o).run P w=.ok (.value v) w
theorem uh{s:Sem Value}{r:DV}{v:Value}(he:∀w,(execOp a.eval o).run P w=(s.run P w).andThen λv w'=>.ok (.value v) w')(hq:ret r=some q)(hr:r.h E v)(hs:∀w,s.run P w=.ok v w):ug P E a o ret q:=⟨r,v,hq,hr,λw=>by rw[he,hs];rfl⟩
theorem arT{g}{x y r}(h:an6 g x y=some r){u v}(hu:x.h E u)(hv:y.h E v):r.h E (if g then u else v):=by
 unfold an6 at h
 split at h<;>first
  |(cases h;done)
  |(simp only[ak]at h;subst h;simp only[DV.h]at hu hv ⊢;subst hu;subst hv;cases g<;>simp)
theorem arU{c x y}(ho:o.op=.pick c x y)(cH:hL E ts a.tmps.toList)(h:wP aj T o.op ts rw ret=some q):ug P E a o ret q:=by
 simp only[ho,wP]at h;obtain⟨g,hg,h⟩:=xB h;have hg:=gD hg cH;have hr:∀w,(execOp a.eval o).run P w=((asBool (a.eval c)).run P w).andThen λb w'=>.ok (.value (if b then a.eval x else a.eval y)) w':=by intro w;simp only[execOp,ho,aP,bG]
 split at h
 .obtain⟨z,hz,h⟩:=xB h;simp only[DV.h]at hg;exact⟨z,_,h,gD hz cH,λw=>by rw[hr,hg];simp[asBool]⟩
 .obtain⟨z,hz,h⟩:=xB h;simp only[DV.h]at hg;exact⟨z,_,h,gD hz cH,λw=>by rw[hr,hg];simp[asBool]⟩
 .obtain⟨z,hz,h⟩:=xB h;obtain⟨u,hu,h⟩:=xB h;obtain⟨r,hpk,h⟩:=xB h;simp only[DV.h]at hg;exact⟨r,_,h,arT hpk (gD hz cH) (gD hu cH),λw=>by rw[hr,hg];simp[asBool]⟩
 .cases h
theorem ac6{x}(ho:o.op=.nilCheck x)(cH:hL E ts a.tmps.toList)(h:wP aj T o.op ts rw ret=some q):ug P E a o ret q:=by
 simp only[ho,wP]at h;obtain⟨g,hg,h⟩:=xB h;have hg:=gD hg cH;split at h
 .refine⟨_,_,h,hg,λw=>?_⟩;simp only[DV.h]at hg;obtain⟨_,hg⟩:=hg;simp only[execOp,ho,hg];rfl
 .refine⟨_,_,h,hg,λw=>?_⟩;simp only[DV.h]at hg;obtain⟨_,_,hg,_⟩:=hg;simp only[execOp,ho,hg];rfl
 .refine⟨_,_,h,hg,λw=>?_⟩;simp only[DV.h]at hg;obtain⟨_,_,_,_,_,_,_,hg⟩:=hg;simp only[execOp,ho,hg];rfl
 .rename_i f _ _;refine⟨_,_,h,hg,λw=>?_⟩;simp only[DV.h]at hg;obtain⟨_,hg,_⟩:=hg;simp only[execOp,ho,hg,fnV];cases Nat.ble 1000000 f<;>rfl
 .cases h
theorem arV{op:UnOp}{t:TypeId}{x:Operand}(ho:o.op=.unOp op t x)(cH:hL E ts a.tmps.toList)(h:wP aj T o.op ts rw ret=some q):ug P E a o ret q:=by
 simp only[ho,wP]at h;obtain⟨g,hg,h⟩:=xB h;obtain⟨r,hr0,h⟩:=xB h;have hg:=gD hg cH;have hr:∀w,(execOp a.eval o).run P w=((Op.unary op (a.eval x)).run P w).andThen λv w'=>.ok (.value v) w':=by intro w;simp only[execOp,ho,aP,bG]
 unfold unV at hr0
 split at hr0<;>first
  |(cases hr0;done)
  |(simp only[ak]at hr0;subst hr0;simp only[DV.h]at hg;rw[hg]at hr;exact uh hr h (by simp only[DV.h];rfl) λw=>by first|(simp[Op.unary];done)|(simp[Op.unary,Op.intArith];done)|(simp[Op.unary,intBits_xor];done))
theorem af7{s d:TypeId}{x:Operand}(hT:dP P T)(ho:o.op=.convert s d x)(cH:hL E ts a.tmps.toList)(h:wP aj T (.convert s d x) ts rw ret=some q):ug P E a o ret q:=by
 simp only[wP]at h;obtain⟨g,hg,h⟩:=xB h;have hg:=gD hg cH;have hr:∀w,(execOp a.eval o).run P w=((convert s d (a.eval x)).run P w).andThen λv w'=>.ok (.value v) w':=by intro w;simp only[execOp,ho,aP,bG]
 split at h
 .rename_i hs hd _;obtain⟨ds,is,hds,_⟩:=(sV hT hs).ex;obtain⟨ti,hf,mj⟩:=pZ hT hd;have hu:=avK hf mj;simp only[DV.h]at hg;rw[hg]at hr;exact uh hr h (by simp only[DV.h];rfl) λw=>by simp[convert,aP,bj hds,bj hu,Conv.intToInt]
 .rename_i hs hd _;obtain⟨ds,is,hds,_⟩:=(sV hT hs).ex;obtain⟨ti,hf,mj⟩:=pZ hT hd;have hu:=Ex hf mj;simp only[DV.h]at hg;rw[hg]at hr;exact uh hr h (by simp only[DV.h];rfl) λw=>by simp only[convert,aP,bj hds,bj hu,bn];cases ds<;>simp
 .cases h
theorem arW{p r}{off}(h:an7 p off=some r){v}(hv:p.h E v):∃ad,v=.pointer (some ad)/\r.h E (.pointer (some (ad.add off))):=by
 unfold an7 at h;split at h
 .simp only[ak]at h;subst h;simp only[DV.h]at hv ⊢;obtain⟨h1,rfl⟩:=hv;exact⟨_,rfl,h1,by rw[tQ]⟩
 .simp only[ak]at h;subst h;simp only[DV.h]at hv ⊢;obtain⟨ad,us,rfl,h1,h2⟩:=hv;exact⟨_,rfl,ad,us,by rw[oH],h1,h2⟩
 .simp only[ak]at h;subst h;simp only[DV.h]at hv ⊢;obtain⟨e,t,l,ad,h1,h2,h3,rfl⟩:=hv;exact⟨_,rfl,e,t,l,ad,h1,h2,h3,by rw[oH,DW]⟩
 .cases h
theorem Zx{s:TypeId}{f:Nat}{x:Operand}(hT:dP P T)(ho:o.op=.fieldAddr s x f)(cH:hL E ts a.tmps.toList)(h:wP aj T o.op ts rw ret=some q):ug P E a o ret q:=by
 simp only[ho,wP]at h;obtain⟨g,hg,h⟩:=xB h;have hg:=gD hg cH;have hr:∀w,(execOp a.eval o).run P w=((Instr.fieldAt s (a.eval x) f).run P w).andThen λv w'=>.ok (.value v) w':=by intro w;simp only[execOp,ho,aP,bG]
 split at h
 .rename_i fs hs;obtain⟨fq,hfq,h1⟩:=xB h;obtain⟨r,hr0,h2⟩:=xB h1;obtain⟨ti,hf,mj⟩:=pZ hT hs;obtain⟨fl,hu,rfl⟩:=IB hf mj;obtain⟨N1,hsz⟩:=Zv hfq;simp only[kU,eK]at N1;obtain⟨fd,hfd,rfl⟩:=N1;simp only at hsz hr0;obtain⟨i,hi,ar8⟩:=tw fd.type hsz;have avZ:fl[f]?=some fd:=by simpa using hfd
  obtain⟨ad,hv,hrh⟩:=arW hr0 hg;rw[hv]at hr;exact uh hr h2 hrh λw=>by simp[Instr.fieldAt,aP,bj hu,avZ,Instr.sureAddr,fieldPlace,ux hi,ar8,hsz]
 .cases h
theorem aod(hT:dP P T){ty}{xs}{off}{r}{i}(h:an8 T ty i.size xs off=some r)(hi:P.info? ty=some i){vs}(hv:hL E xs vs.toList):
 ∃v,r.h E v/\∀w,(part ty vs off).run P w=.ok v w:=by
 unfold an8 at h;split at h
 .rename_i tf htf;have hff:=sV hT htf;split at h
  .rename_i I2;split at h
   .rename_i l hl;simp only[ak]at h;subst h;obtain⟨rfl,hle⟩:=xA hl;refine⟨.agg ((vs.toList.drop off).take i.size).toArray,by simp only[DV.h];exact⟨_,rfl,anS hv off i.size⟩,λw=>?_⟩;simp only[part,aP,Zk hff,I2,bn,sR,ux hi,bG];congr 2;apply fQ;simp[zq,sZ]
   .cases h
  .rename_i I2;split at h
   .rename_i x hx;simp only[ak]at h;subst h;obtain⟨v,Vu,Vv⟩:=KG hv _ _ (OQ hx);refine⟨v,Vv,λw=>?_⟩;have:vs[off]?=some v:=by simpa using Vu
    simp[part,Zk hff,I2,this]
   .cases h
 .cases h
theorem aoe{s:TypeId}{f:Nat}{x:Operand}(hT:dP P T)(ho:o.op=.field s x f)(cH:hL E ts a.tmps.toList)(h:wP aj T o.op ts rw ret=some q):ug P E a o ret q:=by
 simp only[ho,wP]at h;obtain⟨g,hg,h⟩:=xB h;have hg:=gD hg cH;have hr:∀w,(execOp a.eval o).run P w=((Instr.field s (a.eval x) f).run P w).andThen λv w'=>.ok (.value v) w':=by intro w;simp only[execOp,ho,aP,bG]
 split at h
 .rename_i fs xs hs _;obtain⟨fq,hfq,h1⟩:=xB h;obtain⟨r,hr0,h2⟩:=xB h1;obtain⟨ti,hf,mj⟩:=pZ hT hs;obtain⟨fl,hu,rfl⟩:=IB hf mj;obtain⟨N1,hsz⟩:=Zv hfq;simp only[kU,eK]at N1;obtain⟨fd,hfd,rfl⟩:=N1;simp only at hsz hr0;obtain⟨i,hi,ar8⟩:=tw fd.type hsz;have avZ:fl[f]?=some fd:=by simpa using hfd
  simp only[DV.h]at hg;obtain⟨vs,hv,hg⟩:=hg;rw[hv]at hr;rw[<-ar8]at hr0;obtain⟨v,Vu,Vv⟩:=aod hT hr0 hi hg;exact uh hr h2 Vu λw=>by simp[Instr.field,aP,bj hu,avZ,asAgg,Vv]
 .cases h
theorem Zy{t:TypeId}{x ix:Operand}(hT:dP P T)(ho:o.op=.indexAddr t x ix)(cH:hL E ts a.tmps.toList)(hrw:E.rw=rw)(hA:aoc E)(h:wP aj T o.op ts rw ret=some q):ug P E a o ret q:=by
 simp only[ho,wP]at h;obtain⟨g,hg,h⟩:=xB h;obtain⟨u,hu,h⟩:=xB h;have hg:=gD hg cH;have hu:=gD hu cH;have hr:∀w,(execOp a.eval o).run P w=((Instr.indexAt t (a.eval x) (a.eval ix)).run P w).andThen λv w'=>.ok (.value v) w':=by intro w;simp only[execOp,ho,aP,bG]
 split at h
 .rename_i e t' l k i mj _ _ _;obtain⟨ti,hf,mj⟩:=pZ hT mj;have LX:=rK hf mj;split at h
  .rename_i te Ra;have Jx:=sV hT Ra;split at h
   .rename_i hsz h0;have hsz:=aE hsz;obtain⟨hi0,y,hy,h⟩:=au3 h;simp only[DV.h]at hg hu;obtain⟨aa,c,hv,hlc,hcm,hel⟩:=hg;simp only[dO,oA]at hv;obtain⟨us,hus,hat⟩:=hel _ _ hy;have hlt:=(ay.1 hy).1;have hul:=t'.Bn hus
    obtain⟨ad,rfl⟩:∃ad,aa=some ad:=by
     have hp:0<us.length:=by rw[hul];exact bQ h0
     obtain⟨x0,hx0,_⟩:=hat 0 _ (aw hp);exact⟨x0,hx0⟩
    rw[hv,hu]at hr;refine uh hr h (v:=.pointer (some (ad.add (i.toNat*te.size)))) ?_ λw=>?_
    .simp only[DV.h];refine⟨ad.add (i.toNat*te.size),us,by rw[oH];rfl,hus,λj z hj=>?_⟩;obtain⟨x0,hx0,h1,h2,h3⟩:=hat j z hj;simp only[ak]at hx0;subst hx0;exact⟨_,rfl,by rw[jH];exact h1,by rw[jH];exact h2,by rw[oH,cg,hsz];exact h3⟩
    .have h1:i<(l.length:Int):=by omega
     simp[Instr.indexAt,aP,bj LX,asIntOf,hi0,h1,sx Jx]
   .cases h
  .cases h
 .rename_i e j k i mj _ _ _;obtain⟨ti,hf,mj⟩:=pZ hT mj;have LX:=rK hf mj;split at h
  .rename_i te e' t' l Ra P9;have Jx:=sV hT Ra;rw[gU,<-hrw]at P9;split at h
   .rename_i hsz h0;have hsz:=aE hsz;obtain⟨hi0,y,hy,h⟩:=au3 h;simp only[DV.h]at hg hu;obtain⟨e2,t2,l2,hj2,hv⟩:=hg;rw[P9]at hj2;simp only[ak,DR.own.injEq]at hj2;obtain⟨rfl,rfl,hl2⟩:=hj2;cases hl2;have hlt:=(ay.1 hy).1;cases ha:(E.A j).1 with
    |none=>have:=hA j e' t' l P9 ha;omega
    |some ad=>
     rw[hv,hu,ha]at hr;refine uh hr h (v:=.pointer (some (ad.add (i.toNat*te.size)))) ?_ λw=>?_
     .simp only[DV.h];exact⟨e',t',l,ad,P9,hlt,ha,by rw[hsz,gY]⟩
     .have h1:i<(l.length:Int):=by omega
      simp[Instr.indexAt,aP,bj LX,asIntOf,hi0,h1,sx Jx]
   .cases h
  .cases h
 .rename_i e l _ k mj _ _ _;obtain⟨ti,hf,mj⟩:=pZ hT mj;have LX:=rK hf mj;split at h
  .rename_i te Ra;have Jx:=sV hT Ra;split at h
   .rename_i hsz h0;have hsz:=aE hsz;have h0:k<l.length:=bQ h0;simp only[DV.h]at hg hu;obtain⟨ad,vs,c,hv,hel,hat⟩:=hg;rw[hv,hu]at hr;refine uh hr h (v:=.pointer (some (ad.add k))) (by simp only[DV.h];exact⟨ad,vs,rfl,hel,hat⟩) λw=>?_
    have h1:((k:Nat):Int)<(l.length:Int):=by omega
    have h2:(0:Int)<=((k:Nat):Int):=by omega
    simp[Instr.indexAt,aP,bj LX,asIntOf,h0,sx Jx,hsz]
   .cases h
  .cases h
 .cases h
theorem af8{t:Operand}{i:Nat}(ho:o.op=.extract t i)(cH:hL E ts a.tmps.toList)(h:wP aj T o.op ts rw ret=some q):ug P E a o ret q:=by
 simp only[ho,wP]at h;obtain⟨g,hg,h⟩:=xB h;have hg:=gD hg cH;have hr:∀w,(execOp a.eval o).run P w=((Instr.extract (a.eval t) i).run P w).andThen λv w'=>.ok (.value v) w':=by intro w;simp only[execOp,ho,aP,bG]
 split at h
 .split at h
  .rename_i xs x hx;simp only[DV.h]at hg;obtain⟨vs,hv,hg⟩:=hg;obtain⟨v,Vu,Vv⟩:=KG hg _ _ (OQ hx);rw[hv]at hr;have:vs[i]?=some v:=by simpa using Vu
   exact uh hr h Vv λw=>by simp[Instr.extract,this]
  .cases h
 .cases h
theorem ac7{fn}{first An}(ho:o.op=.makeFunc fn first An)(cH:hL E ts a.tmps.toList)(h:wP aj T o.op ts rw ret=some q):ug P E a o ret q:=by
 simp only[ho,wP]at h;split at h
 .rename_i f awa;split at h
  .rename_i cs hb Y3;have hc:=OS Y3 cH;have hfa:first = #[]:=by apply fQ;simpa using awa
   refine⟨_,.func (.func f) #[] (An.map a.eval),h,by simp only[DV.h];exact⟨_,by unfold fnV;rw[hb];rfl,by simpa using hc⟩,λw=>?_⟩;simp[execOp,ho,Instr.makeFunc,hfa]
  .cases h
 .rename_i f ay9 _;split at h
  .rename_i cs Y3;have hc:=OS Y3 cH;have hfa:An = #[]:=by apply fQ;simpa using ay9
   have hb:Nat.ble 1000000 (f+1000000)=true:=gS (by omega);refine⟨_,.func (.func f) (first.map a.eval) #[],h,by simp only[DV.h];exact⟨first.map a.eval,by unfold fnV;rw[hb];simp,by simpa using hc⟩,λw=>?_⟩;simp[execOp,ho,Instr.makeFunc,hfa]
  .cases h
 .cases h
theorem EA{x:Option DV}{d ahN n:Nat}{ol:Option Operand}(h0:(ol=none/\x=none)\/∃o' p,ol=some o'/\x=some p/\p.h E (a.eval o'))(hb:(x=none/\n=d)\/∃k i,x=some (.int k i)/\0<=i/\i<=(ahN:Int)/\n=i.toNat):
 (ol=none/\n=d)\/∃o' k i,ol=some o'/\a.eval o'=.int k i/\0<=i/\i<=(ahN:Int)/\n=i.toNat:=by
 rcases h0 with⟨rfl,rfl⟩|⟨o',p,rfl,rfl,hp⟩
 .rcases hb with⟨_,rfl⟩|⟨k,i,h,_⟩
  .exact .inl ⟨rfl,rfl⟩
  .cases h
 .rcases hb with⟨h,_⟩|⟨k,i,h,h1,h2,h3⟩
  .cases h
  .simp only[ak]at h;subst h;simp only[DV.h]at hp;exact .inr ⟨o',k,i,rfl,hp,h1,h2,h3⟩
theorem aof{t:TypeId}{x:Operand}{lo hi mx:Option Operand}(hT:dP P T)(ho:o.op=.slice t x lo hi mx)(cH:hL E ts a.tmps.toList)(h:wP aj T (.slice t x lo hi mx) ts rw ret=some q):ug P E a o ret q:=by
 simp only[wP]at h;obtain⟨g,hg,h⟩:=xB h;have hg:=gD hg cH;split at h
 .rename_i plo phi Vo hhi;have Vo:=aoa Vo cH;have hhi:=aoa hhi cH;have hr:∀w,(execOp a.eval o).run P w=((Instr.sliceAt t (a.eval x) (lo.map a.eval) (hi.map a.eval) (mx.map a.eval)).run P w).andThen λv w'=>.ok (.value v) w':=by intro w;simp only[execOp,ho,aP,bG]
  split at h
  .rename_i e t' l mj _ _;obtain⟨ti,hf,mj⟩:=pZ hT mj;have LX:=rK hf mj;split at h
   .rename_i te Ra;have Jx:=sV hT Ra;split at h
    .rename_i hsz;have hsz:=aE hsz;simp only[DV.h]at hg;obtain⟨aa,c,hv,hlc,hcm,hel⟩:=hg;simp only[dO,oA]at hv;split at h
     .obtain⟨n,h9,hb⟩:=TT h;have hnl:n<=l.length:=by rcases hb with⟨_,rfl⟩|⟨_,_,_,_,_,rfl⟩<;>omega
      rcases Vo with⟨rfl,_⟩|⟨_,_,rfl,h',_⟩;case inr=>cases h'
      rw[hv]at hr;refine uh hr h9 (v:=.slice aa n c) ?_ λw=>?_
      .simp only[DV.h]
       exact⟨aa,c,by simp;omega,by simp;omega,hcm,λi y hy=>hel i y (by
        rw[ct]at hy;split at hy
        .exact hy
        .cases hy)⟩
      .rcases EA hhi hb with⟨rfl,rfl⟩|⟨o',k,i,rfl,hev,h0,h1,rfl⟩
       .simp only[Instr.sliceAt,Instr.slice,aP,bj LX,bn,lr,Instr.sliceBounds,bG,sx Jx,oE,F3];congr 2;cases aa<;>simp[Addr.add]
       .have h1':i<=(c:Int):=by omega
        simp only[Instr.sliceAt,Instr.slice,aP,bj LX,bn,lr,fK,hev,Instr.sliceBounds,bG,sR,iq w k i c .sliceAcap h0 h1',sx Jx,oE,F3];congr 2;cases aa<;>simp[Addr.add]
     .rename_i plo;obtain⟨n,h8,hb⟩:=TT h;obtain⟨m,h9,u9⟩:=TT h8;have hnl:n<=l.length:=by rcases hb with⟨_,rfl⟩|⟨_,_,_,_,_,rfl⟩<;>omega
      have hmn:m<=n:=by
       rcases u9 with⟨h',_⟩|⟨_,_,_,_,_,rfl⟩
       .cases h'
       .omega
      rcases EA Vo u9 with⟨rfl,_⟩|⟨ol,kl,il,rfl,ayA,hl0,Cn,rfl⟩
      .rcases Vo with⟨_,h'⟩|⟨_,_,h',_⟩<;>cases h'
      .rw[hv]at hr;refine uh hr h9 (v:=.slice (if c=il.toNat then aa else aa.map (·.add (il.toNat*te.size))) (n-il.toNat) (c-il.toNat)) ?_ λw=>?_
       .simp only[DV.h];have hlen:((l.take n).drop il.toNat).length=n-il.toNat:=by rw[dk,aX,jQ hnl]
        refine⟨_,_,by rw[hlen],by rw[hlen];omega,by omega,λi y hy=>?_⟩;rw[cF,ct]at hy;split at hy
        .obtain⟨us,h1,h2⟩:=hel _ y hy;refine⟨us,h1,λj u hj=>?_⟩;obtain⟨ad,rfl,g1,g2,g3⟩:=h2 j u hj;rw[ag (by omega)];refine⟨_,rfl,by rw[jH];exact g1,by rw[jH];exact g2,?_⟩;rw[oH,hsz,<-g3];congr 2;rw[im];omega
        .cases hy
       .rcases EA hhi hb with⟨rfl,rfl⟩|⟨o',k,i,rfl,hev,h0,h1,rfl⟩
        .simp only[Instr.sliceAt,Instr.slice,aP,bj LX,bn,lr,fK,ayA,Instr.sliceBounds,bG,qz,fb,oG,iq w kl il _ .sliceB hl0 Cn,sx Jx]
        .have h1':i<=(c:Int):=by omega
         simp only[Instr.sliceAt,Instr.slice,aP,bj LX,bn,lr,fK,ayA,hev,Instr.sliceBounds,bG,qz,fb,oG,sR,iq w k i c .sliceAcap h0 h1',iq w kl il _ .sliceB hl0 Cn,sx Jx]
    .cases h
   .cases h
  .rename_i s mj _ _;obtain⟨ti,hf,mj⟩:=pZ hT mj;have LX:=Ex hf mj;obtain⟨n,h8,hb⟩:=TT h;obtain⟨m,h9,u9⟩:=TT h8;simp only[DV.h]at hg;rw[hg]at hr;refine uh hr h9 (v:=.string (s.extract m n)) (by simp only[DV.h]) λw=>?_
   rcases EA hhi hb with⟨rfl,rfl⟩|⟨o',k,i,rfl,hev,h0,h1,rfl⟩<;>rcases EA Vo u9 with⟨rfl,rfl⟩|⟨ol,k2,i2,rfl,ayB,h2,h3,rfl⟩
   .simp[Instr.sliceAt,Instr.slice,aP,bj LX,Instr.sliceBounds]
   .simp[Instr.sliceAt,Instr.slice,aP,bj LX,Instr.sliceBounds,ayB,iq w k2 i2 _ .sliceB h2 h3]
   .simp[Instr.sliceAt,Instr.slice,aP,bj LX,Instr.sliceBounds,hev,iq w k i _ .sliceAlen h0 h1]
   .simp[Instr.sliceAt,Instr.slice,aP,bj LX,Instr.sliceBounds,hev,ayB,iq w k i _ .sliceAlen h0 h1,iq w k2 i2 _ .sliceB h2 h3]
  .rename_i e t' l m mj _ _;obtain⟨ti,hf,mj⟩:=pZ hT mj;have LX:=rK hf mj;split at h
   .rename_i kn n kk k te hm Ra _ _;have Jx:=sV hT Ra;split at h
    .rename_i hsz;have hsz:=aE hsz;rcases anX h with⟨hc,h9⟩|⟨_,h9⟩;case inr=>cases h9
     simp only[aB,fP]at hc;obtain⟨rfl,rfl⟩:=hc;simp only[DV.h]at hg;obtain⟨aa,c,hv,hlc,hcm,hel⟩:=hg;simp only[dO,oA]at hv;have hm:=gD hm cH;simp only[DV.h]at hm;rcases Vo with⟨rfl,_⟩|⟨_,_,rfl,h',_⟩;case inr=>cases h'
     rcases hhi with⟨_,h'⟩|⟨o',p,rfl,h',hp⟩
     .cases h'
     simp only[ak]at h';subst h';simp only[DV.h]at hp;rw[hv]at hr;refine uh hr h9 (v:=.slice aa l.length l.length) ?_ λw=>?_
     .simp only[DV.h];exact⟨⟨aa,l.length,rfl,au _,by omega,hel⟩,aa,rfl⟩
     .simp only[Instr.sliceAt,Instr.slice,aP,bj LX,bn,lr,fK,hm,hp,Instr.sliceBounds,bG,sR,iq w kk l.length c .slice3Acap (by omega) (by omega),aU,iq w kn l.length l.length .slice3B (by omega) (by omega),sx Jx,oE,F3];congr 2;cases aa<;>simp[Addr.add]
    .cases h
   .cases h
  .cases h
 .cases h
theorem P'(w):∀(fl:List Field),(∀f∈fl,(sizeOf f.type).run P w=.ok (P.cellsOf f.type) w)->
    (fl.mapM (λf=>do pure (f.offset,<-sizeOf f.type):Field->Sem (Nat×Nat))).run P w=.ok (fl.map λf=>(f.offset,P.cellsOf f.type)) w
  |[],_=>by simp
  |f::fl,h=>by
    have h0:=h f (by simp)
    have ih:=P' w fl (λg hg=>h g (by simp[hg]))
    simp only[List.mapM_cons,aP,h0,ih,bn,bG,bK]
theorem Zz{fs}:∀(ps:List (Nat×DV)) (ns:List (Nat×Value)) (cells:List DV) (cs:List Value) (K:List DV->Option β),acz fs cells ps K=some q->hL E (ps.map (·.2)) (ns.map (·.2))->ps.map (·.1)=ns.map (·.1)->hL E cells cs->
 ∃r us,K r=some q/\hL E r us/\Instr.fill (λi=>(fs.map λf=>(f.1,f.2.2))[i]?) cs.toArray ns=some us.toArray
 |[],ns,cells,cs,K,h,hv,hn,hc=>by
  cases ns with
  |nil=>exact⟨cells,cs,h,hc,by simp[Instr.fill]⟩
  |cons n ns=>simp at hn
 |(i,x)::ps,ns,cells,cs,K,h,hv,hn,hc=>by
  cases ns with
  |nil=>simp at hn
  |cons n ns=>
   obtain⟨i',v⟩:=n;simp only[bK,dO]at hn;obtain⟨rfl,hn⟩:=hn;simp only[bK,hL]at hv;obtain⟨v',Cz,e,Vu,Vv⟩:=hv;simp only[dO]at e;obtain⟨rfl,rfl⟩:=e;simp only[acz]at h;split at h
   .rename_i off ty sz N1;obtain⟨N1,hsz⟩:=Zv N1;split at h
    .rename_i ds hds;have hd:=TR hds Vu;split at h
     .rename_i hlen CA;have hlen:=aE hlen;have hle:=(xA CA).2;rw[Zu]at h;obtain⟨r,us,h1,h2,h3⟩:=Zz ps ns _ _ K h Vv hn (anR off hc hd);refine⟨r,us,h1,h2,?_⟩;have hs:v.cells.size=sz:=by rw[<-fC,ql hd,hlen]
      have hcl:=ql hc;simp only[Instr.fill,kU,N1,fK];have hgt:¬(off+sz>cs.length):=by omega
      simp only[hs,ne_eq,not_true_eq_false,decide_false,fk,DQ,hgt];rw[<-h3];congr 1;have:=an2 v.cells.toList cs.toArray off 0;rw[<-Array.foldl_toList,Array.toList_zipIdx];rw[this];simp
     .cases h
    .cases h
   .cases h
theorem Xx{e}{sz}:∀{n k i:Nat} {q:Nat×Nat×Nat},(Xn e sz n k)[i]?=some q->q=((k+i)*sz,e,sz)
 |0,k,i,q,h=>by simp[Xn]at h
 |n+1,k,0,q,h=>by simp[Xn]at h;rw[<-h];rfl
 |n+1,k,i+1,q,h=>by simp only[Xn,fy]at h;rw[Xx h,show k+1+i=k+(i+1)by omega]
theorem Xy{f g}(h:∀i p,f i=some p->g i=some p):∀{cs:Array Value} (ps:List (Nat×Value)) {r:Array Value},Instr.fill f cs ps=some r->Instr.fill g cs ps=some r
 |cs,[],r,hr=>hr
 |cs,(i,v)::ps,r,hr=>by
  unfold Instr.fill at hr ⊢;cases hf:f i with
  |none=>rw[hf]at hr;cases hr
  |some p=>
   rw[hf]at hr;rw[h i p hf];obtain⟨off,sz⟩:=p;simp only at hr ⊢;split at hr
   .cases hr
   .rename_i hc;rw[ag hc];exact Xy h ps hr
theorem aog{t:TypeId}{parts:Array (Nat×Operand)}(hT:dP P T)(ho:o.op=.build t parts)(cH:hL E ts a.tmps.toList)(h:wP aj T o.op ts rw ret=some q):ug P E a o ret q:=by
  simp only[ho,wP]at h
  split at h
  · rename_i ps Rb
    obtain⟨KL,Ss⟩:=TS Rb cH
    have hr:∀w,(execOp a.eval o).run P w=((Instr.build t (parts.toList.map λp=>(p.1,a.eval p.2)).toArray).run P w).andThen λv w'=>.ok (.value v) w':=by
      intro w
      simp only[execOp,ho,aP,bG]
      congr 3
      apply fQ
      simp
    split at h
    · rename_i ti hti
      have hf:=sV hT hti
      split at h
      · rename_i fs z zs mj hz
        obtain⟨fl,hu,rfl⟩:=IB hf mj
        split at h
        · rename_i zu
          have zu:=anZ zu
          obtain⟨r,us,h,hru,aib⟩:=Zz ps (parts.toList.map λp=>(p.1,a.eval p.2)) _ _ _ h (by simpa[hJ,wI]using KL) (by simpa[hJ,wI]using Ss) (Hn (z::zs))
          obtain⟨i,hi,_,hzero⟩:=MD hf
          rw[hz]at hzero
          obtain⟨zv,hzv,hzc⟩:∃zv,i.zero=some zv/\zv.cells.toList=z::zs:=by
            cases hiz:i.zero with
            |none=>rw[hiz]at hzero;cases hzero
            |some zv=>rw[hiz]at hzero;exact⟨zv,rfl,hzero.symm⟩
          refine uh hr h (v:=.agg us.toArray) (by simp only[DV.h];exact⟨_,rfl,by simpa using hru⟩) λw=>?_
          have hm:=P' (P:=P) w fl.toList (λf hf'=>by
            have:=zu _ (aN.2 ⟨f,hf',rfl⟩)
            obtain⟨j,hj,hjs⟩:=tw f.type this
            rw[ux hj,hjs])
          have hm':(fl.mapM (λf=>do pure (f.offset,<-sizeOf f.type):Field->Sem (Nat×Nat))).run P w=.ok (fl.toList.map λf=>(f.offset,P.cellsOf f.type)).toArray w:=by
            rw[Array.mapM_eq_mapM_toList]
            simp only[Sem.run_map,hm,bn]
          have hc:zv.cells=(z::zs).toArray:=by rw[<-hzc]
          simp only[Instr.build,aP,vD hi hzv,bn,bj hu,hm',hc]
          simp only[hJ]at aib
          have e:(λx:Nat=>((fl.toList.map λf=>(f.offset,P.cellsOf f.type)).toArray)[x]?)=(λi:Nat=>(fl.toList.map ((λf=>(f.1,f.2.2)) ∘ λf=>(f.offset,f.type,P.cellsOf f.type)))[i]?):=by
            funext i;simp;rfl
          rw[e,aib]
          simp
        · cases h
      · rename_i n e z zs mj hz
        have hu:=acr hf mj
        split at h
        · rename_i te Ra
          have Jx:=sV hT Ra
          split at h
          · rename_i zu
            have zu:=bQ zu
            have hsz:=sx Jx
            obtain⟨r,us,h,hru,aib⟩:=Zz ps (parts.toList.map λp=>(p.1,a.eval p.2)) _ _ _ h (by simpa[hJ,wI]using KL) (by simpa[hJ,wI]using Ss) (Hn (z::zs))
            obtain⟨i,hi,_,hzero⟩:=MD hf
            rw[hz]at hzero
            obtain⟨zv,hzv,hzc⟩:∃zv,i.zero=some zv/\zv.cells.toList=z::zs:=by
              cases hiz:i.zero with
              |none=>rw[hiz]at hzero;cases hzero
              |some zv=>rw[hiz]at hzero;exact⟨zv,rfl,hzero.symm⟩
            refine uh hr h (v:=.agg us.toArray) (by simp only[DV.h];exact⟨_,rfl,by simpa using hru⟩) λw=>?_
            have hc:zv.cells=(z::zs).toArray:=by rw[<-hzc]
            have awb:=Xy (g:=λi=>some (i*te.size,te.size)) (λi p hp=>by
              simp only[kU,eK]at hp
              obtain⟨q,hq,rfl⟩:=hp
              rw[Xx hq];simp) _ aib
            simp only[Instr.build,aP,vD hi hzv,bn,bj hu,hc,hsz,awb]
            simp
          · cases h
        · cases h
      · cases h
    · cases h
  · cases h
theorem TU{c}{b}{xs}(hT:dP P T)(ho:o.op=.call c)(GA:c.callee=.builtin b)(hrw:E.rw=rw)(hxs:hL E xs (c.args.toList.map a.eval))(h:MJ T b c.argTypes xs rw ret=some q):ug P E a o ret q:=by
 have hr:∀w,(execOp a.eval o).run P w=(builtin b c.argTypes o.type (c.args.map λ| .const _=>true|_=>false) (c.args.toList.map a.eval).toArray).run P w:=by
  intro w;have:c.args.map a.eval=(c.args.toList.map a.eval).toArray:=by apply fQ;simp
  simp only[execOp,ho,resolve,GA,aP,bG,bn,invoke,this];rfl
 have one:∀{td:TD},af0 T c.argTypes=some td->∃t ti,c.argTypes = #[t]/\oQ P t ti/\ti.td=td:=by
  intro td h;unfold af0 at h;split at h
  .rename_i t awc;obtain⟨ti,h1,h2⟩:=pZ hT h;exact⟨t,ti,by apply fQ;simpa using awc,h1,h2⟩
  .cases h
 unfold MJ at h;split at h
 .split at h
  .rename_i e hat;obtain⟨t,ti,hat,hf,mj⟩:=one hat;have LX:=rK hf mj;split at h
   .rename_i n hn
    have:∃aa cc,c.args.toList.map a.eval=[.slice aa n cc]:=by
     unfold ayp at hn;split at hn
     .simp only[ak]at hn;subst hn;simp only[hL,DV.h]at hxs;obtain⟨v,_,e1,⟨aa,cc,e2,_⟩,rfl⟩:=hxs;simp only[dO,oA]at e2;subst e2;exact⟨aa,cc,e1⟩
     .split at hn
      .rename_i P9;simp only[ak]at hn;subst hn;simp only[hL,DV.h]at hxs;obtain⟨v,_,e1,⟨e',t',l',hj,rfl⟩,rfl⟩:=hxs;rw[gU,<-hrw,hj]at P9;simp only[ak,DR.own.injEq]at P9;obtain⟨rfl,rfl,hl⟩:=P9;cases hl;exact⟨_,_,e1⟩
      .cases hn
     .simp only[ak]at hn;subst hn;simp only[hL,DV.h]at hxs;obtain⟨v,_,e1,rfl,rfl⟩:=hxs;exact⟨_,_,e1⟩
     .simp only[ak]at hn;subst hn;simp only[hL,DV.h]at hxs;obtain⟨v,_,e1,⟨aa,vs,cc,e2,_⟩,rfl⟩:=hxs;subst e2;exact⟨_,cc,e1⟩
     .cases hn
    obtain⟨aa,cc,e⟩:=this;refine⟨_,.int .i64 n,h,by simp only[DV.h],λw=>?_⟩;rw[hr,e];simp[builtin,Builtin.len_,hat,bj LX,goInt,aP]
   .cases h
  .rename_i hat;obtain⟨t,ti,hat,hf,mj⟩:=one hat;have LX:=Ex hf mj;split at h
   .simp only[hL,DV.h]at hxs;obtain⟨v,_,e1,rfl,rfl⟩:=hxs;refine⟨_,_,h,by simp only[DV.h];rfl,λw=>?_⟩;rw[hr,e1];simp[builtin,Builtin.len_,hat,bj LX,goInt,aP]
   .cases h
  .cases h
 .split at h
  .simp only[hL,DV.h]at hxs;obtain⟨v,_,e1,rfl,u,_,rfl,rfl,rfl⟩:=hxs;refine⟨_,_,h,by simp only[DV.h];rfl,λw=>?_⟩;rw[hr,e1];simp only[builtin,aP,run_max_int2,bn,bG]
  .cases h
 .split at h
  .simp only[hL,DV.h]at hxs;obtain⟨v,_,e1,rfl,u,_,rfl,rfl,rfl⟩:=hxs;refine⟨_,_,h,by simp only[DV.h];rfl,λw=>?_⟩;rw[hr,e1];simp only[builtin,aP,run_min_int2,bn,bG]
  .cases h
 .cases h
theorem ZA(hT:dP P T){op}(ho:o.op=op)(cH:hL E ts a.tmps.toList)(hrw:E.rw=rw)(hA:aoc E)(h:wP aj T op ts rw ret=some q):ug P E a o ret q:=by
 cases op with
 |move x=>obtain⟨p,hp,h⟩:=xB h;exact⟨p,_,h,gD hp cH,λw=>by simp[execOp,ho]⟩
 |assign x=>obtain⟨p,hp,h⟩:=xB h;exact⟨p,_,h,gD hp cH,λw=>by simp[execOp,ho]⟩
 |pick c x y=>exact arU ho cH (by rw[ho];exact h)
 |nilCheck x=>exact ac6 ho cH (by rw[ho];exact h)
 |binOp op t x y ty=>simp only[wP]at h;obtain⟨g,hg,h⟩:=xB h;obtain⟨u,hu,h⟩:=xB h;obtain⟨r,z,h,hr,hrun⟩:=aob hT h (gD hg cH) (gD hu cH) x y;refine⟨r,z,h,hr,λw=>?_⟩;have:=hrun w;simp only[execOp,ho];rw[aP,this];simp
 |unOp op t x=>exact arV ho cH (by rw[ho];exact h)
 |convert s d x=>exact af7 hT ho cH h
 |fieldAddr s x f=>exact Zx hT ho cH (by rw[ho];exact h)
 |field s x f=>exact aoe hT ho cH (by rw[ho];exact h)
 |indexAddr t x ix=>exact Zy hT ho cH hrw hA (by rw[ho];exact h)
 |extract t i=>exact af8 ho cH (by rw[ho];exact h)
 |slice t x lo hi mx=>exact aof hT ho cH h
 |build t parts=>exact aog hT ho cH (by rw[ho];exact h)
 |makeFunc fn first An=>exact ac7 ho cH (by rw[ho];exact h)
 |call c=>
  simp only[wP]at h;split at h
  .rename_i b hb;split at h
   .rename_i xs hxs;exact TU hT ho hb hrw (OS hxs cH) h
   .cases h
  .cases h
 |_=>cases h
end
theorem Bw{P}{o:Oper}{a:Act}{w:World}{N N':Act->World->Prop}{Q:Exit->Act->World->Prop}(h:o.wp P a w N Q)(k:∀a w,N a w->N' a w):o.wp P a w N' Q:=Oper.wp_mono k h
theorem fc{P}{o}{a}{w w'}{v:Value}{N:Act->World->Prop}{Q:Exit->Act->World->Prop}
 (h:(execOp a.eval o).run P w=.ok (.value v) w') (hn:N (a.put o.dst v) w'):o.wp P a w N Q:=by
 simp only[Oper.wp,h,Oper.upon];exact hn
theorem KM{P}{o}{a}{w w':World}{N:Act->World->Prop}{Q:Exit->Act->World->Prop}
 (h:(execOp a.eval o).run P w=.ok .skip w') (hn:N (a.put o.dst undef) w'):o.wp P a w N Q:=by
 simp only[Oper.wp,h,Oper.upon];exact hn
section
variable {P : Program} {T : List TI} {V : World} {U0 L : Nat -> Prop} {al : Nat -> Bool} {B : Nat -> Nat} {A : zx} {ts : List DV} {pb : ij} {rw : List DR} {a : Act} {w : World} {β : Type} {q : β} {o : Oper} {K : DK β} {Q : Exit -> Act -> World -> Prop}
def o6(V:World)(U0 L:Nat->Prop)(al:Nat->Bool)(B:Nat->Nat)(A:zx)(pb:ij)(rw:List DR)(w:World)(a:Act)(K:DK β)(q:β):Act->World->Prop:=λa' w'=>∃B' A' pe pb' rw',Mem V U0 L B' A' pb' rw' w'/\hL (env U0 B' A' pb' rw' w') pe a'.tmps.toList/\K pe pb' rw'=some q/\a'.defers=a.defers/\Ext al B A pb rw w B' A' pb' rw' w'
theorem Ext.refl:Ext al B A pb rw w B A pb rw w:=⟨λ_ h=>⟨h,rfl⟩,λ_ _ _=>rfl,λ_ h=>.inl h,au _⟩
theorem Mz{α}(f:Nat->α)(n:Nat):Fl f n (f n)=f:=by funext i;unfold Fl;split<;>simp_all
theorem OU{E}{dst}{x}{v}(h:jw dst x ts pb rw K=some q)(cH:hL E ts a.tmps.toList)(hx:x.h E v):∃pe,K pe pb rw=some q/\hL E pe (a.put dst v).tmps.toList/\(a.put dst v).defers=a.defers:=by
 cases dst with
 |none=>exact⟨ts,h,cH,rfl⟩
 |some d=>simp only[jw,kz]at h;exact⟨_,h,by simpa[Act.put]using Zs cH d hx,rfl⟩
theorem o6.ret{B'}{A'}{pe}{pb'}{rw'}{w':World}{x:DV}{v:Value}(h:jw o.dst x pe pb' rw' K=some q)(m':Mem V U0 L B' A' pb' rw' w')(cH:hL (env U0 B' A' pb' rw' w') pe a.tmps.toList)(hx:x.h (env U0 B' A' pb' rw' w') v)
 (e:Ext al B A pb rw w B' A' pb' rw' w'):o6 V U0 L al B A pb rw w a K q (a.put o.dst v) w':=by
 obtain⟨ts2,h1,h2,h3⟩:=OU h cH hx;exact⟨B',A',ts2,pb',rw',m',h2,h1,h3,e⟩
theorem o6.more{B1}{A1}{iy}{ju}{w1:World}{a1 a':Act}{w':World}(e:Ext al B A pb rw w B1 A1 iy ju w1)(hd:a1.defers=a.defers)(h:o6 V U0 L al B1 A1 iy ju w1 a1 K q a' w'):o6 V U0 L al B A pb rw w a K q a' w':=
 let ⟨B2,A2,ts2,P6,uX,m2,h2,h3,h4,e2⟩:=h
 ⟨B2,A2,ts2,P6,uX,m2,h2,h3,h4.trans hd,e.trans e2⟩
theorem nS{E E'}(s:Sub Ix E E'){ps:List DV}{vs:List Value}(h:hL E ps vs):hL E' ps vs:=by have:=ky s ps h;rwa [pg]at this
theorem OV{E E'}(s:Sub Ix E E'){p:DV}{v:Value}(h:p.h E v):p.h E' v:=by have:=DV.anU s p h;rwa [DV.anV]at this
theorem Mem.aic(m:Mem V U0 L B A pb rw w):aoc (env U0 B A pb rw w):=by
 intro j e t l hj ha;obtain⟨xs,h,_⟩:=m.row j e t l hj;have ha:(A j).1=none:=ha;rcases h.2 with⟨_,h1⟩|⟨g,cap,cur,heq,_⟩
 .exact h1
 .rw[ha]at heq;simp at heq
theorem MO{E}{t}{ti:TI}(hf:oQ P t ti){cells:List DV}{off:Nat}{cs:List Value}{ad:Addr}{ret:DV->Option β}(h:Xp ti cells off ret=some q)(hc:hL E cells cs)(hw:∀j u,cs[j]?=some u->w.cell? (ad.add j)=some u):
 ∃r u,ret r=some q/\r.h E u/\(∀w':World,w'.heap[ad.block]?=w.heap[ad.block]?->(Instr.loadAt t (.pointer (some (ad.add off)))).run P w'=.ok u w')/\cs≠[]:=by
 have hw':∀w':World,w'.heap[ad.block]?=w.heap[ad.block]?->∀j u,cs[j]?=some u->w'.cell? (ad.add j)=some u:=λw' hs j u hj=>by rw[<-hw j u hj];exact zp (by rw[jH];exact hs)
 unfold Xp at h;split at h
 .rename_i n hg hsz;split at h
  .rename_i l hl;obtain⟨rfl,hle⟩:=xA hl;refine⟨_,.agg ((cs.drop off).take (n+1)).toArray,h,by simp only[DV.h];exact⟨_,rfl,by simpa using anS hc off (n+1)⟩,λw' hs=>?_,by rintro rfl;have:=ql hc;simp at this;omega⟩;have hlen:((cs.drop off).take (n+1)).length=n+1:=by have:=ql hc;simp;omega
   have:=run_loadCells_list (P:=P) w' (ad.add off) ((cs.drop off).take (n+1)) (λj v hv=>by rw[oH];exact hw' w' hs _ _ (tx.1 hv).2);rw[hlen]at this;simp[Instr.loadAt,Instr.sureAddr,loadVar,aP,Zk hf,hg,sx hf,hsz,this]
  .cases h
 .rename_i hg;split at h
  .rename_i x hx;obtain⟨v,Vu,Vv⟩:=KG hc _ _ (OQ hx);refine⟨x,v,h,Vv,λw' hs=>?_,by rintro rfl;simp at Vu⟩;have:=hw' w' hs _ _ Vu;simp[Instr.loadAt,Instr.sureAddr,loadVar,aP,Zk hf,hg,run_load,this]
  .cases h
 .cases h
theorem KN{e}{k}{ad}{n c}{xs}(h:w.ownsRow 0 e k (.slice (some ad) n c) n xs):∃g cur,ad=⟨g,0,none⟩/\w.heap[g]?=some (.cells cur e (0,0))/\n<=c/\c<=maxLen/\cur.size=c*k/\cur.toList.take (n*k)=xs/\∀j u,xs[j]?=some u->w.cell? (ad.add j)=some u:=by
 rcases h.2 with⟨h1,_⟩|⟨g,cap,cur,heq,hb,hg,h1,h2,h3,h4⟩
 .simp at h1
 .simp only[dh,ak]at heq;obtain⟨rfl,_,rfl⟩:=heq;refine⟨g,cur,rfl,hg,h1,h2,h3,h4,λj u hj=>?_⟩;rw[<-h4,ct]at hj;split at hj
  .rw[tQ,cg,Df w g j cur e (0,0) hg];simpa using hj
  .cases hj
theorem MP(hT:dP P T)(m:Mem V U0 L B A pb rw w){t:TypeId}{p:DV}{ret:DV->Option β}(h:P5 aj T t p pb rw ret=some q){v:Value}(hp:p.h (env U0 B A pb rw w) v):
 ∃r u ad,v=.pointer (some ad)/\ret r=some q/\r.h (env U0 B A pb rw w) u/\(∀w',w'.heap[ad.block]?=w.heap[ad.block]?->(Instr.loadAt t v).run P w'=.ok u w')/\((∃i off,p=.own i off/\iK B A pb rw false i ad.block)\/(∃t x off,p=.el t x off/\¬Us U0 B A pb rw ad.block/\ad.block<w.heap.size)\/(∃j i off,p=.re j i off)\/∃l k,p=.fp l k):=by
 unfold P5 at h;split at h
 .rename_i ti hti;have hf:=sV hT hti;split at h
  .rename_i i off;simp only[DV.h]at hp;obtain⟨hl,rfl⟩:=hp;split at h
   .rename_i b hb;rw[yP]at hb;obtain⟨cs,h1,h2,_⟩:=m.box i b hb;obtain⟨r,u,g1,g2,g3,g4⟩:=MO (P:=P) (w:=w) (ad:=⟨B i,0,none⟩) hf h h2 (λj u hj=>by rw[tQ,cg,cell_of_block h1];exact hj);rw[tQ,cg]at g3;exact⟨r,u,_,rfl,g1,g2,g3,.inl ⟨i,off,rfl,hl,rfl⟩⟩
   .cases h
  .rename_i t' x off;simp only[DV.h]at hp;obtain⟨ad,us,rfl,h1,h2⟩:=hp;have hc:=t'.FF (E:=env U0 B A pb rw w) h1 (r:=[]) (us':=[]) (by simp[hL]);rw[cy]at hc
   obtain⟨r,u,g1,g2,g3,g4⟩:=MO (P:=P) (w:=w) (ad:=ad) hf h hc (λj u hj=>by
    obtain⟨x,hx,_,_,h3⟩:=h2 j u hj;simp only[ak]at hx;subst hx
    rwa [cg]at h3)
   refine⟨r,u,_,rfl,g1,g2,λw' hs=>g3 w' (by rwa [jH]at hs),.inr (.inl ⟨t',x,off,rfl,?_⟩)⟩;rw[jH];cases us with
   |nil=>exact absurd rfl g4
   |cons u0 us=>obtain⟨x,hx,h3,h4,_⟩:=h2 0 u0 rfl;simp only[ak]at hx;subst hx;exact⟨h3,h4⟩
  .rename_i l k;simp only[DV.h]at hp;obtain⟨ad,us,rfl,h1,h2⟩:=hp
   obtain⟨r,u,g1,g2,g3,g4⟩:=MO (P:=P) (w:=w) (ad:=ad) hf h h1 (λj u hj=>by
    obtain⟨x,hx,_,_,h3⟩:=h2 j u hj;simp only[ak]at hx;subst hx
    rwa [cg]at h3)
   refine⟨r,u,_,rfl,g1,g2,λw' hs=>g3 w' (by rwa [jH]at hs),.inr (.inr (.inr ⟨l,k,rfl⟩))⟩
  .rename_i j i off;simp only[DV.h]at hp;obtain⟨e,t1,l1,ad,hj,hi,ha,rfl⟩:=hp;split at h
   .rename_i e2 t' l P9;rw[gU]at P9;have hj:rw[j]?=some (.own e t1 l1):=hj;rw[hj]at P9;simp only[ak,DR.own.injEq]at P9;obtain⟨rfl,rfl,hl⟩:=P9;cases hl;obtain⟨y,hy,h⟩:=au4 h;obtain⟨xs,h1,h2⟩:=m.row j e t1 l1 hj;have ha:(A j).1=some ad:=ha;rw[ha]at h1;obtain⟨g,cur,rfl,_,_,_,_,_,hcell⟩:=KN h1;have hc:=t1.FF (E:=env U0 B A pb rw w) (h2.2 i y hy) (r:=[]) (us':=[]) (by simp[hL]);rw[cy]at hc;obtain⟨r,u,g1,g2,g3,g4⟩:=MO (P:=P) (w:=w) (ad:=(⟨g,0,none⟩:Addr).add (i*t1.size)) hf h hc (λk u hk=>by rw[oH];exact hcell _ _ (tx.1 hk).2);rw[oH]at g3;exact⟨r,u,_,rfl,g1,g2,λw' hs=>g3 w' (by rw[jH]at hs ⊢;exact hs),.inr (.inr (.inl ⟨j,i,off,rfl⟩))⟩
   .cases h
  .cases h
 .cases h
theorem arX{t}{ti}{z:Value}{zs:List Value}(hf:oQ P t ti)(hz:ti.zero=z::zs):∃zv,∀w,(zeroValue t).run P w=.ok zv w/\zv.cells=(z::zs).toArray:=by
 obtain⟨i,hi,_,hzero⟩:=MD hf;rw[hz]at hzero;cases hiz:i.zero with
 |none=>rw[hiz]at hzero;cases hzero
 |some zv=>rw[hiz]at hzero;exact⟨zv,λw=>⟨vD hi hiz w,by apply fQ;simpa using hzero.symm⟩⟩
theorem Xz:∀{pb:ij} {i:Nat},ID pb i=true->pb[i]?=some none
 |[],i,h=>by simp[ID]at h
 |o::pb,0,h=>by
  simp only[ID]at h;split at h
  .cases h
  .rfl
 |o::pb,i+1,h=>by simp only[ID]at h;simpa using Xz h
theorem ac8{av}{ty:TypeId}{cells:List DV}{cs:List Value}(hrun:(execOp a.eval o).run P w=.ok (.value (.pointer (some ⟨w.heap.size,0,none⟩))) (w.alloc (.cells cs.toArray ty)))
 (h:ahR av o.dst ty cells ts pb rw K=some q) (m:Mem V U0 L B A pb rw w) (cH:hL (env U0 B A pb rw w) ts a.tmps.toList) (hc:hL (env U0 B A pb rw w) cells cs):o.wp P a w (o6 V U0 L al B A pb rw w a K q) Q:=by
 unfold ahR at h;have key:∀(i:Nat) (pb':ij) (d:Tmp),pb'[i]?=some (some ⟨ty,cells,true⟩)->(∀j,j≠i->pb'[j]?=pb[j]?)->¬live pb i->o.dst=some d->jw (some d) (.own i 0) ts pb' rw K=some q->o.wp P a w (o6 V U0 L al B A pb rw w a K q) Q:=by intro i pb' d h1 h2 h3 hd h4;obtain⟨m',s,e⟩:=m.avW (al:=al) h1 h2 h3 hc;refine fc hrun (o6.ret (by rw[hd];exact h4) m' (nS s cH) ?_ e);simp only[DV.h];exact⟨⟨_,h1⟩,by show _=Value.pointer (some ⟨Fl B i w.heap.size i,0,none⟩);rw[nQ]⟩
 split at h
 .cases h
 .rename_i d hd;split at h
  .rename_i i hi;split at h
   .rename_i hu;have hu:=Xz hu;rw[kz]at h;have hlt:=(ay.1 hu).1;exact key i _ d (by rw[bc,ah rfl,ah hlt]) (λj hj=>by rw[bc,ag (jf hj)]) (by rintro⟨b,hb⟩;rw[hu]at hb;cases hb) hd h
   .cases h
  .rw[rL]at h;rw[yi]at h
   exact key pb.length _ d (by simp) (λj hj=>by
    rcases dS j pb.length with h'|h'
    .rw[bB h']
    .rw[bH (by simp;omega),bH h']) (by rintro⟨b,hb⟩;rw[bH (au _)]at hb;cases hb) hd h
theorem awd{t}{x}{C:GK}{av:List (Nat×Nat)}(ho:o.op=.box t x)(h:qV aj T C al av o ts pb rw K=some q)(m:Mem V U0 L B A pb rw w)(cH:hL (env U0 B A pb rw w) ts a.tmps.toList):o.wp P a w (o6 V U0 L al B A pb rw w a K q) Q:=by
 simp only[qV,ho]at h;split at h
 .rename_i p hp;split at h
  .rename_i cs Y3;have hc:=TR Y3 (gD hp cH);refine ac8 ?_ h m cH hc;have:(a.eval x).cells=((a.eval x).cells.toList).toArray:=by simp
   simp only[execOp,ho,aP,Instr.box,newVar,newRow,run_newObj,bG,bn];rfl
  .cases h
 .cases h
theorem arY{t:TypeId}{x:Operand}{C:GK}{av:List (Nat×Nat)}(hT:dP P T)(ho:o.op=.load t x)(h:qV aj T C al av o ts pb rw K=some q)(m:Mem V U0 L B A pb rw w)(cH:hL (env U0 B A pb rw w) ts a.tmps.toList):o.wp P a w (o6 V U0 L al B A pb rw w a K q) Q:=by
 simp only[qV,ho]at h;split at h
 .rename_i p hp;obtain⟨r,u,ad,hv,h1,h2,h3,_⟩:=MP hT m h (gD hp cH);exact fc (by rw[Tu ho,h3 w rfl];rfl) (o6.ret h1 m cH h2 Ext.refl)
 .cases h
theorem xC:∀(js:List Nat) {ts:List DV} {pb:ij} {rw:List DR} {ps:List DV} {K:List DV->ij->List DR->List DV->Option β} {vs us:List Value},KB js ts pb rw ps K=some q->Mem V U0 L B A pb rw w->hL (env U0 B A pb rw w) ts vs->hL (env U0 B A pb rw w) ps us->
 ∃pe pb' rw' ps',K pe pb' rw' ps'=some q/\Mem V U0 L B A pb' rw' w/\hL (env U0 B A pb' rw' w) pe vs/\hL (env U0 B A pb' rw' w) ps' us/\Ext al B A pb rw w B A pb' rw' w/\pb'.length=pb.length
 |[],ts,pb,rw,ps,K,vs,us,h,m,cH,Rb=>⟨ts,pb,rw,ps,h,m,cH,Rb,Ext.refl,rfl⟩
 |j::js,ts,pb,rw,ps,K,vs,us,h,m,cH,Rb=>by
  simp only[KB]at h;split at h
  .rename_i e t l hj;rw[gU]at hj;simp only[mN,vJ,kz]at h;obtain⟨m',s,e1⟩:=m.freeze (al:=al) hj;obtain⟨pe,pb',rw',ps',h1,m2,h2,h3,e2,h4⟩:=xC js h m' (ky s _ cH) (ky s _ Rb);exact⟨pe,pb',rw',ps',h1,m2,h2,h3,e1.trans e2,by rw[h4,AI]⟩
  .rename_i ks hj;rw[gU]at hj;simp only[mN,vJ,kz]at h;obtain⟨m',s,e1⟩:=m.akv (al:=al) hj;obtain⟨pe,pb',rw',ps',h1,m2,h2,h3,e2,h4⟩:=xC js h m' (ky s _ cH) (ky s _ Rb);exact⟨pe,pb',rw',ps',h1,m2,h2,h3,e1.trans e2,by rw[h4,AI]⟩
  .exact xC js h m cH Rb
theorem CR{b off}{xs cs}{ty}(hb:w.heap[b]?=some (.cells xs.toArray ty (0,0)))(VO:∀v∈cs,Ts v=true)(hle:off+cs.length<=xs.length):
 (storeCells ⟨b,off,none⟩ cs 0).run P w=.ok () (setCells w ⟨b,off,none⟩ 0 cs)/\(setCells w ⟨b,off,none⟩ 0 cs).heap[b]?=some (.cells (wr xs off cs).toArray ty (0,0)):=by
 refine⟨Hi (P:=P) ⟨b,off,none⟩ cs 0 w VO λj hj=>?_,by have:=Hb b off cs 0 w _ hb;rwa [gY]at this⟩;rw[cg,tQ,cell_of_block hb,Gg hb];have:off+j<xs.length:=by omega
 simp[this]
theorem ac9{t}{x y}{ti}(hf:oQ P t ti)(ho:o.op=.store t x y){b off:Nat}{xs cs:List Value}{ty:TypeId}(hx:a.eval x=.pointer (some ⟨b,off,none⟩))(hy:(a.eval y).cells.toList=cs)(hs:cs.length=ti.size)
 (hb:w.heap[b]?=some (.cells xs.toArray ty (0,0))) (VO:∀v∈cs,Ts v=true) (hle:off+cs.length<=xs.length):(execOp a.eval o).run P w=.ok .skip (setCells w ⟨b,off,none⟩ 0 cs):=by
 have hr:=akp (P:=P) (w:=w) (a:=a) ho;rw[hx]at hr;have hsz:(a.eval y).cells.size=ti.size:=by rw[<-fC,hy,hs]
 rw[hr];simp only[Instr.storeAt,Instr.sureAddr,storeVar,aP,bG,bn,sx hf,hsz,ne_eq,not_true_eq_false,oG,hy,(CR (P:=P) hb VO hle).1]
theorem Bx(b off)(cs):(setCells w ⟨b,off,none⟩ 0 cs).os=w.os/\(setCells w ⟨b,off,none⟩ 0 cs).tape=w.tape/\(setCells w ⟨b,off,none⟩ 0 cs).output=w.output/\w.heap.size<=(setCells w ⟨b,off,none⟩ 0 cs).heap.size:=by have:=Dt ⟨b,off,none⟩ cs 0 w;exact⟨this.1,this.2.1,this.2.2.1,F2 this.2.2.2.1.symm⟩
theorem aoh{t}{x y:Operand}{C:GK}{av:List (Nat×Nat)}(hT:dP P T)(ho:o.op=.store t x y)(h:qV aj T C al av o ts pb rw K=some q)(m:Mem V U0 L B A pb rw w)(cH:hL (env U0 B A pb rw w) ts a.tmps.toList):o.wp P a w (o6 V U0 L al B A pb rw w a K q) Q:=by
 simp only[qV,ho]at h;split at h
 .rename_i p v ti hp hv hti;have hf:=sV hT hti;split at h
  .rename_i cs Y3;have hc:=TR Y3 (gD hv cH);have hpp:=gD hp cH;generalize hcv:(a.eval y).cells.toList=cv at hc;split at h
   .rename_i i off hlen VO;have hlen:=aE hlen;split at h
    .rename_i b wX hb;rw[yP]at hb;split at h
     .rename_i l CA;have hle:=(xA CA).2;rw[Zu,kz]at h;simp only[DV.h]at hpp;obtain⟨_,hpp⟩:=hpp;obtain⟨xs,h1,h2,_⟩:=m.box i b hb;have hxl:=ql h2;have hcl:=ql hc;have akw:off+cv.length<=xs.length:=by omega
      have VO:=Zw VO hc;obtain⟨m',s,e⟩:=m.avX (al:=al) wX hb (anR off h2 hc) (Bx (w:=w) (B i) off _) (λb' _ hne=>yM _ _ hne _ _ _) (CR (P:=P) h1 VO akw).2;exact KM (ac9 hf ho hpp hcv (by omega) h1 VO akw) (o6.ret h m' (nS s cH) (by simp only[DV.h]) e)
     .cases h
    .cases h
   .rename_i j0 i0 a03 hlen VO;have hlen:=aE hlen;obtain⟨Hm,iy,ju,ps,h,m1,yQ,Rb,e1,_⟩:=xC (al:=al) _ h m cH (ps:=.re j0 i0 a03::cs) (us:=a.eval x::cv) (by simp only[hL];exact⟨_,_,rfl,hpp,hc⟩);split at h
    .rename_i j i off cs';simp only[hL]at Rb;obtain⟨v1,vs1,e2,KL,hc1⟩:=Rb;simp only[dO]at e2;obtain⟨rfl,rfl⟩:=e2;split at h
     .rename_i e t' l P9;rw[gU]at P9;split at h
      .rename_i hle;have hle:=bQ hle;obtain⟨z,hz,h⟩:=au4 h;rw[Zu]at h;split at h
       .rename_i y' hy';rw[kz]at h;simp only[DV.h]at KL;obtain⟨e3,t3,l3,ad,IG,hi3,ha,hpv⟩:=KL;have IG:ju[j]?=some (.own e3 t3 l3):=IG;rw[P9]at IG;simp only[ak,DR.own.injEq]at IG;obtain⟨rfl,rfl,hl3⟩:=IG;cases hl3;have ha:(A j).1=some ad:=ha;obtain⟨xs,h1,h2⟩:=m1.row j e t' l P9;rw[ha]at h1;obtain⟨g,cur,rfl,hg,hn,hcm,a04,htk,hcell⟩:=KN h1;rw[tQ,cg]at hpv;have hcl:=ql hc1;have PS:=xz (k:=t'.size) hi3;have hxl:=h2.1;have a1q:xs.length<=cur.size:=by rw[<-htk,aX];simp only[fC];omega
        have au5:=Zw VO hc;have akw:(i*t'.size+off)+cv.length<=cur.toList.length:=by have h0:cur.toList.length=cur.size:=fC;omega
        have hg':w.heap[g]?=some (.cells cur.toList.toArray e (0,0)):=by simpa using hg
        have NY:=CR (P:=P) hg' au5 akw;have hyh:∃us,t'.h (Us U0 B A iy ju) w y' us/\us=wr ((xs.drop (i*t'.size)).take t'.size) off cv:=by have Wz:=t'.FF (E:=env U0 B A iy ju w) (h2.2 i z hz) (r:=[]) (us':=[]) (by simp[hL]);rw[cy]at Wz;obtain⟨us,us',e4,h3,h4⟩:=t'.aks hy' (anR off Wz hc1);simp only[hL]at h4;subst h4;rw[cy]at e4;exact⟨us,h3,e4.symm⟩
        obtain⟨us,hus,a05⟩:=hyh
        have a06:(wr cur.toList (i*t'.size+off) cv).take (l.length*t'.size)=wr xs (i*t'.size) us:=by
         have hul:=t'.Bn hus;apply eY;intro k;rw[KA _ _ _ _ (by omega),ct];by_cases hk:k<l.length*t'.size
         .rw[ah hk,KA _ _ _ _ akw];by_cases hk1:i*t'.size<=k/\k<i*t'.size+us.length
          .rw[ah hk1,a05,KA _ _ _ _ (by rw[aX,dk];omega)];by_cases yd:off<=k-i*t'.size/\k-i*t'.size<off+cv.length
           .rw[ah (by omega),ah yd];congr 1;omega
           .rw[ag (by omega),ag yd,ct,ah (by omega),cF,<-htk,ct,ah (by omega)];congr 1;omega
          .rw[ag hk1,ag (by omega),<-htk,ct,ah hk]
         .rw[ag hk,ag (by omega),bH (by omega)]
        have hlt:=(ay.1 P9).1
        obtain⟨m2,s2,e2⟩:=m1.putRow (al:=al) (j:=j) (f:=Ix) (rw':=ju.set j (.own e t' (l.set i y'))) (e:=e) (t:=t') (l:=l.set i y') (a:=(A j).1) (c:=(A j).2) (w':=setCells w ⟨g,i*t'.size+off,none⟩ 0 cv)
         (by rw[bc,ah rfl,ah hlt]) (λk hk=>by rw[bc,ag (jf hk)]) (λ_ _ h=>by cases h)
         (λ_ e4 t4 l4 h4=>by rw[P9]at h4;simp only[ak,DR.own.injEq]at h4;obtain⟨rfl,rfl,h4⟩:=h4;cases h4;exact⟨_,by rw[bc,ah rfl,ah hlt],by simp,rfl⟩)
         (λ_ d h4=>by rw[P9]at h4;cases h4) (Bx _ _ _)
         (λb hb Xe=>yM ⟨g,i*t'.size+off,none⟩ b (λhe=>Xe ⟨_,⟨g,0,none⟩,P9,by simp,ha,he.symm⟩) _ _ _)
         (λx hx=>.inl ⟨_,x,P9,by simp,hx,rfl⟩)
         (λU' lt=>by
          refine⟨wr xs (i*t'.size) us,⟨?_,?_⟩,?_⟩
          .rw[Eo,hxl];simp
          .refine .inr ⟨g,(A j).2,(wr cur.toList (i*t'.size+off) cv).toArray,by rw[ha],bE _,NY.2,by simpa using hn,hcm,by rw[fk,Eo,fC,a04],by simpa using a06⟩
          .exact DT.avN (DT.kw lt h2) hi3 (t'.mono lt hus))
        rw[show Fl A j ((A j).1,(A j).2)=A from Mz A j]at m2 s2 e2;rw[ML]at m2 s2 e2;exact KM (ac9 hf ho hpv hcv (by have:=ql hc;omega) hg' au5 akw) (o6.more e1 rfl (o6.ret h m2 (nS s2 yQ) (by simp only[DV.h]) e2))
       .cases h
      .cases h
     .cases h
    .cases h
   .cases h
  .cases h
 .cases h
end
structure Ha(P:Program)(t e:TypeId)(size bytes:Nat):Prop where
 under:P.underlying t=some (.slice e)
 info:∃i z,P.info? e=some i/\i.zero=some z/\i.size=size/\i.bytes=bytes/\z.cells.size=size
 pos:0<size
theorem By{P}{t e}{ti te:TI}(hf:oQ P t ti)(mj:ti.td=.slice e)(he:oQ P e te)(hz:Nat.beq te.zero.length te.size=true)(hp:0<te.size):Ha P t e te.size te.bytes:=by
 obtain⟨d,i,h1,h2,h3,h4,h5,h6,h7,h8⟩:=he.ex;have hz:=aE hz;rw[h7]at hz;cases hzz:i.zero with
 |none=>rw[hzz]at hz;simp at hz;omega
 |some z=>exact⟨rK hf mj,⟨i,z,h2,hzz,h4.symm,h5.symm,by rw[hzz]at hz;simpa using hz⟩,hp⟩
theorem foldl_set:∀(cs:List Value) (off s:Nat) (pre old post:List Value),pre.length=off+s->old.length=cs.length->
 (cs.zipIdx s).foldl (λa (p:Value×Nat)=>a.setIfInBounds (off+p.2) p.1) (pre++old++post).toArray=(pre++cs++post).toArray
 |[],_,_,pre,old,post,_,ho=>by
  cases old with
  |nil=>rfl
  |cons _ _=>simp at ho
 |c::cs,off,s,pre,old,post,hp,ho=>by
  cases old with
  |nil=>simp at ho
  |cons o old=>
   simp only[List.zipIdx_cons,lq];have e:((pre++o::old++post).toArray.setIfInBounds (off+s) c)=(pre++[c]++old++post).toArray:=by rw[fw];congr 1;rw[<-hp];simp
   rw[e,foldl_set cs off (s+1) (pre++[c]) old post (by simp;omega) (by simpa using ho)];simp
def Bz:Nat->List Value->List (Nat×Value)
 |_,[]=>[]
 |i,v::vs=>(i,v)::Bz (i+1) vs
theorem TV(k):∀(vs:List Value) (i:Nat) (pre rest:List Value),pre.length=i*k->rest.length=vs.length*k->(∀v∈vs,v.cells.size=k)->
 Instr.fill (λi=>some (i*k,k)) (pre++rest).toArray (Bz i vs)=some (pre++vs.flatMap (·.cells.toList)).toArray
 |[],_,pre,rest,_,hr,_=>by
  have:rest=[]:=by cases rest<;>simp_all
  subst this;simp[Bz,Instr.fill]
 |v::vs,i,pre,rest,hp,hr,hk=>by
  have hv:=hk v (by simp);have hr':rest.length=k+vs.length*k:=by rw[hr,aJ,l5];omega
  simp only[Bz,Instr.fill];rw[ag (by simp[hv,hp];omega)];have hs:pre++rest=pre++rest.take k++rest.drop k:=by simp
  have hz:v.cells.zipIdx.foldl (λcs (p:Value×Nat)=>cs.setIfInBounds (i*k+p.2) p.1) (pre++rest).toArray=(pre++v.cells.toList++rest.drop k).toArray:=by rw[<-Array.foldl_toList,Array.toList_zipIdx,hs];exact foldl_set v.cells.toList (i*k) 0 pre (rest.take k) (rest.drop k) (by simpa using hp) (by simp[hv];omega)
  rw[hz,TV k vs (i+1) (pre++v.cells.toList) (rest.drop k) (by simp[hp,hv,l5]) (by simp;omega) (λu hu=>hk u (by simp[hu]))];simp
theorem Qd{α}{k}:∀{els:List (List α)} {i:Nat} {cs:List α},(∀l∈els,l.length=k)->els[i]?=some cs->∀j r,cs[j]?=some r->els.flatten[i*k+j]?=some r
 |[],i,cs,_,h,_,_,_=>by simp at h
 |l::els,i,cs,hk,h,j,r,hj=>by
  have hl:=hk l (by simp);have hj':=(ay.1 hj).1;cases i with
  |zero=>simp at h;subst h;simp only[wG,oE,cg];rw[bB hj'];exact hj
  |succ i=>simp only[wG];rw[dz (by rw[hl,l5];omega),show(i+1)*k+j-l.length=i*k+j by rw[hl,l5];omega];exact Qd (λl hl=>hk l (by simp[hl])) (by simpa using h) j r hj
theorem MQ{α}(zs:List α):∀n,(List.replicate n zs).flatten.length=n*zs.length
 |0=>by simp
 |n+1=>by rw[pk,wG,ap,MQ zs n,l5];omega
theorem XA {z} {n c k : Nat} (hk : z.size = k) (hn : n <= c) : (madeCells z (c * k)).toList.take (n * k) = (List.replicate n z.toList).flatten := by
  have hnc := dL k hn
  apply eY
  intro t
  by_cases ht : t < n * k
  · have hk0 : 0 < k := by rcases fv k with h | h; · subst h; simp at ht
                           · exact h
    have hfk : ∀ l ∈ List.replicate n z.toList, l.length = k := λl hl => by rw [(List.mem_replicate.1 hl).2]; simpa using hk
    have hdiv := (nj hk0).2 ht
    have a07 : t % k < k := Ch _ hk0
    have N1 := Qd (k := k) (els := List.replicate n z.toList) (i := t / k) (cs := z.toList) hfk (by rw [List.getElem?_replicate, ah hdiv]) (t % k) (z.toList[t % k]'(by simpa [hk] using a07)) (aw _)
    rw [Nat.div_add_mod' t k] at N1
    rw [dx ht, N1, dt, madeCells, Array.getElem?_map, Array.getElem?_range, ah (by omega)]
    simp only [fK, hk]
    rw [l6 z (t % k) (by omega)]; rfl
  · rw [List.getElem?_take_eq_none (by omega), bH (by rw [MQ, fC, hk]; omega)]
theorem akx{z}{n k}(hk:z.size=k):(Builtin.zeroCells z n).toList=(List.replicate n z.toList).flatten:=by
 have h:=XA (z:=z) (n:=n) (c:=n) hk (au _);have e:Builtin.zeroCells z n=madeCells z (n*k):=by rw[<-hk];rfl
 rw[e,<-h,lZ];simp[madeCells]
theorem VP{P}(w)(t e ty)(z)(ht:P.underlying t=some (.slice e))(hv:∀w,(zeroValue e).run P w=.ok z w)(b o n c)(hn:0<n)
 (hc:∀j,j<(Builtin.zeroCells z.cells n).toList.length->(w.cell? ⟨b,o+j,none⟩).isSome=true) (hf:∀j,j<(Builtin.zeroCells z.cells n).toList.length->w.frozen? ⟨b,o+j,none⟩=false) (h1:∀v∈(Builtin.zeroCells z.cells n).toList,v.oneCell'=true):
 (Builtin.clear_ #[t] ty #[.slice (some ⟨b,o,none⟩) n c]).run P w=.ok (.tuple #[]) (w.setCells b o (Builtin.zeroCells z.cells n).toList):=by
 have NY:=zo (P:=P) b o (Builtin.zeroCells z.cells n).toList 0 w (by simpa using hc) (by simpa using hf) h1;simp only[gY]at NY;obtain⟨m,rfl⟩:∃m,n=m+1:=⟨n-1,by omega⟩;simp[Builtin.clear_,bj ht,hv,NY]
theorem TW{P}(w)(t e ty)(ht:P.underlying t=some (.slice e))(a)(c):
 (Builtin.clear_ #[t] ty #[.slice a 0 c]).run P w=.ok (.tuple #[]) w:=by
 cases a<;>simp[Builtin.clear_,bj ht]
theorem EB{P}{t ty e}{size bytes n c c2}{a a2}(he:Ha P t e size bytes)(hn:n<=c)(w):
 (Builtin.append_ #[t,t] ty #[.slice a n c,.slice a2 0 c2]).run P w=.ok (.slice a n c) w:=by
 obtain⟨i,z,hi,hz,hs,hb,hzs⟩:=he.info;have hf:(Builtin.firstCells i.size 0 (.slice a2 0 c2)).run P w=.ok #[] w:=by cases a2<;>simp[Builtin.firstCells,loadCells,loadCellsFrom]
 cases a<;>simp[Builtin.append_,bj he.under,sizeOf,typeInfo,hi,Builtin.lenOf,hn,hf,storeCells]
theorem ic:maxLen=9223372036854775807:=by simp[maxLen]
theorem DT.aoi{U}{w}{t:DT}{x:t.den}{v:Value}(h:t.hv U w x v)(_:0<t.size):t.h U w x v.cells.toList:=by
 obtain⟨us,h1,rfl⟩:=h;cases ha:t.agg with
 |true=>simpa[Value.cells]using h1
 |false=>
  have hl:=t.Bn h1;rw[DT.ay5 t ha]at hl;obtain⟨u,rfl⟩:=List.length_eq_one_iff.1 hl;have hp:=t.Xf h1 u (by simp);have:u.cells = #[u]:=by cases u<;>simp_all [vA,Value.cells]
  simpa[this]using h1
section
variable {P : Program} {T : List TI} {V : World} {U0 L : Nat -> Prop} {al : Nat -> Bool} {B : Nat -> Nat} {A : zx} {ts : List DV} {pb : ij} {rw : List DR} {a : Act} {w w' : World} {β : Type} {q : β} {o : Oper} {K : DK β} {Q : Exit -> Act -> World -> Prop} {C : GK} {av : List (Nat × Nat)}
theorem Mem.arZ(m:Mem V U0 L B A pb rw w){e:TypeId}{t:DT}{l:List t.den}{a:Option Addr}{c:Nat}{xs:List Value}(hr:w'.os=w.os/\w'.tape=w.tape/\w'.output=w.output/\w.heap.size<=w'.heap.size)(hk:∀b,b<w.heap.size->w'.heap[b]?=w.heap[b]?)
 (ha:∀x,a=some x->w.heap.size<=x.block/\x.block<w'.heap.size) (ho:w'.ownsRow 0 e t.size (.slice a l.length c) l.length xs) (hs:t.hs (Us U0 B A pb rw) w l xs):
 Mem V U0 L B (Fl A rw.length (a,c)) pb (rw++[.own e t l]) w'/\Sub Ix (env U0 B A pb rw w) (env U0 B (Fl A rw.length (a,c)) pb (rw++[.own e t l]) w')/\Ext al B A pb rw w B (Fl A rw.length (a,c)) pb (rw++[.own e t l]) w'/\(DV.row rw.length).h (env U0 B (Fl A rw.length (a,c)) pb (rw++[.own e t l]) w') (.slice a l.length c):=by
 have hn:rw[rw.length]?=none:=bH (au _);have hj:(rw++[DR.own e t l])[rw.length]?=some (.own e t l):=by simp
 have:=m.putRow (al:=al) (j:=rw.length) (f:=Ix) (rw':=rw++[.own e t l]) (e:=e) (t:=t) (l:=l) (a:=a) (c:=c) (w':=w') hj (λi hi=>by
  rcases dS i rw.length with h|h
  .rw[bB h]
  .rw[bH (by simp;omega),bH h])
  (λ_ _ h=>by cases h) (λ_ e t l h=>by rw[hn]at h;cases h) (λ_ d h=>by rw[hn]at h;cases h) hr (λb hb _=>hk b hb) (λx hx=>.inr (ha x hx)) (λU' lt=>⟨xs,ho,DT.kw lt hs⟩)
 rw[ML]at this;refine⟨this.1,this.2.1,this.2.2,?_⟩;simp only[DV.h];exact⟨e,t,l,hj,by show _=Value.slice (Fl A rw.length (a,c) rw.length).1 _ (Fl A rw.length (a,c) rw.length).2;rw[nQ]⟩
theorem BA{e:TypeId}{t:DT}{l:List t.den}{a':Option Addr}{c:Nat}{xs:List Value}(m:Mem V U0 L B A pb rw w)(cH:hL (env U0 B A pb rw w) ts a.tmps.toList)(hrun:(execOp a.eval o).run P w=.ok (.value (.slice a' l.length c)) w')
 (hr:w'.os=w.os/\w'.tape=w.tape/\w'.output=w.output/\w.heap.size<=w'.heap.size) (hk:∀b,b<w.heap.size->w'.heap[b]?=w.heap[b]?)
 (ha:∀x,a'=some x->w.heap.size<=x.block/\x.block<w'.heap.size) (ho:w'.ownsRow 0 e t.size (.slice a' l.length c) l.length xs) (hs:t.hs (Us U0 B A pb rw) w l xs)
 (h:(vG rw (.own e t l) λrw'=>Gz rw.length λn=>jw o.dst (.row n) ts pb rw' K)=some q):o.wp P a w (o6 V U0 L al B A pb rw w a K q) Q:=by
 rw[rL,yi]at h;obtain⟨m',s,e1,af5⟩:=m.arZ (al:=al) hr hk ha ho hs;exact fc hrun (o6.ret h m' (nS s cH) af5 e1)
theorem ZB{U}{t}{l}{aa:Option Addr}{c:Nat}(h:(DT.slc t).h U w l [.slice aa l.length c])(h0:0<t.size)(hl:0<l.length):
 ∃ad us,aa=some ad/\us.length=l.length*t.size/\t.hs U w l us/\∀j u,us[j]?=some u->w.cell? (ad.add j)=some u:=by
 obtain⟨a',c',e,_,_,hel⟩:=h;simp only[dO,dh,oA]at e;obtain⟨rfl,_,rfl⟩:=e;obtain⟨ad,rfl⟩:∃ad,aa=some ad:=by obtain⟨us,h1,h2⟩:=hel 0 _ (aw hl);have:=t.Bn h1;obtain⟨x,hx,_⟩:=h2 0 _ (aw (by omega));exact⟨x,hx⟩
 have all:∀(n:Nat),n<=l.length->∃us,us.length=n*t.size/\t.hs U w (l.take n) us/\∀j u,us[j]?=some u->w.cell? (ad.add j)=some u:=by
  intro n;induction n with
  |zero=>intro _;exact⟨[],by simp,by simpa using DT.FB,by simp⟩
  |succ n ih=>
   intro hn;obtain⟨us,h1,h2,h3⟩:=ih (by omega);obtain⟨vs,g1,g2⟩:=hel n _ (aw (by omega));have gl:=t.Bn g1;refine⟨us++vs,by simp[h1,gl,l5],?_,λj u hj=>?_⟩
   .rw[List.take_add_one,aw (by omega)];exact DT.Du h2 (DT.Y5 g1)
   .rcases dS j us.length with hlt|hge
    .rw[bB hlt]at hj;exact h3 j u hj
    .rw[dz hge]at hj;obtain⟨x,hx,_,_,g3⟩:=g2 _ u hj;simp only[ak]at hx;subst hx
     rwa [show n*t.size+(j-us.length)=j by omega]at g3
 obtain⟨us,h1,h2,h3⟩:=all l.length (au _);exact⟨ad,us,rfl,h1,by simpa using h2,h3⟩
theorem Qe{row}(hg:w.grownBy w' row):w'.os=w.os/\w'.tape=w.tape/\w'.output=w.output/\w.heap.size<=w'.heap.size:=⟨hg.os,hg.tape,hg.output,hg.size⟩
theorem CS(ob):(w.alloc ob).os=w.os/\(w.alloc ob).tape=w.tape/\(w.alloc ob).output=w.output/\w.heap.size<=(w.alloc ob).heap.size:=⟨rfl,rfl,rfl,by simp⟩
theorem aoj{c}{b}(ho:o.op=.call c)(GA:c.callee=.builtin b):(execOp a.eval o).run P w=(builtin b c.argTypes o.type (c.args.map λ| .const _=>true|_=>false) (c.args.toList.map a.eval).toArray).run P w:=by
 have:c.args.map a.eval=(c.args.toList.map a.eval).toArray:=by apply fQ;simp
 simp only[execOp,ho,resolve,GA,aP,bG,bn,invoke,this];rfl
theorem aky{c}{xs:List DV}(hT:dP P T)(ho:o.op=.call c)(GA:c.callee=.builtin .append)(hxs:hL (env U0 B A pb rw w) xs (c.args.toList.map a.eval))(h:qV aj T C al av o ts pb rw K=some q)(af9:opsV ts c.args.toList=some xs)
 (m:Mem V U0 L B A pb rw w) (cH:hL (env U0 B A pb rw w) ts a.tmps.toList):o.wp P a w (o6 V U0 L al B A pb rw w a K q) Q:=by
 simp only[qV,ho,GA,af9]at h;split at h
 .rename_i p1 p2;obtain⟨Hm,iy,ju,ps,h,m1,yQ,Rb,e1,_⟩:=xC (al:=al) _ h m cH hxs;split at h
  .rename_i p1 p2 t t' hat;split at h
   .rename_i e mj;obtain⟨ti,TX,mj⟩:=pZ hT mj;split at h
    .rename_i te Ra;have Jx:=sV hT Ra;split at h
     .rename_i t2 news htt hz;have htt:=aE htt;subst htt;have awc:c.argTypes = #[t,t]:=fQ (by simpa using hat);simp only[hL]at Rb;obtain⟨v1,_,ea,KL,v2,_,rfl,Ss,rfl⟩:=Rb;simp only[DV.h]at Ss;obtain⟨a2,c2,ev2,_⟩:=id Ss;simp only[dO,oA]at ev2;subst ev2;have Ho:(execOp a.eval o).run P w=((Builtin.append_ #[t,t] o.type #[v1,.slice a2 news.length c2]).run P w).andThen λv w'=>.ok (.value v) w':=by rw[aoj ho GA,awc,ea];simp only[builtin,aP,bG]
      split at h
      .rename_i j h0;have h0:=bQ h0;split at h
       .rename_i e2 t1 l hj;rw[gU]at hj;split at h
        .rename_i hh hee hsz au6;have hee:=aE hee;have hsz:=aE hsz;subst hee;subst hh;obtain⟨r1,r2,h⟩:=TQ h;simp only[mN,vJ,kz]at h;simp only[DV.h]at KL;obtain⟨e3,t3,l3,IG,ev1⟩:=KL;have IG:ju[j]?=some (.own e3 t3 l3):=IG;rw[hj]at IG;simp only[ak,DR.own.injEq]at IG;obtain⟨rfl,rfl,hl3⟩:=IG;cases hl3;subst ev1;simp only[env]at Ho;obtain⟨xs1,ho1,hs1⟩:=m1.row j e t2 l hj;have Jb:=By TX mj Jx hz (by omega);have LY:=(ay.1 hj).1
         have fin:∀(a':Option Addr) (c':Nat) (w2:World) (xs2:List Value),w.grownBy w2 (Value.slice (A j).1 l.length (A j).2).ownBlock->((Value.slice a' (l.length+news.length) c').ownBlock=(Value.slice (A j).1 l.length (A j).2).ownBlock\/(Value.slice a' (l.length+news.length) c').ownBlock=some w.heap.size)->
          w2.ownsRow 0 e t2.size (.slice a' (l.length+news.length) c') (l.length+news.length) xs2->t2.hs (Us U0 B A iy ju) w (l++news) xs2->
          o6 V U0 L al B A pb rw w a K q (a.put o.dst (.slice a' (l.length+news.length) c')) w2:=by
          intro a' c' w2 xs2 hg a08 how hsw
          have u9:∀b,(Value.slice (A j).1 l.length (A j).2).ownBlock=some b↔iK B A iy ju true j b:=by
           intro b;constructor
           .intro hb;cases hA:(A j).1 with
            |none=>rw[hA]at hb;simp[Value.ownBlock]at hb
            |some ad=>rw[hA]at hb;simp only[Value.ownBlock,ak]at hb;exact⟨_,ad,hj,by simp,hA,hb⟩
           .rintro⟨r,ad,_,_,hA,rfl⟩;rw[hA];rfl
          obtain⟨m2,s2,e2⟩:=m1.putRow (al:=al) (j:=j) (f:=j6 j .jz) (rw':=ju.set j (.own e t2 (l++news))) (e:=e) (t:=t2) (l:=l++news) (a:=a') (c:=c') (w':=w2)
           (by rw[bc,ah rfl,ah LY]) (λk hk=>by rw[bc,ag (jf hk)])
           (λi p hp=>by
            unfold j6 at hp;split at hp
            .rename_i hb;simp only[ak]at hp;exact⟨aE hb,hp.symm⟩
            .cases hp)
           (λhn=>by simp[j6]at hn) (λhn=>by simp[j6]at hn) (Qe hg) (λb hb Xe=>hg.block b hb λh=>Xe ((u9 b).1 h.symm))
           (λx hx=>by
            subst hx;rcases a08 with h'|h'
            .exact .inl ((u9 _).1 h'.symm)
            .simp only[Value.ownBlock,ak]at h';have:=(how.lt x.block rfl).2;exact .inr ⟨by omega,this⟩)
           (λU' lt=>⟨xs2,by rw[ap];exact how,DT.kw lt hsw⟩)
          refine o6.more e1 rfl (o6.ret h m2 (ky s2 _ yQ) ?_ e2);simp only[DV.h];have VN:(ju.set j (DR.own e t2 (l++news)))[j]?=some (.own e t2 (l++news)):=by rw[bc,ah rfl,ah LY]
          exact⟨e,t2,l++news,VN,by show _=Value.slice (Fl A j (a',c') j).1 _ (Fl A j (a',c') j).2;rw[nQ,ap]⟩
         rcases fv news.length with hn0|hn0
         .have hnil:=dK.1 hn0;have hrun:=EB (P:=P) (t:=t) (ty:=o.type) (n:=l.length) (c:=(A j).2) (c2:=c2) (a:=(A j).1) (a2:=a2) Jb (TP ho1).1 w;refine fc (by rw[Ho,hn0];rw[hrun];rfl) ?_;have:=fin (A j).1 (A j).2 w xs1 ⟨rfl,rfl,rfl,au _,λ_ _ _=>rfl⟩ (.inl (by rw[hn0];rfl)) (by rw[hn0];exact ho1) (by rw[hnil];simpa using hs1);rw[hn0]at this;exact this
         .obtain⟨ad,us,rfl,hul,hus,Y3⟩:=ZB Ss h0 hn0;obtain⟨i,z,hi,Wz,akz,hb,hzs⟩:=Jb.info;obtain⟨v',w2,hrun,ho2,hg,_,ak0⟩:=run_append_own_at (P:=P) w 0 t o.type e i z te.size te.bytes Jb.under hi Wz akz hb hzs Jb.pos (.slice (A j).1 l.length (A j).2) l.length xs1 (by rw[<-hsz];exact ho1) ad news.length c2 us (by rw[hul,hsz]) Y3 (λu hu=>(rJ (DT.Ep hus u hu)).2) (by rw[ic];omega) r2 (bE _)
          obtain⟨a',c',rfl⟩:∃a' c',v'=.slice a' (l.length+news.length) c':=by
           rcases ho2.2 with⟨rfl,h'⟩|⟨g,cap,cur,rfl,_⟩
           .exact⟨none,0,by rw[h']⟩
           .exact⟨_,_,rfl⟩
          exact fc (by rw[Ho,hrun];rfl) (fin a' c' w2 _ hg ak0 (by rw[hsz];exact ho2) (DT.Du hs1 hus))
        .cases h
       .cases h
      .rename_i h0;have h0:=bQ h0;split at h
       .rename_i hsz;have hsz:=aE hsz;obtain⟨r1,r2,h⟩:=TQ h;simp only[DV.h]at KL;subst KL;have Jb:=By TX mj Jx hz (by omega);rcases fv news.length with hn0|hn0
        .have hnil:=dK.1 hn0;have hrun:=EB (P:=P) (t:=t) (ty:=o.type) (n:=0) (c:=0) (c2:=c2) (a:=none) (a2:=a2) Jb (au _) w;rw[hn0]at Ho;rw[hrun]at Ho;subst hnil;have:=BA (P:=P) (Q:=Q) (al:=al) (e:=e) (t:=t2) (l:=[]) (a':=none) (c:=0) (xs:=[]) m1 yQ (w':=w) Ho ⟨rfl,rfl,rfl,au _⟩ (λ_ _=>rfl) (λx hx=>by cases hx) (wJ w 0 e t2.size) DT.FB h;exact Bw this λa' w' hn=>o6.more e1 rfl hn
        .obtain⟨ad,us,rfl,hul,hus,Y3⟩:=ZB Ss h0 hn0;obtain⟨i,z,hi,Wz,akz,hb,hzs⟩:=Jb.info;obtain⟨v',w2,hrun,ho2,hg,_,ak0⟩:=run_append_own_at (P:=P) w 0 t o.type e i z te.size te.bytes Jb.under hi Wz akz hb hzs Jb.pos (.slice none 0 0) 0 [] (wJ w 0 e te.size) ad news.length c2 us (by rw[hul,hsz]) Y3 (λu hu=>(rJ (DT.Ep hus u hu)).2) (by rw[ic];omega) (by rw[cg];exact r2) (bE _)
         obtain⟨a',c',rfl⟩:∃a' c',v'=.slice a' (0+news.length) c':=by
          rcases ho2.2 with⟨rfl,h'⟩|⟨g,cap,cur,rfl,_⟩
          .exact⟨none,0,by rw[h']⟩
          .exact⟨_,_,rfl⟩
         rw[cg]at hrun ho2 ak0;rw[hrun]at Ho
         have:=BA (P:=P) (Q:=Q) (al:=al) (e:=e) (t:=t2) (l:=news) (a':=a') (c:=c') (xs:=us) m1 yQ (w':=w2) Ho (Qe hg) (λb hb=>hg.block b hb (by simp[Value.ownBlock])) (λx hx=>by
          subst hx;have:=(ho2.lt x.block rfl).2;rcases ak0 with h'|h'
          .simp[Value.ownBlock]at h'
          .simp only[Value.ownBlock,ak]at h';omega) (by rw[hsz];simpa using ho2) hus h
         exact Bw this λa' w' hn=>o6.more e1 rfl hn
       .cases h
      .rename_i t1 l h0;have h0:=bQ h0;split at h
       .rename_i hh y ys hsz au6 _;have hsz:=aE hsz;subst hh;obtain⟨r1,r2,h⟩:=TQ h;simp only[DV.h]at KL;obtain⟨KL,aa,ev1⟩:=KL;subst ev1;have Jb:=By TX mj Jx hz (by omega);have hn0:0<(y::ys).length:=by simp
        obtain⟨i,z,hi,Wz,akz,hb,hzs⟩:=Jb.info;obtain⟨ad,vs,rfl,hvl,hvs,hcv⟩:=ZB Ss h0 hn0
        obtain⟨us,hul,hus,hold⟩:∃us:List Value,us.length=l.length*t2.size/\t2.hs (Us U0 B A iy ju) w l us/\(Builtin.firstCells i.size l.length (.slice aa l.length l.length)).run P w.drew=.ok us.toArray w.drew:=by
         rcases fv l.length with hl0|hl0
         .have hnil:=dK.1 hl0;subst hnil;refine⟨[],by simp,DT.FB,?_⟩;cases aa with
          |none=>exact run_firstCells_none w.drew _ _ _ _
          |some b=>exact th w.drew _ _ b _ _ [] (by simp) (λj v hj=>by simp at hj)
         .obtain⟨ad2,us,rfl,hul,hus,Y3⟩:=ZB KL h0 hl0;exact⟨us,hul,hus,th w.drew _ _ ad2 _ _ us (by rw[hul,hsz,akz]) λj v hj=>Y3 j v hj⟩
        have hsrc:Src P i.size t (.slice (some ad) (y::ys).length c2) (y::ys).length vs w:=by rw[akz,<-hsz];exact Src.ofSlice w Jb.under ad (y::ys).length c2 vs hvl hcv (λu hu=>(rJ (DT.Ep hvs u hu)).2)
        have hrun:=run_append_grow_src (P:=P) w t t o.type e i z Jb.under hi Wz aa l.length l.length us hold (.slice (some ad) (y::ys).length c2) (y::ys).length vs hsrc (by omega) (by omega) (by rw[hb];exact growslice_fits (by omega) r2);rw[hrun]at Ho;have hC:=Dg w (l.length+(y::ys).length) l.length e;have hC2:=qy w (l.length+(y::ys).length) l.length e (by rw[ic];omega);generalize grownCap w (l.length+(y::ys).length) l.length e=C at *;rw[<-ap]at Ho;have wX:(us++vs).length=(l++(y::ys)).length*t2.size:=by rw[ap,ap,hul,hvl,im]
        have:=BA (P:=P) (Q:=Q) (al:=al) (e:=e) (t:=t2) (l:=l++(y::ys)) (a':=some ⟨w.heap.size,0,none⟩) (c:=C) (xs:=us++vs) m1 yQ Ho ⟨rfl,rfl,rfl,by simp⟩ (λb hb=>nc w.drew _ hb)
         (λx hx=>by simp only[ak]at hx;subst hx;exact⟨au _,by simp⟩)
         ⟨wX,.inr ⟨w.heap.size,C,_,rfl,bE _,kM w.drew _,by rw[ap];exact hC,hC2,by
          rw[iW,size_zeroCells,hzs,fk,wX,hsz,ap,<-im];congr 1;omega,by
          rw[Array.toList_append,List.toList_toArray,<-wX,List.take_left'];rfl⟩⟩ (DT.Du hus hvs) h
        exact Bw this λa' w' hn=>o6.more e1 rfl hn
       .cases h
      .cases h
     .cases h
    .cases h
   .cases h
  .cases h
 .cases h
end
theorem afA{β}{q}{i:Int}{n:Nat}{K:Nat->Option β}(h:afx i n K=some q):0<=i/\i<=(n:Int)/\K i.toNat=some q:=anW (by change afx i n K=_;exact h)
theorem MR(g o):∀(vs:List Value) (i:Nat) (w:World),w.setCells g (o+i) vs=setCells w ⟨g,o,none⟩ i vs
 |[],_,_=>rfl
 |v::vs,i,w=>by simp only[World.setCells,setCells,tQ];rw[<-MR g o vs (i+1),DW]
theorem au7{U}{w}{t:DT}{zero:List Value}{z:t.den}(h:t.of (Dv zero)=some (z,[])):t.h U w z zero:=by obtain⟨us,us',e,h1,h2⟩:=t.aks (E:=⟨U,w,λ_=>0,λ_=>(none,0),[],[]⟩) h (Hn zero);simp only[hL]at h2;subst h2;rw[cy]at e;subst e;exact h1
theorem aid{E}{t}(h0:0<t.size):∀{ps:List (Nat×DV)} {n:Nat} {l:List t.den} {vs:List Value},an9 t ps n=some l->hL E (ps.map (·.2)) vs->
 t.hs E.U E.w l (vs.flatMap (·.cells.toList))/\(∀v∈vs,v.cells.size=t.size)/\(List.zip (ps.map (·.1)) vs)=Bz n vs/\l.length=vs.length
 |[],n,l,vs,h,hv=>by simp[an9]at h;subst h;simp only[oF,hL]at hv;subst hv;exact⟨by simpa using DT.FB,by simp,rfl,rfl⟩
 |(i,p)::ps,n,l,vs,h,hv=>by
  simp only[an9]at h;split at h
  .rename_i x hi hx;have hi:=aE hi;subst hi;split at h
   .rename_i l' Ti;simp only[ak]at h;subst h;simp only[bK,hL]at hv;obtain⟨v,Cz,rfl,h1,h2⟩:=hv;obtain⟨g1,g2,g3,g4⟩:=aid h0 Ti h2;have hc:=DT.aoi (DT.Xt hx h1) h0;refine⟨?_,?_,?_,by simp[g4]⟩
    .simp only[cw];exact DT.Du (DT.Y5 hc) g1
    .intro u hu;rcases aF.1 hu with rfl|hu
     .have:=t.Bn hc;simpa using this
     .exact g2 u hu
    .simp only[bK,Cm,Bz,g3]
   .cases h
  .cases h
theorem aie:∀{ps:List (Nat×DV)} {qs:List DV},qs.length=ps.length->(TA ps qs).map (·.2)=qs/\(TA ps qs).map (·.1)=ps.map (·.1)
 |[],[],_=>⟨rfl,rfl⟩
 |[],_::_,h=>by simp at h
 |_::_,[],h=>by simp at h
 |(i,p)::ps,q::qs,h=>by obtain⟨h1,h2⟩:=aie (ps:=ps) (qs:=qs) (by simpa using h);simp[TA,h1,h2]
theorem afB:∀(ps:List (Nat×DV)),Xq ps=ps.map (·.2)
 |[]=>rfl
 |(_,p)::ps=>by simp[Xq,afB ps]
section
variable {P : Program} {T : List TI} {V : World} {U0 L : Nat -> Prop} {al : Nat -> Bool} {B : Nat -> Nat} {A : zx} {ts : List DV} {pb : ij} {rw : List DR} {a : Act} {w w' : World} {β : Type} {q : β} {o : Oper} {K : DK β} {Q : Exit -> Act -> World -> Prop} {C : GK} {av : List (Nat × Nat)}
theorem TY{Hm}{iy}{ju:List DR}(h:ug P (env U0 B A iy ju w) a o (λy=>jw o.dst y Hm iy ju K) q)(m1:Mem V U0 L B A iy ju w)(cH:hL (env U0 B A iy ju w) Hm a.tmps.toList)(e:Ext al B A pb rw w B A iy ju w):o.wp P a w (o6 V U0 L al B A pb rw w a K q) Q:=by obtain⟨r,v,h1,h2,h3⟩:=h;exact fc (h3 w) (o6.ret h1 m1 cH h2 e)
theorem aok{t}{C}{av:List (Nat×Nat)}(hT:dP P T)(ho:o.op=.alloc t)(h:qV aj T C al av o ts pb rw K=some q)(m:Mem V U0 L B A pb rw w)(cH:hL (env U0 B A pb rw w) ts a.tmps.toList):o.wp P a w (o6 V U0 L al B A pb rw w a K q) Q:=by
 simp only[qV,ho]at h;split at h
 .rename_i ti hti;have hf:=sV hT hti;split at h
  .rename_i z zs hz;obtain⟨zv,hzv⟩:=arX hf hz;refine ac8 ?_ h m cH (Hn _);simp only[execOp,ho,aP,Instr.alloc,(hzv w).1,bn,newVar,newRow,run_newObj,bG,(hzv w).2];rfl
  .cases h
 .cases h
theorem aol{t}{x}{lo hi mx:Option Operand}(hT:dP P T)(ho:o.op=.slice t x lo hi mx)(h:qV aj T C al av o ts pb rw K=some q)(m:Mem V U0 L B A pb rw w)(cH:hL (env U0 B A pb rw w) ts a.tmps.toList):o.wp P a w (o6 V U0 L al B A pb rw w a K q) Q:=by
 simp only[qV,ho]at h;split at h
 .rename_i j n hc
  obtain⟨oh,k,rfl,rfl,rfl,hx,hh⟩:∃oh k,lo=none/\hi=some oh/\mx=none/\wO ts x=some (.row j)/\wO ts oh=some (.int k n):=by
   unfold ayu at hc;split at hc
   .split at hc
    .rename_i j' h' hx';split at hc
     .rename_i k n' GO;simp only[ak,bV]at hc;obtain⟨rfl,rfl⟩:=hc;exact⟨h',k,rfl,rfl,rfl,hx',GO⟩
     .cases hc
    .cases hc
   .cases hc
  have KL:=gD hx cH;have Ss:=gD hh cH;simp only[DV.h]at KL Ss;split at h
  .rename_i e e2 t' l mj hj;obtain⟨ti,TX,mj⟩:=pZ hT mj;rw[gU]at hj;split at h
   .rename_i te Ra;have Jx:=sV hT Ra;split at h
    .rename_i hee hsz;have hee:=aE hee;have hsz:=aE hsz;subst hee;obtain⟨h0,h1,h⟩:=afA h;simp only[mN,vJ,kz]at h;obtain⟨e3,t3,l3,IG,ev1⟩:=KL;have IG:rw[j]?=some (.own e3 t3 l3):=IG;rw[hj]at IG;simp only[ak,DR.own.injEq]at IG;obtain⟨rfl,rfl,hl3⟩:=IG;cases hl3;obtain⟨xs1,ho1,hs1⟩:=m.row j e t' l hj;have LY:=(ay.1 hj).1;have a1r:=TP ho1;obtain⟨c,rfl⟩:∃c:Nat,n=c:=⟨n.toNat,by omega⟩;have hcl:c<=l.length:=by omega
     simp only[aU]at h;have htk:(l.take c).length=c:=by rw[aX];omega
     have hrun:(execOp a.eval o).run P w=.ok (.value (.slice (A j).1 c (A j).2)) w:=by have ev1:a.eval x=.slice (A j).1 l.length (A j).2:=ev1;simp only[execOp,ho,aP,bG,lr,fK,ev1,Ss,Instr.sliceAt,Instr.slice,bj (rK TX mj),bn,Instr.sliceBounds,sR,iq w k c (A j).2 .sliceAcap (by omega) (by omega),sx Jx,oE,F3,aU];congr 3;cases(A j).1<;>simp[Addr.add]
     obtain⟨m2,s2,e2⟩:=m.putRow (al:=al) (j:=j) (f:=j6 j .jz) (rw':=rw.set j (.own e t' (l.take c))) (e:=e) (t:=t') (l:=l.take c) (a:=(A j).1) (c:=(A j).2) (w':=w)
      (by rw[bc,ah rfl,ah LY]) (λk hk=>by rw[bc,ag (jf hk)])
      (λi p hp=>by
       unfold j6 at hp;split at hp
       .rename_i hb;simp only[ak]at hp;exact⟨aE hb,hp.symm⟩
       .cases hp)
      (λhn=>by simp[j6]at hn) (λhn=>by simp[j6]at hn) ⟨rfl,rfl,rfl,au _⟩ (λb hb Xe=>rfl)
      (λy hy=>.inl ⟨_,y,hj,by simp,hy,rfl⟩)
      (λU' lt=>⟨xs1.take (c*t'.size),by
       rw[htk];refine⟨by rw[aX,ho1.1];exact jQ (dL _ hcl),?_⟩;rcases ho1.2 with⟨hA,hn0⟩|⟨g,cap,cur,heq,hb,hg,h5,h6,h7,h8⟩
       .left;simp only[dh]at hA ⊢;exact⟨⟨hA.1,by omega,hA.2.2⟩,by omega⟩
       .simp only[dh]at heq;obtain⟨hA,_,hC⟩:=heq;refine .inr ⟨g,cap,cur,by rw[hA,hC],hb,hg,by omega,h6,h7,?_⟩;rw[<-h8,Cf,jQ (dL _ hcl)],DT.Mv (DT.kw lt hs1) hcl⟩)
     refine fc hrun (o6.ret h m2 (ky s2 _ cH) ?_ e2);simp only[DV.h];have VN:(rw.set j (DR.own e t' (l.take c)))[j]?=some (.own e t' (l.take c)):=by rw[bc,ah rfl,ah LY]
     exact⟨e,t',l.take c,VN,by show _=Value.slice (Fl A j ((A j).1,(A j).2) j).1 _ (Fl A j ((A j).1,(A j).2) j).2;rw[nQ,htk]⟩
    .cases h
   .cases h
  .cases h
 split at h
 .obtain⟨Hm,iy,ju,ps,h,m1,yQ,_,e1,_⟩:=xC (al:=al) _ h m cH (ps:=[]) (us:=[]) (by simp[hL]);exact TY (ZA hT ho yQ rfl m1.aic h) m1 yQ e1
 .cases h
theorem aom{t}{x ix:Operand}(hT:dP P T)(ho:o.op=.index t x ix)(h:qV aj T C al av o ts pb rw K=some q)(m:Mem V U0 L B A pb rw w)(cH:hL (env U0 B A pb rw w) ts a.tmps.toList):o.wp P a w (o6 V U0 L al B A pb rw w a K q) Q:=by
 simp only[qV,ho]at h;split at h
 .rename_i s k i hx hi ht;have hp:=gD hx cH;have hq:=gD hi cH;simp only[DV.h]at hp hq;obtain⟨ti,hf,mj⟩:=pZ hT ht;change ahm s i _=_ at h;unfold ahm at h;rcases yN h with⟨h0,h⟩|⟨_,h⟩
  .have h0:0<=i:=by simpa using h0
   split at h
   .rename_i b hb;refine fc (v:=.int .u8 b.toNat) ?_ (o6.ret h m cH (by simp only[DV.h]) Ext.refl);have hr:(execOp a.eval o).run P w=((Instr.index t (a.eval x) (a.eval ix)).run P w).andThen λv w'=>.ok (.value v) w':=by simp only[execOp,ho,aP,bG]
    rw[hr,hp,hq];simp[Instr.index,asIntOf,bj (Ex hf mj),h0,hb]
   .cases h
  .cases h
 .cases h
theorem aon:∀{ps:List (Nat×DV)} {n:Nat},anG ps n=true->ps.map (·.1)=List.range' n ps.length/\∀p∈ps.map (·.2),∃f cs,p=.fn f cs
 |[],n,_=>⟨rfl,λp h=>by simp at h⟩
 |(i,p)::ps,n,h=>by
  simp only[anG,aB]at h;obtain⟨h1,h2⟩:=h;have h1:=aE h1;subst h1;cases p with
  |fn f cs=>
   obtain⟨g1,g2⟩:=aon (show anG ps (i+1)=true from h2);refine⟨by simp only[bK,g1,aJ,xX],λp hp=>?_⟩;simp only[bK,aF]at hp;rcases hp with rfl|hp
   .exact⟨_,_,rfl⟩
   .exact g2 p hp
  |_=>cases h2
theorem XB{E}:∀{ps:List DV} {vs:List Value},(∀p∈ps,∃f cs,p=DV.fn f cs)->hL E ps vs->(∀v∈vs,v.cells.size=1)/\vs.flatMap (·.cells.toList)=vs
 |[],vs,_,h=>by simp only[hL]at h;subst h;exact⟨λv hv=>by simp at hv,rfl⟩
 |p::ps,vs,hp,h=>by
  simp only[hL]at h;obtain⟨v,Cz,rfl,h1,h2⟩:=h;obtain⟨f,cs,rfl⟩:=hp _ (eH ..);obtain⟨g1,g2⟩:=XB (λp h=>hp p (cP _ h)) h2;simp only[DV.h]at h1;obtain⟨us,rfl,_⟩:=h1;have hc:(fnV f us).cells = #[fnV f us]:=by unfold fnV;cases Nat.ble 1000000 f<;>rfl
  refine⟨λv hv=>?_,by simp only[cw,hc,g2];rfl⟩;rcases aF.1 hv with rfl|hv
  .rw[hc];rfl
  .exact g1 v hv
theorem aoo:∀{l:List (Nat×Value)} {n:Nat},l.map (·.1)=List.range' n l.length->l=Bz n (l.map (·.2)):=by
 intro l;induction l with
 |nil=>intro n _;rfl
 |cons p l ih=>intro n h;simp only[bK,aJ,xX,dO]at h;have:=ih h.2;show p::l=(n,p.2)::Bz (n+1) (l.map (·.2));rw[<-this,<-h.1]
theorem awe{t}{len}{parts}{ps:List (Nat×DV)}{l:List DV}(hT:dP P T)(ho:o.op=.buildSlice t len parts)(hl:avQ T t len ps=some l)
 (KL:hL (env U0 B A pb rw w) (ps.map (·.2)) (parts.toList.map λp=>a.eval p.2)) (Ss:ps.map (·.1)=parts.toList.map (·.1)) (h:jw o.dst (.fns l) ts pb rw K=some q) (m:Mem V U0 L B A pb rw w) (cH:hL (env U0 B A pb rw w) ts a.tmps.toList):o.wp P a w (o6 V U0 L al B A pb rw w a K q) Q:=by
 unfold avQ at hl;split at hl
 .rename_i e mj;obtain⟨ti,TX,mj⟩:=pZ hT mj;split at hl
  .rename_i te Ra;have Jx:=sV hT Ra;split at hl
   .rename_i hb1 hb2;simp only[aB]at hb1 hb2;simp only[ak]at hl;subst hl;have hsz:=aE hb1.1;have hlen:=aE hb2.1;have k2:=bQ hb2.2.1;have hbd:=bQ hb2.2.2.1;obtain⟨f1,f2⟩:=aon hb2.2.2.2;have h1:0<te.size:=by omega
    have Jb:=By TX mj Jx (by rw[hsz];exact hb1.2.1) h1;obtain⟨i,z,hi,hzz,hs1,hby,hzs⟩:=Jb.info
    have asa:parts.toList.map (λp=>(p.1,a.eval p.2))=Bz 0 (parts.toList.map λp=>a.eval p.2):=by
     have:=aoo (l:=parts.toList.map λp=>(p.1,a.eval p.2)) (n:=0) (by
      have hh:ps.length=parts.toList.length:=by have:=bA List.length Ss;simpa using this
      rw[hJ,bh,<-hh,<-f1,Ss];rfl)
     rw[this,hJ];rfl
    generalize hvs:parts.toList.map (λp=>a.eval p.2)=vs at KL asa;obtain⟨c1,c2⟩:=XB f2 KL;have hvl:vs.length=len:=by rw[ql KL,bh,hlen]
    have hr:(execOp a.eval o).run P w=((Instr.buildSlice t len (Bz 0 vs).toArray).run P w).andThen λv w'=>.ok (.value v) w':=by simp only[execOp,ho,aP,bG];congr 3;rw[<-asa];apply fQ;simp
    have hrun:(Instr.buildSlice t len (Bz 0 vs).toArray).run P w=.ok (.slice (some ⟨w.heap.size,0,none⟩) len len) (w.alloc (.cells vs.toArray e)):=by
     refine run_buildSlice w t e len _ vs.toArray i z Jb.under hi hzz (by rw[hs1,hsz];simp;omega) (by rw[hs1];have:=Nat.mul_pos k2 h1;omega) ?_;rw[hs1];have hz0:((Array.range (len*te.size)).map (z.cells[· % z.cells.size]!))=([]++((List.range (len*te.size)).map (z.cells[· % z.cells.size]!))).toArray:=by apply fQ;simp
     rw[hz0,TV te.size _ 0 [] _ (by simp) (by simp[hvl]) (λv hv=>by rw[c1 v hv,hsz])];simp[c2]
    rw[hrun]at hr;obtain⟨m',s,e1⟩:=m.world (al:=al) (CS (.cells vs.toArray e)) (λb hb=>nc w _ hb);refine fc hr (o6.ret h m' (nS s cH) ?_ e1);rw[afB];simp only[DV.h];refine⟨⟨w.heap.size,0,none⟩,vs,len,by rw[bh,hlen],nS s KL,λj u hj=>⟨_,rfl,λhu=>?_,by show w.heap.size<(w.alloc _).heap.size;simp,?_⟩⟩
    .have hu:Us U0 B A pb rw w.heap.size:=hu;rcases hu with hu|⟨k,i,hu⟩
     .have:=(m.u0 _ hu).1;have:=m.size;omega
     .have:=(m.low k i _ hu).1;omega
    .rw[tQ,cg,cg];show(w.alloc (.cells vs.toArray e)).cell? ⟨w.heap.size,j,none⟩=some u;rw[cell_of_block (kM w _)];simpa using hj
   .cases hl
  .cases hl
 .cases hl
theorem VQ{t}{len}{parts:Array (Nat×Operand)}(hT:dP P T)(ho:o.op=.buildSlice t len parts)(h:qV aj T C al av o ts pb rw K=some q)(m:Mem V U0 L B A pb rw w)(cH:hL (env U0 B A pb rw w) ts a.tmps.toList):o.wp P a w (o6 V U0 L al B A pb rw w a K q) Q:=by
 simp only[qV,ho]at h;split at h
 .rename_i ps Rb;obtain⟨KL,Ss⟩:=TS Rb cH;split at h
  .rename_i l hl;exact awe hT ho hl KL Ss h m cH
  rw[afB]at h;obtain⟨Hm,iy,ju,qs,h,m1,yQ,hqs,e1,_⟩:=xC (al:=al) _ h m cH KL;split at h
  .rename_i e mj;obtain⟨ti,TX,mj⟩:=pZ hT mj;split at h
   .rename_i te te' Ra _;have Jx:=sV hT Ra;split at h
    .rename_i l hl;split at h
     .rename_i hsz hlen h1 hbd hz;have hsz:=aE hsz;have hlen:=aE hlen;have h1:=bQ h1;have hbd:=bQ hbd;have Jb:=By TX mj Jx hz h1;obtain⟨i,z,hi,hzz,hs1,hby,hzs⟩:=Jb.info;generalize hvs:parts.toList.map (λp=>a.eval p.2)=vs at hqs;have hql:qs.length=ps.length:=by have g1:=ql hqs;have g2:=ql KL;rw[hvs]at g2;simp only[bh]at g2;omega
      obtain⟨r1,r2⟩:=aie hql;obtain⟨g1,g2,g3,g4⟩:=aid (E:=env U0 B A iy ju w) (by omega) hl (by rw[r1];exact hqs);rw[r2,Ss]at g3
      have asa:parts.toList.map (λp=>(p.1,a.eval p.2))=Bz 0 vs:=by
       rw[<-g3,<-hvs];induction parts.toList with
       |nil=>rfl
       |cons p l ih=>simp[ih]
      have hr:(execOp a.eval o).run P w=((Instr.buildSlice t len (Bz 0 vs).toArray).run P w).andThen λv w'=>.ok (.value v) w':=by simp only[execOp,ho,aP,bG];congr 3;rw[<-asa];apply fQ;simp
      have hvl:vs.length=len:=by omega
      have hrun:(Instr.buildSlice t len (Bz 0 vs).toArray).run P w=.ok (.slice (some ⟨w.heap.size,0,none⟩) len len) (w.alloc (.cells (vs.flatMap (·.cells.toList)).toArray e)):=by
       rcases fv len with h0|k2
       .have hz0:vs=[]:=dK.1 (by omega);subst hz0;rw[h0];simp[Instr.buildSlice,bj Jb.under,sizeOf,typeInfo,hi,newRow,Instr.fill,Bz];have e0:∀f:Nat->Value,Array.map f (Array.range 0) = #[]:=λf=>fQ (by simp)
        rw[e0]
       .refine run_buildSlice w t e len _ (vs.flatMap (·.cells.toList)).toArray i z Jb.under hi hzz (by rw[hs1];simp;omega) (by rw[hs1];have:=Nat.mul_pos k2 h1;omega) ?_;rw[hs1];have hz0:((Array.range (len*te.size)).map (z.cells[· % z.cells.size]!))=([]++((List.range (len*te.size)).map (z.cells[· % z.cells.size]!))).toArray:=by apply fQ;simp
        rw[hz0,TV te.size _ 0 [] _ (by simp) (by simp[hvl]) (λv hv=>by rw[g2 v hv,hsz])];simp
      have g1:te'.hs (Us U0 B A iy ju) w l (vs.flatMap λv=>v.cells.toList):=g1;have hxl:(vs.flatMap (·.cells.toList)).length=len*te.size:=by have:=g1.1;rw[hsz]at this;rw[this];congr 1;omega
      rw[hrun]at hr;have hm:len<=maxLen:=by have:len*1<=len*te.size:=lP _ h1;rw[ic];omega
      rw[hlen]at hr hm hxl;have:=BA (P:=P) (Q:=Q) (al:=al) (e:=e) (t:=te') (l:=l) (a':=some ⟨w.heap.size,0,none⟩) (c:=l.length) (xs:=vs.flatMap (·.cells.toList)) m1 yQ (w':=w.alloc (.cells (vs.flatMap (·.cells.toList)).toArray e)) hr (CS _) (λb hb=>nc w _ hb) (λx hx=>by simp only[ak]at hx;subst hx;simp) ⟨g1.1,.inr ⟨w.heap.size,l.length,_,rfl,bE _,kM w _,au _,hm,by rw[hsz];simpa using hxl,by rw[hsz];exact lZ (by simpa using F2 hxl)⟩⟩ g1 h;exact Bw this λa' w' hn=>o6.more e1 rfl hn
     .cases h
    .cases h
   .cases h
  .cases h
 .cases h
theorem ZD{t}{ol oc:Operand}(hT:dP P T)(ho:o.op=.makeSlice t ol oc)(h:qV aj T C al av o ts pb rw K=some q)(m:Mem V U0 L B A pb rw w)(cH:hL (env U0 B A pb rw w) ts a.tmps.toList):o.wp P a w (o6 V U0 L al B A pb rw w a K q) Q:=by
 simp only[qV,ho]at h;split at h
 .rename_i k1 n k2 c e hl hc mj;have hl:=gD hl cH;have hc:=gD hc cH;simp only[DV.h]at hl hc;obtain⟨ti,TX,mj⟩:=pZ hT mj;split at h
  .rename_i te te' Ra _;have Jx:=sV hT Ra;split at h
   .rename_i z hsz h1 hz hof;have hsz:=aE hsz;have h1:=bQ h1;have Jb:=By TX mj Jx hz h1;obtain⟨i,zv,hi,hzz,hs1,hby,hzs⟩:=Jb.info;have hzero:te.zero=zv.cells.toList:=by obtain⟨d,i',g1,g2,g3,g4,g5,g6,g7,g8⟩:=Jx.ex;rw[hi]at g2;obtain rfl:=cJ g2;rw[g7,hzz]
    have key:∀(n':Nat),0<=c->(n:Int)=n'->(n':Int)<=c->c.toNat<=281474976710656->c.toNat*te.bytes<=140737488355328->
     (vG rw (.own e te' (List.replicate n' z)) λrw'=>Gz rw.length λn=>jw o.dst (.row n) ts pb rw' K)=some q->o.wp P a w (o6 V U0 L al B A pb rw w a K q) Q:=by
     intro n' h0 hn hnc hm1 hm2 h;have hm:c.toNat<=maxLen:=by rw[ic];omega
     have hb1:(i.bytes:Int)*c<=281474976710656:=by
      rw[hby];have e1:(te.bytes:Int)*c=((c.toNat*te.bytes:Nat):Int):=by rw[nH,tc (by omega),iE]
      rw[e1];omega
     have hrun:=run_make (P:=P) w t e i zv Jb.under hi hzz k1 k2 n c (by omega) (by omega) hb1 (by rw[ic]at hm;omega);have hr:(execOp a.eval o).run P w=((Instr.makeSlice t (a.eval ol) (a.eval oc)).run P w).andThen λv w'=>.ok (.value v) w':=by simp only[execOp,ho,aP,bG]
     rw[hl,hc,hrun,hs1]at hr;have GO:n.toNat=n':=by omega
     rw[GO]at hr;have hrl:(List.replicate n' z).length=n':=xf;have hzh:te'.h (Us U0 B A pb rw) w z zv.cells.toList:=by rw[<-hzero];exact au7 hof
     refine BA (P:=P) (Q:=Q) (al:=al) (e:=e) (t:=te') (l:=List.replicate n' z) (a':=some ⟨w.heap.size,0,none⟩) (c:=c.toNat) (xs:=(List.replicate n' zv.cells.toList).flatten) m cH (w':=w.alloc (.cells (madeCells zv.cells (c.toNat*te.size)) e)) (by rw[hrl];exact hr) (CS _) (λb hb=>nc w _ hb) (λx hx=>by simp only[ak]at hx;subst hx;simp) ?_ (DT.Zn hzh n') h;rw[hrl];refine⟨by rw[MQ,fC,hzs,hsz],.inr ⟨w.heap.size,c.toNat,_,rfl,bE _,kM w _,by omega,hm,by rw[size_madeCells,hsz],?_⟩⟩;rw[hsz];exact XA hzs (by omega)
    split at h
    .split at h
     .obtain⟨h0,h⟩:=arS h;obtain⟨r1,r2,h⟩:=TQ h;exact key 0 h0 rfl h0 r1 r2 h
     .cases h
    .obtain⟨h0,h⟩:=arS h;obtain⟨r1,r2,h⟩:=TQ h;obtain⟨b1,b2,h⟩:=afA h;exact key n.toNat h0 (by omega) (by omega) r1 r2 h
   .cases h
  .cases h
 .cases h
theorem aop{c}{xs:List DV}(hT:dP P T)(ho:o.op=.call c)(GA:c.callee=.builtin .clear)(hxs:hL (env U0 B A pb rw w) xs (c.args.toList.map a.eval))(h:qV aj T C al av o ts pb rw K=some q)(af9:opsV ts c.args.toList=some xs)
 (m:Mem V U0 L B A pb rw w) (cH:hL (env U0 B A pb rw w) ts a.tmps.toList):o.wp P a w (o6 V U0 L al B A pb rw w a K q) Q:=by
 simp only[qV,ho,GA,af9]at h;split at h
 .rename_i j i t hat;split at h
  .rename_i e mj;obtain⟨ti,TX,mj⟩:=pZ hT mj;split at h
   .rename_i te e2 t' l Ra hj;have Jx:=sV hT Ra;rw[gU]at hj;split at h
    .rename_i z hee hsz hz h1 hof;have hee:=aE hee;subst hee;have hsz:=aE hsz;have h1:=bQ h1;have Jb:=By TX mj Jx hz h1;obtain⟨i',zv,hi2,hzz,hs1,hby,hzs⟩:=Jb.info;have hzero:te.zero=zv.cells.toList:=by obtain⟨d,i',g1,g2,g3,g4,g5,g6,g7,g8⟩:=Jx.ex;rw[hi2]at g2;obtain rfl:=cJ g2;rw[g7,hzz]
     obtain⟨b1,b2,h⟩:=afA h;rw[kz]at h;have hin:(Int.ofNat i).toNat=i:=rfl;rw[hin]at h;have PS:i<=l.length:=by omega
     have ak0:c.argTypes = #[t]:=fQ (by simpa using hat);simp only[hL,DV.h]at hxs;obtain⟨v,_,ea,⟨e3,t3,l3,IG,_,ev⟩,rfl⟩:=hxs;have IG:rw[j]?=some (.own e3 t3 l3):=IG;rw[hj]at IG;simp only[ak,DR.own.injEq]at IG;obtain⟨rfl,rfl,hl3⟩:=IG;cases hl3;have hr:(execOp a.eval o).run P w=((Builtin.clear_ #[t] o.type #[v]).run P w).andThen λv w'=>.ok (.value v) w':=by rw[aoj ho GA,ak0,ea];simp only[builtin,aP,bG]
     change v=Value.slice (if(A j).2=i then(A j).1 else(A j).1.map (·.add (i*t'.size))) (l.length-i) ((A j).2-i)at ev;subst ev;obtain⟨xs1,ho1,ayC⟩:=m.row j e t' l hj;have hzh:t'.h (Us U0 B A pb rw) w z zv.cells.toList:=by rw[<-hzero];exact au7 hof
     have LY:=(ay.1 hj).1;rcases dS i l.length with hlt|hge
     .cases hA:(A j).1 with
      |none=>
       rw[hA]at ho1;rcases ho1.2 with⟨_,h'⟩|⟨_,_,_,h',_⟩
       .omega
       .simp at h'
      |some ad=>
       rw[hA]at ho1;obtain⟨g,cur,rfl,hg,hn,hcm,Y3,htk,hcell⟩:=KN ho1;rw[hA,ag (by omega)]at hr;simp only[fK,tQ,cg]at hr;have hvl:(Builtin.zeroCells zv.cells (l.length-i)).toList=(List.replicate (l.length-i) zv.cells.toList).flatten:=akx hzs;have N1:((List.replicate (l.length-i) zv.cells.toList).flatten).length=(l.length-i)*t'.size:=by rw[MQ,show zv.cells.toList.length=t'.size from(fC).trans (hzs.trans hsz.symm)]
       have hik:i*t'.size+(l.length-i)*t'.size=l.length*t'.size:=by rw[<-im];congr 1;omega
       have hlc:l.length*t'.size<=(A j).2*t'.size:=dL _ hn;have h1c:∀v∈(List.replicate (l.length-i) zv.cells.toList).flatten,vA v=true:=λv hv=>by obtain⟨l',Ti,hu⟩:=List.mem_flatten.1 hv;rw[(List.mem_replicate.1 Ti).2]at hu;exact t'.Xf hzh v hu
       have hg':w.heap[g]?=some (.cells cur.toList.toArray e (0,0)):=by simpa using hg
       have hcl:cur.toList.length=cur.size:=fC;have hrun:=VP (P:=P) w t e o.type zv Jb.under (vD hi2 hzz) g (i*te.size) (l.length-i) ((A j).2-i) (by omega) (λk hk=>by rw[hvl,N1]at hk;rw[cell_of_block hg',<-hsz,aw (by omega)];rfl) (λk _=>Gg hg' _) (λv hv=>by rw[hvl]at hv;exact(rJ (h1c v hv)).2);rw[hsz,hrun,hvl,<-hsz]at hr;generalize a09:(List.replicate (l.length-i) zv.cells.toList).flatten=zz at *;have NY:=CR (P:=P) hg' (cs:=zz) (off:=i*t'.size) (λv hv=>(rJ (h1c v hv)).1) (by omega)
       have hw:w.setCells g (i*t'.size) zz=setCells w ⟨g,i*t'.size,none⟩ 0 zz:=by
        have:=MR g (i*t'.size) zz 0 w
        rwa [gY]at this
       rw[hw]at hr
       obtain⟨m2,s2,e2⟩:=m.putRow (al:=al) (j:=j) (f:=Ix) (rw':=rw.set j (.own e t' (l.take i++List.replicate (l.length-i) z))) (e:=e) (t:=t') (l:=l.take i++List.replicate (l.length-i) z) (a:=(A j).1) (c:=(A j).2) (w':=setCells w ⟨g,i*t'.size,none⟩ 0 zz)
        (by rw[bc,ah rfl,ah LY]) (λk hk=>by rw[bc,ag (jf hk)]) (λ_ _ h=>by cases h)
        (λ_ e4 t4 l4 h4=>by rw[hj]at h4;simp only[ak,DR.own.injEq]at h4;obtain⟨rfl,rfl,h4⟩:=h4;cases h4;exact⟨_,by rw[bc,ah rfl,ah LY],by simp;omega,rfl⟩)
        (λ_ d h4=>by rw[hj]at h4;cases h4) (Bx _ _ _)
        (λb hb Xe=>yM ⟨g,i*t'.size,none⟩ b (λhe=>Xe ⟨_,⟨g,0,none⟩,hj,by simp,hA,he.symm⟩) _ _ _)
        (λx hx=>.inl ⟨_,x,hj,by simp,hx,rfl⟩)
        (λU' lt=>by
         have hlen:(l.take i++List.replicate (l.length-i) z).length=l.length:=by simp;omega
         have hxl:=ayC.1;refine⟨xs1.take (i*t'.size)++zz,⟨?_,?_⟩,?_⟩
         .rw[hlen];simp;omega
         .refine .inr ⟨g,(A j).2,(wr cur.toList (i*t'.size) zz).toArray,by rw[hA],bE _,NY.2,by rw[hlen];exact hn,hcm,by rw[fk,Eo,hcl,Y3],?_⟩;rw[hlen,<-htk];apply eY;intro k;rw[ct];by_cases hk:k<l.length*t'.size
          .rw[ah hk,List.toList_toArray,KA _ _ _ _ (by omega)];by_cases yd:i*t'.size<=k
           .rw[ah (by omega),dz (by simp;omega)];congr 1;simp;omega
           .rw[ag (by omega),bB (by simp;omega),ct,ah (by omega),ct,ah (by omega)]
          .rw[ag hk,bH (by simp;omega)]
         .refine DT.Du (DT.Mv (DT.kw lt ayC) PS) ?_;have:=DT.Zn (t'.mono lt hzh) (l.length-i)
          rwa [a09]at this)
       rw[show Fl A j ((A j).1,(A j).2)=A from Mz A j]at m2 s2 e2;rw[ML]at m2 s2 e2;exact fc hr (o6.ret h m2 (nS s2 cH) (by simp only[DV.h]) e2)
     .have hie:i=l.length:=by omega
      have hl0:l.length-i=0:=by omega
      have e0:l.take i++List.replicate (l.length-i) z=l:=by rw[hl0,hie,br];simp
      have e1:rw.set j (.own e t' l)=rw:=by
       apply eY;intro k;rw[bc];split
       .rename_i hk;subst hk;first|exact hj.symm|rw[ah LY,hj]
       .rfl
      rw[e0,e1]at h;rw[hl0,TW w t e o.type Jb.under]at hr;exact fc hr (o6.ret h m cH (by simp only[DV.h]) Ext.refl)
    .cases h
   .cases h
  .cases h
 .cases h
end
open Go.ChangeMaps
section
variable {P : Program} {T : List TI} {V : World} {U0 L : Nat -> Prop} {al : Nat -> Bool} {B : Nat -> Nat} {A : zx} {ts : List DV} {pb : ij} {rw : List DR} {a : Act} {w w' : World} {β : Type} {q : β} {o : Oper} {K : DK β} {Q : Exit -> Act -> World -> Prop} {C : GK} {av : List (Nat × Nat)}
theorem Mem.aoq(m:Mem V U0 L B A pb rw w){j:Nat}{rw':List DR}{d:OD}{ob:Obj}{b:Nat}(hj:rw'[j]?=some (.obj d))(hi:∀i,i≠j->rw'[i]?=rw[i]?)
 (hold:((rw[j]?=none)/\w.heap.size<=b/\b<w'.heap.size)\/∃d0,rw[j]?=some (.obj d0)/\d.rz=d0.rz/\(A j).1=some ⟨b,0,none⟩/\b<w'.heap.size)
 (hr:w'.os=w.os/\w'.tape=w.tape/\w'.output=w.output/\w.heap.size<=w'.heap.size) (hk:∀c,c<w.heap.size->c≠b->w'.heap[c]?=w.heap[c]?) (hw:w'.heap[b]?=some ob)
 (hd:∀U',lD (Us U0 B A pb rw) U' w w'->d.h U' w' ob):
 Mem V U0 L B (Fl A j (some ⟨b,0,none⟩,(A j).2)) pb rw' w'/\Sub Ix (env U0 B A pb rw w) (env U0 B (Fl A j (some ⟨b,0,none⟩,(A j).2)) pb rw' w')/\Ext al B A pb rw w B (Fl A j (some ⟨b,0,none⟩,(A j).2)) pb rw' w':=by
 have hb:∀k i c,iK B (Fl A j (some ⟨b,0,none⟩,(A j).2)) pb rw' k i c->(¬(k=true/\i=j)/\iK B A pb rw k i c)\/(k=true/\i=j/\c=b):=by
  intro k i c h;cases k with
  |false=>exact .inl ⟨by simp,h⟩
  |true=>
   obtain⟨r,ad,h1,h2,h3,h4⟩:=h;by_cases hij:i=j
   .subst hij;rw[nQ]at h3;simp only[ak]at h3;subst h3;exact .inr ⟨rfl,rfl,h4.symm⟩
   .rw[zC _ _ hij]at h3;rw[hi i hij]at h1;exact .inl ⟨by simp[hij],r,ad,h1,h2,h3,h4⟩
 have aor:∀k i,iK B A pb rw k i b->k=true/\i=j:=by
  intro k i h;rcases hold with⟨_,h1,_⟩|⟨d0,h1,_,h2,_⟩
  .have:=(m.low k i b h).1;omega
  .exact m.inj _ _ _ _ _ h ⟨_,_,h1,by simp,h2,rfl⟩
 have hl:∀k i c,iK B A pb rw k i c->¬(k=true/\i=j)->w'.heap[c]?=w.heap[c]?:=λk i c h hne=>hk c (m.low k i c h).1 (by rintro rfl;exact hne (aor k i h))
 refine m.step Ix hr (λc hc hn=>hk c hc ?_) (λk i c h=>?_) (λk i k' i' c h h'=>?_) (λi h=>⟨h,rfl⟩) (λi e t l _ h=>?_) (λi d1 _ h=>?_) (λ_ i q e t l h=>by cases h) (λ_ i q d ad h=>by cases h) (λs i b' h=>.inl ⟨b',h,rfl,by rw[pg],id,hl false i _ ⟨⟨_,h⟩,rfl⟩ (by simp)⟩) (λ_ i e t l h=>?_) λlt i d1 h=>?_
 .rintro rfl;rcases hold with⟨_,h1,_⟩|⟨d0,h1,_,h2,_⟩
  .omega
  .exact hn (.inr ⟨j,_,_,h1,by simp,h2,rfl⟩)
 .rcases hb k i c h with⟨_,h⟩|⟨rfl,rfl,rfl⟩
  .exact .inl h
  .rcases hold with⟨_,h1,h2⟩|⟨d0,h1,_,h2,_⟩
   .exact .inr ⟨h1,h2⟩
   .exact .inl ⟨_,_,h1,by simp,h2,rfl⟩
 .rcases hb k i c h with⟨hn,g⟩|⟨rfl,rfl,rfl⟩
  .rcases hb k' i' c h' with⟨_,g'⟩|⟨rfl,rfl,rfl⟩
   .exact m.inj _ _ _ _ _ g g'
   .exact absurd (aor k i g) hn
  .rcases hb k' i' _ h' with⟨hn,g⟩|⟨rfl,rfl,_⟩
   .exact absurd (aor k' i' g) hn
   .exact⟨rfl,rfl⟩
 .have hij:i≠j:=by
   rintro rfl;rcases hold with⟨h1,_⟩|⟨d0,h1,_⟩
   .rw[h1]at h;cases h
   .rw[h1]at h;cases h
  exact⟨l,by rw[hi i hij];exact h,rfl,zC _ _ hij⟩
 .by_cases hij:i=j
  .subst hij;rcases hold with⟨h1,_⟩|⟨d0,h1,hm,h2,_⟩
   .rw[h1]at h;cases h
   .rw[h1]at h;simp only[ak,DR.obj.injEq]at h;subst h;refine⟨⟨_,hj,hm⟩,?_⟩;rw[nQ,<-h2]
  .exact⟨⟨d1,by rw[hi i hij];exact h,rfl⟩,zC _ _ hij⟩
 .have hij:i≠j:=by rintro rfl;rw[hj]at h;cases h
  rw[hi i hij]at h;exact .inl ⟨h,zC _ _ hij,λad had=>hl true i _ ⟨_,ad,h,by simp,had,rfl⟩ (by simp[hij])⟩
 .by_cases hij:i=j
  .subst hij;rw[hj]at h;simp only[ak,DR.obj.injEq]at h;subst h;exact .inr ⟨b,ob,by rw[nQ],hw,hd _ lt⟩
  .rw[hi i hij]at h;exact .inl ⟨h,zC _ _ hij,λad had=>hl true i _ ⟨_,ad,h,by simp,had,rfl⟩ (by simp[hij])⟩
theorem Mem.ZE(m:Mem V U0 L B A pb rw w)(d:OD)(ob:Obj)(hd:∀U',lD (Us U0 B A pb rw) U' w (w.alloc ob)->d.h U' (w.alloc ob) ob):
 Mem V U0 L B (Fl A rw.length (some ⟨w.heap.size,0,none⟩,(A rw.length).2)) pb (rw++[.obj d]) (w.alloc ob)/\Sub Ix (env U0 B A pb rw w) (env U0 B (Fl A rw.length (some ⟨w.heap.size,0,none⟩,(A rw.length).2)) pb (rw++[.obj d]) (w.alloc ob))/\
  Ext al B A pb rw w B (Fl A rw.length (some ⟨w.heap.size,0,none⟩,(A rw.length).2)) pb (rw++[.obj d]) (w.alloc ob)/\
  (DV.ob rw.length).h (env U0 B (Fl A rw.length (some ⟨w.heap.size,0,none⟩,(A rw.length).2)) pb (rw++[.obj d]) (w.alloc ob)) (d.at ⟨w.heap.size,0,none⟩):=by
 have hj:(rw++[DR.obj d])[rw.length]?=some (.obj d):=by simp
 obtain⟨m',s',e⟩:=m.aoq (al:=al) (j:=rw.length) (rw':=rw++[.obj d]) (d:=d) (ob:=ob) (b:=w.heap.size) (w':=w.alloc ob) hj (λi hi=>by
  rcases dS i rw.length with h|h
  .rw[bB h]
  .rw[bH (by simp;omega),bH h]) (.inl ⟨bH (au _),au _,by simp⟩) (CS _) (λc hc _=>nc w _ hc) (kM w _) hd
 refine⟨m',s',e,?_⟩;simp only[DV.h];exact⟨d,_,hj,by show(Fl A rw.length _ rw.length).1=_;rw[nQ],rfl⟩
theorem Mem.ZF(m:Mem V U0 L B A pb rw w){j b:Nat}{d0 d:OD}{ob:Obj}(hj:rw[j]?=some (.obj d0))(hm:d.rz=d0.rz)(hA:(A j).1=some ⟨b,0,none⟩)(hb:b<w.heap.size){w1:World}(hw1:w1.heap=w.heap/\w1.os=w.os/\w1.tape=w.tape/\w1.output=w.output)
 (hd:∀U',lD (Us U0 B A pb rw) U' w (setBlock w1 b ob)->d.h U' (setBlock w1 b ob) ob):
 Mem V U0 L B A pb (rw.set j (.obj d)) (setBlock w1 b ob)/\Sub Ix (env U0 B A pb rw w) (env U0 B A pb (rw.set j (.obj d)) (setBlock w1 b ob))/\Ext al B A pb rw w B A pb (rw.set j (.obj d)) (setBlock w1 b ob):=by
 have LY:=(ay.1 hj).1;have hb1:b<w1.heap.size:=by rw[hw1.1];exact hb
 obtain⟨m',s',e⟩:=m.aoq (al:=al) (j:=j) (rw':=rw.set j (.obj d)) (d:=d) (ob:=ob) (b:=b) (w':=setBlock w1 b ob) (by rw[bc,ah rfl,ah LY]) (λi hi=>by rw[bc,ag (jf hi)]) (.inr ⟨d0,hj,hm,hA,by simpa[setBlock]using hb1⟩) ⟨hw1.2.1,hw1.2.2.1,hw1.2.2.2,by simp[setBlock,hw1.1]⟩ (λc hc hne=>by rw[TO hne,hw1.1]) (af4 hb1) hd;have e0:Fl A j (some (⟨b,0,none⟩:Addr),(A j).2)=A:=by rw[<-hA];exact Mz A j
 rw[e0]at m' s' e;exact⟨m',s',e⟩
theorem Mem.asb(m:Mem V U0 L B A pb rw w){j:Nat}{d:OD}(hj:rw[j]?=some (.obj d)):
 Mem V U0 L B A (oY (j6 j .jz) pb) (rw.set j .dead) w/\Sub (j6 j .jz) (env U0 B A pb rw w) (env U0 B A (oY (j6 j .jz) pb) (rw.set j .dead) w)/\Ext al B A pb rw w B A (oY (j6 j .jz) pb) (rw.set j .dead) w/\∀b,(A j).1=some ⟨b,0,none⟩->¬Us U0 B A (oY (j6 j .jz) pb) (rw.set j .dead) b:=by
 have hne:∀i,i≠j->(rw.set j DR.dead)[i]?=rw[i]?:=λi h=>by rw[bc,ag (jf h)]
 have hjj:(rw.set j DR.dead)[j]?=some .dead:=by rw[bc,ah rfl,ah (ay.1 hj).1]
 have hb:∀k i b,iK B A (oY (j6 j .jz) pb) (rw.set j .dead) k i b->iK B A pb rw k i b/\¬(k=true/\i=j):=by
  intro k i b h;cases k with
  |false=>exact⟨⟨oR.1 h.1,h.2⟩,by simp⟩
  |true=>
   obtain⟨r,ad,h1,h2,h3,h4⟩:=h;have hij:i≠j:=by rintro rfl;rw[hjj]at h1;simp at h1;exact h2 h1.symm
   rw[hne i hij]at h1;exact⟨⟨r,ad,h1,h2,h3,h4⟩,by simp[hij]⟩
 have h1:∀i,j6 j .jz i=none->i≠j:=by rintro i h rfl;simp[j6]at h
 have h2:∀i q,j6 j .jz i=some q->i=j/\q=.jz:=by
  intro i q h;unfold j6 at h;split at h
  .rename_i hb;simp at h;exact⟨aE hb,h.symm⟩
  .cases h
 obtain⟨m',s',e⟩:=m.step (al:=al) (j6 j .jz) (w':=w) (B':=B) (A':=A) (pb':=oY (j6 j .jz) pb) (rw':=rw.set j .dead) ⟨rfl,rfl,rfl,au _⟩ (λ_ _ _=>rfl) (λk i b h=>.inl (hb k i b h).1) (λk i k' i' b h h'=>m.inj _ _ _ _ _ (hb k i b h).1 (hb k' i' b h').1) (λi h=>⟨oR.2 h,rfl⟩)
  (λi e' t' l' hf h=>⟨l',(hne i (h1 i hf)).trans h,rfl,rfl⟩) (λi d hf h=>⟨⟨d,(hne i (h1 i hf)).trans h,rfl⟩,rfl⟩) (λlt i q e' t' l' hf h=>by obtain⟨rfl,rfl⟩:=h2 i q hf;simp only[DV.h]) (λ_ i q d ad hf _ _=>by obtain⟨rfl,rfl⟩:=h2 i q hf;simp only[DV.h]) (λs i b' h=>by
   obtain⟨b0,h0,rfl⟩:=uy.1 h;exact .inl ⟨b0,h0,rfl,rfl,id,rfl⟩) (λ_ i e' t' l' h=>by
   have hij:i≠j:=by rintro rfl;rw[hjj]at h;cases h
   exact .inl ⟨(hne i hij).symm.trans h,rfl,λ_ _=>rfl⟩) λ_ i d h=>by
   have hij:i≠j:=by rintro rfl;rw[hjj]at h;cases h
   exact .inl ⟨(hne i hij).symm.trans h,rfl,λ_ _=>rfl⟩
 refine⟨m',s',e,λb hA hu=>?_⟩;have hbj:iK B A pb rw true j b:=⟨_,_,hj,by simp,hA,rfl⟩;rcases hu with hu|⟨k,i',hu⟩
 .have:=m.u0 b hu;rcases(m.low _ _ _ hbj).2 with h|h
  .omega
  .exact this.2 h
 .obtain⟨g1,g2⟩:=hb k i' b hu;exact g2 (m.inj _ _ _ _ _ g1 hbj)
theorem aos{t:TypeId}{x:Operand}(hT:dP P T)(ho:o.op=.range t x)(h:qV aj T C al av o ts pb rw K=some q)(m:Mem V U0 L B A pb rw w)(cH:hL (env U0 B A pb rw w) ts a.tmps.toList):o.wp P a w (o6 V U0 L al B A pb rw w a K q) Q:=by
 simp only[qV,ho]at h;split at h
 .rename_i s hx ht;have hp:=gD hx cH;simp only[DV.h]at hp;obtain⟨ti,hf,mj⟩:=pZ hT ht;rw[rL,yi]at h;have hr:(execOp a.eval o).run P w=((Instr.range t (a.eval x)).run P w).andThen λv w'=>.ok (.value v) w':=by simp only[execOp,ho,aP,bG]
  have hrun:(Instr.range t (.string s)).run P w=.ok (.pointer (some ⟨w.heap.size,0,none⟩)) (w.alloc (.stringIter s 0)):=by simp[Instr.range,bj (Ex hf mj)]
  rw[hp,hrun]at hr;obtain⟨m',s',e,hv⟩:=m.ZE (al:=al) (.I9 s 0) (.stringIter s 0) (λ_ _=>rfl);exact fc hr (o6.ret h m' (nS s' cH) hv e)
 .rename_i j k0 e0 hx ht;split at h
  .rename_i ks hj;rw[gU]at hj;have hp:=gD hx cH;simp only[DV.h]at hp;obtain⟨d1,ad,Hp,hA,hv⟩:=hp;have hA:(A j).1=some ad:=hA;have Hp:rw[j]?=some (.obj d1):=Hp;rw[hj]at Hp;simp only[ak,DR.obj.injEq]at Hp;subst Hp;obtain⟨b,ob,hb,Xu,es,clock,rfl,zB⟩:=m.I9 j _ hj;rw[hA]at hb;simp only[ak]at hb;subst hb;obtain⟨ti,hf,mj⟩:=pZ hT ht;have hr:(execOp a.eval o).run P w=((Instr.range t (a.eval x)).run P w).andThen λv w'=>.ok (.value v) w':=by simp only[execOp,ho,aP,bG]
   rw[hv,show(OD.set ks).at ⟨b,0,none⟩=.map (some b)from rfl,run_range_map w t _ _ b es clock (an0 hf mj) Xu]at hr;rw[mN,vJ,kz,rL,yi]at h;have u9:=(cq.1 Xu).1;obtain⟨m1,s1,e1,hn⟩:=m.asb (al:=al) hj;have hn:=hn b hA;obtain⟨m',s',e2,hv'⟩:=m1.ZE (al:=al) (.walk ks []) (.mapIter (some b) clock #[] clock) (λU' lt=>⟨b,es,clock,clock,#[],[],rfl,λhu=>hn (lt.sub _ u9 hu),e8 u9 lt.size,(nc w _ u9).trans Xu,zB,zB.lt,au _,rfl,rfl,by simp,by simp⟩);exact fc hr (o6.more e1 rfl (o6.ret h m' (nS s' (ky s1 _ cH)) hv' e2))
  .cases h
 .cases h
theorem asc{x:Operand}{b0:Bool}(ho:o.op=.next x b0)(h:qV aj T C al av o ts pb rw K=some q)(m:Mem V U0 L B A pb rw w)(cH:hL (env U0 B A pb rw w) ts a.tmps.toList):o.wp P a w (o6 V U0 L al B A pb rw w a K q) Q:=by
 simp only[qV,ho]at h;split at h
 .rename_i j hx;split at h
  .rename_i s p hj;rw[gU]at hj;have hp:=gD hx cH;simp only[DV.h]at hp;obtain⟨d1,ad,Hp,hA,hv⟩:=hp;have hA:(A j).1=some ad:=hA;have Hp:rw[j]?=some (.obj d1):=Hp;rw[hj]at Hp;simp only[ak,DR.obj.injEq]at Hp;subst Hp;obtain⟨b,ob,hb,Xu,rfl⟩:=m.I9 j _ hj;rw[hA]at hb;simp only[ak]at hb;subst hb;replace hv:a.eval x=.pointer (some ⟨b,0,none⟩):=hv;have hr:(execOp a.eval o).run P w=((Instr.next (a.eval x) true o.type).run P w).andThen λv w'=>.ok (.value v) w':=by simp only[execOp,ho,aP,bG]
   rw[hv]at hr;change aaZ s p _ _=_ at h;unfold aaZ at h;rcases yN h with⟨Rb,h⟩|⟨Rb,h⟩
   .have Rb:p.toNat<s.size:=by simpa using Rb
    dsimp only at h;rw[kz]at h;have u9:=(cq.1 Xu).1;have LY:=(ay.1 hj).1;have hrun:(Instr.next (.pointer (some ⟨b,0,none⟩)) true o.type).run P w=.ok (.tuple #[.bool true,goInt p.toNat,.int .i32 (Utf8.decode s p.toNat).1]) { w with heap:=w.heap.setIfInBounds b (.stringIter s (p.toNat+(Utf8.decode s p.toNat).2)) }:=by simp[Instr.next,getObj,setObj,Sem.run,Xu,Rb]
    rw[hrun]at hr;obtain⟨m',s',e⟩:=m.ZF (al:=al) (d:=.I9 s ((p.toNat+(Utf8.decode s p.toNat).2:Nat):Int)) (ob:=.stringIter s (p.toNat+(Utf8.decode s p.toNat).2)) hj rfl hA u9 (w1:=w) ⟨rfl,rfl,rfl,rfl⟩ (λ_ _=>by simp only[OD.h,aU]);refine fc hr (o6.ret h m' (nS s' cH) ?_ e);simp only[DV.h,hL];exact⟨_,rfl,_,_,rfl,rfl,_,_,rfl,rfl,_,_,rfl,rfl,rfl⟩
   .have Rb:¬p.toNat<s.size:=by simpa using Rb
    have hrun:(Instr.next (.pointer (some ⟨b,0,none⟩)) true o.type).run P w=.ok (.tuple #[.bool false]) w:=by simp[Instr.next,getObj,Sem.run,Xu,Rb]
    rw[hrun]at hr;refine fc hr (o6.ret h m cH ?_ Ext.refl);simp only[DV.h,hL];exact⟨_,rfl,_,_,rfl,rfl,rfl⟩
  .cases h
 .cases h
theorem afC{t:TypeId}{r:Option Operand}(hT:dP P T)(ho:o.op=.makeMap t r)(h:qV aj T C al av o ts pb rw K=some q)(m:Mem V U0 L B A pb rw w)(cH:hL (env U0 B A pb rw w) ts a.tmps.toList):o.wp P a w (o6 V U0 L al B A pb rw w a K q) Q:=by
 simp only[qV,ho]at h;split at h
 .rename_i k0 e0 ht;obtain⟨ti,hf,mj⟩:=pZ hT ht;rw[rL,yi]at h;have hr:(execOp a.eval o).run P w=((Instr.makeMap t none).run P w).andThen λv w'=>.ok (.value v) w':=by simp only[execOp,ho,aP,bG,lr]
  have hrun:(Instr.makeMap t none).run P w=.ok (.map (some w.heap.size)) (w.alloc (.map #[] 0)):=by rfl
  rw[hrun]at hr;obtain⟨m',s',e,hv⟩:=m.ZE (al:=al) (.set []) (.map #[] 0) (λ_ _=>⟨#[],0,rfl,rfl,by simp,by simp,by simp,by simp,by simp⟩);exact fc hr (o6.ret h m' (nS s' cH) hv e)
 .cases h
theorem aot{ks:List KU}{k:KU}{ks':List Value}(h:(kV k∈ks.map kV/\ks'=ks.map kV)\/(kV k∉ks.map kV/\ks'=ks.map kV++[kV k])):ks'=(QW ks k).map kV:=by
 unfold QW;rcases h with⟨h1,h2⟩|⟨h1,h2⟩
 .rw[vF.2 (Tv.1 h1),h2];rfl
 .have:Tx k ks=false:=by
   cases hm:Tx k ks with
   |true=>exact absurd (Tv.2 (vF.1 hm)) h1
   |false=>rfl
  rw[this,h2];simp
theorem a0A{U:Nat->Prop}{w:World}{k:KU}{v:Value}(h:tKU.hv U w k v):v=kV k:=by obtain⟨us,h,rfl⟩:=h;simp only[DT.h]at h;obtain⟨us1,us',rfl,rfl,us2,us3,rfl,rfl,rfl⟩:=h;rfl
theorem ayD{E:Env}(k:KU):(tKU.val k).h E (kV k):=by simp only[DT.val,DT.cells,DV.h,hL];exact⟨_,rfl,_,_,rfl,rfl,_,_,rfl,rfl,rfl⟩
theorem ZG{t:TypeId}{x y z:Operand}(hT:dP P T)(ho:o.op=.mapUpdate t x y z)(h:qV aj T C al av o ts pb rw K=some q)(m:Mem V U0 L B A pb rw w)(cH:hL (env U0 B A pb rw w) ts a.tmps.toList):o.wp P a w (o6 V U0 L al B A pb rw w a K q) Q:=by
 simp only[qV,ho]at h;split at h
 .rename_i kt et j kd ht hx hy hz;split at h
  .rename_i ks k hj hk;rw[gU]at hj;have hp:=gD hx cH;have hpy:=gD hy cH;have hpz:=gD hz cH;simp only[DV.h]at hp hpz;obtain⟨d1,ad,Hp,hA,hv⟩:=hp;have hA:(A j).1=some ad:=hA;have Hp:rw[j]?=some (.obj d1):=Hp;rw[hj]at Hp;simp only[ak,DR.obj.injEq]at Hp;subst Hp;obtain⟨b,ob,hb,Xu,es,clock,rfl,zB⟩:=m.I9 j _ hj;rw[hA]at hb;simp only[ak]at hb;subst hb;replace hv:a.eval x=.map (some b):=hv;have hky:=a0A (DT.Xt hk hpy);obtain⟨ti,hf,mj⟩:=pZ hT ht;have u9:=(cq.1 Xu).1;obtain⟨es',TN,ks',hrun,aou,hd⟩:=akt (ay8 hT ht).key (an0 hf mj) Xu zB (k:=kV k) ⟨k.1,k.2.1,rfl⟩;have hr:(execOp a.eval o).run P w=((Instr.mapUpdate t (a.eval x) (a.eval y) (a.eval z)).run P w).andThen λ_ w'=>.ok .skip w':=by simp only[execOp,ho,aP,bG]
   rw[hv,hky,hpz,hrun]at hr;rw[kz]at h;have hks:=aot hd;subst hks;obtain⟨m',s',e⟩:=m.ZF (al:=al) (d:=.set (QW ks k)) (ob:=.map es' TN) hj rfl hA u9 (w1:=w) ⟨rfl,rfl,rfl,rfl⟩ (λ_ _=>⟨es',TN,rfl,aou⟩);exact KM hr (o6.ret h m' (nS s' cH) (by simp only[DV.h]) e)
  .cases h
 .cases h
theorem ayE{dn}{K:KU->Option β}(h:aj.aI dn ((dn.length:Int)-1) K=some q):∃k,dn[dn.length-1]?=some k/\K k=some q:=by
 change acu dn ((dn.length:Int)-1) K=some q at h;unfold acu at h;rw[show((dn.length:Int)-1).toNat=dn.length-1 by omega]at h;split at h
 .rename_i x hx;rcases yN h with⟨_,h⟩|⟨_,h⟩
  .exact⟨x,hx,h⟩
  .cases h
 .cases h
theorem aov{x}(ho:o.op=.entry x)(h:qV aj T C al av o ts pb rw K=some q)(m:Mem V U0 L B A pb rw w)(cH:hL (env U0 B A pb rw w) ts a.tmps.toList):o.wp P a w (o6 V U0 L al B A pb rw w a K q) Q:=by
 simp only[qV,ho]at h;split at h
 .rename_i j hx;split at h
  .rename_i ks dn hj;rw[gU]at hj;obtain⟨k,hk,h⟩:=ayE h;have hp:=gD hx cH;simp only[DV.h]at hp;obtain⟨d1,ad,Hp,hA,hv⟩:=hp;have hA:(A j).1=some ad:=hA;have Hp:rw[j]?=some (.obj d1):=Hp;rw[hj]at Hp;simp only[ak,DR.obj.injEq]at Hp;subst Hp;obtain⟨b,ob,hb,Xu,bm,es,clock,since,seen,ds,H⟩:=m.I9 j _ hj;rw[hA]at hb;simp only[ak]at hb;subst hb;replace hv:a.eval x=.pointer (some ⟨b,0,none⟩):=hv;have hr:(execOp a.eval o).run P w=((Instr.entry (a.eval x)).run P w).andThen λv w'=>.ok (.value v) w':=by simp only[execOp,ho,aP,bG]
   rw[hv,H.entry hk Xu]at hr;refine fc hr (o6.ret h m cH ?_ Ext.refl);simp only[DV.h,hL];exact⟨_,rfl,_,_,rfl,ayD k,_,_,rfl,rfl,rfl⟩
  .cases h
 .cases h
theorem asd[rB β]{j:Nat}{ks dn:List KU}(hp:anI o ts rw=some (j,ks,dn))
 (h:(aj.ME (P0 ks dn) (λk=>zy rw j (.obj (.walk ks (dn++[k]))) λrw'=>jw o.dst (.IC [.lit true,tKU.val k,.lit true]) ts pb rw' K) (jw o.dst (.IC [.lit false]) ts pb rw K))=some q)
 (m:Mem V U0 L B A pb rw w) (cH:hL (env U0 B A pb rw w) ts a.tmps.toList):o.wp P a w (o6 V U0 L al B A pb rw w a K q) Q:=by
 unfold anI at hp;split at hp
 .rename_i x ho;split at hp
  .rename_i j1 hx;split at hp
   .rename_i ks1 dn1 hj;simp only[ak,bV]at hp;obtain⟨rfl,rfl,rfl⟩:=hp;rw[gU]at hj;have hp:=gD hx cH;simp only[DV.h]at hp;obtain⟨d1,ad,Hp,hA,hv⟩:=hp;have hA:(A j1).1=some ad:=hA;have Hp:rw[j1]?=some (.obj d1):=Hp;rw[hj]at Hp;simp only[ak,DR.obj.injEq]at Hp;subst Hp;obtain⟨b,ob,hb,Xu,bm,es,clock,since,seen,ds,H⟩:=m.I9 j1 _ hj;rw[hA]at hb;simp only[ak]at hb;subst hb;replace hv:a.eval x=.pointer (some ⟨b,0,none⟩):=hv;have hr:(execOp a.eval o).run P w=((Instr.next (a.eval x) false o.type).run P w).andThen λv w'=>.ok (.value v) w':=by simp only[execOp,ho,aP,bG]
    have hne:b≠bm:=λe=>H.nu (.inr ⟨true,j1,_,_,hj,by simp,hA,e⟩)
    have u9:=(cq.1 Xu).1;obtain⟨h0,h1⟩:=arC (show an4 _ _ _=some q from h);rcases H.next (P:=P) (ty:=o.type) Xu hne with⟨hrun,he⟩|⟨k,w1,o',hk,hrun,hw1,hW⟩
    .rw[hv,hrun]at hr;refine fc hr (o6.ret (h0 he) m cH ?_ Ext.refl);simp only[DV.h,hL];exact⟨_,rfl,_,_,rfl,rfl,rfl⟩
    .rw[hv,hrun]at hr;have hq:=h1 k hk;rw[kz]at hq;obtain⟨m',s',e⟩:=m.ZF (al:=al) (d:=.walk ks1 (dn1++[k])) (ob:=o') hj rfl hA u9 (w1:=w1) hw1 (λU' lt=>hW U' _ (λhu=>H.nu (lt.sub _ H.low hu)) (e8 H.low lt.size) (by rw[TO (jf hne),hw1.1]));refine fc hr (o6.ret hq m' (nS s' cH) ?_ e);simp only[DV.h,hL];exact⟨_,rfl,_,_,rfl,rfl,_,_,rfl,ayD k,_,_,rfl,rfl,rfl⟩
   .cases hp
  .cases hp
 .cases hp
end
end Go.Vc
namespace Go.Vc
open Go Go.RowKit
def Ow(B:Nat->Nat)(A:zx)(pb:ij)(rw:List DR):Nat->Prop:=λb=>∃k i,iK B A pb rw k i b
def Ctr(P:Program)(g:FuncId)(args:List DV)(pb:ij)(rw:List DR)(Q:DV->ij->List DR->Prop):Prop:=∀(U0:Nat->Prop) (B:Nat->Nat) (A:zx) (vs:List Value) (w:World),Mem w U0 (Ow B A pb rw) B A pb rw w->hL (env U0 B A pb rw w) args vs->nz P g vs.toArray w λv w'=>∃B' A' r pb' rw',Mem w U0 (Ow B A pb rw) B' A' pb' rw' w'/\r.h (env U0 B' A' pb' rw' w') v/\(∀i,live pb i->live pb' i/\B' i=B i)/\Q r pb' rw'
def anl(P:Program)(g:FuncId)(s:ES):Prop:=∀x q,s.fn x=some q->Ctr P g (zO s.P x) [] [] λr pb' rw'=>pb'=[]/\(r,rw')=s.Q.mk q []
def J7(P:Program)(g:FuncId)(s:LS):Prop:=∀z o,s.fn z=some o->Ctr P g (Hl s.P .unit (zP s.B _ z []).2.1 (zP s.B _ z []).2.2).1 (zP s.B _ z []).1 (Hl s.P .unit (zP s.B _ z []).2.1 (zP s.B _ z []).2.2).2.2 λr pb' rw'=>pb'=(zP s.E .unit o.2 []).1/\(r,rw')=s.Q.mk o.1 (zP s.E .unit o.2 []).2.2
def ant(P:Program)(g:FuncId)(s:MU):Prop:=∀l z l',s.fn l z=some l'->l'.length=l.length/\∀(U0:Nat->Prop) (B:Nat->Nat) (A:zx) (vs:List Value) (w:World),Mem w U0 (Ow B A [] [.own s.e s.t l]) B A [] [.own s.e s.t l] w->hL (env U0 B A [] [.own s.e s.t l] w) (.row 0::(Hl s.P .unit z []).1) vs->nz P g vs.toArray w λv w'=>v=.tuple #[]/\Mem w U0 (Ow B A [] [.own s.e s.t l]) B A [] [.own s.e s.t l'] w'
def ani(P:Program)(g:FuncId):EC->Prop
 | .mu s=>ant P g s
 | .es s=>anl P g s
 | .ls s=>J7 P g s
def Et(P:Program):GK->Prop
 |[]=>True
 |(n,c)::C=>ani P n c/\Et P C
theorem aow{P}:∀{C:GK} {g:Nat} {xs:List DV} {c:EC},Et P C->c∈esL C g xs->ani P g c
 |[],g,xs,c,hC,h=>by simp[esL]at h
 |(n,s)::C,g,xs,c,hC,h=>by
  simp only[esL]at h;split at h
  .rename_i hb;simp only[aB]at hb;rcases aF.1 h with rfl|h
   .have:=aE hb.1;subst this;exact hC.1
   .exact aow hC.2 h
  .exact aow hC.2 h
theorem TZ{P}{J}{n}:∀{C:GK} (i:Nat),Et P C->Et P (ac2 J n i C)
 |[],_,h=>h
 |(g,c)::C,i,h=>by
  simp only[ac2];split
  .exact TZ (i+1) h.2
  .exact⟨h.1,TZ (i+1) h.2⟩
theorem acA{P}{J}{C}(h:Et P C):Et P (ahU J C):=by
 unfold ahU;split
 .exact TZ 0 h
 .exact h
def lB(B:Nat->Nat)(σ:Nat->Option Nat):Nat->Nat:=λk=>B ((σ k).getD 0)
def lA(A:zx)(rs:List (Option Nat)):zx:=λn=>match rs[n]? with|some (some j)=>A j|_=>(none,0)
def lU(U:Nat->Prop)(B:Nat->Nat)(A:zx)(rw:List DR)(L0 bor:Nat->Prop):Nat->Prop:=λb=>U b/\¬L0 b/\¬ ∃j,bor j/\iK B A [] rw true j b
section
variable {V : World} {U0 L : Nat -> Prop} {al : Nat -> Bool} {B : Nat -> Nat} {A : zx} {ts : List DV} {pb : ij} {rw : List DR} {w : World}
theorem Mem.awf(m:Mem V U0 L B A pb rw w){σ:Nat->Option Nat}{rs:List (Option Nat)}{bor:Nat->Prop}{pb0:ij}{rw0:List DR}
 (hb:∀(k:Nat) (b0:DB),pb0[k]?=some (some b0)->∃i b,σ k=some i/\pb[i]?=some (some b)/\b0.ty=b.ty/\b0.w=true)
 (hc:∀(k:Nat) (b0:DB) (i:Nat) (b:DB),pb0[k]?=some (some b0)->σ k=some i->pb[i]?=some (some b)->∀vs,hL (env U0 B A pb rw w) b.cells vs->hL (env (lU (Us U0 B A pb rw) B A rw (Ow (lB B σ) (lA A rs) pb0 rw0) bor) (lB B σ) (lA A rs) pb0 rw0 w) b0.cells vs)
 (hσ:∀(k k' i:Nat),σ k=some i->σ k'=some i->k=k')
 (hr:∀(n:Nat) (r:DR),rw0[n]?=some r->(∃j e t l,rs[n]?=some (some j)/\rw[j]?=some r/\r=.own e t l)\/(rs[n]?=some none/\∃e t,r=.own e t []))
 (hρ:∀(n n' j:Nat),rs[n]?=some (some j)->rs[n']?=some (some j)->n=n'):
 Mem w (lU (Us U0 B A pb rw) B A rw (Ow (lB B σ) (lA A rs) pb0 rw0) bor) (Ow (lB B σ) (lA A rs) pb0 rw0) (lB B σ) (lA A rs) pb0 rw0 w/\
  (∀b,Us (lU (Us U0 B A pb rw) B A rw (Ow (lB B σ) (lA A rs) pb0 rw0) bor) (lB B σ) (lA A rs) pb0 rw0 b->Us U0 B A pb rw b)/\
  (∀n b,iK (lB B σ) (lA A rs) pb0 rw0 true n b->∃j,rs[n]?=some (some j)/\iK B A pb rw true j b)/\
  (∀k b,iK (lB B σ) (lA A rs) pb0 rw0 false k b->∃i,σ k=some i/\iK B A pb rw false i b):=by
 have h1:∀n b,iK (lB B σ) (lA A rs) pb0 rw0 true n b->∃j,rs[n]?=some (some j)/\iK B A pb rw true j b:=by
  rintro n b ⟨r,ad,g1,g2,g3,g4⟩;rcases hr n r g1 with⟨j,e,t,l,k1,k2,k3⟩|⟨k1,_⟩
  .refine⟨j,k1,r,ad,k2,g2,?_,g4⟩;simpa only[lA,k1]using g3
  .simp only[lA,k1]at g3;cases g3
 have h2:∀k b,iK (lB B σ) (lA A rs) pb0 rw0 false k b->∃i,σ k=some i/\iK B A pb rw false i b:=by rintro k b ⟨⟨b0,g1⟩,g2⟩;obtain⟨i,b1,k1,k2,_⟩:=hb k b0 g1;exact⟨i,k1,⟨b1,k2⟩,by simpa only[lB,k1,gM]using g2⟩
 have h3:∀k i b,iK (lB B σ) (lA A rs) pb0 rw0 k i b->∃i',iK B A pb rw k i' b:=by
  intro k i b h;cases k with
  |true=>obtain⟨j,_,h⟩:=h1 i b h;exact⟨j,h⟩
  |false=>obtain⟨j,_,h⟩:=h2 i b h;exact⟨j,h⟩
 have hU:∀b,Us (lU (Us U0 B A pb rw) B A rw (Ow (lB B σ) (lA A rs) pb0 rw0) bor) (lB B σ) (lA A rs) pb0 rw0 b->Us U0 B A pb rw b:=by
  rintro b (⟨h,_⟩|⟨k,i,h⟩)
  .exact h
  .obtain⟨i',h⟩:=h3 k i b h;exact .inr ⟨k,i',h⟩
 have hlt:∀b,Us U0 B A pb rw b->b<w.heap.size:=by
  rintro b (h|⟨k,i,h⟩)
  .exact e8 (m.u0 b h).1 m.size
  .exact(m.low k i b h).1
 refine⟨⟨rfl,rfl,rfl,au _,λ_ _ _=>rfl,λb h=>⟨hlt b h.1,h.2.1⟩,λk i b h=>?_,λk i k' i' b h h'=>?_,λk b0 h=>?_,λn e t l h=>?_,λn d h=>?_⟩,hU,h1,h2⟩
 .obtain⟨i',g⟩:=h3 k i b h;exact⟨(m.low k i' b g).1,.inr ⟨k,i,h⟩⟩
 .cases k with
  |true=>
   obtain⟨j,g1,g2⟩:=h1 i b h;cases k' with
   |true=>obtain⟨j',g3,g4⟩:=h1 i' b h';have:=(m.inj _ _ _ _ _ g2 g4).2;subst this;exact⟨rfl,hρ _ _ _ g1 g3⟩
   |false=>obtain⟨j',g3,g4⟩:=h2 i' b h';have:=(m.inj _ _ _ _ _ g2 g4).1;cases this
  |false=>
   obtain⟨j,g1,g2⟩:=h2 i b h;cases k' with
   |true=>obtain⟨j',g3,g4⟩:=h1 i' b h';have:=(m.inj _ _ _ _ _ g2 g4).1;cases this
   |false=>obtain⟨j',g3,g4⟩:=h2 i' b h';have:=(m.inj _ _ _ _ _ g2 g4).2;subst this;exact⟨rfl,hσ _ _ _ g1 g3⟩
 .obtain⟨i,b,g1,g2,g3,g4⟩:=hb k b0 h;obtain⟨cs,k1,k2,_⟩:=m.box i b g2;exact⟨cs,by simp only[lB,g1,gM,g3];exact k1,hc k b0 i b h g1 g2 cs k2,λhw=>by rw[g4]at hw;cases hw⟩
 .rcases hr n _ h with⟨j,e',t',l',k1,k2,k3⟩|⟨k1,e',t',k3⟩
  .obtain⟨xs,g1,g2⟩:=m.row j e t l k2;refine⟨xs,by simp only[lA,k1];exact g1,DT.kw ⟨λ_ _ _=>rfl,au _,λb _ h=>hU b h⟩ g2⟩
  .simp only[DR.own.injEq]at k3;obtain⟨rfl,rfl,k3⟩:=k3;cases k3;exact⟨[],by simp only[lA,k1];exact wJ w 0 e t.size,DT.FB⟩
 .rcases hr n _ h with⟨j,e',t',l',k1,k2,k3⟩|⟨k1,e',t',k3⟩<;>cases k3
end
mutual
def DV.GB(σ:Nat->Option Nat)(js:List Nat):DV->DV
 | .row n=>match js[n]? with|some j=>.row j|none=>.jz
 | .own k o=>match σ k with|some i=>.own i o|none=>.jz
 | .fn g cs=>.fn g (FG σ js cs)
 | .agg xs=>.agg (FG σ js xs)
 | .IC xs=>.IC (FG σ js xs)
 | .el _ _ _=>.jz
 | .re _ _ _=>.jz
 | .rt _ _=>.jz
 | .ob _=>.jz
 | .fns xs=>.fns (FG σ js xs)
 | .fp _ _=>.jz
 | .ra _=>.jz
 | .rs _ _=>.jz
 | .cs _ _=>.jz
 |p=>p
def FG(σ:Nat->Option Nat)(js:List Nat):List DV->List DV
 |[]=>[]
 |p::ps=>p.GB σ js::FG σ js ps
end
mutual
def DV.T0(f:Bool):DV->Bool
 | .sl _ _=>f
 | .set _=>f
 | .fn _ cs=>ED f cs
 | .agg cs=>ED f cs
 | .IC cs=>ED f cs
 | .fns cs=>f&&ED f cs
 |_=>true
def ED(f:Bool):List DV->Bool
 |[]=>true
 |p::ps=>p.T0 f&&ED f ps
end
theorem acB(σ)(js):(ps:List DV)->(FG σ js ps).length=ps.length
 |[]=>rfl
 |p::ps=>by simp only[FG,aJ,acB σ js ps]
structure Tr(f:Bool)(σ:Nat->Option Nat)(js:List Nat)(E E':Env):Prop where
 sl:f=true->lD E.U E'.U E.w E'.w
 bx:∀k i,σ k=some i->live E.pb k->live E'.pb i/\E'.B i=E.B k
 row:∀n j e t l,js[n]?=some j->E.rw[n]?=some (.own e t l)->E'.rw[j]?=some (.own e t l)/\E'.A j=E.A n
mutual
theorem DV.aox{f}{σ}{js:List Nat}{E E':Env}(s:Tr f σ js E E'):(p:DV)->p.T0 f=true->{v:Value}->p.h E v->(p.GB σ js).h E' v
 | .int _ _,_,_,h=>by simpa only[DV.GB,DV.h]using h
 | .bool _,_,_,h=>by simpa only[DV.GB,DV.h]using h
 | .lit _,_,_,h=>by simpa only[DV.GB,DV.h]using h
 | .str _,_,_,h=>by simpa only[DV.GB,DV.h]using h
 | .v _,_,_,h=>by simpa only[DV.GB,DV.h]using h
 | .OJ,_,_,h=>by simpa only[DV.GB,DV.h]using h
 | .sl t l,o,_,h=>by
  cases f with
  |false=>simp[DV.T0]at o
  |true=>simp only[DV.GB,DV.h]at h ⊢;exact(DT.slc t).mono (s.sl rfl) h
 | .set ks,o,_,h=>by
  cases f with
  |false=>simp[DV.T0]at o
  |true=>simp only[DV.GB,DV.h]at h ⊢;exact DT.set.mono (s.sl rfl) h
 | .row n,_,v,h=>by
  simp only[DV.h]at h;obtain⟨e,t,l,hj,rfl⟩:=h;unfold DV.GB;cases hn:js[n]? with
  |none=>simp only[DV.h]
  |some j=>obtain⟨h1,h2⟩:=s.row n j e t l hn hj;simp only[DV.h];exact⟨e,t,l,h1,by rw[h2]⟩
 | .own k o,_,v,h=>by
  simp only[DV.h]at h;obtain⟨h1,rfl⟩:=h;unfold DV.GB;cases hk:σ k with
  |none=>simp only[DV.h]
  |some i=>obtain⟨h2,h3⟩:=s.bx k i hk h1;simp only[DV.h];exact⟨h2,by rw[h3]⟩
 | .fn g cs,o,v,h=>by simp only[DV.GB,DV.h]at h ⊢;obtain⟨vs,rfl,h⟩:=h;exact⟨vs,rfl,OW s cs (by simpa only[DV.T0]using o) h⟩
 | .agg xs,o,v,h=>by simp only[DV.GB,DV.h]at h ⊢;obtain⟨vs,rfl,h⟩:=h;exact⟨vs,rfl,OW s xs (by simpa only[DV.T0]using o) h⟩
 | .IC xs,o,v,h=>by simp only[DV.GB,DV.h]at h ⊢;obtain⟨vs,rfl,h⟩:=h;exact⟨vs,rfl,OW s xs (by simpa only[DV.T0]using o) h⟩
 | .el _ _ _,_,_,_=>by simp only[DV.GB,DV.h]
 | .re _ _ _,_,_,_=>by simp only[DV.GB,DV.h]
 | .rt _ _,_,_,_=>by simp only[DV.GB,DV.h]
 | .ob _,_,_,_=>by simp only[DV.GB,DV.h]
 | .fp _ _,_,_,_=>by simp only[DV.GB,DV.h]
 | .ra _,_,_,_=>by simp only[DV.GB,DV.h]
 | .rs _ _,_,_,_=>by simp only[DV.GB,DV.h]
 | .cs _ _,_,_,_=>by simp only[DV.GB,DV.h]
 | .fns xs,o,v,h=>by simp only[DV.T0,aB]at o;simp only[DV.GB,DV.h]at h ⊢;obtain⟨ad,vs,c,rfl,h,k⟩:=h;exact⟨ad,vs,c,by rw[acB],OW s xs o.2 h,k.mono (s.sl o.1)⟩
 | .jz,_,_,_=>by simp only[DV.GB,DV.h]
theorem OW{f}{σ}{js:List Nat}{E E':Env}(s:Tr f σ js E E'):(ps:List DV)->ED f ps=true->{vs:List Value}->hL E ps vs->hL E' (FG σ js ps) vs
 |[],_,_,h=>by simpa only[FG,hL]using h
 |p::ps,o,_,h=>by simp only[ED,aB]at o;simp only[hL,FG]at h ⊢;obtain⟨v,Cz,rfl,h1,h2⟩:=h;exact⟨v,Cz,rfl,DV.aox s p o.1 h1,OW s ps o.2 h2⟩
end
end Go.Vc




namespace Go.Vc
open Go Go.RowKit
structure MI(E:Env)(m:MS)(rw0:List DR):Prop where
 len:m.rs.length=rw0.length
 row:∀(n:Nat) (r:DR),rw0[n]?=some r->(∃j e t l,m.rs[n]?=some (some j)/\E.rw[j]?=some r/\r=.own e t l)\/(m.rs[n]?=some none/\∃e t,r=.own e t [])
 inj:∀(n n' j:Nat),m.rs[n]?=some (some j)->m.rs[n']?=some (some j)->n=n'
 left:∀(j:Nat),(∀n:Nat,m.rs[n]?≠some (some j))->m.rw[j]?=E.rw[j]?
 gone:∀(n j:Nat),m.rs[n]?=some (some j)->m.rw[j]?=some .dead
theorem MI.nil(E):MI E ⟨[],E.rw⟩ []:=⟨rfl,λn r h=>by simp at h,λn n' j h=>by simp at h,λ_ _=>rfl,λn j h=>by simp at h⟩
theorem kG{α}{l}{x y:α}{n:Nat}(h:(l++[x])[n]?=some y):(n<l.length/\l[n]?=some y)\/(n=l.length/\x=y):=by
 rcases dS n l.length with hl|hl
 .rw[bB hl]at h;exact .inl ⟨hl,h⟩
 .have:=(ay.1 h).1;simp at this;have:n=l.length:=by omega
  subst this;simp at h;exact .inr ⟨rfl,h⟩
theorem MI.take{E}{m}{rw0:List DR}(h:MI E m rw0){j:Nat}{e:TypeId}{t:DT}{l:List t.den}(hj:m.rw[j]?=some (.own e t l)):MI E ⟨m.rs++[some j],m.rw.set j .dead⟩ (rw0++[.own e t l])/\E.rw[j]?=some (.own e t l):=by
 have hn:∀n:Nat,m.rs[n]?≠some (some j):=λn hn=>by rw[h.gone n j hn]at hj;cases hj
 have hE:=(h.left j hn).symm.trans hj;have hl:=(ay.1 hj).1;refine⟨⟨by simp[h.len],λn r hr=>?_,λn n' k h1 h2=>?_,λk hk=>?_,λn k hk=>?_⟩,hE⟩
 .rcases kG hr with⟨hlt,hr⟩|⟨rfl,rfl⟩
  .have e1:(m.rs++[some j])[n]?=m.rs[n]?:=bB (by rw[h.len];exact hlt);simp only[e1];exact h.row n r hr
  .exact .inl ⟨j,e,t,l,by simp[<-h.len],hE,rfl⟩
 .rcases kG h1 with⟨_,h1⟩|⟨e1,g1⟩
  .rcases kG h2 with⟨_,h2⟩|⟨_,g2⟩
   .exact h.inj n n' k h1 h2
   .simp only[ak]at g2;subst g2;exact absurd h1 (hn n)
  .simp only[ak]at g1;subst g1;rcases kG h2 with⟨_,h2⟩|⟨e2,_⟩
   .exact absurd h2 (hn n')
   .rw[e1,e2]
 .have hkj:k≠j:=by rintro rfl;exact hk m.rs.length (by simp)
  rw[bc,ag (jf hkj)];refine h.left k λn GO=>hk n ?_
  rw[bB (ay.1 GO).1];exact GO
 .by_cases hkj:k=j
  .subst hkj;rw[bc,ah rfl,ah hl]
  .rw[bc,ag (jf hkj)];rcases kG hk with⟨_,hk⟩|⟨_,gk⟩
   .exact h.gone n k hk
   .simp only[ak]at gk;exact absurd gk.symm hkj
theorem MI.emp{E}{m}{rw0}(h:MI E m rw0)(e:TypeId)(t:DT):MI E ⟨m.rs++[none],m.rw⟩ (rw0++[.own e t []]):=by
 have hs:∀{n j:Nat},(m.rs++[none])[n]?=some (some j)->m.rs[n]?=some (some j):=λhk=>by
  rcases kG hk with⟨_,hk⟩|⟨_,gk⟩
  .exact hk
  .cases gk
 refine⟨by simp[h.len],λn r hr=>?_,λn n' k h1 h2=>h.inj n n' k (hs h1) (hs h2),λk hk=>?_,λn k hk=>h.gone n k (hs hk)⟩
 .rcases kG hr with⟨hlt,hr⟩|⟨rfl,rfl⟩
  .have e1:(m.rs++[Option.none])[n]?=m.rs[n]?:=bB (by rw[h.len];exact hlt);simp only[e1];exact h.row n r hr
  .exact .inr ⟨by simp[<-h.len],e,t,rfl⟩
 .refine h.left k λn GO=>hk n ?_
  rw[bB (ay.1 GO).1];exact GO
structure TrI(am:List (Nat×Nat))(rs:List (Option Nat))(E E0:Env):Prop where
 sl:lD E.U E0.U E.w E0.w
 bx:∀k i,Gi am k=some i->live E.pb i->live E0.pb k/\E0.B k=E.B i
 row:∀(n j:Nat) e t l,rs[n]?=some (some j)->E.rw[j]?=some (.own e t l)->E0.rw[n]?=some (.own e t l)/\E0.A n=E.A j
 nil:∀(n:Nat),rs[n]?=some none->(∃e t,E0.rw[n]?=some (.own e t []))/\E0.A n=(none,0)
theorem au8{E E0}(l:lD E.U E0.U E.w E0.w):∀{P:DT} {ps:List DV} {x:P.den} {vs:List Value},ofA P ps=some x->hL E ps vs->hL E0 (zO P x) vs
 | .unit,ps,x,vs,h,hv=>by
  simp only[ofA]at h;split at h
  .simp only[zO,hL]at hv ⊢;exact hv
  .cases h
 | .pair a b,ps,x,vs,h,hv=>by
  simp only[ofA]at h;split at h
  .split at h
   .rename_i x1 x2 h1 h2;simp only[ak]at h;subst h;simp only[hL]at hv;obtain⟨v,Cz,rfl,h3,h4⟩:=hv;simp only[zO,hL];exact⟨v,Cz,rfl,a.acb (DT.RT l (DT.Xt h1 h3)),au8 l h2 h4⟩
   .cases h
  .cases h
 | .int _,ps,x,vs,h,_=>by simp[ofA]at h
 | .bool,ps,x,vs,h,_=>by simp[ofA]at h
 | .str,ps,x,vs,h,_=>by simp[ofA]at h
 | .slc _,ps,x,vs,h,_=>by simp[ofA]at h
theorem NK.ayF{n:NK}{y:Value}(h:n.is y=true):y=n.val:=by unfold NK.is at h;split at h<;>first|rfl|cases h
mutual
theorem PK.x_s{am:List (Nat×Nat)}{E:Env}:(p:PK)->(r:DT)->(u:DV)->(m:MS)->(k:MS->Option (r.den×MS))->(rw0:List DR)->(z:(p.T r).den)->(mF:MS)->p.x am r u m k=some (z,mF)->MI E m rw0->
 ∃z0 m1 ju,k m1=some (z0,mF)/\(p.mk r z rw0).2=(z0,ju)/\MI E m1 ju/\(∃a,m1.rs=m.rs++a)/\(∃b,ju=rw0++b)/\∀E0 v,(∃a,mF.rs=m1.rs++a)->TrI am mF.rs E E0->u.h E v->(p.mk r z rw0).1.h E0 v
 | .v t,r,u,m,k,rw0,z,mF,h,hm=>by
  simp only[PK.x]at h;split at h
  .rename_i x y m1 hx hk;simp only[ak,bV]at h;obtain⟨rfl,rfl⟩:=h;exact⟨y,m,rw0,hk,rfl,hm,⟨[],by simp⟩,⟨[],by simp⟩,λE0 v _ s hu=>t.acb (DT.RT s.sl (DT.Xt hx hu))⟩
  .cases h
 | .row e t,r,u,m,k,rw0,z,mF,h,hm=>by
  simp only[PK.x]at h;split at h
  .rename_i j;split at h
   .rename_i e' t' xs hj;rw[gU]at hj;split at h
    .rename_i hh y m1 he hs hk;simp only[ak,bV]at h;obtain⟨rfl,rfl⟩:=h;have he:=aE he;subst he hh;obtain⟨hm',hE⟩:=hm.take hj;refine⟨y,_,rw0++[.own e' t' xs],hk,rfl,hm',⟨_,rfl⟩,⟨_,rfl⟩,λE0 v ⟨a,ha⟩ s hu=>?_⟩;have hn:m1.rs[rw0.length]?=some (some j):=by rw[ha];simp[<-hm.len]
     obtain⟨g1,g2⟩:=s.row _ _ _ _ _ hn hE;simp only[DV.h]at hu;obtain⟨e2,t2,l2,hj2,rfl⟩:=hu;rw[hE]at hj2;simp only[ak,DR.own.injEq]at hj2;obtain⟨rfl,rfl,hl2⟩:=hj2;cases hl2;simp only[PK.mk,DV.h];exact⟨_,_,_,g1,by rw[g2]⟩
    .cases h
   .cases h
  .split at h
   .rename_i y m1 hk;simp only[ak,bV]at h;obtain⟨rfl,rfl⟩:=h;refine⟨y,_,rw0++[.own e t []],hk,rfl,hm.emp e t,⟨_,rfl⟩,⟨_,rfl⟩,λE0 v ⟨a,ha⟩ s hu=>?_⟩;have hn:m1.rs[rw0.length]?=some none:=by rw[ha];simp[<-hm.len]
    obtain⟨⟨e1,t1,g1⟩,g2⟩:=s.nil _ hn;simp only[DV.h]at hu;subst hu;simp only[PK.mk,DV.h];exact⟨_,_,_,g1,by rw[g2];rfl⟩
   .cases h
  .cases h
 | .ptr n,r,u,m,k,rw0,z,mF,h,hm=>by
  simp only[PK.x]at h;split at h
  .rename_i i o;split at h
   .rename_i i' hl;split at h
    .rename_i hb;have hb:=aE hb;subst hb;refine⟨z,m,rw0,h,rfl,hm,⟨[],by simp⟩,⟨[],by simp⟩,λE0 v _ s hu=>?_⟩;simp only[DV.h]at hu;obtain⟨g1,rfl⟩:=hu;obtain⟨g2,g3⟩:=s.bx _ _ hl g1;simp only[PK.mk,DV.h];exact⟨g2,by rw[g3]⟩
    .cases h
   .cases h
  .cases h
 | .fn g l,r,u,m,k,rw0,z,mF,h,hm=>by
  simp only[PK.x]at h;split at h
  .rename_i g' cs;split at h
   .rename_i hg;have hg:=aE hg;subst hg;obtain⟨z0,m1,ju,h1,h2,h3,h4,h5,h6⟩:=T1 l r cs m k rw0 z mF h hm;refine⟨z0,m1,ju,h1,by simp only[PK.mk];exact h2,h3,h4,h5,λE0 v ha s hu=>?_⟩;simp only[DV.h]at hu;obtain⟨vs,rfl,hu⟩:=hu;simp only[PK.mk,DV.h];exact⟨vs,rfl,h6 E0 _ ha s hu⟩
   .cases h
  .cases h
 | .agg l,r,u,m,k,rw0,z,mF,h,hm=>by
  simp only[PK.x]at h;split at h
  .rename_i cs;obtain⟨z0,m1,ju,h1,h2,h3,h4,h5,h6⟩:=T1 l r cs m k rw0 z mF h hm;refine⟨z0,m1,ju,h1,by simp only[PK.mk];exact h2,h3,h4,h5,λE0 v ha s hu=>?_⟩;simp only[DV.h]at hu;obtain⟨vs,rfl,hu⟩:=hu;simp only[PK.mk,DV.h];exact⟨vs,rfl,h6 E0 _ ha s hu⟩
  .cases h
 | .fns l,r,u,m,k,rw0,z,mF,h,hm=>by
  simp only[PK.x]at h;split at h
  .rename_i cs;obtain⟨z0,m1,ju,h1,h2,h3,h4,h5,h6⟩:=T1 l r cs m k rw0 z mF h hm;refine⟨z0,m1,ju,h1,by simp only[PK.mk];exact h2,h3,h4,h5,λE0 v ha s hu=>?_⟩;simp only[DV.h]at hu;obtain⟨ad,vs,c,rfl,hu,hk⟩:=hu;have hh:=h6 E0 _ ha s hu;simp only[PK.mk,DV.h];exact⟨ad,vs,c,by rw[<-ql hu,ql hh],hh,hk.mono s.sl⟩
  .cases h
 | .nil n,r,u,m,k,rw0,z,mF,h,hm=>by
  simp only[PK.x]at h;split at h
  .rename_i y;split at h
   .rename_i hb;refine⟨z,m,rw0,h,rfl,hm,⟨[],by simp⟩,⟨[],by simp⟩,λE0 v _ s hu=>?_⟩;simp only[DV.h]at hu;subst hu;simp only[PK.mk,DV.h];exact NK.ayF hb
   .cases h
  .cases h
theorem T1{am}{E}:(l:List PK)->(r:DT)->(us:List DV)->(m:MS)->(k:MS->Option (r.den×MS))->(rw0:List DR)->(z:(Jt l r).den)->(mF:MS)->pkX am l r us m k=some (z,mF)->MI E m rw0->
 ∃z0 m1 ju,k m1=some (z0,mF)/\(Hl l r z rw0).2=(z0,ju)/\MI E m1 ju/\(∃a,m1.rs=m.rs++a)/\(∃b,ju=rw0++b)/\∀E0 vs,(∃a,mF.rs=m1.rs++a)->TrI am mF.rs E E0->hL E us vs->hL E0 (Hl l r z rw0).1 vs
 |[],r,us,m,k,rw0,z,mF,h,hm=>by
  simp only[pkX]at h;split at h
  .exact⟨z,m,rw0,h,rfl,hm,⟨[],by simp⟩,⟨[],by simp⟩,λE0 vs _ _ hu=>by simpa only[Hl,hL]using hu⟩
  .cases h
 |p::l,r,us,m,k,rw0,z,mF,h,hm=>by
  simp only[pkX]at h;split at h
  .rename_i u us;obtain⟨z0,m1,ju,h1,h2,h3,⟨a1,h4⟩,⟨b1,h5⟩,h6⟩:=PK.x_s p (Jt l r) u m _ rw0 z mF h hm;obtain⟨z2,m2,uX,g1,g2,g3,⟨a2,g4⟩,⟨b2,g5⟩,g6⟩:=T1 l r us m1 k ju z0 mF h1 h3;have e1:(p.mk (Jt l r) z rw0)=((p.mk (Jt l r) z rw0).1,z0,ju):=by rw[<-h2]
   refine⟨z2,m2,uX,g1,?_,g3,⟨a1++a2,by rw[g4,h4,bq]⟩,⟨b1++b2,by rw[g5,h5,bq]⟩,λE0 vs ⟨a,ha⟩ s hu=>?_⟩
   .simp only[Hl];rw[e1];simp only[g2]
   .simp only[hL]at hu;obtain⟨v,Cz,rfl,hu1,hu2⟩:=hu;simp only[Hl];rw[e1];simp only[hL];exact⟨v,Cz,rfl,h6 E0 v ⟨a2++a,by rw[ha,g4,bq]⟩ s hu1,g6 E0 Cz ⟨a,ha⟩ s hu2⟩
  .cases h
end
theorem aoy{am}{E}:(l:List BK)->(n:Nat)->(r:DT)->(m:MS)->(k:MS->Option (r.den×MS))->(rw0:List DR)->(z:(Ge l r).den)->(mF:MS)->bkX am E.pb l n r m k=some (z,mF)->MI E m rw0->
 ∃z0 m1 ju,k m1=some (z0,mF)/\(zP l r z rw0).2=(z0,ju)/\MI E m1 ju/\(∃a,m1.rs=m.rs++a)/\(∃b,ju=rw0++b)/\(zP l r z rw0).1.length=l.length/\
  (∀(q:Nat) (b0:DB),(zP l r z rw0).1[q]?=some (some b0)->∃i b,Gi am (n+q)=some i/\E.pb[i]?=some (some b)/\b0.ty=b.ty/\b0.w=true/\∀E0,(∃a,mF.rs=m1.rs++a)->TrI am mF.rs E E0->∀vs,hL E b.cells vs->hL E0 b0.cells vs)/\
  (∀q:Nat,q<l.length->∃b0,(zP l r z rw0).1[q]?=some (some b0))
 |[],n,r,m,k,rw0,z,mF,h,hm=>⟨z,m,rw0,h,rfl,hm,⟨[],by simp⟩,⟨[],by simp⟩,rfl,by simp[zP],by simp⟩
 |Bk::l,n,r,m,k,rw0,z,mF,h,hm=>by
  simp only[bkX]at h;split at h
  .rename_i i hi;split at h
   .rename_i b hb;rw[yP]at hb;split at h
    .rename_i hty;have hty:=aE hty;obtain⟨z0,m1,ju,h1,h2,h3,⟨a1,h4⟩,⟨b1,h5⟩,h6⟩:=T1 Bk.cells (Ge l r) b.cells m _ rw0 z mF h hm;obtain⟨z2,m2,uX,g1,g2,g3,⟨a2,g4⟩,⟨b2,g5⟩,g6,g7,g8⟩:=aoy l (n+1) r m1 k ju z0 mF h1 h3;have e1:(Hl Bk.cells (Ge l r) z rw0)=((Hl Bk.cells (Ge l r) z rw0).1,z0,ju):=by rw[<-h2]
     have e2:zP (Bk::l) r z rw0=(some ⟨Bk.ty,(Hl Bk.cells (Ge l r) z rw0).1,true⟩::(zP l r z0 ju).1,z2,uX):=by simp only[zP];rw[e1];simp only[g2]
     rw[e2];refine⟨z2,m2,uX,g1,rfl,g3,⟨a1++a2,by rw[g4,h4,bq]⟩,⟨b1++b2,by rw[g5,h5,bq]⟩,by simp[g6],λq b0 hq=>?_,λq hq=>?_⟩
     .cases q with
      |zero=>simp only[ie,ak]at hq;subst hq;exact⟨i,b,hi,hb,hty.symm,rfl,λE0 ⟨a,ha⟩ s vs hv=>h6 E0 vs ⟨a2++a,by rw[ha,g4,bq]⟩ s hv⟩
      |succ q=>obtain⟨i',b',k1,k2,k3,k4,k5⟩:=g7 q b0 (by simpa using hq);exact⟨i',b',by rw[show n+(q+1)=n+1+q by omega];exact k1,k2,k3,k4,k5⟩
     .cases q with
      |zero=>exact⟨_,rfl⟩
      |succ q=>simpa using g8 q (by simpa using hq)
    .cases h
   .cases h
  .cases h
end Go.Vc




namespace Go.Vc
open Go Go.RowKit
def IH(a b:List Nat):Prop:=∃c,b=a++c
theorem IH.refl(a:List Nat):IH a a:=⟨[],by simp⟩
theorem IH.trans{a b c:List Nat}(h:IH a b)(k:IH b c):IH a c:=by obtain⟨x,rfl⟩:=h;obtain⟨y,rfl⟩:=k;exact⟨x++y,by simp⟩
theorem IH.get{a b:List Nat}(h:IH a b){n j:Nat}(hn:a[n]?=some j):b[n]?=some j:=by obtain⟨c,rfl⟩:=h;rw[bB (ay.1 hn).1];exact hn
structure RO(base qI:List DR)(ρ:List (Option Nat))(p7:List DR)(js:List Nat):Prop where
 len:js.length=qI.length
 row:∀(n j:Nat) (r:DR),js[n]?=some j->qI[n]?=some r->p7[j]?=some r
 inj:∀(n n' j:Nat),js[n]?=some j->js[n']?=some j->n=n'
 sup:∀(a j:Nat),ρ[a]?=some (some j)->p7[j]?=some .dead/\base[j]?=some .dead/\∀n:Nat,js[n]?≠some j
 awg:∀(a b j:Nat),ρ[a]?=some (some j)->ρ[b]?=some (some j)->a=b
 old:∀j:Nat,(∀n:Nat,js[n]?≠some j)->p7[j]?=base[j]?
 new:∀(n j:Nat),js[n]?=some j->base[j]?=some .dead\/base[j]?=none
 own:∀(n:Nat) (r:DR),qI[n]?=some r->∃e t l,r=.own e t l
theorem RO.tail{base qI}{x}{ρ}{p7:List DR}{js:List Nat}(h:RO base qI (x::ρ) p7 js):RO base qI ρ p7 js:=⟨h.len,h.row,h.inj,λa j ha=>h.sup (a+1) j (by simpa using ha),λa b j ha hb=>by have:=h.awg (a+1) (b+1) j (by simpa using ha) (by simpa using hb);omega,h.old,h.new,h.own⟩
theorem RO.lt{base qI}{ρ}{p7}{js:List Nat}(h:RO base qI ρ p7 js){n j:Nat}(hn:js[n]?=some j):j<p7.length:=by have hl:=(ay.1 hn).1;rw[h.len]at hl;exact(ay.1 (h.row n j _ hn (aw hl))).1
theorem RO.put{base qI}{ρ}{p7 sy}{js}(h:RO base qI ρ p7 js){j:Nat}{e:TypeId}{t:DT}{l:List t.den}(hn:∀n:Nat,js[n]?≠some j)(hj:sy[j]?=some (.own e t l))(ho:∀k:Nat,k≠j->sy[k]?=p7[k]?)
 (hb:base[j]?=some .dead\/base[j]?=none) (hs:∀a:Nat,ρ[a]?≠some (some j)):RO base (qI++[.own e t l]) ρ sy (js++[j]):=by
 have ne:∀{n k:Nat},js[n]?=some k->k≠j:=λhk=>by rintro rfl;exact hn _ hk
 refine⟨by simp[h.len],λn k r h1 h2=>?_,λn n' k h1 h2=>?_,λa k ha=>?_,h.awg,λk hk=>?_,λn k h1=>?_,λn r h1=>?_⟩
 .rcases kG h1 with⟨g0,g1⟩|⟨g0,g1⟩
  .rcases kG h2 with⟨_,g2⟩|⟨g2,_⟩
   .rw[ho k (ne g1)];exact h.row n k r g1 g2
   .have:=h.len;omega
  .rcases kG h2 with⟨g2,_⟩|⟨_,g2⟩
   .have:=h.len;omega
   .subst g1 g2;exact hj
 .rcases kG h1 with⟨_,g1⟩|⟨g0,g1⟩
  .rcases kG h2 with⟨_,g2⟩|⟨_,g2⟩
   .exact h.inj n n' k g1 g2
   .exact absurd g2.symm (ne g1)
  .rcases kG h2 with⟨_,g2⟩|⟨g3,_⟩
   .exact absurd g1.symm (ne g2)
   .omega
 .obtain⟨g1,g2,g3⟩:=h.sup a k ha;have hkj:k≠j:=by rintro rfl;exact hs a ha
  refine⟨by rw[ho k hkj];exact g1,g2,λn hk=>?_⟩;rcases kG hk with⟨_,g⟩|⟨_,g⟩
  .exact g3 n g
  .exact hkj g.symm
 .have hkj:k≠j:=by rintro rfl;exact hk js.length (by simp)
  rw[ho k hkj];refine h.old k λn uY=>hk n ?_
  rw[bB (ay.1 uY).1];exact uY
 .rcases kG h1 with⟨_,g⟩|⟨_,g⟩
  .exact h.new n k g
  .subst g;exact hb
 .rcases kG h1 with⟨_,g⟩|⟨_,g⟩
  .exact h.own n r g
  .exact⟨e,t,l,g.symm⟩
section
variable {β : Type} {q : β} {σ : Nat -> Option Nat} {base : List DR}
theorem aoz{ρ:List (Option Nat)}{e:TypeId}{t:DT}{l:List t.den}{p7 qI:List DR}{js:List Nat}{K:DV->List (Option Nat)->List DR->Option β}(h:arH ρ e t l p7 K=some q)(ro:RO base qI ρ p7 js):
 ∃j ρ' sy,K (.row j) ρ' sy=some q/\RO base (qI++[.own e t l]) ρ' sy (js++[j]):=by
 have push:∀ρ',RO base qI ρ' p7 js->K (.row p7.length) ρ' (p7++[.own e t l])=some q->∃j ρ' sy,K (.row j) ρ' sy=some q/\RO base (qI++[.own e t l]) ρ' sy (js++[j]):=λρ' ro h=>by
  have hn:∀n:Nat,js[n]?≠some p7.length:=λn hn=>by have:=ro.lt hn;omega
  refine⟨_,ρ',_,h,ro.put hn (by simp) (λk hk=>?_) (.inr ?_) λa ha=>?_⟩
  .rcases dS k p7.length with hl|hl
   .rw[bB hl]
   .rw[bH (by simp;omega),bH hl]
  .rw[<-ro.old _ hn,bH (au _)]
  .have:=(ro.sup a _ ha).1;rw[bH (au _)]at this;cases this
 unfold arH at h;split at h
 .rename_i j ρ';rw[kz]at h;obtain⟨g1,g2,g3⟩:=ro.sup 0 j rfl;have hl:=(ay.1 g1).1;refine⟨j,ρ',_,h,ro.tail.put g3 (by rw[bc,ah rfl,ah hl]) (λk hk=>by rw[bc,ag (jf hk)]) (.inl g2) λa ha=>?_⟩;have:=ro.awg 0 (a+1) j rfl (by simpa using ha);omega
 .rename_i ρ';rw[rL,yi]at h;exact push _ ro.tail h
 .rw[rL,yi]at h;exact push _ ro h
theorem II(js):(t:DT)->(x:t.den)->(r:List DV)->FG σ js (t.cells x r)=t.cells x (FG σ js r)
 | .int _,_,_ | .bool,_,_ | .str,_,_ | .slc _,_,_ | .set,_,_ | .unit,_,_=>rfl
 | .pair a b,x,r=>by simp only[DT.cells];rw[II js a,II js b]
theorem aif(js:List Nat):(t:DT)->(x:t.den)->(t.val x).GB σ js=t.val x
 | .int _,_ | .bool,_ | .str,_ | .slc _,_ | .set,_ | .unit,_=>rfl
 | .pair a b,x=>by simp only[DT.val,DV.GB];rw[II js a,II js b];rfl
theorem aih{js:List Nat}{n j:Nat}(h:js[n]?=some j):(DV.row n).GB σ js=.row j:=by simp only[DV.GB,h]
mutual
theorem PK.o_s:(p:PK)->(r:DT)->(z:(p.T r).den)->(ρ:List (Option Nat))->(p7:List DR)->(K:DV->r.den->List (Option Nat)->List DR->Option β)->(qI:List DR)->(js:List Nat)->p.o σ r z ρ p7 K=some q->RO base qI ρ p7 js->
 ∃d ρ' sy Rc,K d (p.mk r z qI).2.1 ρ' sy=some q/\RO base (p.mk r z qI).2.2 ρ' sy Rc/\IH js Rc/\∀zD,IH Rc zD->d=(p.mk r z qI).1.GB σ zD
 | .v t,r,z,ρ,p7,K,qI,js,h,ro=>⟨_,ρ,p7,js,h,ro,IH.refl _,λzD _=>(aif zD t z.1).symm⟩
 | .row e t,r,z,ρ,p7,K,qI,js,h,ro=>by simp only[PK.o]at h;obtain⟨j,ρ',sy,h1,h2⟩:=aoz h ro;exact⟨_,ρ',sy,_,h1,h2,⟨[j],rfl⟩,λzD hp=>(aih (hp.get (by rw[<-ro.len];simp))).symm⟩
 | .ptr k,r,z,ρ,p7,K,qI,js,h,ro=>by
  simp only[PK.o]at h;split at h
  .rename_i i hi;exact⟨_,ρ,p7,js,h,ro,IH.refl _,λzD _=>by simp only[PK.mk,DV.GB,hi]⟩
  .cases h
 | .fn g l,r,z,ρ,p7,K,qI,js,h,ro=>by simp only[PK.o]at h;obtain⟨ds,ρ',sy,Rc,h1,h2,h3,h4⟩:=acC l r z ρ p7 _ qI js h ro;exact⟨_,ρ',sy,Rc,h1,h2,h3,λzD hp=>by simp only[PK.mk,DV.GB];rw[h4 zD hp]⟩
 | .agg l,r,z,ρ,p7,K,qI,js,h,ro=>by simp only[PK.o]at h;obtain⟨ds,ρ',sy,Rc,h1,h2,h3,h4⟩:=acC l r z ρ p7 _ qI js h ro;exact⟨_,ρ',sy,Rc,h1,h2,h3,λzD hp=>by simp only[PK.mk,DV.GB];rw[h4 zD hp]⟩
 | .fns l,r,z,ρ,p7,K,qI,js,h,ro=>by simp only[PK.o]at h;obtain⟨ds,ρ',sy,Rc,h1,h2,h3,h4⟩:=acC l r z ρ p7 _ qI js h ro;exact⟨_,ρ',sy,Rc,h1,h2,h3,λzD hp=>by simp only[PK.mk,DV.GB];rw[h4 zD hp]⟩
 | .nil n,r,z,ρ,p7,K,qI,js,h,ro=>⟨_,ρ,p7,js,h,ro,IH.refl _,λzD _=>rfl⟩
theorem acC:(l:List PK)->(r:DT)->(z:(Jt l r).den)->(ρ:List (Option Nat))->(p7:List DR)->(K:List DV->r.den->List (Option Nat)->List DR->Option β)->(qI:List DR)->(js:List Nat)->pkO σ l r z ρ p7 K=some q->RO base qI ρ p7 js->
 ∃ds ρ' sy Rc,K ds (Hl l r z qI).2.1 ρ' sy=some q/\RO base (Hl l r z qI).2.2 ρ' sy Rc/\IH js Rc/\∀zD,IH Rc zD->ds=FG σ zD (Hl l r z qI).1
 |[],r,z,ρ,p7,K,qI,js,h,ro=>⟨[],ρ,p7,js,h,ro,IH.refl _,λ_ _=>rfl⟩
 |p::l,r,z,ρ,p7,K,qI,js,h,ro=>by simp only[pkO]at h;obtain⟨d,ρ1,acD,js1,h1,h2,h3,h4⟩:=PK.o_s p (Jt l r) z ρ p7 _ qI js h ro;obtain⟨ds,ρ2,ZH,js2,g1,g2,g3,g4⟩:=acC l r _ ρ1 acD _ _ js1 h1 h2;exact⟨d::ds,ρ2,ZH,js2,g1,g2,h3.trans g3,λzD hp=>by simp only[Hl,FG];rw[<-h4 zD (g3.trans hp),<-g4 zD hp]⟩
end
mutual
theorem QT.o_s:(Q:QT)->(x:Q.den)->(ρ:List (Option Nat))->(p7:List DR)->(K:DV->List (Option Nat)->List DR->Option β)->(qI:List DR)->(js:List Nat)->Q.o σ x ρ p7 K=some q->RO base qI ρ p7 js->
 ∃d ρ' sy Rc,K d ρ' sy=some q/\RO base (Q.mk x qI).2 ρ' sy Rc/\IH js Rc/\∀zD,IH Rc zD->d=(Q.mk x qI).1.GB σ zD
 | .v t,x,ρ,p7,K,qI,js,h,ro=>⟨_,ρ,p7,js,h,ro,IH.refl _,λzD _=>(aif zD t x).symm⟩
 | .own e t,x,ρ,p7,K,qI,js,h,ro=>by simp only[QT.o]at h;obtain⟨j,ρ',sy,h1,h2⟩:=aoz h ro;exact⟨_,ρ',sy,_,h1,h2,⟨[j],rfl⟩,λzD hp=>(aih (hp.get (by rw[<-ro.len];simp))).symm⟩
 | .ptr k,x,ρ,p7,K,qI,js,h,ro=>by
  simp only[QT.o]at h;split at h
  .rename_i i hi;exact⟨_,ρ,p7,js,h,ro,IH.refl _,λzD _=>by simp only[QT.mk,DV.GB,hi]⟩
  .cases h
 | .nil n,x,ρ,p7,K,qI,js,h,ro=>⟨_,ρ,p7,js,h,ro,IH.refl _,λzD _=>rfl⟩
 | .unit,x,ρ,p7,K,qI,js,h,ro=>⟨_,ρ,p7,js,h,ro,IH.refl _,λzD _=>rfl⟩
 | .pair a b,x,ρ,p7,K,qI,js,h,ro=>by simp only[QT.o]at h;obtain⟨d,ρ1,acD,js1,h1,h2,h3,h4⟩:=QT.o_s a x.1 ρ p7 _ qI js h ro;obtain⟨ds,ρ2,ZH,js2,g1,g2,g3,g4⟩:=QT.ayG b x.2 ρ1 acD _ _ js1 h1 h2;exact⟨_,ρ2,ZH,js2,g1,g2,h3.trans g3,λzD hp=>by simp only[QT.mk,DV.GB,FG];rw[<-h4 zD (g3.trans hp),<-g4 zD hp]⟩
theorem QT.ayG:(Q:QT)->(x:Q.den)->(ρ:List (Option Nat))->(p7:List DR)->(K:List DV->List (Option Nat)->List DR->Option β)->(qI:List DR)->(js:List Nat)->Q.os σ x ρ p7 K=some q->RO base qI ρ p7 js->
 ∃ds ρ' sy Rc,K ds ρ' sy=some q/\RO base (Q.mks x qI).2 ρ' sy Rc/\IH js Rc/\∀zD,IH Rc zD->ds=FG σ zD (Q.mks x qI).1
 | .v t,x,ρ,p7,K,qI,js,h,ro=>⟨_,ρ,p7,js,h,ro,IH.refl _,λzD _=>rfl⟩
 | .own e t,x,ρ,p7,K,qI,js,h,ro=>⟨_,ρ,p7,js,h,ro,IH.refl _,λzD _=>rfl⟩
 | .ptr k,x,ρ,p7,K,qI,js,h,ro=>⟨_,ρ,p7,js,h,ro,IH.refl _,λzD _=>rfl⟩
 | .nil n,x,ρ,p7,K,qI,js,h,ro=>⟨_,ρ,p7,js,h,ro,IH.refl _,λzD _=>rfl⟩
 | .unit,x,ρ,p7,K,qI,js,h,ro=>⟨_,ρ,p7,js,h,ro,IH.refl _,λzD _=>rfl⟩
 | .pair a b,x,ρ,p7,K,qI,js,h,ro=>by simp only[QT.os]at h;obtain⟨d,ρ1,acD,js1,h1,h2,h3,h4⟩:=QT.o_s a x.1 ρ p7 _ qI js h ro;obtain⟨ds,ρ2,ZH,js2,g1,g2,g3,g4⟩:=QT.ayG b x.2 ρ1 acD _ _ js1 h1 h2;exact⟨_,ρ2,ZH,js2,g1,g2,h3.trans g3,λzD hp=>by simp only[QT.mks,FG];rw[<-h4 zD (g3.trans hp),<-g4 zD hp]⟩
end
theorem ao0{m:Nat}(hσ:∀(k k' i:Nat),σ k=some i->σ k'=some i->k=k'):(l:List BK)->(n:Nat)->(r:DT)->(z:(Ge l r).den)->(ρ:List (Option Nat))->(pb:ij)->(p7:List DR)->(K:r.den->List (Option Nat)->ij->List DR->Option β)->(qI:List DR)->(js:List Nat)->
 bkO σ m l n r z ρ pb p7 K=some q->RO base qI ρ p7 js->(∀k i,k<m->σ k=some i->i<pb.length)->(∀k,m<=k->n<=k->σ k=some (pb.length+(k-max n m)))->
 ∃ρ' pb' sy Rc,K (zP l r z qI).2.1 ρ' pb' sy=some q/\RO base (zP l r z qI).2.2 ρ' sy Rc/\IH js Rc/\(∀i,i<pb.length->(∀k,n<=k->k<m->σ k≠some i)->pb'[i]?=pb[i]?)/\(∀k b1 i,(zP l r z qI).1[k]?=some (some b1)->σ (n+k)=some i->∀zD,IH Rc zD->pb'[i]?=some (some ⟨b1.ty,FG σ zD b1.cells,true⟩))/\(∀i,i<pb'.length->i<pb.length\/∃k,k<l.length/\m<=n+k/\σ (n+k)=some i)/\(∀i,i<pb.length->live pb i->live pb' i)/\(∀k i,n<=k->k<n+l.length->k<m->σ k=some i->live pb' i)
 |[],n,r,z,ρ,pb,p7,K,qI,js,h,ro,h1,h2=>⟨ρ,pb,p7,js,h,ro,IH.refl _,λ_ _ _=>rfl,λk b1 i hk=>by simp[zP]at hk,λi hi=>.inl hi,λ_ _ h=>h,λk i a b=>by simp at b;omega⟩
 |Bk::l,n,r,z,ρ,pb,p7,K,qI,js,h,ro,h1,h2=>by
  simp only[bkO]at h;obtain⟨ds,ρ1,acD,js1,h3,h4,h5,h6⟩:=acC Bk.cells (Ge l r) z ρ p7 _ qI js h ro;have e2:zP (Bk::l) r z qI=(some ⟨Bk.ty,(Hl Bk.cells (Ge l r) z qI).1,true⟩::(zP l r (Hl Bk.cells (Ge l r) z qI).2.1 (Hl Bk.cells (Ge l r) z qI).2.2).1,(zP l r (Hl Bk.cells (Ge l r) z qI).2.1 (Hl Bk.cells (Ge l r) z qI).2.2).2.1,(zP l r (Hl Bk.cells (Ge l r) z qI).2.1 (Hl Bk.cells (Ge l r) z qI).2.2).2.2):=rfl;rw[e2];split at h3
  .rename_i hnm;have hnm:=bQ hnm;split at h3
   .rename_i i hi;rw[kz]at h3;have PS:=h1 n i (by omega) hi;obtain⟨ρ2,P6,ZH,js2,g1,g2,g3,g4,g5,g6,g7,g8⟩:=ao0 hσ l (n+1) r _ ρ1 _ acD K _ js1 h3 h4 (λk i' hk uY=>by simpa using h1 k i' hk uY) (λk hk uY=>by rw[h2 k hk (by omega)];simp;omega);refine⟨ρ2,P6,ZH,js2,g1,g2,h5.trans g3,λi' Tf NX=>?_,λk b1 i' hk uY zD hp=>?_,λi' Tf=>?_,λi' Tf hl=>?_,λk i' ha hb hm hk=>?_⟩
    .rw[g4 i' (by simpa using Tf) λk hk uY=>NX k (by omega) uY,bc,ag];rintro rfl;exact NX n (au _) (by omega) hi
    .cases k with
     |zero=>simp only[ie,ak]at hk;subst hk;rw[gY,hi]at uY;simp only[ak]at uY;subst uY;rw[g4 i (by simpa using PS) λk hk uY yd=>by have:=hσ _ _ _ yd hi;omega,bc,ah rfl,ah PS,h6 zD (g3.trans hp)]
     |succ k=>exact g5 k b1 i' (by simpa using hk) (by rw[show n+1+k=n+(k+1)by omega];exact uY) zD hp
    .rcases g6 i' Tf with h'|⟨k,k1,k2,k3⟩
     .exact .inl (by simpa using h')
     .exact .inr ⟨k+1,by simp;omega,by omega,by rw[show n+(k+1)=n+1+k by omega];exact k3⟩
    .refine g7 i' (by simpa using Tf) ?_;obtain⟨b,hb⟩:=hl;unfold live;rw[bc];split
     .rename_i e;subst e;exact⟨_,rfl⟩
     .exact⟨b,hb⟩
    .by_cases hkn:k=n
     .subst hkn;rw[hi]at hk;simp only[ak]at hk;subst hk;refine g7 i (by simpa using PS) ?_;unfold live;rw[bc,ah rfl,ah PS];exact⟨_,rfl⟩
     .exact g8 k i' (by omega) (by simp at hb;omega) hm hk
   .cases h3
  .rename_i hnm
   have hnm:m<=n:=by
    rcases dS n m with h'|h'
    .have:=gS h';simp only[Nat.blt]at hnm;rw[this]at hnm;cases hnm
    .exact h'
   rw[rL]at h3;have RU:σ n=some pb.length:=by have:=h2 n hnm (au _);rw[Nat.max_eq_left hnm]at this;simpa using this
   obtain⟨ρ2,P6,ZH,js2,g1,g2,g3,g4,g5,g6,g7,g8⟩:=ao0 hσ l (n+1) r _ ρ1 _ acD K _ js1 h3 h4 (λk i' hk uY=>by have:=h1 k i' hk uY;simp;omega) (λk hk uY=>by rw[h2 k hk (by omega)];simp;omega);refine⟨ρ2,P6,ZH,js2,g1,g2,h5.trans g3,λi' Tf NX=>?_,λk b1 i' hk uY zD hp=>?_,λi' Tf=>?_,λi' Tf hl=>?_,λk i' ha hb hm hk=>by omega⟩
   .rw[g4 i' (by simp;omega) λk hk uY=>by omega,bB Tf]
   .cases k with
    |zero=>simp only[ie,ak]at hk;subst hk;rw[gY,RU]at uY;simp only[ak]at uY;subst uY;rw[g4 pb.length (by simp) λk hk uY=>by omega,h6 zD (g3.trans hp)];simp
    |succ k=>exact g5 k b1 i' (by simpa using hk) (by rw[show n+1+k=n+(k+1)by omega];exact uY) zD hp
   .rcases g6 i' Tf with h'|⟨k,k1,k2,k3⟩
    .rcases dS i' pb.length with hl|hl
     .exact .inl hl
     .have:i'=pb.length:=by simp at h';omega
      subst this;exact .inr ⟨0,by simp,by omega,by simpa using RU⟩
    .exact .inr ⟨k+1,by simp;omega,by omega,by rw[show n+(k+1)=n+1+k by omega];exact k3⟩
   .refine g7 i' (by simp;omega) ?_;obtain⟨b,hb⟩:=hl;exact⟨b,by rw[bB Tf];exact hb⟩
end
end Go.Vc




namespace Go.Vc
open Go Go.RowKit
mutual
theorem DV.T2:(p:DV)->p.T0 true=true
 | .fn _ cs=>by simp only[DV.T0];exact AJ cs
 | .agg cs=>by simp only[DV.T0];exact AJ cs
 | .IC cs=>by simp only[DV.T0];exact AJ cs
 | .fns cs=>by simp only[DV.T0,yp];exact AJ cs
 | .sl _ _ | .cs _ _ | .set _ | .int _ _ | .bool _ | .lit _ | .str _ | .v _ | .OJ | .row _ | .el _ _ _ | .re _ _ _ | .rt _ _ | .ob _ | .own _ _ | .fp _ _ | .ra _ | .rs _ _ | .jz=>rfl
theorem AJ:(ps:List DV)->ED true ps=true
 |[]=>rfl
 |p::ps=>by simp only[ED,DV.T2 p,AJ ps];rfl
end
theorem IJ{f}:(t:DT)->(x:t.den)->(r:List DV)->t.free=true->ED f r=true->ED f (t.cells x r)=true
 | .int _,_,r,_,h | .bool,_,r,_,h | .str,_,r,_,h=>by simp only[DT.cells,ED,DV.T0];exact h
 | .slc _,_,_,h,_=>by cases h
 | .set,_,_,h,_=>by cases h
 | .unit,_,r,_,h=>h
 | .pair a b,x,r,hf,h=>by simp only[DT.free,aB]at hf;exact IJ a _ _ hf.1 (IJ b _ _ hf.2 h)
theorem aii{f}:(t:DT)->(x:t.den)->t.free=true->(t.val x).T0 f=true
 | .int _,_,_ | .bool,_,_ | .str,_,_ | .unit,_,_=>rfl
 | .slc _,_,h=>by cases h
 | .set,_,h=>by cases h
 | .pair a b,x,hf=>by simp only[DT.free,aB]at hf;simp only[DT.val,DV.T0];exact IJ a _ _ hf.1 (IJ b _ _ hf.2 rfl)
def s9(rw:List DR):Prop:=∀(n:Nat) e t l,rw[n]?=some (.own e t l)->t.free=true
theorem s9.snoc{rw}(h:s9 rw){e}{t}(l)(ht:t.free=true):s9 (rw++[.own e t l]):=by
 intro n e' t' l' hn;rcases kG hn with⟨_,g⟩|⟨_,g⟩
 .exact h n e' t' l' g
 .simp only[DR.own.injEq]at g;obtain⟨_,rfl,_⟩:=g;exact ht
mutual
theorem PK.KO:(p:PK)->(r:DT)->(z:(p.T r).den)->(rw:List DR)->p.free=true->s9 rw->(p.mk r z rw).1.T0 false=true/\s9 (p.mk r z rw).2.2
 | .v t,r,z,rw,h,hr=>⟨aii t _ (by simpa only[PK.free]using h),hr⟩
 | .row e t,r,z,rw,h,hr=>⟨rfl,hr.snoc _ (by simpa only[PK.free]using h)⟩
 | .ptr k,r,z,rw,h,hr=>⟨rfl,hr⟩
 | .fn g l,r,z,rw,h,hr=>by simp only[PK.mk,DV.T0];exact RV l r z rw (by simpa only[PK.free]using h) hr
 | .agg l,r,z,rw,h,hr=>by simp only[PK.mk,DV.T0];exact RV l r z rw (by simpa only[PK.free]using h) hr
 | .fns l,r,z,rw,h,hr=>by simp only[PK.free]at h;cases h
 | .nil n,r,z,rw,h,hr=>⟨rfl,hr⟩
theorem RV:(l:List PK)->(r:DT)->(z:(Jt l r).den)->(rw:List DR)->OM l=true->s9 rw->ED false (Hl l r z rw).1=true/\s9 (Hl l r z rw).2.2
 |[],r,z,rw,_,hr=>⟨rfl,hr⟩
 |p::l,r,z,rw,h,hr=>by simp only[OM,aB]at h;obtain⟨h1,h2⟩:=PK.KO p (Jt l r) z rw h.1 hr;obtain⟨h3,h4⟩:=RV l r _ _ h.2 h2;exact⟨by simp only[Hl,ED,h1,h3,Bool.and_self],h4⟩
end
theorem aij:(l:List BK)->(r:DT)->(z:(Ge l r).den)->(rw:List DR)->Tz l=true->s9 rw->(∀(k:Nat) b,(zP l r z rw).1[k]?=some (some b)->ED false b.cells=true)/\s9 (zP l r z rw).2.2
 |[],r,z,rw,_,hr=>⟨λk b h=>by simp[zP]at h,hr⟩
 |Bk::l,r,z,rw,h,hr=>by
  simp only[Tz,aB]at h;obtain⟨h1,h2⟩:=RV Bk.cells (Ge l r) z rw h.1 hr;obtain⟨h3,h4⟩:=aij l r _ _ h.2 h2;refine⟨λk b hk=>?_,h4⟩;simp only[zP]at hk;cases k with
  |zero=>simp only[ie,ak]at hk;subst hk;exact h1
  |succ k=>exact h3 k b (by simpa using hk)
mutual
theorem QT.KO:(Q:QT)->(x:Q.den)->(rw:List DR)->Q.free=true->s9 rw->(Q.mk x rw).1.T0 false=true/\s9 (Q.mk x rw).2
 | .v t,x,rw,h,hr=>⟨aii t _ h,hr⟩
 | .own e t,x,rw,h,hr=>⟨rfl,hr.snoc _ h⟩
 | .ptr k,x,rw,h,hr=>⟨rfl,hr⟩
 | .nil n,x,rw,h,hr=>⟨rfl,hr⟩
 | .unit,x,rw,h,hr=>⟨rfl,hr⟩
 | .pair a b,x,rw,h,hr=>by simp only[QT.free,aB]at h;obtain⟨h1,h2⟩:=QT.KO a x.1 rw h.1 hr;obtain⟨h3,h4⟩:=QT.aik b x.2 _ h.2 h2;exact⟨by simp only[QT.mk,DV.T0,ED,h1,h3,Bool.and_self],h4⟩
theorem QT.aik:(Q:QT)->(x:Q.den)->(rw:List DR)->Q.free=true->s9 rw->ED false (Q.mks x rw).1=true/\s9 (Q.mks x rw).2
 | .v t,x,rw,h,hr=>⟨rfl,hr⟩
 | .own e t,x,rw,h,hr=>⟨rfl,hr⟩
 | .ptr k,x,rw,h,hr=>⟨rfl,hr⟩
 | .nil n,x,rw,h,hr=>⟨rfl,hr⟩
 | .unit,x,rw,h,hr=>⟨rfl,hr⟩
 | .pair a b,x,rw,h,hr=>by simp only[QT.free,aB]at h;obtain⟨h1,h2⟩:=QT.KO a x.1 rw h.1 hr;obtain⟨h3,h4⟩:=QT.aik b x.2 _ h.2 h2;exact⟨by simp only[QT.mks,ED,h1,h3,Bool.and_self],h4⟩
end
open Classical in
noncomputable def OX(B B1:Nat->Nat)(iy:ij)(σ:Nat->Option Nat):Nat->Nat:=λi=>if h:∃k,live iy k/\σ k=some i then B1 (Classical.choose h)else B i
open Classical in
noncomputable def Re(A A1:zx)(js:List Nat):zx:=λj=>if h:∃n:Nat,js[n]?=some j then A1 (Classical.choose h)else A j
theorem MT{B B1}{iy}{σ}(hσ:∀(k k' i:Nat),σ k=some i->σ k'=some i->k=k'){k i}(hl:live iy k)(hk:σ k=some i):OX B B1 iy σ i=B1 k:=by have h:∃k,live iy k/\σ k=some i:=⟨k,hl,hk⟩;unfold OX;rw[Aw h,hσ _ _ _ (Classical.choose_spec h).2 hk]
theorem ail{B B1}{iy}{σ}{i}(h:¬ ∃k,live iy k/\σ k=some i):OX B B1 iy σ i=B i:=by unfold OX;rw[dif_neg h]
theorem T3{A A1}{js}(hi:∀(n n' j:Nat),js[n]?=some j->js[n']?=some j->n=n'){n j}(hn:js[n]?=some j):Re A A1 js j=A1 n:=by have h:∃n:Nat,js[n]?=some j:=⟨n,hn⟩;unfold Re;rw[Aw h,hi _ _ _ (Classical.choose_spec h) hn]
theorem MV{A A1}{js}{j}(h:¬ ∃n:Nat,js[n]?=some j):Re A A1 js j=A j:=by unfold Re;rw[dif_neg h]
section
variable {V : World} {U0 L : Nat -> Prop} {al : Nat -> Bool} {B B1 : Nat -> Nat} {A A1 : zx} {pb pb0 iy pbF : ij} {rw rw0 ju rwF base : List DR} {w w' : World} {σ0 σ : Nat -> Option Nat} {rs ρ : List (Option Nat)} {js : List Nat} {bor : Nat -> Prop}
theorem Mem.back(f)(fr)(m:Mem V U0 L B A pb rw w)
 (af5:∀(n b:Nat),iK (lB B σ0) (lA A rs) pb0 rw0 true n b->∃j:Nat,rs[n]?=some (some j)/\iK B A pb rw true j b)
 (hbx:∀k b,iK (lB B σ0) (lA A rs) pb0 rw0 false k b->∃i,σ0 k=some i/\iK B A pb rw false i b)
 (wX:∀k i,σ0 k=some i->al i=true)
 (m1:Mem w (lU (Us U0 B A pb rw) B A rw (Ow (lB B σ0) (lA A rs) pb0 rw0) bor) (Ow (lB B σ0) (lA A rs) pb0 rw0) B1 A1 iy ju w')
 (Ez:∀i,live pb0 i->live iy i/\B1 i=lB B σ0 i)
 (hσ:∀(k k' i:Nat),σ k=some i->σ k'=some i->k=k') (_:∀k i,live pb0 k->σ0 k=some i->σ k=some i) (hσl:∀k i,σ0 k=some i->live pb0 k)
 (hσn:∀k i,live iy k->σ k=some i->σ0 k=some i\/¬live pb i)
 (hpb:∀(i:Nat) (b':DB),pbF[i]?=some (some b')->(∃(k:Nat) (b1:DB),σ k=some i/\iy[k]?=some (some b1)/\b'.ty=b1.ty/\b'.cells=FG σ js b1.cells/\b'.w=true)\/((∀k,σ k=some i->¬live iy k)/\(∀k,σ0 k≠some i)/\∃b,pb[i]?=some (some b)/\b'=⟨b.ty,Ao f b.cells,b.w⟩))
 (Vz:∀i,live pb i->live pbF i) (hlF:∀k i,σ k=some i->live iy k->live pbF i) (ro:RO base ju ρ rwF js)
 (hb1:∀j:Nat,(∀n:Nat,rs[n]?≠some (some j))->base[j]?=rw[j]?) (hb2:∀n j:Nat,rs[n]?=some (some j)->base[j]?=some .dead)
 (hf:∀j,f j=none->∀n:Nat,rs[n]?≠some (some j)) (hfj:∀j p,f j=some p->p=.jz)
 (hfr:fr=true->∀j,¬bor j) (oM:∀(k:Nat) b,iy[k]?=some (some b)->ED fr b.cells=true) (a0B:fr=false->s9 ju):
 Mem V U0 L (OX B B1 iy σ) (Re A A1 js) pbF rwF w'/\Sub f (env U0 B A pb rw w) (env U0 (OX B B1 iy σ) (Re A A1 js) pbF rwF w')/\Ext al B A pb rw w (OX B B1 iy σ) (Re A A1 js) pbF rwF w'/\Tr fr σ js (env (lU (Us U0 B A pb rw) B A rw (Ow (lB B σ0) (lA A rs) pb0 rw0) bor) B1 A1 iy ju w') (env U0 (OX B B1 iy σ) (Re A A1 js) pbF rwF w'):=by
 generalize hL0:Ow (lB B σ0) (lA A rs) pb0 rw0=L0 at*
 have L0s:∀b,L0 b->(∃k i,σ0 k=some i/\iK B A pb rw false i b)\/∃n j:Nat,rs[n]?=some (some j)/\iK B A pb rw true j b:=by
  intro b hb;rw[<-hL0]at hb;obtain⟨k,i,hb⟩:=hb;cases k with
  |true=>obtain⟨j,h1,h2⟩:=af5 i b hb;exact .inr ⟨i,j,h1,h2⟩
  |false=>obtain⟨j,h1,h2⟩:=hbx i b hb;exact .inl ⟨i,j,h1,h2⟩
 have L0w:∀b,L0 b->Wr al B A pb rw b:=λb hb=>by
  rcases L0s b hb with⟨k,i,h1,h2⟩|⟨n,j,_,h2⟩
  .exact .inl ⟨i,wX k i h1,h2⟩
  .exact .inr ⟨j,h2⟩
 have L0o:∀b,L0 b->∃k i,iK B A pb rw k i b:=λb hb=>by
  rcases L0s b hb with⟨k,i,h1,h2⟩|⟨n,j,_,h2⟩
  .exact⟨_,i,h2⟩
  .exact⟨_,j,h2⟩
 have ao1:∀j:Nat,(¬ ∃n:Nat,js[n]?=some j)->rwF[j]?=base[j]?:=λj h=>ro.old j λn hn=>h ⟨n,hn⟩
 have au9:∀j r,rw[j]?=some r->r≠.dead->(∀n:Nat,rs[n]?≠some (some j))->¬ ∃n:Nat,js[n]?=some j:=by
  rintro j r h1 h2 h3 ⟨n,hn⟩;have:=hb1 j h3;rw[h1]at this;rcases ro.new n j hn with h|h
  .rw[this]at h;simp at h;exact h2 h
  .rw[this]at h;cases h
 have cl:∀k i b,iK (OX B B1 iy σ) (Re A A1 js) pbF rwF k i b->(∃i1,iK B1 A1 iy ju k i1 b/\((k=false/\σ i1=some i)\/(k=true/\js[i1]?=some i)))\/(iK B A pb rw k i b/\¬L0 b):=by
  intro k i b h;cases k with
  |false=>
   obtain⟨⟨b',g1⟩,g2⟩:=h;rcases hpb i b' g1 with⟨k1,b1,h1,h2,_⟩|⟨h0,h1,b0,h2,_⟩
   .rw[MT hσ ⟨b1,h2⟩ h1]at g2;exact .inl ⟨k1,⟨⟨b1,h2⟩,g2⟩,.inl ⟨rfl,h1⟩⟩
   .rw[ail (by rintro⟨k,hk1,yd⟩;exact h0 k yd hk1)]at g2;have u9:iK B A pb rw false i b:=⟨⟨b0,h2⟩,g2⟩;refine .inr ⟨u9,λhL=>?_⟩;rcases L0s b hL with⟨k,i',e1,e2⟩|⟨n,j,_,e2⟩
    .have:=(m.inj _ _ _ _ _ u9 e2).2;subst this;exact h1 k e1
    .have:=(m.inj _ _ _ _ _ u9 e2).1;cases this
  |true=>
   obtain⟨r,ad,g1,g2,g3,g4⟩:=h;by_cases hh:∃n:Nat,js[n]?=some i
   .obtain⟨n,hn⟩:=hh;have hl:=(ay.1 hn).1;rw[ro.len]at hl;have RB:=aw hl;have:=ro.row n i _ hn RB;rw[g1]at this;simp only[ak]at this;subst this;rw[T3 ro.inj hn]at g3;exact .inl ⟨n,⟨_,ad,RB,g2,g3,g4⟩,.inr ⟨rfl,hn⟩⟩
   .rw[ao1 i hh]at g1;have hnr:∀n:Nat,rs[n]?≠some (some i):=λn hn=>by rw[hb2 n i hn]at g1;simp at g1;exact g2 g1.symm
    rw[hb1 i hnr]at g1;rw[MV hh]at g3;have u9:iK B A pb rw true i b:=⟨r,ad,g1,g2,g3,g4⟩;refine .inr ⟨u9,λhL=>?_⟩;rcases L0s b hL with⟨k,i',e1,e2⟩|⟨n,j,e1,e2⟩
    .have:=(m.inj _ _ _ _ _ u9 e2).1;cases this
    .have:=(m.inj _ _ _ _ _ u9 e2).2;subst this;exact hnr n e1
 have aim:∀b,b<w.heap.size->¬L0 b->w'.heap[b]?=w.heap[b]?:=λb hb hn=>m1.same b hb hn
 have lt:fr=true->lD (Us (lU (Us U0 B A pb rw) B A rw L0 bor) B1 A1 iy ju) (Us U0 (OX B B1 iy σ) (Re A A1 js) pbF rwF) w' w':=λase=>⟨λ_ _ _=>rfl,au _,λb _ hu=>by
  have u1:∀b,Us U0 B A pb rw b->¬L0 b->lU (Us U0 B A pb rw) B A rw L0 bor b:=λb h1 h2=>⟨h1,h2,λ⟨j,hj,_⟩=>hfr ase j hj⟩
  rcases hu with hu|⟨k,i,hu⟩
  .refine .inl (u1 b (.inl hu) λhL=>?_);obtain⟨k,i,hb⟩:=L0o b hL;have:=m.u0 b hu;rcases(m.low k i b hb).2 with h|h
   .omega
   .exact this.2 h
  .rcases cl k i b hu with⟨i1,h,_⟩|⟨h,hn⟩
   .exact .inr ⟨k,i1,h⟩
   .exact .inl (u1 b (.inr ⟨k,i,h⟩) hn)⟩
 have tr:Tr fr σ js (env (lU (Us U0 B A pb rw) B A rw L0 bor) B1 A1 iy ju w') (env U0 (OX B B1 iy σ) (Re A A1 js) pbF rwF w'):=by refine⟨lt,λk i hk hl=>?_,λn j e t l hn hr=>⟨ro.row n j _ hn hr,T3 ro.inj hn⟩⟩;exact⟨hlF k i hk hl,MT hσ hl hk⟩
 have a0C:∀i,live pb i->live pbF i/\OX B B1 iy σ i=B i:=λi hl=>by
  refine⟨Vz i hl,?_⟩;by_cases hh:∃k,live iy k/\σ k=some i
  .obtain⟨k,hk1,yd⟩:=hh;rw[MT hσ hk1 yd];rcases hσn k i hk1 yd with h|h
   .rw[(Ez k (hσl k i h)).2];simp only[lB,h,gM]
   .exact absurd hl h
  .exact ail hh
 obtain⟨M,S,X⟩:=m.au2 (al:=al) f (w':=w') (B':=OX B B1 iy σ) (A':=Re A A1 js) (pb':=pbF) (rw':=rwF) ⟨m1.os,m1.tape,m1.output,m1.size⟩ (λb hb hn=>aim b hb λhL=>hn (L0w b hL))
  (λb hb=>by
   rcases hb with⟨i,ha,hb⟩|⟨j,hb⟩
   .rcases cl _ i b hb with⟨i1,h,_⟩|⟨h,_⟩
    .rcases(m1.low _ _ _ h).2 with h'|h'
     .exact .inr h'
     .exact .inl (L0w b h')
    .exact .inl (.inl ⟨i,ha,h⟩)
   .rcases cl _ j b hb with⟨i1,h,_⟩|⟨h,_⟩
    .rcases(m1.low _ _ _ h).2 with h'|h'
     .exact .inr h'
     .exact .inl (L0w b h')
    .exact .inl (.inr ⟨j,h⟩))
  (λk i b hb=>by
   rcases cl k i b hb with⟨i1,h,_⟩|⟨h,_⟩
   .have hl:=m1.low _ _ _ h;rcases hl.2 with h'|h'
    .exact .inr ⟨h',hl.1⟩
    .exact .inl (L0o b h')
   .exact .inl ⟨k,i,h⟩)
  (λk i k' i' b hb hb'=>by
   have no:∀k i k1 i1,iK B1 A1 iy ju k1 i1 b->iK B A pb rw k i b->¬L0 b->False:=λk i k1 i1 h1 h2 h3=>by
    rcases(m1.low _ _ _ h1).2 with h'|h'
    .have:=(m.low _ _ _ h2).1;omega
    .exact h3 h'
   rcases cl k i b hb with⟨i1,h,hk⟩|⟨h,hn⟩
   .rcases cl k' i' b hb' with⟨i1',h',uY⟩|⟨h',GO⟩
    .obtain⟨e1,e2⟩:=m1.inj _ _ _ _ _ h h';subst e1 e2;rcases hk with⟨rfl,hk⟩|⟨rfl,hk⟩
     .rcases uY with⟨_,uY⟩|⟨h0,_⟩
      .rw[hk]at uY;simp at uY;exact⟨rfl,uY⟩
      .cases h0
     .rcases uY with⟨h0,_⟩|⟨_,uY⟩
      .cases h0
      .rw[hk]at uY;simp at uY;exact⟨rfl,uY⟩
    .exact(no _ _ _ _ h h' GO).elim
   .rcases cl k' i' b hb' with⟨i1',h',_⟩|⟨h',_⟩
    .exact(no _ _ _ _ h' h hn).elim
    .exact m.inj _ _ _ _ _ h h')
  a0C (λj e t l awh hj=>by have hnr:=hf j awh;have hnj:=au9 j _ hj (by simp) hnr;exact⟨l,by rw[ao1 j hnj,hb1 j hnr];exact hj,rfl,MV hnj⟩)
  (λj d awh hj=>by have hnr:=hf j awh;have hnj:=au9 j _ hj (by simp) hnr;exact⟨⟨d,by rw[ao1 j hnj,hb1 j hnr];exact hj,rfl⟩,MV hnj⟩)
  (λ_ j p e t l hp _=>by rw[hfj j p hp];simp only[DV.h])
  (λ_ j p d ad hp _ _=>by rw[hfj j p hp];simp only[DV.h])
  (λ_ i b' hi=>by
   rcases hpb i b' hi with⟨k,b1,h1,h2,h3,h4,h5⟩|⟨h0,h1,b,h2,rfl⟩
   .obtain⟨cs,g1,g2,_⟩:=m1.box k b1 h2;refine .inr ⟨cs,by rw[MT hσ ⟨b1,h2⟩ h1,h3];exact g1,by rw[h4];exact OW tr _ (oM k b1 h2) g2,h5⟩
   .refine .inl ⟨b,h2,rfl,rfl,id,?_⟩;have u9:iK B A pb rw false i (B i):=⟨⟨b,h2⟩,rfl⟩;refine aim _ (m.low _ _ _ u9).1 λhL=>?_
    rcases L0s _ hL with⟨k,i',e1,e2⟩|⟨n,j,_,e2⟩
    .have:=(m.inj _ _ _ _ _ u9 e2).2;subst this;exact h1 k e1
    .have:=(m.inj _ _ _ _ _ u9 e2).1;cases this)
  (λ_ j e t l hj=>by
   by_cases hh:∃n:Nat,js[n]?=some j
   .obtain⟨n,hn⟩:=hh;have hl:=(ay.1 hn).1;rw[ro.len]at hl;have RB:=aw hl;have:=ro.row n j _ hn RB;rw[hj]at this;simp only[ak]at this;rw[<-this]at RB;obtain⟨xs,g1,g2⟩:=m1.row n e t l RB;refine .inr ⟨xs,by rw[T3 ro.inj hn];exact g1,?_⟩;cases ase:fr with
    |true=>exact DT.kw (lt ase) g2
    |false=>exact⟨g2.1,λi x hx=>t.Zm (a0B ase n e t l RB) (g2.2 i x hx)⟩
   .rw[ao1 j hh]at hj;have hnr:∀n:Nat,rs[n]?≠some (some j):=λn hn=>by rw[hb2 n j hn]at hj;cases hj
    rw[hb1 j hnr]at hj;refine .inl ⟨hj,MV hh,λad had=>?_⟩;have u9:iK B A pb rw true j ad.block:=⟨_,ad,hj,by simp,had,rfl⟩;refine aim _ (m.low _ _ _ u9).1 λhL=>?_
    rcases L0s _ hL with⟨k,i',e1,e2⟩|⟨n,j',e1,e2⟩
    .have:=(m.inj _ _ _ _ _ u9 e2).1;cases this
    .have:=(m.inj _ _ _ _ _ u9 e2).2;subst this;exact hnr n e1)
  (λ_ j d hj=>by
   by_cases hh:∃n:Nat,js[n]?=some j
   .obtain⟨n,hn⟩:=hh;have hl:=(ay.1 hn).1;rw[ro.len]at hl;have RB:=aw hl;have:=ro.row n j _ hn RB;rw[hj]at this;simp only[ak]at this;rw[<-this]at RB;obtain⟨_,_,_,h'⟩:=ro.own n _ RB;cases h'
   .rw[ao1 j hh]at hj;have hnr:∀n:Nat,rs[n]?≠some (some j):=λn hn=>by rw[hb2 n j hn]at hj;cases hj
    rw[hb1 j hnr]at hj;refine .inl ⟨hj,MV hh,λad had=>?_⟩;have u9:iK B A pb rw true j ad.block:=⟨_,ad,hj,by simp,had,rfl⟩;refine aim _ (m.low _ _ _ u9).1 λhL=>?_
    rcases L0s _ hL with⟨k,i',e1,e2⟩|⟨n,j',e1,e2⟩
    .have:=(m.inj _ _ _ _ _ u9 e2).1;cases this
    .have:=(m.inj _ _ _ _ _ u9 e2).2;subst this;exact hnr n e1)
 exact⟨M,S,X,tr⟩
end
end Go.Vc




namespace Go.Vc
open Go Go.RowKit
mutual
theorem DV.XC{f g}(h:∀j,(f j).isSome=(g j).isSome):(p:DV)->(acc:List Nat)->(∀j∈p.rows acc,f j=g j)->p.sub f=p.sub g/\∀j∈acc,f j=g j
 | .row i,acc,hr=>by simp only[DV.rows]at hr;exact⟨by unfold DV.sub;rw[hr i (by simp)],λj hj=>hr j (by simp[hj])⟩
 | .re i a b,acc,hr=>by refine⟨?_,hr⟩;unfold DV.sub;have:=h i;revert this;cases f i<;>cases g i<;>simp
 | .rt i a,acc,hr=>by refine⟨?_,hr⟩;unfold DV.sub;have:=h i;revert this;cases f i<;>cases g i<;>simp
 | .ra i,acc,hr=>by refine⟨?_,hr⟩;unfold DV.sub;have:=h i;revert this;cases f i<;>cases g i<;>simp
 | .rs i a,acc,hr=>by refine⟨?_,hr⟩;unfold DV.sub;have:=h i;revert this;cases f i<;>cases g i<;>simp
 | .fns cs,acc,hr=>by simp only[DV.rows]at hr;obtain⟨h1,h2⟩:=xD h cs acc hr;exact⟨by simp only[DV.sub,h1],h2⟩
 | .fp cs _,acc,hr=>by simp only[DV.rows]at hr;obtain⟨h1,h2⟩:=xD h cs acc hr;exact⟨by simp only[DV.sub,h1],h2⟩
 | .ob i,acc,hr=>by simp only[DV.rows]at hr;exact⟨by unfold DV.sub;rw[hr i (by simp)],λj hj=>hr j (by simp[hj])⟩
 | .fn _ cs,acc,hr=>by simp only[DV.rows]at hr;obtain⟨h1,h2⟩:=xD h cs acc hr;exact⟨by simp only[DV.sub,h1],h2⟩
 | .agg cs,acc,hr=>by simp only[DV.rows]at hr;obtain⟨h1,h2⟩:=xD h cs acc hr;exact⟨by simp only[DV.sub,h1],h2⟩
 | .IC cs,acc,hr=>by simp only[DV.rows]at hr;obtain⟨h1,h2⟩:=xD h cs acc hr;exact⟨by simp only[DV.sub,h1],h2⟩
 | .int _ _,_,hr | .bool _,_,hr | .lit _,_,hr | .str _,_,hr | .v _,_,hr | .OJ,_,hr | .sl _ _,_,hr | .cs _ _,_,hr | .set _,_,hr | .el _ _ _,_,hr | .own _ _,_,hr | .jz,_,hr=>⟨rfl,hr⟩
theorem xD{f g}(h:∀j,(f j).isSome=(g j).isSome):(ps:List DV)->(acc:List Nat)->(∀j∈Bu ps acc,f j=g j)->Ao f ps=Ao g ps/\∀j∈acc,f j=g j
 |[],acc,hr=>⟨rfl,hr⟩
 |p::ps,acc,hr=>by simp only[Bu]at hr;obtain⟨h1,h2⟩:=DV.XC h p _ hr;obtain⟨h3,h4⟩:=xD h ps acc h2;exact⟨by simp only[Ao,h1,h3],h4⟩
end
theorem ZI{rw}{j}{e}{t}{l}(h:rw[j]?=some (.own e t l)):tz rw j=some (.sl t l):=by unfold tz;rw[gU,h]
mutual
theorem PK.awi{β}{q}{rw}{f:Nat->Option DV}{E E':Env}(s:Sub f E E')(s0:Sub Ix E E')(hs:∀j,(f j).isSome=(tz rw j).isSome):(p:PK)->(u:DV)->(acc:List Nat)->(K:DV->Option β)->(∀j∈p.frz u acc,f j=tz rw j)->p.view rw u K=some q->
 (∃u',K u'=some q/\∀v,u.h E v->u'.h E' v)/\∀j∈acc,f j=tz rw j
 | .v t,u,acc,K,hr,h=>by simp only[PK.view,DV.Zt]at h;simp only[PK.frz]at hr;obtain⟨h1,h2⟩:=DV.XC hs u acc hr;rw[<-h1]at h;exact⟨⟨_,h,λv hv=>DV.anU s u hv⟩,h2⟩
 | .row e t,u,acc,K,hr,h=>⟨⟨u,by cases u<;>exact h,λv hv=>OV s0 hv⟩,by cases u<;>exact hr⟩
 | .ptr k,u,acc,K,hr,h=>⟨⟨u,by cases u<;>exact h,λv hv=>OV s0 hv⟩,by cases u<;>exact hr⟩
 | .fn g l,u,acc,K,hr,h=>by
  cases u with
  |fn g' cs=>simp only[PK.view]at h;simp only[PK.frz]at hr;obtain⟨⟨us,h1,h2,_⟩,h3⟩:=MW s s0 hs l cs acc _ hr h;refine⟨⟨_,h1,λv hv=>?_⟩,h3⟩;simp only[DV.h]at hv ⊢;obtain⟨vs,rfl,hv⟩:=hv;exact⟨vs,rfl,h2 _ hv⟩
  |_=>exact⟨⟨_,h,λv hv=>OV s0 hv⟩,hr⟩
 | .agg l,u,acc,K,hr,h=>by
  cases u with
  |agg cs=>simp only[PK.view]at h;simp only[PK.frz]at hr;obtain⟨⟨us,h1,h2,_⟩,h3⟩:=MW s s0 hs l cs acc _ hr h;refine⟨⟨_,h1,λv hv=>?_⟩,h3⟩;simp only[DV.h]at hv ⊢;obtain⟨vs,rfl,hv⟩:=hv;exact⟨vs,rfl,h2 _ hv⟩
  |_=>exact⟨⟨_,h,λv hv=>OV s0 hv⟩,hr⟩
 | .fns l,u,acc,K,hr,h=>by
  cases u with
  |fns cs=>simp only[PK.view]at h;simp only[PK.frz]at hr;obtain⟨⟨us,h1,h2,h2'⟩,h3⟩:=MW s s0 hs l cs acc _ hr h;refine⟨⟨_,h1,λv hv=>?_⟩,h3⟩;simp only[DV.h]at hv ⊢;obtain⟨ad,vs,c,rfl,hv,k⟩:=hv;exact⟨ad,vs,c,by rw[h2'],h2 _ hv,k.mono s0.Gl⟩
  |_=>exact⟨⟨_,h,λv hv=>OV s0 hv⟩,hr⟩
 | .nil n,u,acc,K,hr,h=>⟨⟨u,by cases u<;>exact h,λv hv=>OV s0 hv⟩,by cases u<;>exact hr⟩
theorem MW{β}{q}{rw}{f:Nat->Option DV}{E E':Env}(s:Sub f E E')(s0:Sub Ix E E')(hs:∀j,(f j).isSome=(tz rw j).isSome):(l:List PK)->(us:List DV)->(acc:List Nat)->(K:List DV->Option β)->(∀j∈Zo l us acc,f j=tz rw j)->MK rw l us K=some q->
 (∃us',K us'=some q/\(∀vs,hL E us vs->hL E' us' vs)/\us'.length=us.length)/\∀j∈acc,f j=tz rw j
 |[],us,acc,K,hr,h=>⟨⟨us,h,λv hv=>nS s0 hv,rfl⟩,hr⟩
 |p::l,[],acc,K,hr,h=>⟨⟨[],h,λv hv=>nS s0 hv,rfl⟩,hr⟩
 |p::l,u::us,acc,K,hr,h=>by simp only[MK]at h;simp only[Zo]at hr;obtain⟨⟨u',h1,h2⟩,h3⟩:=PK.awi s s0 hs p u _ _ hr h;obtain⟨⟨us',g1,g2,g4⟩,g3⟩:=MW s s0 hs l us acc _ h3 h1;refine⟨⟨_,g1,λvs hv=>?_,by simp only[aJ,g4]⟩,g3⟩;simp only[hL]at hv ⊢;obtain⟨v,Cz,rfl,k1,k2⟩:=hv;exact⟨v,Cz,rfl,h2 v k1,g2 Cz k2⟩
end
theorem ZJ:∀{am:List (Nat×Nat)} {k i:Nat},Gi am k=some i->(k,i)∈am
 |[],k,i,h=>by simp[Gi]at h
 |(k',i')::am,k,i,h=>by
  simp only[Gi]at h;split at h
  .rename_i hb;simp only[ak]at h;subst h;rw[aE hb];simp
  .exact cP _ (ZJ h)
theorem RW : ∀ {am : List (Nat × Nat)}, Hk (QX am) = true -> ∀ {k k' i : Nat}, Gi am k = some i -> Gi am k' = some i -> k = k'
  | [], _, k, k', i, h, _ => by simp [Gi] at h
  | (k0, i0) :: am, hn, k, k', i, h, h' => by
    simp only [QX, Hk, aB, jF] at hn
    have hni : ∀ k, (k, i0) ∉ am := λk hm => by
      have : i0 ∈ QX am := by
        clear h h' hn
        induction am with
        | nil => cases hm
        | cons p am ih => rcases aF.1 hm with rfl | hm
                          · simp [QX]
                          · simp [QX, ih hm]
      rw [<- vE] at this; rw [hn.1] at this; cases this
    simp only [Gi] at h h'
    split at h
    · rename_i hb
      simp only [ak] at h; subst h
      split at h'
      · rename_i hb'; rw [<- aE hb, <- aE hb']
      · exact absurd (ZJ h') (hni _)
    · split at h'
      · simp only [ak] at h'; subst h'; exact absurd (ZJ h) (hni _)
      · exact RW hn.2 h h'
theorem MX:∀{am:List (Nat×Nat)} {n:Nat},ON am n=true->∀{k i:Nat},Gi am k=some i->k<n
 |[],_,_,k,i,h=>by simp[Gi]at h
 |(k0,i0)::am,n,ha,k,i,h=>by
  simp only[ON,aB]at ha;simp only[Gi]at h;split at h
  .rename_i hb;rw[<-aE hb];exact bQ ha.1
  .exact MX ha.2 h
theorem ao2:∀{am:List (Nat×Nat)} {al:Nat->Bool},Zp al (QX am)=true->∀{k i:Nat},Gi am k=some i->al i=true
 |[],_,_,k,i,h=>by simp[Gi]at h
 |(k0,i0)::am,al,ha,k,i,h=>by
  simp only[QX,Zp,aB]at ha;simp only[Gi]at h;split at h
  .simp only[ak]at h;subst h;exact ha.1
  .exact ao2 ha.2 h
theorem IK:∀{rs:List (Option Nat)} {j:Nat},j∈Gj rs↔∃n:Nat,rs[n]?=some (some j)
 |[],j=>by simp[Gj]
 |some i::rs,j=>by
  simp only[Gj,aF,IK (rs:=rs)];constructor
  .rintro(rfl|⟨n,hn⟩)
   .exact⟨0,rfl⟩
   .exact⟨n+1,by simpa using hn⟩
  .rintro⟨n,hn⟩;cases n with
   |zero=>simp at hn;exact .inl hn.symm
   |succ n=>exact .inr ⟨n,by simpa using hn⟩
 |none::rs,j=>by
  simp only[Gj,IK (rs:=rs)];constructor
  .rintro⟨n,hn⟩;exact⟨n+1,by simpa using hn⟩
  .rintro⟨n,hn⟩;cases n with
   |zero=>simp at hn
   |succ n=>exact⟨n,by simpa using hn⟩
theorem ain{js}{j}:(P4 js j=none↔j∉js)/\∀p,P4 js j=some p->p=.jz:=by
 unfold P4;cases h:Bp j js with
 |true=>exact⟨by simp[(vE j js).1 h],λp hp=>by simp at hp;exact hp.symm⟩
 |false=>
  have hn:j∉js:=λhm=>by rw[(vE j js).2 hm]at h;cases h
  exact⟨⟨λ_=>hn,λ_=>rfl⟩,λp hp=>by cases hp⟩
theorem ao3:∀{l js:List Nat},arI l js=true->∀j∈l,j∉js
 |[],_,_=>by simp
 |n::l,js,h=>by
  simp only[arI,aB,jF]at h;intro j hj;rcases aF.1 hj with rfl|hj
  .intro hm;rw[(vE _ _).2 hm]at h;cases h.1
  .exact ao3 h.2 j hj
section
variable {P : Program} {V : World} {U0 L : Nat -> Prop} {al : Nat -> Bool} {B : Nat -> Nat} {A : zx} {ts : List DV} {pb : ij} {rw : List DR} {a : Act} {w : World} {β : Type} {q : β} {o : Oper} {K : DK β} {Q : Exit -> Act -> World -> Prop}
theorem ZK{g}{args}{R:Value->World->Prop}{N:Act->World->Prop}(hrun:(execOp a.eval o).run P w=(callFunc g args).run P w)(hc:nz P g args w R)(hR:∀v w',R v w'->N (a.put o.dst v) w'):o.wp P a w N Q:=by
 rcases hc.ex with⟨hb,hc⟩|⟨v,w',h1,h2⟩
 .rw[hb.run]at hrun;simp only[Oper.wp,hrun,Oper.upon];refine hc.mono λe w' ⟨v,he,hh⟩=>?_
  subst he;exact hR v w' hh
 .rw[h1]at hrun;exact fc hrun (hR v w' h2)
theorem afD{c}{f}{g}{An}(ho:o.op=.call c)(hc:c.callee=.value f)(hf:a.eval f=.func (.func g) An #[]):
 (execOp a.eval o).run P w=(callFunc g (An++c.args.map a.eval)).run P w:=by
 simp only[execOp,ho,resolve,hc,hf,Deferred.ofValue,aP,bG,bn,invoke,Array.append_empty]
theorem ZL{c}{f}{g}{An}(ho:o.op=.call c)(hc:c.callee=.value f)(hf:a.eval f=.func (.func g) #[] An):
 (execOp a.eval o).run P w=(callFunc g (c.args.map a.eval++An)).run P w:=by
 simp only[execOp,ho,resolve,hc,hf,Deferred.ofValue,aP,bG,bn,invoke,Array.empty_append]
theorem ayH{g}(h:Nat.ble 1000000 g=true)(vs):fnV g vs=.func (.func (g-1000000)) vs #[]:=by unfold fnV;rw[h,cond_true]
theorem atV{g}(h:Nat.ble 1000000 g=false)(vs):fnV g vs=.func (.func g) #[] vs:=by unfold fnV;rw[h,cond_false]
theorem RO.nil(rw):RO rw [] [] rw []:=⟨rfl,λn j r h=>by simp at h,λn n' j h=>by simp at h,λa j h=>by simp at h,λa b j h=>by simp at h,λ_ _=>rfl,λn j h=>by simp at h,λn r h=>by simp at h⟩
theorem ao4{g}{s}{xs}{vs}(fr:Bool)(bor:Nat->Prop)(hs:anl P g s)(h:esF aj s xs ts pb rw (λr ts pb rw=>jw o.dst r ts pb rw K)=some q)(m:Mem V U0 L B A pb rw w)(cH:hL (env U0 B A pb rw w) ts a.tmps.toList)
 (hxs:hL ⟨lU (Us U0 B A pb rw) B A rw (λ_=>False) bor,w,B,A,pb,rw⟩ xs vs) (hfr:fr=true->∀j,¬bor j) (BB:fr=false->s.Q.free=true) (hrun:(execOp a.eval o).run P w=(callFunc g vs.toArray).run P w):o.wp P a w (o6 V U0 L al B A pb rw w a K q) Q:=by
 unfold esF at h;split at h
 .rename_i x hx;obtain⟨y,hy,h⟩:=af6 h
  have hL0:Ow (lB B λ_=>none) (lA A []) [] []=λ_=>False:=by
   funext b;refine propext ⟨?_,False.elim⟩;rintro⟨k,i,hb⟩;cases k with
   |true=>obtain⟨r,ad,h1,_⟩:=hb;simp at h1
   |false=>obtain⟨⟨b0,h1⟩,_⟩:=hb;simp at h1
  obtain⟨m0,hU,RB,hb1⟩:=m.awf (σ:=λ_=>none) (rs:=[]) (bor:=bor) (pb0:=[]) (rw0:=[]) (λk b0 h=>by simp at h) (λk b0 i b h=>by simp at h) (λk k' i h=>by cases h) (λn r h=>by simp at h) (λn n' j h=>by simp at h)
  have hargs:hL (env (lU (Us U0 B A pb rw) B A rw (Ow (lB B λ_=>none) (lA A []) [] []) bor) (lB B λ_=>none) (lA A []) [] [] w) (zO s.P x) vs:=by
   refine au8 (E:=⟨lU (Us U0 B A pb rw) B A rw (λ_=>False) bor,w,B,A,pb,rw⟩) (E0:=env (lU (Us U0 B A pb rw) B A rw (Ow (lB B λ_=>none) (lA A []) [] []) bor) (lB B λ_=>none) (lA A []) [] [] w) ⟨λ_ _ _=>rfl,au _,λb _ hu=>?_⟩ hx hxs;rcases hu with hu|hu
   .rw[hL0]at hu;exact hu
   .have:Ow (lB B λ_=>none) (lA A []) [] [] b:=hu;rw[hL0]at this;exact this.elim
  refine ZK hrun (hs x y hy _ _ _ vs w m0 hargs) ?_;rintro v w' ⟨B1,A1,r,iy,ju,m1,hrv,hlv,rfl,hmk⟩;obtain⟨d,ρ',p7,js,h1,h2,_,h3⟩:=QT.o_s s.Q y [] rw _ [] [] h (RO.nil rw);rw[<-hmk]at h2 h3;obtain⟨M,S,X,tr⟩:=Mem.back (al:=al) (σ:=λ_=>none) (pbF:=pb) (base:=rw) Ix fr m RB hb1 (λk i h=>by cases h) m1 hlv (λk k' i h=>by cases h) (λk i _ h=>by cases h) (λk i h=>by cases h) (λk i _ h=>by cases h) (λi b' hi=>.inr ⟨λk h=>(by cases h),λk h=>(by cases h),b',hi,by rw[pg]⟩) (λi h=>h) (λk i h=>by cases h) h2 (λ_ _=>rfl) (λn j h=>by simp at h) (λj _ n h=>by simp at h) (λj p h=>by cases h) hfr (λk b h=>by simp at h) (λhf=>by have:=(QT.KO s.Q y [] (BB hf) λn e t l h=>by simp at h).2;rw[<-hmk]at this;exact this);refine o6.ret h1 M (nS S cH) ?_ X;rw[h3 js (IH.refl _)];refine DV.aox tr r ?_ hrv;cases hf:fr with
  |true=>exact DV.T2 r
  |false=>have:=(QT.KO s.Q y [] (BB hf) λn e t l h=>by simp at h).1;rw[<-hmk]at this;exact this
 .cases h
end
end Go.Vc



