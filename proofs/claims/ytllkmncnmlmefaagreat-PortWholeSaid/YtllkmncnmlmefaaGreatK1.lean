import Derived.WalkKit
import Derived.OrdersHeld
import Derived.WalkSpells
import Derived.Deep.LoopGhost
import Derived.Laws.AppendOwn
import Derived.Lib.AppendStr
import Derived.Great.BuildSlice
import Derived.Maps.AppendAt
namespace Go.Vc
open Go
inductive XV where
 |v (x:Value)
 |int (k:IntKind) (n:Int)
 |bool (b:Bool)
 |lit (b:Bool)
 |str (s:ByteArray)
 |slc (a:Option Addr) (len cap:Nat)
 |ptr (a:Addr)
 |own (i b off:Nat)
 |fn (f:FuncId) (caps:List XV)
 |agg (xs:List XV)
 |tup (xs:List XV)
 |und
 |junk
mutual
def XV.den:XV→Value
 | .v x=>x
 | .int k n=>.int k n
 | .bool b=>.bool b
 | .lit b=>.bool b
 | .str s=>.string s
 | .slc a l c=>.slice a l c
 | .ptr a=>.pointer (some a)
 | .own _ b off=>.pointer (some ⟨b,off,none⟩)
 | .fn f cs=>.func (.func f) #[] (denL cs).toArray
 | .agg xs=>.agg (denL xs).toArray
 | .tup xs=>.tuple (denL xs).toArray
 | .und=>undef
 | .junk=>undef
def denL:List XV→List Value
 |[]=>[]
 |x::xs=>x.den::denL xs
end
theorem zgu(xs:List XV):denL xs=xs.map XV.den:=by
 induction xs with
 |nil=>rfl
 |cons x xs ih=>simp[denL,ih]
def okB(bs:List Nat):Nat→Nat→Prop:=fun i b=>bs[i]?=some b
mutual
def XV.wf(bs:List Nat):XV→Prop
 | .own i b _=>bs[i]?=some b
 | .fn _ cs=>wfL bs cs
 | .agg xs=>wfL bs xs
 | .tup xs=>wfL bs xs
 |_=>True
def wfL(bs:List Nat):List XV→Prop
 |[]=>True
 |x::xs=>x.wf bs∧wfL bs xs
end
theorem zky(bs:List Nat)(xs:List XV):wfL bs xs↔∀x∈xs,x.wf bs:=by
 induction xs with
 |nil=>simp[wfL]
 |cons x xs ih=>simp[wfL,ih]
mutual
theorem XV.wf_mono(bs:List Nat)(b:Nat):(x:XV)→x.wf bs→x.wf (bs++[b])
 | .own i c _,h=>by
  simp only[XV.wf]at*
  have hi:i<bs.length:=by
   rcases Nat.lt_or_ge i bs.length with h'|h'
   ·exact h'
   ·simp[List.getElem?_eq_none h']at h
  rw[List.getElem?_append_left hi]; exact h
 | .fn _ cs,h=>by simp only[XV.wf]at *; exact zih bs b cs h
 | .agg xs,h=>by simp only[XV.wf]at *; exact zih bs b xs h
 | .tup xs,h=>by simp only[XV.wf]at *; exact zih bs b xs h
 | .v _,_ | .int _ _,_ | .bool _,_ | .lit _,_ | .str _,_ | .slc _ _ _,_ | .ptr _,_ | .und,_ | .junk,_=>by simp[XV.wf]
theorem zih(bs:List Nat)(b:Nat):(xs:List XV)→wfL bs xs→wfL (bs++[b]) xs
 |[],_=>by simp[wfL]
 |x::xs,h=>by simp only[wfL]at *; exact⟨XV.wf_mono bs b x h.1,zih bs b xs h.2⟩
end
def zfo:Value→XV
 | .bool b=>.lit b
 | .int k n=>.int k n
 | .string s=>.str s
 | .slice a l c=>.slc a l c
 |x=>.v x
theorem zyk(x:Value):(zfo x).den=x:=by cases x<;>simp[zfo,XV.den]
theorem zrw(bs:List Nat)(x:Value):(zfo x).wf bs:=by cases x<;>simp[zfo,XV.wf]
def inj0:Value→XV
 | .bool b=>.bool b
 | .int k n=>.int k n
 | .string s=>.str s
 | .slice a l c=>.slc a l c
 | .pointer (some a)=>.ptr a
 |x=>.v x
theorem zrh(x:Value):(inj0 x).den=x:=by
 cases x with
 |pointer a=>cases a<;>simp[inj0,XV.den]
 |_=>simp[inj0,XV.den]
theorem zkx(bs:List Nat)(x:Value):(inj0 x).wf bs:=by
 cases x with
 |pointer a=>cases a<;>simp[inj0,XV.wf]
 |_=>simp[inj0,XV.wf]
def injL:List Value→List XV
 |[]=>[]
 |x::xs=>inj0 x::injL xs
theorem zhy(xs:List Value):denL (injL xs)=xs:=by
 induction xs with
 |nil=>rfl
 |cons x xs ih=>simp[injL,denL,zrh,ih]
theorem ybi(bs:List Nat)(xs:List Value):wfL bs (injL xs):=by
 induction xs with
 |nil=>simp[injL,wfL]
 |cons x xs ih=>simp[injL,wfL,zkx,ih]
def inj1:Value→XV
 | .agg cs=>.agg (injL cs.toList)
 |x=>inj0 x
theorem zvq(x:Value):(inj1 x).den=x:=by cases x<;>simp[inj1,XV.den,zrh,zhy]
theorem zoj(bs:List Nat)(x:Value):(inj1 x).wf bs:=by
 unfold inj1; split
 ·simp[XV.wf,ybi]
 ·exact zkx _ _
def injL1:List Value→List XV
 |[]=>[]
 |x::xs=>inj1 x::injL1 xs
theorem yau(xs:List Value):denL (injL1 xs)=xs:=by
 induction xs with
 |nil=>rfl
 |cons x xs ih=>simp[injL1,denL,zvq,ih]
theorem yeq(bs:List Nat)(xs:List Value):wfL bs (injL1 xs):=by
 induction xs with
 |nil=>simp[injL1,wfL]
 |cons x xs ih=>simp[injL1,wfL,zoj,ih]
def inj2:Value→XV
 | .bool b=>.lit b
 |x=>inj1 x
theorem den_inj2(x:Value):(inj2 x).den=x:=by
 unfold inj2; split
 ·simp[XV.den]
 ·exact zvq _
theorem wf_inj2(bs:List Nat)(x:Value):(inj2 x).wf bs:=by
 unfold inj2; split
 ·simp[XV.wf]
 ·exact zoj _ _
def injL2:List Value→List XV
 |[]=>[]
 |x::xs=>inj2 x::injL2 xs
theorem denL_injL2(xs:List Value):denL (injL2 xs)=xs:=by
 induction xs with
 |nil=>rfl
 |cons x xs ih=>simp[injL2,denL,den_inj2,ih]
theorem wfL_injL2(bs:List Nat)(xs:List Value):wfL bs (injL2 xs):=by
 induction xs with
 |nil=>simp[injL2,wfL]
 |cons x xs ih=>simp[injL2,wfL,wf_inj2,ih]
def inject:Value→XV
 | .tuple vs=>.tup (injL2 vs.toList)
 |x=>inj1 x
theorem zns(x:Value):(inject x).den=x:=by cases x<;>simp[inject,XV.den,zvq,denL_injL2]
theorem zpi(bs:List Nat)(x:Value):(inject x).wf bs:=by
 unfold inject; split
 ·simp[XV.wf,wfL_injL2]
 ·exact zoj _ _
structure Box where
 blk:Nat
 ty:TypeId
 cells:List XV
def blks(bx:List Box):List Nat:=bx.map (·.blk)
def Rel(bs:List Nat):List XV→List Value→Prop
 |[],[]=>True
 |x::xs,v::vs=>(x=.junk∨(v=x.den∧x.wf bs))∧Rel bs xs vs
 |_,_=>False
theorem Rel.length{bs:List Nat}:{xs:List XV}→{vs:List Value}→Rel bs xs vs→xs.length=vs.length
 |[],[],_=>rfl
 |_::_,_::_,h=>by simp[Rel]at h; simp[Rel.length h.2]
 |[],_::_,h=>by simp[Rel]at h
 |_::_,[],h=>by simp[Rel]at h
theorem Rel.mono{bs:List Nat}(b:Nat):{xs:List XV}→{vs:List Value}→Rel bs xs vs→Rel (bs++[b]) xs vs
 |[],[],_=>by simp[Rel]
 |x::_,_::_,h=>by
  simp only[Rel]at*
  exact⟨h.1.imp id fun h=>⟨h.1,XV.wf_mono bs b x h.2⟩,h.2.mono b⟩
 |[],_::_,h=>by simp[Rel]at h
 |_::_,[],h=>by simp[Rel]at h
structure Sync(bx:List Box)(W w:World):Prop where
 os:w.os=W.os
 tape:w.tape=W.tape
 output:w.output=W.output
 size:W.heap.size≤w.heap.size
 same:∀b,b<W.heap.size→b∉blks bx→w.heap[b]?=W.heap[b]?
 own:∀x∈bx,w.heap[x.blk]?=some (.cells (denL x.cells).toArray x.ty (0,0))
structure Inv(ts:List XV)(bx:List Box)(a:Act)(w W:World):Prop where
 defers:a.defers=[]
 frame:Rel (blks bx) ts a.tmps.toList
 wf:∀x∈bx,wfL (blks bx) x.cells
 nodup:(blks bx).Nodup
 sync:Sync bx W w
abbrev KT:=List XV→List Box→World→Prop
def getK:List XV→Nat→(XV→Prop)→Prop
 |[],_,K=>K .und
 |x::_,0,K=>match x with
  | .junk=>False
  | .v y=>K (.v y) | .int k n=>K (.int k n) | .bool b=>K (.bool b) | .lit b=>K (.lit b) | .str s=>K (.str s) | .slc a l c=>K (.slc a l c)
  | .ptr a=>K (.ptr a) | .own i b o=>K (.own i b o) | .fn f cs=>K (.fn f cs) | .agg xs=>K (.agg xs) | .tup xs=>K (.tup xs) | .und=>K .und
 |_::xs,n+1,K=>getK xs n K
def setK:List XV→Nat→XV→(List XV→Prop)→Prop
 |[],_,_,K=>K []
 |_::xs,0,y,K=>K (y::xs)
 |x::xs,n+1,y,K=>setK xs n y fun l=>K (x::l)
theorem zfb(xs:List XV)(n:Nat)(y:XV)(K:List XV→Prop):setK xs n y K↔K (xs.set n y):=by
 induction xs generalizing n K with
 |nil=>simp[setK]
 |cons x xs ih=>cases n<;>simp[setK,ih]
theorem zlt{bs:List Nat}{xs:List XV}{vs:List Value}{n:Nat}{K:XV→Prop}(h:getK xs n K)(hr:Rel bs xs vs):
  ∃x:XV,K x∧x.wf bs∧(vs[n]?.getD undef)=x.den:=by
 induction xs generalizing n vs with
 |nil=>
  cases vs with
  |nil=>exact⟨.und,h,by simp[XV.wf],by simp[XV.den]⟩
  |cons _ _=>simp[Rel]at hr
 |cons x xs ih=>
  cases vs with
  |nil=>simp[Rel]at hr
  |cons v vs=>
   simp only[Rel]at hr
   cases n with
   |zero=>
    obtain⟨h1,h2⟩:=hr
    rcases h1 with rfl|⟨rfl,hw⟩
    ·simp[getK]at h
    ·refine⟨x,?_,hw,by simp⟩
     cases x<;>first|exact h|exact h.elim
   |succ n=>simpa using ih (n:=n) h hr.2
theorem Rel.more{bs:List Nat}(l:List Nat){xs:List XV}{vs:List Value}(h:Rel bs xs vs):Rel (bs++l) xs vs:=by
 induction l generalizing bs with
 |nil=>simpa using h
 |cons b l ih=>have:=ih (Rel.mono b h); simpa using this
theorem Rel.set{bs:List Nat}{xs:List XV}{vs:List Value}(hr:Rel bs xs vs)(n:Nat){x:XV}(hw:x.wf bs):Rel bs (xs.set n x) (vs.set n x.den):=by
 induction xs generalizing n vs with
 |nil=>cases vs<;>simp_all [Rel]
 |cons y xs ih=>
  cases vs with
  |nil=>simp[Rel]at hr
  |cons v vs=>
   simp only[Rel]at hr
   cases n with
   |zero=>simp only[List.set,Rel]; exact⟨.inr (by simp[hw]),hr.2⟩
   |succ n=>simp only[List.set,Rel]; exact⟨hr.1,ih hr.2 n⟩
def opK(ts:List XV)(o:Operand)(K:XV→Prop):Prop:=
 match o with
 | .tmp t=>getK ts t K
 | .const c=>K (zfo c)
 | .global g=>K (.ptr ⟨g,0,none⟩)
 | .func f=>K (.fn f [])
theorem zap{bs:List Nat}{ts:List XV}{a:Act}{o:Operand}{K:XV→Prop}(h:opK ts o K)(hr:Rel bs ts a.tmps.toList):
  ∃x:XV,K x∧x.wf bs∧a.eval o=x.den:=by
 cases o with
 |tmp t=>
  obtain⟨x,h1,h2,h3⟩:=zlt h hr
  refine⟨x,h1,h2,?_⟩
  rw[←h3]
  simp[Act.eval]
 |const c=>exact⟨_,h,zrw _ _,(zyk _).symm⟩
 |global g=>exact⟨_,h,by simp[XV.wf],rfl⟩
 |func f=>exact⟨_,h,by simp[XV.wf,wfL],by simp[Act.eval,XV.den,denL]⟩
def opsK(ts:List XV):List Operand→(List XV→Prop)→Prop
 |[],K=>K []
 |o::os,K=>opK ts o fun x=>opsK ts os fun xs=>K (x::xs)
theorem zhp{bs:List Nat}{ts:List XV}{a:Act}{os:List Operand}{K:List XV→Prop}(h:opsK ts os K)(hr:Rel bs ts a.tmps.toList):
  ∃xs:List XV,K xs∧wfL bs xs∧os.map a.eval=denL xs:=by
 induction os generalizing K with
 |nil=>exact⟨[],h,by simp[wfL],rfl⟩
 |cons o os ih=>
  obtain⟨x,h1,h2,h3⟩:=zap h hr
  obtain⟨xs,h4,h5,h6⟩:=ih h1
  exact⟨x::xs,h4,⟨h2,h5⟩,by simp[denL,h3,h6]⟩
def retX(dst:Option Tmp)(x:XV)(ts:List XV)(bx:List Box)(W:World)(K:KT):Prop:=
 match dst with
 |none=>K ts bx W
 |some d=>setK ts d x fun l=>K l bx W
theorem zfi{dst:Option Tmp}{x:XV}{ts:List XV}{bx:List Box}{a:Act}{w W:World}{K:KT}(h:retX dst x ts bx W K)(inv:Inv ts bx a w W)(hw:x.wf (blks bx)):
  ∃ts' bx' W',Inv ts' bx' (a.put dst x.den) w W'∧K ts' bx' W':=by
 cases dst with
 |none=>exact⟨ts,bx,W,inv,h⟩
 |some d=>
  simp only[retX,zfb]at h
  exact⟨_,bx,W,⟨inv.defers,by simpa[Act.put]using inv.frame.set d hw,inv.wf,inv.nodup,inv.sync⟩,h⟩
def Post(K:KT)(a':Act)(w':World):Prop:=∃ts' bx' W',Inv ts' bx' a' w' W'∧K ts' bx' W'
theorem zig{P:Program}{o:Oper}{a:Act}{w w':World}{v:Value}{N:Act→World→Prop}{Q:Exit→Act→World→Prop}
  (h:(execOp a.eval o).run P w=.ok (.value v) w') (hn:N (a.put o.dst v) w'):o.wp P a w N Q:=by
 simp only[Oper.wp,h,Oper.upon]; exact hn
theorem zrv{P:Program}{o:Oper}{a:Act}{w w':World}{N:Act→World→Prop}{Q:Exit→Act→World→Prop}
  (h:(execOp a.eval o).run P w=.ok .skip w') (hn:N (a.put o.dst undef) w'):o.wp P a w N Q:=by
 simp only[Oper.wp,h,Oper.upon]; exact hn
end Go.Vc

namespace Go.Vc
open Go
inductive LK where
  | int (k : IntKind) | bool | str
inductive TD where
  | struct (fs : List (Nat × Nat × Nat))
  | slice (e : TypeId)
  | array (n : Nat) (e : TypeId)
  | int (k : IntKind)
  | bool
  | string
  | ptr (e : TypeId)
  | map (k e : TypeId)
  | other
structure TI where
  ok : Bool
  td : TD
  size : Nat
  bytes : Nat
  agg : Bool
  zero : List Value
  leaves : Option (List LK)
def zqq (lv : TypeId → Option (List LK)) (sz : TypeId → Nat) : List Field → Nat → Option (List LK)
  | [], _ => some []
  | f :: fs, off =>
    if f.name == "_" || f.offset != off then none else
    match lv f.type with
    | none => none
    | some l => if l.length != sz f.type || l.length == 0 then none else
      match zqq lv sz fs (off + l.length) with
      | none => none
      | some r => some (l ++ r)
def zdz (P : Program) : Nat → TypeId → Option (List LK)
  | 0, _ => none
  | d + 1, t =>
    match P.underlying t with
    | some (.int k) => some [.int k]
    | some .bool => some [.bool]
    | some .string => some [.str]
    | some (.struct fs) => if P.stoodInHeld t then none else zqq (zdz P d) P.cellsOf fs.toList 0
    | _ => none
def TD.of (P : Program) : TypeDesc → TD
  | .struct fs => .struct (fs.toList.map fun f => (f.offset, f.type, P.cellsOf f.type))
  | .slice e => .slice e
  | .array n e => .array n e
  | .int k => .int k
  | .bool => .bool
  | .string => .string
  | .pointer e => .ptr e
  | .map k e => .map k e
  | _ => .other
def isAggD : TypeDesc → Bool
  | .struct _ => true
  | .array _ _ => true
  | _ => false
def rowOf (P : Program) (t : TypeId) : TI :=
  match P.underlying t, P.info? t with
  | some d, some i =>
    { ok := true, td := .of P d, size := i.size, bytes := i.bytes, agg := isAggD d
      zero := (match i.zero with | some z => z.cells.toList | none => [])
      leaves := if P.eqGuardType P.depth t then none else zdz P 8 t }
  | _, _ => { ok := false, td := .other, size := 0, bytes := 0, agg := false, zero := [], leaves := none }
def zba (P : Program) (T : List TI) : Prop := ∀ (t : TypeId) (ti : TI), T[t]? = some ti → ti.ok = true → ti = rowOf P t
def zvb (P : Program) : Nat → List TI → List TI
  | _, [] => []
  | n, ti :: T => (match ti.ok with | true => rowOf P n | false => ti) :: zvb P (n + 1) T
theorem tableOk_of {P : Program} {T : List TI} (h : zvb P 0 T = T) : zba P T := by
  have key : ∀ (T : List TI) (n : Nat), zvb P n T = T → ∀ (t : TypeId) (ti : TI), T[t]? = some ti → ti.ok = true → ti = rowOf P (n + t) := by
    intro T
    induction T with
    | nil => intro n _ t ti ht; simp at ht
    | cons x T ih =>
      intro n h t ti ht ho
      simp only [zvb, List.cons.injEq] at h
      cases t with
      | zero =>
        simp at ht; subst ht
        rw [ho] at h
        simpa using h.1.symm
      | succ t =>
        have := ih (n + 1) h.2 t ti (by simpa using ht) ho
        rwa [show n + (t + 1) = n + 1 + t by omega]
  intro t ti ht ho
  simpa using key T 0 h t ti ht ho
structure TFacts (P : Program) (t : TypeId) (ti : TI) : Prop where
  ex : ∃ d i, P.underlying t = some d ∧ P.info? t = some i ∧ ti.td = .of P d ∧ ti.size = i.size ∧ ti.bytes = i.bytes ∧
    ti.agg = isAggD d ∧
    ti.zero = (match i.zero with | some z => z.cells.toList | none => []) ∧
    ti.leaves = if P.eqGuardType P.depth t then none else zdz P 8 t
theorem zba.facts {P : Program} {T : List TI} (h : zba P T) {t : TypeId} {ti : TI} (ht : T[t]? = some ti) (hs : ti.ok = true) : TFacts P t ti := by
  have hr := h t ti ht hs
  unfold rowOf at hr
  split at hr
  · rename_i d i hd hi
    subst hr
    exact ⟨d, i, hd, hi, rfl, rfl, rfl, rfl, rfl, rfl⟩
  · subst hr; simp at hs
theorem ztr {P : Program} {t : TypeId} {i : TypeInfo} (h : P.info? t = some i) (w : World) : (typeInfo t).run P w = .ok i w := by
  simp [typeInfo, Sem.run_bind, run_program, h]
theorem zeu {P : Program} {t : TypeId} {i : TypeInfo} (h : P.info? t = some i) (w : World) : (sizeOf t).run P w = .ok i.size w := by
  simp [sizeOf, Sem.run_bind, ztr h]
theorem zhj {P : Program} {t : TypeId} {d : TypeDesc} (h : P.underlying t = some d) (w : World) :
    (isAgg t).run P w = .ok (isAggD d) w := by
  simp only [isAgg, Sem.run_bind, run_underlying h, Result.andThen_ok]
  cases d <;> simp [isAggD]
theorem zhb {P : Program} {t : TypeId} {i : TypeInfo} {z : Value} (h : P.info? t = some i) (hz : i.zero = some z) (w : World) : (zeroValue t).run P w = .ok z w := by
  simp [zeroValue, Sem.run_bind, ztr h, hz]
def cmpV : List LK → List Value → List Value → Option Bool
  | [], [], [] => some true
  | .int _ :: ls, .int k1 a :: xs, .int k2 b :: ys => if k1 = k2 then (cmpV ls xs ys).map ((a == b) && ·) else none
  | .bool :: ls, .bool a :: xs, .bool b :: ys => (cmpV ls xs ys).map ((a == b) && ·)
  | .str :: ls, .string a :: xs, .string b :: ys => (cmpV ls xs ys).map ((a.toList == b.toList) && ·)
  | _, _, _ => none
theorem yjk {l r : List LK} {xs ys : List Value} {b : Bool} (h : cmpV (l ++ r) xs ys = some b) :
    ∃ b1 b2, cmpV l (xs.take l.length) (ys.take l.length) = some b1 ∧ cmpV r (xs.drop l.length) (ys.drop l.length) = some b2 ∧ b = (b1 && b2) ∧ l.length ≤ xs.length ∧ l.length ≤ ys.length := by
  induction l generalizing xs ys b with
  | nil => exact ⟨true, b, by simp [cmpV], by simpa using h, by simp, by simp, by simp⟩
  | cons k l ih =>
    simp only [List.cons_append] at h
    unfold cmpV at h
    split at h
    · simp_all
    · rename_i ls k1 a xs k2 b' ys heq
      injection heq with h1 h2
      subst h2
      split at h
      · rename_i hk
        simp only [Option.map_eq_some_iff] at h
        obtain ⟨c, hc, rfl⟩ := h
        obtain ⟨b1, b2, h3, h4, rfl, h5, h6⟩ := ih hc
        subst h1
        refine ⟨(a == b') && b1, b2, ?_, by simpa using h4, ?_, by simpa using h5, by simpa using h6⟩
        · simp only [List.length_cons, List.take_succ_cons, cmpV, if_pos hk, h3, Option.map_some]
        · simp [Bool.and_assoc]
      · cases h
    · rename_i ls a xs b' ys heq
      injection heq with h1 h2
      subst h2
      simp only [Option.map_eq_some_iff] at h
      obtain ⟨c, hc, rfl⟩ := h
      obtain ⟨b1, b2, h3, h4, rfl, h5, h6⟩ := ih hc
      subst h1
      exact ⟨(a == b') && b1, b2, by simp only [List.length_cons, List.take_succ_cons, cmpV, h3, Option.map_some], by simpa using h4, by simp [Bool.and_assoc], by simpa using h5, by simpa using h6⟩
    · rename_i ls a xs b' ys heq
      injection heq with h1 h2
      subst h2
      simp only [Option.map_eq_some_iff] at h
      obtain ⟨c, hc, rfl⟩ := h
      obtain ⟨b1, b2, h3, h4, rfl, h5, h6⟩ := ih hc
      subst h1
      exact ⟨(a.toList == b'.toList) && b1, b2, by simp only [List.length_cons, List.take_succ_cons, cmpV, h3, Option.map_some], by simpa using h4, by simp [Bool.and_assoc], by simpa using h5, by simpa using h6⟩
    · cases h
def wrapV (P : Program) (t : TypeId) (xs : List Value) : Value :=
  match P.underlying t with
  | some (.struct _) => .agg xs.toArray
  | _ => xs.getD 0 undef
theorem yke {P : Program} {t : TypeId} {xs : Array Value} {off : Nat} {i : TypeInfo} {l : List LK} {d : Nat} (hl : zdz P d t = some l) (hi : P.info? t = some i) (hsz : l.length = i.size) (hx : off + l.length ≤ xs.size) (w : World) :
    (part t xs off).run P w = .ok (wrapV P t ((xs.toList.drop off).take l.length)) w := by
  cases d with
  | zero => simp [zdz] at hl
  | succ d =>
    unfold zdz at hl
    unfold wrapV
    have one : ∀ k : LK, l = [k] → off < xs.size := by rintro k rfl; simp at hx; omega
    split at hl
    · rename_i k hu
      simp only [Option.some.injEq] at hl
      have := one _ hl.symm
      subst hl
      simp [part, Sem.run_bind, zhj hu, isAggD, hu, this, List.getD]
    · rename_i hu
      simp only [Option.some.injEq] at hl
      have := one _ hl.symm
      subst hl
      simp [part, Sem.run_bind, zhj hu, isAggD, hu, this, List.getD]
    · rename_i hu
      simp only [Option.some.injEq] at hl
      have := one _ hl.symm
      subst hl
      simp [part, Sem.run_bind, zhj hu, isAggD, hu, this, List.getD]
    · rename_i fs hu
      simp only [part, Sem.run_bind, zhj hu, isAggD, Result.andThen_ok, if_true, zeu hi, hu, Sem.run_pure]
      congr 2
      apply Array.ext'
      simp [hsz, Array.toList_extract, List.extract_eq_take_drop]
    · cases hl
theorem eq_fields {P : Program} {d : Nat} (hsz : ∀ t, P.cellsOf t ≠ 0 → ∃ i, P.info? t = some i ∧ i.size = P.cellsOf t)
    (ih : ∀ (t : TypeId) (l : List LK), zdz P d t = some l → ∀ (D : Nat), d ≤ D → ∀ (xs ys : List Value) (r : Bool), cmpV l xs ys = some r → ∀ w, (Op.equalIn D t (wrapV P t xs) (wrapV P t ys)).run P w = .ok r w) :
    ∀ (fs : List Field) (off : Nat) (l : List LK), zqq (zdz P d) P.cellsOf fs off = some l → ∀ (D : Nat), d ≤ D → ∀ (xs ys : Array Value) (r : Bool), cmpV l (xs.toList.drop off) (ys.toList.drop off) = some r → ∀ w,
      (Op.eqFields D xs ys fs).run P w = .ok r w := by
  intro fs
  induction fs with
  | nil =>
    intro off l hl D hD xs ys r hr w
    simp only [zqq, Option.some.injEq] at hl
    subst hl
    unfold cmpV at hr
    split at hr <;> simp_all [Op.eqFields]
  | cons f fs ihf =>
    intro off l hl D hD xs ys r hr w
    unfold zqq at hl
    split at hl
    · cases hl
    · rename_i hnm
      simp only [Bool.or_eq_true, beq_iff_eq, bne_iff_ne, not_or, Decidable.not_not] at hnm
      obtain ⟨hn, hoff⟩ := hnm
      subst hoff
      split at hl
      · cases hl
      · rename_i lf hlf
        split at hl
        · cases hl
        · rename_i hlen
          simp only [Bool.or_eq_true, beq_iff_eq, bne_iff_ne, not_or, ne_eq, Decidable.not_not] at hlen
          obtain ⟨hlen, hne⟩ := hlen
          split at hl
          · cases hl
          · rename_i rest hrest
            simp only [Option.some.injEq] at hl
            subst hl
            obtain ⟨b1, b2, h1, h2, rfl, h3, h4⟩ := yjk hr
            have hpos : lf ≠ [] := by intro h0; subst h0; simp at hne
            obtain ⟨i, hi, hisz⟩ := hsz f.type (by rw [← hlen]; simpa using hpos)
            have hx : f.offset + lf.length ≤ xs.size := by
              have : lf.length ≤ xs.toList.length - f.offset := by simpa using h3
              have : 0 < lf.length := List.length_pos_iff.2 hpos
              simp at *; omega
            have hy : f.offset + lf.length ≤ ys.size := by
              have : lf.length ≤ ys.toList.length - f.offset := by simpa using h4
              have : 0 < lf.length := List.length_pos_iff.2 hpos
              simp at *; omega
            simp only [Op.eqFields, ne_eq, hn, not_false_eq_true, if_true, Sem.run_bind, yke hlf hi (by omega) hx, yke hlf hi (by omega) hy, Result.andThen_ok,
              ih f.type lf hlf D hD _ _ b1 h1, Sem.run_ite, Sem.run_pure]
            cases b1
            · simp
            · simp only [Bool.not_true, Bool.false_eq_true, if_false, Bool.true_and]
              exact ihf (f.offset + lf.length) rest hrest D hD xs ys b2 (by simpa [List.drop_drop] using h2) w
theorem zfr {P : Program} (t : TypeId) (h : P.cellsOf t ≠ 0) : ∃ i, P.info? t = some i ∧ i.size = P.cellsOf t := by
  unfold Program.cellsOf at *
  cases hi : P.info? t with
  | none => simp [hi] at h
  | some i => exact ⟨i, rfl, by simp⟩
theorem yhb {P : Program} : ∀ (d : Nat) (t : TypeId) (l : List LK), zdz P d t = some l → ∀ (D : Nat), d ≤ D → ∀ (xs ys : List Value) (r : Bool), cmpV l xs ys = some r → ∀ w,
    (Op.equalIn D t (wrapV P t xs) (wrapV P t ys)).run P w = .ok r w := by
  intro d
  induction d with
  | zero => intro t l hl; simp [zdz] at hl
  | succ d ih =>
    intro t l hl D hD xs ys r hr w
    obtain ⟨D, rfl⟩ : ∃ D', D = D' + 1 := ⟨D - 1, by omega⟩
    unfold zdz at hl
    split at hl
    · rename_i k hu
      simp only [Option.some.injEq] at hl; subst hl
      unfold cmpV at hr
      split at hr <;> try (simp_all; done)
      rename_i h1; injection h1 with h1 h2; subst h2
      split at hr
      · rename_i hk; subst hk
        simp only [Option.map_eq_some_iff] at hr
        obtain ⟨c, hc, rfl⟩ := hr
        unfold cmpV at hc
        split at hc <;> simp_all [wrapV, List.getD, run_equalIn_int]
        all_goals rw [run_equalIn_int (h := hu)]
      · cases hr
    · rename_i hu
      simp only [Option.some.injEq] at hl; subst hl
      unfold cmpV at hr
      split at hr <;> try (simp_all; done)
      rename_i h1; injection h1 with h1 h2; subst h2
      simp only [Option.map_eq_some_iff] at hr
      obtain ⟨c, hc, rfl⟩ := hr
      unfold cmpV at hc
      split at hc <;> simp_all [wrapV, List.getD]
      all_goals rw [run_equalIn_bool' (h := hu)]
    · rename_i hu
      simp only [Option.some.injEq] at hl; subst hl
      unfold cmpV at hr
      split at hr <;> try (simp_all; done)
      rename_i h1; injection h1 with h1 h2; subst h2
      simp only [Option.map_eq_some_iff] at hr
      obtain ⟨c, hc, rfl⟩ := hr
      unfold cmpV at hc
      split at hc <;> simp_all [wrapV, List.getD]
      all_goals rw [run_equalIn_string (h := hu)]
    · rename_i fs hu
      split at hl
      · cases hl
      · rename_i hst
        have hf : P.fieldsOf t = fs := by simp [Program.fieldsOf, hu]
        simp only [wrapV, hu]
        rw [run_equalIn_struct w D t _ _ (by rw [hf]; exact hu) (by simpa using hst), hf]
        exact eq_fields zfr ih fs.toList 0 l hl D (by omega) _ _ r (by simpa using hr) w
    · cases hl
def tiK:List TI→Nat→(TI→Prop)→Prop
 |[],_,_=>False
 |ti::_,0,K=>match ti.ok with|true=>K ti|false=>False
 |_::T,n+1,K=>tiK T n K
theorem zme{T:List TI}{t:Nat}{K:TI→Prop}(h:tiK T t K):∃ti,T[t]?=some ti∧ti.ok=true∧K ti:=by
 induction T generalizing t with
 |nil=>exact h.elim
 |cons x T ih=>
  cases t with
  |zero=>
   simp only[tiK]at h
   split at h
   ·rename_i ho; exact⟨x,rfl,ho,h⟩
   ·exact h.elim
  |succ t=>simpa using ih h
theorem zae{P:Program}{T:List TI}(hT:zba P T){t:Nat}{K:TI→Prop}(h:tiK T t K):∃ti,TFacts P t ti∧K ti:=
 let ⟨ti,h1,h2,h3⟩:=zme h
 ⟨ti,hT.facts h1 h2,h3⟩
def ikn:IntKind→Nat
 | .i8=>0 | .i16=>1 | .i32=>2 | .i64=>3 | .u8=>4 | .u16=>5 | .u32=>6 | .u64=>7
def eqk(a b:IntKind):Bool:=Nat.beq (ikn a) (ikn b)
theorem eqk_eq{a b:IntKind}(h:eqk a b=true):a=b:=by cases a<;>cases b<;>first|rfl|(simp[eqk,ikn]at h)
abbrev RT:=XV→Prop
def intBin(op:BinOp)(k:IntKind)(a b:Int)(ret:RT):Prop:=
 match op with
 | .add=>ret (.int k (k.wrap (a+b)))
 | .sub=>ret (.int k (k.wrap (a - b)))
 | .mul=>ret (.int k (k.wrap (a*b)))
 | .quo=>b≠0∧ret (.int k (k.wrap (a.tdiv b)))
 | .rem=>b≠0∧ret (.int k (a.tmod b))
 | .and=>ret (.int k (bits .and k a b))
 | .or=>ret (.int k (bits .or k a b))
 | .xor=>ret (.int k (bits .xor k a b))
 | .eql=>ret (.bool (a==b))
 | .neq=>ret (.bool (a != b))
 | .lss=>ret (.bool (decide (a<b)))
 | .leq=>ret (.bool (decide (a≤b)))
 | .gtr=>ret (.bool (decide (b<a)))
 | .geq=>ret (.bool (decide (b≤a)))
 |_=>False
def leafK(l:LK)(x y:XV)(K:Bool→Prop):Prop:=
 match l,x,y with
 | .int _,.int k a,.int k' b=>match eqk k k' with|true=>K (a==b)|false=>False
 | .bool,.bool a,.bool b=>K (a==b)
 | .bool,.lit a,.bool b=>K (a==b)
 | .bool,.bool a,.lit b=>K (a==b)
 | .bool,.lit a,.lit b=>K (a==b)
 | .str,.str a,.str b=>K (a.toList==b.toList)
 |_,_,_=>False
theorem yai{l:LK}{x y:XV}{K:Bool→Prop}(h:leafK l x y K):∃r,K r∧∀ls xs ys,cmpV (l::ls) (x.den::xs) (y.den::ys)=(cmpV ls xs ys).map (r&&·):=by
 unfold leafK at h
 split at h
 ·rename_i k0 k a k' b
  split at h
  ·rename_i hk
   have:=eqk_eq hk
   subst this
   exact⟨_,h,fun ls xs ys=>by simp[cmpV,XV.den]⟩
  ·exact h.elim
 all_goals first|exact h.elim|exact⟨_,h,fun ls xs ys=>by simp[cmpV,XV.den]⟩
def cmpXK:List LK→List XV→List XV→(Bool→Prop)→Prop
 |[l],[x],[y],K=>leafK l x y K
 |l::ls,x::xs,y::ys,K=>leafK l x y fun r=>cmpXK ls xs ys fun r'=>K (r&&r')
 |_,_,_,_=>False
theorem cmpXK_spec{ls:List LK}{xs ys:List XV}{K:Bool→Prop}(h:cmpXK ls xs ys K):∃r,K r∧cmpV ls (denL xs) (denL ys)=some r:=by
 induction ls generalizing xs ys K with
 |nil=>simp[cmpXK]at h
 |cons l ls ih=>
  unfold cmpXK at h
  split at h
  ·rename_i h1
   injection h1 with h1 h2
   subst h1; subst h2
   obtain⟨r,hr,he⟩:=yai h
   exact⟨r,hr,by simp[denL,he,cmpV]⟩
  ·rename_i h1
   injection h1 with h1 h2
   subst h1; subst h2
   obtain⟨r,hr,he⟩:=yai h
   obtain⟨r',hr',he'⟩:=ih hr
   exact⟨_,hr',by simp[denL,he,he']⟩
  ·exact h.elim
def notIf(neg:Bool)(b:Bool):Bool:=match neg with|true=>!b|false=>b
def eqX(T:List TI)(neg:Bool)(t:TypeId)(a b:XV)(ret:RT):Prop:=
 match a,b with
 | .str s,.str u=>ret (.bool (notIf neg (s.toList==u.toList)))
 | .agg xs,.agg ys=>tiK T t fun ti=>match ti.leaves,ti.td with
  |some ls,.struct _=>cmpXK ls xs ys fun r=>ret (.bool (notIf neg r))
  |_,_=>False
 | .bool x,.bool y=>tiK T t fun ti=>match ti.td with | .bool=>ret (.bool (notIf neg (x==y)))|_=>False
 | .bool x,.lit y=>tiK T t fun ti=>match ti.td with | .bool=>ret (.bool (notIf neg (x==y)))|_=>False
 | .lit x,.bool y=>tiK T t fun ti=>match ti.td with | .bool=>ret (.bool (notIf neg (x==y)))|_=>False
 | .lit x,.lit y=>tiK T t fun ti=>match ti.td with | .bool=>ret (.bool (notIf neg (x==y)))|_=>False
 | .ptr _,.v (.pointer none)=>tiK T t fun ti=>match ti.td with | .ptr _=>ret (.lit neg)|_=>False
 | .own _ _ _,.v (.pointer none)=>tiK T t fun ti=>match ti.td with | .ptr _=>ret (.lit neg)|_=>False
 | .v (.pointer none),.v (.pointer none)=>tiK T t fun ti=>match ti.td with | .ptr _=>ret (.lit (!neg))|_=>False
 | .slc x _ _,.slc none 0 0=>tiK T t fun ti=>match ti.td with | .slice _=>ret (.bool (notIf neg x.isNone))|_=>False
 | .ptr p,.ptr q=>tiK T t fun ti=>match ti.td with | .ptr e=>tiK T e fun _=>p=q∧ret (.lit (!neg))|_=>False
 | .ptr p,.own _ b off=>tiK T t fun ti=>match ti.td with | .ptr e=>tiK T e fun _=>p=⟨b,off,none⟩∧ret (.lit (!neg))|_=>False
 | .own _ b off,.ptr q=>tiK T t fun ti=>match ti.td with | .ptr e=>tiK T e fun _=>⟨b,off,none⟩=q∧ret (.lit (!neg))|_=>False
 |_,_=>False
def binX(T:List TI)(op:BinOp)(t:TypeId)(a b:XV)(ret:RT):Prop:=
 match op,a,b with
 | .shl,.int k x,.int _ y=>0≤y∧ret (.int k (k.wrap (x*2 ^ (min y.toNat k.bits))))
 | .shr,.int k x,.int _ y=>0≤y∧ret (.int k (x.fdiv (2 ^ (min y.toNat k.bits))))
 |op,.int k x,.int k' y=>match eqk k k' with|true=>intBin op k x y ret|false=>False
 | .add,.str s,.str u=>(s.size:Int)+u.size≤9223372036854775807∧ret (.str (s++u))
 | .eql,a,b=>eqX T false t a b ret
 | .neq,a,b=>eqX T true t a b ret
 |_,_,_=>False
theorem zfg{P:Program}{neg:Bool}{t:TypeId}{x y:Operand}{a b v:Value}{w:World}(hg:eqGuard (if neg then .neq else .eql) t x y a b=pure ())
  (hb:(binOp (if neg then .neq else .eql) t a b).run P w=.ok v w):
  (do eqGuard (if neg then .neq else .eql) t x y a b; binOp (if neg then .neq else .eql) t a b).run P w=.ok v w:=by
 rw[hg,Sem.run_bind]; simp[hb]
theorem zim{P:Program}(neg:Bool){t:TypeId}(x y:Operand)(a b:Bool)(w:World)(h:P.underlying t=some .bool):
  (do eqGuard (if neg then .neq else .eql) t x y (.bool a) (.bool b); binOp (if neg then .neq else .eql) t (.bool a) (.bool b)).run P w=.ok (.bool (notIf neg (a==b))) w:=by
 refine zfg (by cases neg<;>rfl) ?_
 cases neg
 ·exact run_eql_bool w t a b h
 ·exact run_neq_bool w t a b h
theorem zft{P:Program}(neg:Bool){t e:TypeId}(x y:Operand)(p:Option Addr)(w:World)(h:P.underlying t=some (.pointer e)):
  (do eqGuard (if neg then .neq else .eql) t x y (.pointer p) (.pointer none); binOp (if neg then .neq else .eql) t (.pointer p) (.pointer none)).run P w=.ok (.bool (notIf neg p.isNone)) w:=by
 have h':P.underlying t=some (.pointer (P.pointee t)):=by simp[Program.pointee,h]
 refine zfg (by cases neg<;>rfl) ?_
 cases neg
 ·exact run_eql_pointer_nil w t p h'
 ·exact run_neq_pointer_nil w t p h'
theorem zuj{P:Program}{t e:TypeId}{i:TypeInfo}(d:Nat)(p:Addr)(w:World)(h:P.underlying t=some (.pointer e))(hi:P.info? e=some i):
  (Op.equalIn (d+1) t (.pointer (some p)) (.pointer (some p))).run P w=.ok true w:=by
 by_cases hz:i.size=0<;>simp[Op.equalIn,run_underlying h,sizeOf,typeInfo,hi,sameAddr]
theorem zon{P:Program}(neg:Bool){t e:TypeId}{i:TypeInfo}(x y:Operand)(p:Addr)(w:World)(h:P.underlying t=some (.pointer e))(hi:P.info? e=some i):
  (do eqGuard (if neg then .neq else .eql) t x y (.pointer (some p)) (.pointer (some p)); binOp (if neg then .neq else .eql) t (.pointer (some p)) (.pointer (some p))).run P w=.ok (.bool (!neg)) w:=by
 refine zfg (by cases neg<;>rfl) ?_
 have hq:(Op.equal t (.pointer (some p)) (.pointer (some p))).run P w=.ok true w:=zuj 9999 p w h hi
 cases neg
 ·show (binOp .eql t (.pointer (some p)) (.pointer (some p))).run P w=_
  simp only[binOp]
  simp[hq]
 ·show (binOp .neq t (.pointer (some p)) (.pointer (some p))).run P w=_
  simp only[binOp]
  simp[hq]
theorem run_eq_slc{P:Program}(neg:Bool){t e:TypeId}(x y:Operand)(p:Option Addr)(l c:Nat)(w:World)(h:P.underlying t=some (.slice e)):
  (do eqGuard (if neg then .neq else .eql) t x y (.slice p l c) (.slice none 0 0); binOp (if neg then .neq else .eql) t (.slice p l c) (.slice none 0 0)).run P w=.ok (.bool (notIf neg p.isNone)) w:=by
 refine zfg (by cases neg<;>rfl) ?_
 cases neg
 ·simp[binOp,Op.equal,Op.maxDepth,Lib.run_equalIn_slice_nil w 9999 t e p l c 0 0 h,notIf]
 ·simp[binOp,Op.equal,Op.maxDepth,Lib.run_equalIn_slice_nil w 9999 t e p l c 0 0 h,notIf]
theorem run_eq_str{P:Program}(neg:Bool){t:TypeId}(x y:Operand)(a b:ByteArray)(w:World):
  (do eqGuard (if neg then .neq else .eql) t x y (.string a) (.string b); binOp (if neg then .neq else .eql) t (.string a) (.string b)).run P w=.ok (.bool (notIf neg (a.toList==b.toList))) w:=by
 refine zfg (by cases neg<;>rfl) ?_
 cases neg<;>rfl
theorem ybr{P:Program}{t:TypeId}{ti:TI}(hf:TFacts P t ti)(h:ti.td=.bool):P.underlying t=some .bool:=by
 obtain⟨d,i,hd,hi,h1,_⟩:=hf.ex
 rw[h]at h1; cases d<;>simp[TD.of]at h1; exact hd
theorem td_ptr{P:Program}{t e:TypeId}{ti:TI}(hf:TFacts P t ti)(h:ti.td=.ptr e):P.underlying t=some (.pointer e):=by
 obtain⟨d,i,hd,hi,h1,_⟩:=hf.ex
 rw[h]at h1; cases d<;>simp[TD.of]at h1; subst h1; exact hd
theorem zii{P:Program}{t e:TypeId}{ti:TI}(hf:TFacts P t ti)(h:ti.td=.slice e):P.underlying t=some (.slice e):=by
 obtain⟨d,i,hd,hi,h1,_⟩:=hf.ex
 rw[h]at h1; cases d<;>simp[TD.of]at h1; subst h1; exact hd
theorem zfw{P:Program}{t:TypeId}{ti:TI}(hf:TFacts P t ti)(h:ti.td=.string):P.underlying t=some .string:=by
 obtain⟨d,i,hd,hi,h1,_⟩:=hf.ex
 rw[h]at h1; cases d<;>simp[TD.of]at h1; exact hd
theorem td_int{P:Program}{t:TypeId}{ti:TI}{k:IntKind}(hf:TFacts P t ti)(h:ti.td=.int k):P.underlying t=some (.int k):=by
 obtain⟨d,i,hd,hi,h1,_⟩:=hf.ex
 rw[h]at h1; cases d<;>simp[TD.of]at h1; subst h1; exact hd
theorem zpl{P:Program}{t:TypeId}{ti:TI}{fs:List (Nat×Nat×Nat)}(hf:TFacts P t ti)(h:ti.td=.struct fs):
  ∃fl:Array Field,P.underlying t=some (.struct fl)∧fs=fl.toList.map fun f=>(f.offset,f.type,P.cellsOf f.type):=by
 obtain⟨d,i,hd,hi,h1,_⟩:=hf.ex
 rw[h]at h1; cases d<;>simp[TD.of]at h1; exact⟨_,hd,h1⟩
theorem run_eqX{P:Program}{T:List TI}(hT:zba P T){neg:Bool}{t:TypeId}{a b:XV}{ret:RT}(h:eqX T neg t a b ret)(x y:Operand)(bs:List Nat):
  ∃r:XV,ret r∧r.wf bs∧∀w:World,(do eqGuard (if neg then .neq else .eql) t x y a.den b.den; binOp (if neg then .neq else .eql) t a.den b.den).run P w=.ok r.den w:=by
 unfold eqX at h
 split at h
 ·exact⟨_,h,by simp[XV.wf],fun w=>run_eq_str neg x y _ _ w⟩
 ·obtain⟨ti,hf,h⟩:=zae hT h
  split at h
  ·rename_i ls fs hls htd
   obtain⟨r,hr,hc⟩:=cmpXK_spec h
   obtain⟨d,i,hd,hi,h1,h2,h3,h4,h5,h6⟩:=hf.ex
   refine⟨_,hr,by simp[XV.wf],fun w=>?_⟩
   rw[hls]at h6
   split at h6
   ·cases h6
   ·rename_i hg
    obtain⟨fl,hu,_⟩:=zpl hf htd
    have:=yhb (P:=P) 8 t ls h6.symm 10000 (by omega) _ _ _ hc w
    simp only[wrapV,hu]at this
    simp only[XV.den,Sem.run_bind,run_eqGuard_agg (hm:=by simpa using hg),Result.andThen_ok]
    cases neg
    ·simp only[Bool.false_eq_true,if_false,run_eql_struct,this,Result.andThen_ok,notIf]
    ·simp only[if_true,run_neq_struct,this,Result.andThen_ok,notIf]
  ·exact h.elim
 ·obtain⟨ti,hf,h⟩:=zae hT h
  split at h
  ·rename_i htd; exact⟨_,h,by simp[XV.wf],fun w=>zim neg x y _ _ w (ybr hf htd)⟩
  ·exact h.elim
 ·obtain⟨ti,hf,h⟩:=zae hT h
  split at h
  ·rename_i htd; exact⟨_,h,by simp[XV.wf],fun w=>zim neg x y _ _ w (ybr hf htd)⟩
  ·exact h.elim
 ·obtain⟨ti,hf,h⟩:=zae hT h
  split at h
  ·rename_i htd; exact⟨_,h,by simp[XV.wf],fun w=>zim neg x y _ _ w (ybr hf htd)⟩
  ·exact h.elim
 ·obtain⟨ti,hf,h⟩:=zae hT h
  split at h
  ·rename_i htd; exact⟨_,h,by simp[XV.wf],fun w=>zim neg x y _ _ w (ybr hf htd)⟩
  ·exact h.elim
 ·obtain⟨ti,hf,h⟩:=zae hT h
  split at h
  ·rename_i htd; exact⟨_,h,by simp[XV.wf],fun w=>by cases neg<;>first|exact zft false x y (some _) w (td_ptr hf htd)|exact zft true x y (some _) w (td_ptr hf htd)⟩
  ·exact h.elim
 ·obtain⟨ti,hf,h⟩:=zae hT h
  split at h
  ·rename_i htd; exact⟨_,h,by simp[XV.wf],fun w=>by cases neg<;>first|exact zft false x y (some _) w (td_ptr hf htd)|exact zft true x y (some _) w (td_ptr hf htd)⟩
  ·exact h.elim
 ·obtain⟨ti,hf,h⟩:=zae hT h
  split at h
  ·rename_i htd; exact⟨_,h,by simp[XV.wf],fun w=>by cases neg<;>first|exact zft false x y none w (td_ptr hf htd)|exact zft true x y none w (td_ptr hf htd)⟩
  ·exact h.elim
 ·obtain⟨ti,hf,h⟩:=zae hT h
  split at h
  ·rename_i htd; exact⟨_,h,by simp[XV.wf],fun w=>run_eq_slc neg x y _ _ _ w (zii hf htd)⟩
  ·exact h.elim
 ·obtain⟨ti,hf,h⟩:=zae hT h
  split at h
  ·rename_i htd
   obtain⟨te,hfe,hpq,hret⟩:=zae hT h
   clear h
   subst hpq
   obtain⟨d,i,hd,hi,_⟩:=hfe.ex
   exact⟨_,hret,by simp[XV.wf],fun w=>by simp only[XV.den]; exact zon neg x y _ w (td_ptr hf htd) hi⟩
  ·exact h.elim
 ·obtain⟨ti,hf,h⟩:=zae hT h
  split at h
  ·rename_i htd
   obtain⟨te,hfe,hpq,hret⟩:=zae hT h
   clear h
   subst hpq
   obtain⟨d,i,hd,hi,_⟩:=hfe.ex
   exact⟨_,hret,by simp[XV.wf],fun w=>by simp only[XV.den]; exact zon neg x y _ w (td_ptr hf htd) hi⟩
  ·exact h.elim
 ·obtain⟨ti,hf,h⟩:=zae hT h
  split at h
  ·rename_i htd
   obtain⟨te,hfe,hpq,hret⟩:=zae hT h
   clear h
   subst hpq
   obtain⟨d,i,hd,hi,_⟩:=hfe.ex
   exact⟨_,hret,by simp[XV.wf],fun w=>by simp only[XV.den]; exact zon neg x y _ w (td_ptr hf htd) hi⟩
  ·exact h.elim
 ·exact h.elim
theorem run_binX{P:Program}{T:List TI}(hT:zba P T){op:BinOp}{t:TypeId}{a b:XV}{ret:RT}(h:binX T op t a b ret)(x y:Operand)(bs:List Nat):
  ∃r:XV,ret r∧r.wf bs∧∀w:World,(do eqGuard op t x y a.den b.den; binOp op t a.den b.den).run P w=.ok r.den w:=by
 unfold binX at h
 split at h
 ·exact⟨_,h.2,by simp[XV.wf],fun w=>by simp[XV.den,eqGuard_at_int,binOp_shl,Op.shift,Int.not_lt.2 h.1]⟩
 ·exact⟨_,h.2,by simp[XV.wf],fun w=>by simp[XV.den,eqGuard_at_int,binOp_shr,Op.shift,Int.not_lt.2 h.1]⟩
 ·rename_i k x y k' z hn1 hn2
  split at h
  ·rename_i hk
   have:=eqk_eq hk
   subst this
   unfold intBin at h
   split at h
   all_goals first
    |exact h.elim
    |exact⟨_,h,by simp[XV.wf],fun w=>by simp[XV.den,eqGuard_at_int,binOp,Op.intArith,Op.intBits,Op.intCmp,bits]⟩
    |exact⟨_,h.2,by simp[XV.wf],fun w=>by simp[XV.den,eqGuard_at_int,binOp,Op.intDiv,h.1]⟩
  ·exact h.elim
 ·refine⟨_,h.2,by simp[XV.wf],fun w=>?_⟩
  have h1:=h.1
  simp[XV.den,eqGuard_at_string,binOp,Op.stringOp]
  omega
 ·exact run_eqX hT h x y bs
 ·exact run_eqX hT h x y bs
 ·exact h.elim
def oneC:Value→Bool
 | .agg _=>false
 | .tuple _=>false
 |_=>true
def wr{α:Type}:List α→Nat→List α→List α
 |xs,_,[]=>xs
 |xs,off,v::vs=>wr (xs.set off v) (off+1) vs
theorem wr_length{α:Type}(xs:List α)(off:Nat)(vs:List α):(wr xs off vs).length=xs.length:=by
 induction vs generalizing xs off with
 |nil=>rfl
 |cons v vs ih=>simp[wr,ih]
theorem denL_set(xs:List XV)(n:Nat)(x:XV):denL (xs.set n x)=(denL xs).set n x.den:=by
 induction xs generalizing n with
 |nil=>simp[denL]
 |cons y xs ih=>cases n<;>simp[denL,ih]
theorem denL_wr(xs:List XV)(off:Nat)(vs:List XV):denL (wr xs off vs)=wr (denL xs) off (denL vs):=by
 induction vs generalizing xs off with
 |nil=>simp[wr,denL]
 |cons v vs ih=>simp[wr,denL,ih,denL_set]
theorem wfL_set{bs:List Nat}{xs:List XV}{x:XV}(n:Nat)(h:wfL bs xs)(hx:x.wf bs):wfL bs (xs.set n x):=by
 rw[zky]at*
 intro y hy
 rcases List.mem_or_eq_of_mem_set hy with h'|rfl
 ·exact h y h'
 ·exact hx
theorem wfL_wr{bs:List Nat}{xs vs:List XV}(off:Nat)(h:wfL bs xs)(hv:wfL bs vs):wfL bs (wr xs off vs):=by
 induction vs generalizing xs off with
 |nil=>exact h
 |cons v vs ih=>exact ih (off+1) (wfL_set off h hv.1) hv.2
def wrK:List XV→Nat→List XV→(List XV→Prop)→Prop
 |xs,_,[],K=>K xs
 |xs,off,v::vs,K=>setK xs off v fun l=>wrK l (off+1) vs K
theorem ybe(xs:List XV)(off:Nat)(vs:List XV)(K:List XV→Prop):wrK xs off vs K↔K (wr xs off vs):=by
 induction vs generalizing xs off with
 |nil=>rfl
 |cons v vs ih=>simp[wrK,zfb,ih,wr]
theorem zcf(xs:List XV):(denL xs).length=xs.length:=by rw[zgu]; simp
theorem zkf(xs ys:List XV):denL (xs++ys)=denL xs++denL ys:=by simp[zgu]
theorem zzp{bs:List Nat}{xs ys:List XV}(h:wfL bs xs)(h':wfL bs ys):wfL bs (xs++ys):=by
 rw[zky]at*
 intro x hx
 rcases List.mem_append.1 hx with h1|h1
 ·exact h x h1
 ·exact h' x h1
def setCells(w:World)(a:Addr):Nat→List Value→World
 |_,[]=>w
 |i,v::vs=>setCells (w.setCell (a.add i) v) a (i+1) vs
theorem zxw(w:World)(a:Addr)(v:Value)(b:Nat)(h:b≠a.block):(w.setCell a v).heap[b]?=w.heap[b]?:=RowKit.Below.heap_setCell w a v b h
theorem zxx{w:World}{b o:Nat}{arr:Array Value}{t:TypeId}{fr:Nat×Nat}(v:Value)(h:w.heap[b]?=some (.cells arr t fr)):
  (w.setCell ⟨b,o,none⟩ v).heap[b]?=some (.cells (arr.setIfInBounds o v) t fr):=by
 simp[World.setCell,Array.getElem?_modify,h]
theorem zbq(a:Addr)(n:Nat):(a.add n).block=a.block:=by unfold Addr.add; split<;>rfl
theorem zma(b o n:Nat):(⟨b,o,none⟩:Addr).add n=⟨b,o+n,none⟩:=by unfold Addr.add; split<;>simp_all
theorem zef(a:Addr)(b:Nat)(h:b≠a.block):∀(vs:List Value) (i:Nat) (w:World),(setCells w a i vs).heap[b]?=w.heap[b]?
 |[],_,_=>rfl
 |v::vs,i,w=>by
  simp only[setCells]
  rw[zef a b h vs,zxw _ _ _ _ (by rw[zbq]; exact h)]
theorem zom(b o:Nat){t:TypeId}{fr:Nat×Nat}:∀(vs:List Value) (i:Nat) (w:World) (xs:List Value),w.heap[b]?=some (.cells xs.toArray t fr)→
  (setCells w ⟨b,o,none⟩ i vs).heap[b]?=some (.cells (wr xs (o+i) vs).toArray t fr)
 |[],_,w,xs,h=>by simpa[setCells,wr]using h
 |v::vs,i,w,xs,h=>by
  simp only[setCells,wr,zma]
  have h1:=zxx (o:=o+i) v h
  simp only[List.setIfInBounds_toArray]at h1
  have:=zom b o vs (i+1) _ _ h1
  rw[show o+i+1=o+(i+1) by omega]
  exact this
theorem zen(a:Addr):∀(vs:List Value) (i:Nat) (w:World),(setCells w a i vs).os=w.os∧(setCells w a i vs).tape=w.tape∧(setCells w a i vs).output=w.output∧(setCells w a i vs).heap.size=w.heap.size∧(setCells w a i vs).drawn=w.drawn
 |[],_,_=>⟨rfl,rfl,rfl,rfl,rfl⟩
 |v::vs,i,w=>by
  have:=zen a vs (i+1) (w.setCell (a.add i) v)
  simp only[setCells]
  refine⟨this.1,this.2.1,this.2.2.1,?_,this.2.2.2.2⟩
  rw[this.2.2.2.1]; simp
theorem zzh{w:World}{a b:Addr}(v:Value)(h:(w.cell? b).isSome=true):((w.setCell a v).cell? b).isSome=true:=by
 by_cases hab:a=b
 ·subst hab
  obtain⟨u,hu⟩:=Option.isSome_iff_exists.1 h
  rw[World.cell?_setCell_same w a v hu]; rfl
 ·rw[World.cell?_setCell_other w a b v hab]; exact h
theorem run_store1{P:Program}(w:World)(a:Addr)(v:Value)(hv:oneC v=true)(hc:(w.cell? a).isSome=true)(hf:w.frozen? a=false):
  (store a v).run P w=.ok () (w.setCell a v):=by
 obtain⟨u,hu⟩:=Option.isSome_iff_exists.1 hc
 unfold store
 cases v<;>simp_all [Sem.run,oneC]
theorem zhc{P:Program}(a:Addr):∀(vs:List Value) (i:Nat) (w:World),(∀v∈vs,oneC v=true)→(∀j,j<vs.length→(w.cell? (a.add (i+j))).isSome=true∧w.frozen? (a.add (i+j))=false)→
  (storeCells a vs i).run P w=.ok () (setCells w a i vs)
 |[],_,_,_,_=>by simp[storeCells,setCells]
 |v::vs,i,w,hv,hc=>by
  have h0:=hc 0 (by simp)
  simp only[Nat.add_zero]at h0
  simp only[storeCells,Sem.run_bind,run_store1 w _ v (hv v (by simp)) h0.1 h0.2,Result.andThen_ok,setCells]
  refine zhc a vs (i+1) _ (fun u hu=>hv u (by simp[hu])) fun j hj=>?_
  have:=hc (j+1) (by simp; omega)
  rw[show i+1+j=i+(j+1) by omega]
  exact⟨zzh v this.1,by rw[World.frozen?_setCell]; exact this.2⟩
theorem zko{w:World}{b:Nat}{xs:List Value}{t:TypeId}{fr:Nat×Nat}(h:w.heap[b]?=some (.cells xs.toArray t fr))(o:Nat):w.cell? ⟨b,o,none⟩=xs[o]?:=by
 simp[World.cell?,h]
theorem zyc{w:World}{b:Nat}{xs:List Value}{t:TypeId}(h:w.heap[b]?=some (.cells xs.toArray t (0,0)))(o:Nat):w.frozen? ⟨b,o,none⟩=false:=by
 simp[World.frozen?,h]
def oneK:List XV→Prop→Prop
 |[],K=>K
 | .v x::xs,K=>oneC x=true∧oneK xs K
 | .agg _::_,_=>False
 | .tup _::_,_=>False
 | .und::_,_=>False
 | .junk::_,_=>False
 |_::xs,K=>oneK xs K
theorem oneK_spec{xs:List XV}{K:Prop}(h:oneK xs K):K∧∀v∈denL xs,oneC v=true:=by
 induction xs with
 |nil=>exact⟨h,by simp[denL]⟩
 |cons x xs ih=>
  cases x<;>simp only[oneK]at h<;>first
   |exact h.elim
   |(obtain⟨h1,h2⟩:=ih h; exact⟨h1,by simpa[denL,XV.den,oneC]using h2⟩)
   |(obtain⟨h1,h2⟩:=ih h.2; exact⟨h1,by simpa[denL,XV.den,h.1]using h2⟩)
def cellsK(x:XV)(K:List XV→Prop):Prop:=
 match x with
 | .agg xs=>K xs
 | .v y=>oneC y=true∧K [.v y]
 | .tup _=>False
 | .und=>False
 | .junk=>False
 |x=>K [x]
theorem zkl{x:XV}{K:List XV→Prop}{bs:List Nat}(h:cellsK x K)(hw:x.wf bs):∃xs,K xs∧wfL bs xs∧x.den.cells.toList=denL xs:=by
 unfold cellsK at h
 split at h
 ·exact⟨_,h,hw,by simp[XV.den,Value.cells]⟩
 ·rename_i y
  refine⟨_,h.2,by simp[wfL,XV.wf],?_⟩
  have:=h.1
  cases y<;>simp_all [XV.den,Value.cells,denL,oneC]
 ·exact h.elim
 ·exact h.elim
 ·exact h.elim
 ·refine⟨_,h,⟨hw,by simp[wfL]⟩,?_⟩
  cases x<;>simp_all [XV.den,Value.cells,denL]
def constL:List Value→List XV
 |[]=>[]
 |x::xs=>zfo x::constL xs
theorem zke(xs:List Value):denL (constL xs)=xs:=by
 induction xs with
 |nil=>rfl
 |cons x xs ih=>simp[constL,denL,zyk,ih]
theorem zzo(bs:List Nat)(xs:List Value):wfL bs (constL xs):=by
 induction xs with
 |nil=>simp[constL,wfL]
 |cons x xs ih=>simp[constL,wfL,zrw,ih]
def subK:List XV→Nat→Nat→(List XV→Prop)→Prop
 |_::xs,o+1,n,K=>subK xs o n K
 |_,0,0,K=>K []
 |x::xs,0,n+1,K=>subK xs 0 n fun l=>K (x::l)
 |[],_,_,_=>False
theorem zfy:∀(xs:List XV) (o n:Nat) (K:List XV→Prop),subK xs o n K→K ((xs.drop o).take n)∧o+n≤xs.length:=by
 intro xs
 induction xs with
 |nil=>
  intro o n K h
  cases o with
  |zero=>cases n with
   |zero=>simp[subK]at h; simpa using h
   |succ n=>simp[subK]at h
  |succ o=>cases n<;>simp[subK]at h
 |cons x xs ih=>
  intro o n K h
  cases o with
  |zero=>cases n with
   |zero=>simp[subK]at h; simpa using h
   |succ n=>
    simp only[subK]at h
    have:=ih 0 n _ h
    simpa using this
  |succ o=>
   simp only[subK]at h
   have:=ih o n K h
   simp only[List.drop_succ_cons,List.length_cons]
   exact⟨this.1,by omega⟩
theorem wfL_sub{bs:List Nat}{xs:List XV}(h:wfL bs xs)(o n:Nat):wfL bs ((xs.drop o).take n):=by
 rw[zky]at*
 exact fun x hx=>h x (List.mem_of_mem_drop (List.mem_of_mem_take hx))
theorem ylw(xs:List XV)(o n:Nat):denL ((xs.drop o).take n)=((denL xs).drop o).take n:=by simp[zgu,List.map_drop,List.map_take]
def boxK:List Box→Nat→(Box→Prop)→Prop
 |[],_,_=>False
 |x::_,0,K=>K x
 |_::xs,n+1,K=>boxK xs n K
theorem zrl{bx:List Box}{i:Nat}{K:Box→Prop}(h:boxK bx i K):∃x,bx[i]?=some x∧K x:=by
 induction bx generalizing i with
 |nil=>exact h.elim
 |cons x bx ih=>
  cases i with
  |zero=>exact⟨x,rfl,h⟩
  |succ i=>simpa using ih h
def zsc:List Box→Nat→List XV→(List Box→Prop)→Prop
 |[],_,_,K=>K []
 |⟨b,t,_⟩::xs,0,cs,K=>K (⟨b,t,cs⟩::xs)
 |x::xs,n+1,cs,K=>zsc xs n cs fun l=>K (x::l)
def setBox:List Box→Nat→List XV→List Box
 |[],_,_=>[]
 |⟨b,t,_⟩::xs,0,cs=>⟨b,t,cs⟩::xs
 |x::xs,n+1,cs=>x::setBox xs n cs
theorem zil(bx:List Box)(i:Nat)(cs:List XV)(K:List Box→Prop):zsc bx i cs K↔K (setBox bx i cs):=by
 induction bx generalizing i K with
 |nil=>simp[zsc,setBox]
 |cons x bx ih=>cases i<;>simp[zsc,setBox,ih]
theorem zgc(bx:List Box)(i:Nat)(cs:List XV):blks (setBox bx i cs)=blks bx:=by
 induction bx generalizing i with
 |nil=>rfl
 |cons x bx ih=>
  cases i with
  |zero=>simp[setBox,blks]
  |succ i=>have:=ih i; simp only[blks]at this; simp[setBox,blks,this]
theorem zsp{bx:List Box}{i:Nat}{cs:List XV}{y:Box}(h:y∈setBox bx i cs):(∃x,bx[i]?=some x∧y={ x with cells:=cs })∨(y∈bx∧∃j,j≠i∧bx[j]?=some y):=by
 induction bx generalizing i with
 |nil=>simp[setBox]at h
 |cons x bx ih=>
  cases i with
  |zero=>
   simp only[setBox,List.mem_cons]at h
   rcases h with rfl|h
   ·exact .inl ⟨x,rfl,rfl⟩
   ·obtain⟨j,hj,he⟩:=List.mem_iff_getElem.1 h
    exact .inr ⟨by simp[h],j+1,by omega,by simp[hj,he]⟩
  |succ i=>
   simp only[setBox,List.mem_cons]at h
   rcases h with rfl|h
   ·exact .inr ⟨by simp,0,by omega,by simp⟩
   ·rcases ih h with ⟨z,h1,h2⟩|⟨h1,j,h2,h3⟩
    ·exact .inl ⟨z,by simpa using h1,h2⟩
    ·exact .inr ⟨by simp[h1],j+1,by omega,by simpa using h3⟩
theorem blk_ne{bx:List Box}(hn:(blks bx).Nodup){i j:Nat}{x y:Box}(hx:bx[i]?=some x)(hy:bx[j]?=some y)(hij:j≠i):y.blk≠x.blk:=by
 intro h
 have h1:(blks bx)[i]?=some x.blk:=by simp[blks,hx]
 have h2:(blks bx)[j]?=some y.blk:=by simp[blks,hy]
 have hi:i<(blks bx).length:=by
  rcases Nat.lt_or_ge i (blks bx).length with h'|h'
  ·exact h'
  ·simp[List.getElem?_eq_none h']at h1
 exact hij ((List.getElem?_inj hi hn).1 (by rw[h1,h2,h])).symm
def notBox:List Box→Nat→Prop
 |[],_=>True
 |x::xs,b=>b≠x.blk∧notBox xs b
theorem zdc{bx:List Box}{b:Nat}:notBox bx b↔b∉blks bx:=by
 induction bx with
 |nil=>simp[notBox,blks]
 |cons x bx ih=>simp only[notBox,blks]at *; simp[ih]
def zez(W:World)(a:Addr):Nat→List Value→Prop
 |_,[]=>True
 |i,c::cs=>W.cell? (a.add i)=some c∧zez W a (i+1) cs
theorem zkn{W:World}{a:Addr}:∀(cs:List Value) (i:Nat),zez W a i cs→∀j v,cs[j]?=some v→W.cell? (a.add (i+j))=some v
 |c::cs,i,h,0,v,hv=>by simp at hv; subst hv; exact h.1
 |c::cs,i,h,j+1,v,hv=>by
  have:=zkn cs (i+1) h.2 j v (by simpa using hv)
  rwa [show i+1+j=i+(j+1) by omega]at this
theorem Sync.cell{bx:List Box}{W w:World}(h:Sync bx W w){a:Addr}{v:Value}(hc:W.cell? a=some v)(hn:a.block∉blks bx):w.cell? a=some v:=by
 rw[←hc]
 exact World.cell?_of_block (h.same _ (World.block_lt_of_cell? W a hc) hn)
theorem Sync.frozen{bx:List Box}{W w:World}(h:Sync bx W w){a:Addr}{v:Value}(hc:W.cell? a=some v)(hn:a.block∉blks bx):w.frozen? a=W.frozen? a:=
 World.frozen?_of_block (h.same _ (World.block_lt_of_cell? W a hc) hn)
theorem Sync.blk_lt{bx:List Box}{W w:World}(h:Sync bx W w){x:Box}(hx:x∈bx):x.blk<w.heap.size:=by
 have:=h.own x hx
 rcases Nat.lt_or_ge x.blk w.heap.size with h'|h'
 ·exact h'
 ·simp[Array.getElem?_eq_none h']at this
def zku(P:Program)(f:FuncId):Prop:=∃fn,P.funcs[f]?=some fn∧(fn.name== "runtime.NumGoroutine")=false∧fn.body.isNone=false
structure CallsX(P:Program)(f:FuncId)(args:Array Value)(w:World)(R:Value→World→Prop):Prop where
 ex:(zku P f∧Calls P f args w fun e w'=>∃v,e=.returned v∧R v w')∨(∃v w',(callFunc f args).run P w=.ok (.value v) w'∧R v w')
theorem CallsX.mono{P:Program}{f:FuncId}{args:Array Value}{w:World}{R R':Value→World→Prop}(h:CallsX P f args w R)(hr:∀v w',R v w'→R' v w'):CallsX P f args w R':=by
 rcases h.ex with ⟨hb,hc⟩|⟨v,w',h1,h2⟩
 ·exact⟨.inl ⟨hb,hc.mono fun _ _ ⟨v,he,hv⟩=>⟨v,he,hr _ _ hv⟩⟩⟩
 ·exact⟨.inr ⟨v,w',h1,hr _ _ h2⟩⟩
theorem zku.run{P:Program}{f:FuncId}(h:zku P f)(args:Array Value)(w:World):(callFunc f args).run P w=.ok (.enter f args) w:=by
 obtain⟨fn,h1,h2,h3⟩:=h
 simp only[callFunc,Sem.run_bind,run_program,Result.andThen_ok,h1,h2,h3,Bool.false_eq_true,if_false,Sem.run_pure]
theorem CallsX.calls{P:Program}{f:FuncId}{args:Array Value}{w:World}{R:Value→World→Prop}(h:CallsX P f args w R)(hb:zku P f):Calls P f args w fun e w'=>∃v,e=.returned v∧R v w':=by
 rcases h.ex with ⟨_,hc⟩|⟨v,w',h1,h2⟩
 ·exact hc
 ·rw[hb.run]at h1; simp at h1
structure RunsX(P:Program)(s:Sem Value)(w:World)(R:Value→World→Prop):Prop where
 ex:∃v w',s.run P w=.ok v w'∧R v w'
theorem RunsX.mono{P:Program}{s:Sem Value}{w:World}{R R':Value→World→Prop}(h:RunsX P s w R)(hr:∀v w',R v w'→R' v w'):RunsX P s w R':=
 ⟨let ⟨v,w',h1,h2⟩:=h.ex; ⟨v,w',h1,hr _ _ h2⟩⟩
structure RunsU(P:Program)(s:Sem Unit)(w:World)(R:World→Prop):Prop where
 ex:∃w',s.run P w=.ok () w'∧R w'
def Kept(bs:List Nat)(w w':World):Prop:=∀b∈bs,w'.heap[b]?=w.heap[b]?
def ownIds:List XV→List Nat
 |[]=>[]
 | .own i _ _::xs=>i::ownIds xs
 |_::xs=>ownIds xs
def memN:Nat→List Nat→Bool
 |_,[]=>false
 |i,j::js=>match Nat.beq i j with|true=>true|false=>memN i js
def keptB(ids:List Nat):Nat→List Box→List Nat
 |_,[]=>[]
 |i,x::xs=>match memN i ids with|true=>keptB ids (i+1) xs|false=>x.blk::keptB ids (i+1) xs
abbrev Ret:=XV→Prop
def lenK:List XV→Nat→Prop→Prop
 |[],0,K=>K
 |_::xs,n+1,K=>lenK xs n K
 |_,_,_=>False
theorem yge{xs:List XV}{n:Nat}{K:Prop}(h:lenK xs n K):xs.length=n∧K:=by
 induction xs generalizing n with
 |nil=>cases n<;>simp_all [lenK]
 |cons x xs ih=>cases n with
  |zero=>simp[lenK]at h
  |succ n=>have:=ih (n:=n) h; simp[this]
def fldK:List (Nat×Nat×Nat)→Nat→(Nat→Nat→Nat→Prop)→Prop
 |[],_,_=>False
 |(off,ty,sz)::_,0,K=>match sz with|0=>False|n+1=>K off ty (n+1)
 |_::fs,i+1,K=>fldK fs i K
theorem zyd{fs:List (Nat×Nat×Nat)}{i:Nat}{K:Nat→Nat→Nat→Prop}(h:fldK fs i K):∃off ty sz,fs[i]?=some (off,ty,sz)∧sz≠0∧K off ty sz:=by
 induction fs generalizing i with
 |nil=>exact h.elim
 |cons f fs ih=>
  cases i with
  |zero=>
   obtain⟨off,ty,sz⟩:=f
   simp only[fldK]at h
   split at h
   ·exact h.elim
   ·exact⟨_,_,_,rfl,by omega,h⟩
  |succ i=>simpa using ih h
def boundK(o:Option XV)(dflt bound:Nat)(K:Nat→Prop):Prop:=
 match o with
 |none=>K dflt
 |some (.int _ i)=>0≤i∧i≤bound∧K i.toNat
 |_=>False
def opO(ts:List XV)(o:Option Operand)(K:Option XV→Prop):Prop:=
 match o with
 |none=>K none
 |some o=>opK ts o fun x=>K (some x)
def partsK(ts:List XV):List (Nat×Operand)→(List (Nat×XV)→Prop)→Prop
 |[],K=>K []
 |(i,o)::ps,K=>opK ts o fun x=>partsK ts ps fun xs=>K ((i,x)::xs)
def fillK(fs:List (Nat×Nat×Nat)):List XV→List (Nat×XV)→(List XV→Prop)→Prop
 |cells,[],K=>K cells
 |cells,(i,x)::ps,K=>fldK fs i fun off _ sz=>cellsK x fun cs=>lenK cs sz (subK cells off sz fun _=>wrK cells off cs fun cells=>fillK fs cells ps K)
def posK:List (Nat×Nat×Nat)→Prop→Prop
 |[],K=>K
 |(_,_,sz)::fs,K=>match sz with|0=>False|_+1=>posK fs K
theorem posK_spec{fs:List (Nat×Nat×Nat)}{K:Prop}(h:posK fs K):K∧∀f∈fs,f.2.2≠0:=by
 induction fs with
 |nil=>exact⟨h,by simp⟩
 |cons f fs ih=>
  obtain⟨x,y,sz⟩:=f
  simp only[posK]at h
  split at h
  ·exact h.elim
  ·have:=ih h; exact⟨this.1,by
    intro g hg
    rcases List.mem_cons.1 hg with rfl|hg
    ·simp
    ·exact this.2 g hg⟩
def denP:List (Nat×XV)→List (Nat×Value)
 |[]=>[]
 |(i,x)::ps=>(i,x.den)::denP ps
def appK:List Box→Box→(List Box→Prop)→Prop
 |[],b,K=>K [b]
 |x::xs,b,K=>appK xs b fun l=>K (x::l)
theorem yma(bx:List Box)(b:Box)(K:List Box→Prop):appK bx b K↔K (bx++[b]):=by
 induction bx generalizing K with
 |nil=>simp[appK]
 |cons x bx ih=>simp[appK,ih]
def newBox(o:Oper)(ty:TypeId)(cells:List XV)(ts:List XV)(bx:List Box)(W:World)(K:KT):Prop:=
 ∀b:Nat,W.heap.size≤b∧notBox bx b→appK bx ⟨b,ty,cells⟩ fun bx'=>retX o.dst (.own bx.length b 0) ts bx' W K
def runX(P:Program)(s:Sem Value)(o:Oper)(ts:List XV)(bx:List Box)(W:World)(K:KT):Prop:=
 ∀w,Sync bx W w→RunsX P s w fun v w'=>Kept (blks bx) w w'∧retX o.dst (inject v) ts bx w' K
def runU(P:Program)(s:Sem Unit)(o:Oper)(ts:List XV)(bx:List Box)(W:World)(K:KT):Prop:=
 ∀w,Sync bx W w→RunsU P s w fun w'=>Kept (blks bx) w w'∧retX o.dst .und ts bx w' K
def aftK(dst:Option Tmp)(ts:List XV)(bx:List Box)(K:KT)(v:Value)(w':World):Prop:=
 ∃(r:XV) (bx':List Box) (W':World),v=r.den∧r.wf (blks bx')∧(∃l,blks bx'=blks bx++l)∧(blks bx').Nodup∧(∀x∈bx',wfL (blks bx') x.cells)∧Sync bx' W' w'∧retX dst r ts bx' W' K
def callK(P:Program)(f:FuncId)(xs:List XV)(o:Oper)(ts:List XV)(bx:List Box)(W:World)(K:KT):Prop:=
 ∀w,Sync bx W w→CallsX P f (denL xs).toArray w (aftK o.dst ts bx K)
def appL:List XV→List XV→(List XV→Prop)→Prop
 |[],ys,K=>K ys
 |x::xs,ys,K=>appL xs ys fun l=>K (x::l)
theorem ylz(xs ys:List XV)(K:List XV→Prop):appL xs ys K↔K (xs++ys):=by
 induction xs generalizing K with
 |nil=>simp[appL]
 |cons x xs ih=>simp[appL,ih]
def argTy(T:List TI)(ats:Array TypeId)(K:TI→Prop):Prop:=
 match ats.toList with
 |[t]=>tiK T t K
 |_=>False
def zvt(T:List TI)(b:Builtin)(ats:Array TypeId)(xs:List XV)(ret:Ret):Prop:=
 match b,xs with
 | .len,[.slc _ n _]=>argTy T ats fun ti=>match ti.td with | .slice _=>ret (.int .i64 n)|_=>False
 | .len,[.str s]=>argTy T ats fun ti=>match ti.td with | .string=>ret (.int .i64 s.size)|_=>False
 | .cap,[.slc _ _ n]=>argTy T ats fun ti=>match ti.td with | .slice _=>ret (.int .i64 n)|_=>False
 | .max,[.int k x,.int _ y]=>ret (.int k (if y>x then y else x))
 | .min,[.int k x,.int _ y]=>ret (.int k (if y<x then y else x))
 |_,_=>False
def pickK(g:Bool)(a b:XV)(ret:Ret):Prop:=
 match a,b with
 | .lit true,.bool y=>ret (.bool (g||y))
 | .bool x,.lit false=>ret (.bool (g&&x))
 | .lit true,.lit y=>ret (.bool (g||y))
 | .lit false,.lit y=>ret (.bool (!g&&y))
 | .bool x,.lit y=>ret (.bool (bif g then x else y))
 | .lit x,.bool y=>ret (.bool (bif g then x else y))
 | .bool x,.bool y=>ret (.bool (bif g then x else y))
 |_,_=>False
def pureK(T:List TI)(op:Op)(ts:List XV)(ret:Ret):Prop:=
 match op with
 | .move x=>opK ts x fun x=>ret x
 | .assign x=>opK ts x fun x=>ret x
 | .pick c a b=>opK ts c fun c=>match c with
  | .lit true=>opK ts a fun x=>ret x
  | .lit false=>opK ts b fun x=>ret x
  | .bool g=>opK ts a fun a=>opK ts b fun b=>pickK g a b fun x=>ret x
  |_=>False
 | .nilCheck x=>opK ts x fun x=>match x with
  | .ptr a=>ret (.ptr a)
  | .own i b f=>ret (.own i b f)
  | .fn f cs=>ret (.fn f cs)
  | .v y=>∃a,y=.pointer (some a)∧ret (.ptr a)
  |_=>False
 | .binOp op t x y _=>opK ts x fun a=>opK ts y fun b=>binX T op t a b fun x=>ret x
 | .unOp op _ x=>opK ts x fun a=>match op,a with
  | .not,.bool b=>ret (.bool (!b))
  | .not,.lit b=>ret (.lit (!b))
  | .neg,.int k n=>ret (.int k (k.wrap (0 - n)))
  | .xor,.int k n=>ret (.int k (bits .xor k (if k.signed then -1 else k.max) n))
  |_,_=>False
 | .convert src dst x=>opK ts x fun a=>tiK T src fun _=>tiK T dst fun td=>match td.td,a with
  | .int k,.int _ n=>ret (.int k (k.wrap n))
  | .string,.str s=>ret (.str s)
  |_,_=>False
 | .fieldAddr s x f=>opK ts x fun a=>tiK T s fun ti=>match ti.td with
  | .struct fs=>fldK fs f fun off _ _=>match a with
   | .own i b o'=>ret (.own i b (o'+off))
   | .ptr ad=>ret (.ptr (ad.add off))
   |_=>False
  |_=>False
 | .field s x f=>opK ts x fun a=>tiK T s fun ti=>match ti.td,a with
  | .struct fs,.agg xs=>fldK fs f fun off ty sz=>tiK T ty fun tf=>match tf.agg with
   |true=>subK xs off sz fun l=>ret (.agg l)
   |false=>subK xs off 1 fun l=>match l with|[x]=>ret x|_=>False
  |_,_=>False
 | .indexAddr t x ix=>opK ts x fun a=>opK ts ix fun i=>tiK T t fun ti=>match ti.td,a,i with
  | .slice e,.slc a len _,.int _ i=>tiK T e fun te=>∃ad,a=some ad∧0≤i∧i<len∧ret (.ptr (ad.add (i.toNat*te.size)))
  |_,_,_=>False
 | .extract t i=>opK ts t fun a=>match a with
  | .tup xs=>subK xs i 1 fun l=>match l with|[x]=>ret x|_=>False
  |_=>False
 | .slice t x lo hi mx=>opK ts x fun a=>opO ts lo fun lo=>opO ts hi fun hi=>opO ts mx fun mx=>tiK T t fun ti=>match ti.td,a with
  | .slice e,.slc a len cap=>tiK T e fun te=>match lo,hi,mx with
   |none,hi,none=>boundK hi len cap fun h=>ret (.slc a h cap)
   |some lo,hi,none=>boundK hi len cap fun h=>boundK (some lo) 0 h fun l=>ret (.slc (if cap=l then a else a.map (·.add (l*te.size))) (h - l) (cap - l))
   |none,some hi,some mx=>boundK (some mx) cap cap fun m=>boundK (some hi) len m fun h=>ret (.slc a h m)
   |some lo,some hi,some mx=>boundK (some mx) cap cap fun m=>boundK (some hi) len m fun h=>boundK (some lo) 0 h fun l=>ret (.slc (if m=l then a else a.map (·.add (l*te.size))) (h - l) (m - l))
   |_,_,_=>False
  | .string,.str s=>match mx with
   |none=>boundK hi s.size s.size fun h=>boundK lo 0 h fun l=>ret (.str (s.extract l h))
   |_=>False
  |_,_=>False
 | .build t parts=>partsK ts parts.toList fun ps=>tiK T t fun ti=>match ti.td,ti.zero with
  | .struct fs,z::zs=>posK fs (fillK fs (constL (z::zs)) ps fun cells=>ret (.agg cells))
  |_,_=>False
 | .makeFunc fn first caps=>match fn,first.toList with
  | .func f,[]=>opsK ts caps.toList fun cs=>ret (.fn f cs)
  |_,_=>False
 | .call c=>match c.callee with
  | .builtin b=>opsK ts c.args.toList fun xs=>zvt T b c.argTypes xs ret
  |_=>False
 |_=>False
def loadX(T:List TI)(t:TypeId)(A:XV)(bx:List Box)(W:World)(ret:Ret):Prop:=
 tiK T t fun ti=>match A with
  | .own i _ off=>boxK bx i fun x=>match ti.agg with
   |true=>subK x.cells off ti.size fun l=>ret (.agg l)
   |false=>subK x.cells off 1 fun l=>match l with|[x]=>ret x|_=>False
  | .ptr ad=>match ti.agg with
   |true=>∃cs:List Value,cs.length=ti.size∧cs≠[]∧zez W ad 0 cs∧notBox bx ad.block∧ret (.agg (injL cs))
   |false=>∃c:Value,W.cell? ad=some c∧notBox bx ad.block∧ret (inj0 c)
  |_=>False
def vcOp(P:Program)(T:List TI)(o:Oper)(ts:List XV)(bx:List Box)(W:World)(K:KT):Prop:=
 match o.op with
 | .convert src dst x=>opK ts x fun a=>tiK T src fun _=>tiK T dst fun td=>match td.td,a with
  | .int k,.int _ n=>retX o.dst (.int k (k.wrap n)) ts bx W K
  | .string,.str s=>retX o.dst (.str s) ts bx W K
  |_,a=>runX P (convert src dst a.den) o ts bx W K
 | .alloc t=>tiK T t fun ti=>match ti.zero with
  |z::zs=>newBox o t (constL (z::zs)) ts bx W K
  |[]=>False
 | .box t x=>opK ts x fun a=>cellsK a fun cs=>newBox o t cs ts bx W K
 | .load t a=>opK ts a fun A=>loadX T t A bx W fun x=>retX o.dst x ts bx W K
 | .store t a x=>opK ts a fun a=>opK ts x fun x=>tiK T t fun ti=>cellsK x fun cs=>lenK cs ti.size (oneK cs (match a with
  | .own i b off=>boxK bx i fun y=>subK y.cells off ti.size fun _=>wrK y.cells off cs fun cells=>zsc bx i cells fun bx'=>retX o.dst .und ts bx' W K
  | .ptr ad=>(∀j,j<cs.length→(W.cell? (ad.add j)).isSome=true∧W.frozen? (ad.add j)=false)∧notBox bx ad.block∧retX o.dst .und ts bx (setCells W ad 0 (denL cs)) K
  |_=>False))
 | .call c=>match c.callee with
  | .value f=>opK ts f fun f=>opsK ts c.args.toList fun xs=>match f with
   | .fn g caps=>appL xs caps fun xs=>callK P g xs o ts bx W K
   | .v y=>∃g caps,y=.func (.func g) #[] caps∧callK P g (xs++injL caps.toList) o ts bx W K
   |_=>False
  | .builtin b=>match b with
   | .append=>opsK ts c.args.toList fun xs=>runX P (Builtin.append_ c.argTypes o.type (denL xs).toArray) o ts bx W K
   | .clear=>opsK ts c.args.toList fun xs=>runX P (Builtin.clear_ c.argTypes o.type (denL xs).toArray) o ts bx W K
   | .copy=>opsK ts c.args.toList fun xs=>runX P (Builtin.copy_ c.argTypes o.type (denL xs).toArray) o ts bx W K
   |b=>opsK ts c.args.toList fun xs=>zvt T b c.argTypes xs fun x=>retX o.dst x ts bx W K
  |_=>False
 | .buildSlice t len parts=>partsK ts parts.toList fun ps=>runX P (Instr.buildSlice t len (denP ps).toArray) o ts bx W K
 | .makeSlice t l c=>opK ts l fun l=>opK ts c fun c=>runX P (Instr.makeSlice t l.den c.den) o ts bx W K
 | .index t x ix=>opK ts x fun x=>opK ts ix fun ix=>runX P (Instr.index t x.den ix.den) o ts bx W K
 | .makeMap t r=>opO ts r fun r=>runX P (Instr.makeMap t (r.map XV.den)) o ts bx W K
 | .lookup t x ix ok=>opK ts x fun x=>opK ts ix fun ix=>runX P (Instr.lookup t x.den ix.den ok) o ts bx W K
 | .mapUpdate t m k x=>opK ts m fun m=>opK ts k fun k=>opK ts x fun x=>runU P (Instr.mapUpdate t m.den k.den x.den) o ts bx W K
 | .makeInterface t x=>opK ts x fun x=>runX P (Instr.makeInterface t x.den) o ts bx W K
 | .range t x=>opK ts x fun x=>runX P (Instr.range t x.den) o ts bx W K
 | .next it s=>opK ts it fun it=>runX P (Instr.next it.den s o.type) o ts bx W K
 | .entry it=>opK ts it fun it=>runX P (Instr.entry it.den) o ts bx W K
 |op=>pureK T op ts fun x=>retX o.dst x ts bx W K
end Go.Vc
namespace Go.Vc
open Go
section
variable {P:Program} {T:List TI} {o:Oper} {ts:List XV} {bx:List Box} {a:Act} {w W:World} {K:KT} {Q:Exit→Act→World→Prop}
theorem ret_wp{x:XV}(hrun:(execOp a.eval o).run P w=.ok (.value x.den) w)(h:retX o.dst x ts bx W K)(inv:Inv ts bx a w W)(hw:x.wf (blks bx)):o.wp P a w (Post K) Q:=
 zig hrun (zfi h inv hw)
theorem Inv.base(inv:Inv ts bx a w W):Inv ts bx a w w:=
 ⟨inv.defers,inv.frame,inv.wf,inv.nodup,⟨rfl,rfl,rfl,Nat.le_refl _,fun _ _ _=>rfl,inv.sync.own⟩⟩
theorem Inv.kept{w':World}(inv:Inv ts bx a w W)(hk:Kept (blks bx) w w'):Inv ts bx a w' w':=
 ⟨inv.defers,inv.frame,inv.wf,inv.nodup,⟨rfl,rfl,rfl,Nat.le_refl _,fun _ _ _=>rfl,fun x hx=>by
  rw[hk x.blk (List.mem_map.2 ⟨x,hx,rfl⟩)]; exact inv.sync.own x hx⟩⟩
theorem zev{s:Sem Value}(hrun:(execOp a.eval o).run P w=(s.run P w).andThen fun v w'=>.ok (.value v) w')(h:runX P s o ts bx W K)(inv:Inv ts bx a w W):o.wp P a w (Post K) Q:=by
 obtain⟨v,w',h1,hk,h2⟩:=(h w inv.sync).ex
 rw[h1]at hrun
 refine zig hrun ?_
 have:=zfi h2 (inv.kept hk) (zpi _ v)
 rwa [zns]at this
theorem runU_wp{s:Sem Unit}(hrun:(execOp a.eval o).run P w=(s.run P w).andThen fun _ w'=>.ok .skip w')(h:runU P s o ts bx W K)(inv:Inv ts bx a w W):o.wp P a w (Post K) Q:=by
 obtain⟨w',h1,hk,h2⟩:=(h w inv.sync).ex
 rw[h1]at hrun
 exact zrv hrun (zfi h2 (inv.kept hk) (x:=.und) (by simp[XV.wf]))
theorem yfx{ty:TypeId}{cells:List XV}(hrun:(execOp a.eval o).run P w=.ok (.value (.pointer (some ⟨w.heap.size,0,none⟩))) (w.alloc (.cells (denL cells).toArray ty)))
  (h:newBox o ty cells ts bx W K) (inv:Inv ts bx a w W) (hw:wfL (blks bx) cells):o.wp P a w (Post K) Q:=by
 refine zig hrun ?_
 have hnew:w.heap.size∉blks bx:=by
  intro hm
  simp only[blks,List.mem_map]at hm
  obtain⟨x,hx,he⟩:=hm
  have:=inv.sync.blk_lt hx
  omega
 have h1:=h w.heap.size ⟨inv.sync.size,zdc.2 hnew⟩
 rw[yma]at h1
 have hb:blks (bx++[⟨w.heap.size,ty,cells⟩])=blks bx++[w.heap.size]:=by simp[blks]
 have inv':Inv ts (bx++[⟨w.heap.size,ty,cells⟩]) a (w.alloc (.cells (denL cells).toArray ty)) W:=by
  refine⟨inv.defers,by rw[hb]; exact inv.frame.mono _,?_,?_,?_⟩
  ·intro x hx
   rw[hb]
   rcases List.mem_append.1 hx with hx|hx
   ·exact zih _ _ _ (inv.wf x hx)
   ·simp only[List.mem_singleton]at hx; subst hx; exact zih _ _ _ hw
  ·rw[hb,List.nodup_append]
   refine⟨inv.nodup,by simp,?_⟩
   intro x hx y hy hxy
   simp only[List.mem_singleton]at hy
   subst hy; subst hxy
   exact hnew hx
  ·refine⟨inv.sync.os,inv.sync.tape,inv.sync.output,by have:=inv.sync.size; simp; omega,?_,?_⟩
   ·intro b hb1 hb2
    rw[hb]at hb2
    simp only[List.mem_append,List.mem_singleton,not_or]at hb2
    rw[RowKit.Below.heap_alloc _ _ _ (by have:=inv.sync.size; omega)]
    exact inv.sync.same b hb1 hb2.1
   ·intro x hx
    rcases List.mem_append.1 hx with hx|hx
    ·rw[RowKit.Below.heap_alloc _ _ _ (inv.sync.blk_lt hx)]; exact inv.sync.own x hx
    ·simp only[List.mem_singleton]at hx; subst hx
     show (w.heap.push _)[w.heap.size]?=_
     simp
 have:=zfi h1 inv' (x:=.own bx.length w.heap.size 0) (by simp[XV.wf,hb,blks])
 exact this
theorem getElem?_setBox(bx:List Box)(i:Nat)(cs:List XV)(j:Nat):(setBox bx i cs)[j]?=if j=i then (bx[i]?).map (fun x=>{ x with cells:=cs }) else bx[j]?:=by
 induction bx generalizing i j with
 |nil=>simp[setBox]
 |cons x bx ih=>
  cases i with
  |zero=>cases j<;>simp[setBox]
  |succ i=>
   cases j with
   |zero=>simp[setBox]
   |succ j=>simp[setBox,ih]
theorem ylf(i:Nat)(ids:List Nat):memN i ids=true↔i∈ids:=by
 induction ids with
 |nil=>simp[memN]
 |cons j js ih=>
  unfold memN
  split
  ·rename_i h; simp[Nat.eq_of_beq_eq_true h]
  ·rename_i h; simp[ih,Nat.ne_of_beq_eq_false h]
theorem mem_keptB{ids:List Nat}{y:Box}:∀(bx:List Box) (i j:Nat),bx[j]?=some y→i+j∉ids→y.blk∈keptB ids i bx:=by
 intro bx
 induction bx with
 |nil=>intro i j h; simp at h
 |cons x bx ih=>
  intro i j h hn
  unfold keptB
  cases j with
  |zero=>
   simp at h; subst h
   split
   ·rename_i hm; exact absurd ((ylf _ _).1 hm) (by simpa using hn)
   ·simp
  |succ j=>
   have:=ih (i+1) j (by simpa using h) (by rwa [show i+1+j=i+(j+1) by omega])
   split
   ·exact this
   ·exact List.mem_cons_of_mem _ this
theorem yly{f:FuncId}{xs:List XV}(hrun:(execOp a.eval o).run P w=(callFunc f (denL xs).toArray).run P w)(h:callK P f xs o ts bx W K)(inv:Inv ts bx a w W):o.wp P a w (Post K) Q:=by
 have hc:=h w inv.sync
 have fin:∀v w',aftK o.dst ts bx K v w'→Post K (a.put o.dst v) w':=by
  rintro v w' ⟨r,bx',W',rfl,hr,⟨l,hl⟩,hnd,hwf,hs,h⟩
  exact zfi h ⟨inv.defers,by rw[hl]; exact Rel.more l inv.frame,hwf,hnd,hs⟩ hr
 rcases hc.ex with ⟨hb,hc⟩|⟨v,w',h1,h2⟩
 ·rw[hb.run]at hrun
  simp only[Oper.wp,hrun,Oper.upon]
  refine hc.mono fun e w' ⟨v,he,hh⟩=>?_
  subst he
  exact fin v w' hh
 ·rw[h1]at hrun
  exact zig hrun (fin v w' h2)
end
end Go.Vc

namespace Go.Vc
open Go
section
variable {P:Program} {T:List TI} {o:Oper} {ts:List XV} {bx:List Box} {a:Act} {w W:World} {K:KT} {Q:Exit→Act→World→Prop}
theorem part1{xs:List XV}{i:Nat}{x:XV}(h:[x]=(xs.drop i).take 1):xs[i]?=some x:=by
 have:=congrArg (fun l:List XV=>l[0]?) h
 simpa[List.getElem?_take,List.getElem?_drop]using this.symm
theorem ybq{t:TypeId}{ti:TI}(hf:TFacts P t ti):∃i,P.info? t=some i∧ti.size=i.size∧ti.zero=(match i.zero with|some z=>z.cells.toList|none=>[]):=by
 obtain⟨d,i,hd,hi,h1,h2,h3,h4,h5,h6⟩:=hf.ex
 exact⟨i,hi,h2,h5⟩
theorem td_agg{t:TypeId}{ti:TI}(hf:TFacts P t ti)(w:World):(isAgg t).run P w=.ok ti.agg w:=by
 obtain⟨d,i,hd,hi,h1,h2,h3,h4,h5,h6⟩:=hf.ex
 rw[zhj hd,h4]
theorem zfx{t:TypeId}{ti:TI}(hf:TFacts P t ti)(w:World):(sizeOf t).run P w=.ok ti.size w:=by
 obtain⟨i,hi,h2,_⟩:=ybq hf
 rw[zeu hi,h2]
theorem zts{t:TypeId}{ti:TI}(hf:TFacts P t ti){b off:Nat}{xs:List Value}{ty:TypeId}{w:World}(hb:w.heap[b]?=some (.cells xs.toArray ty (0,0))):
  (ti.agg=true→off+ti.size≤xs.length→(Instr.loadAt t (.pointer (some ⟨b,off,none⟩))).run P w=.ok (.agg ((xs.drop off).take ti.size).toArray) w)∧
  (ti.agg=false→∀v,xs[off]?=some v→(Instr.loadAt t (.pointer (some ⟨b,off,none⟩))).run P w=.ok v w):=by
 constructor
 ·intro hg hsz
  have hlen:((xs.drop off).take ti.size).length=ti.size:=by simp; omega
  have:=run_loadCells_list (P:=P) w ⟨b,off,none⟩ ((xs.drop off).take ti.size) (fun j v hv=>by
   rw[zma,zko hb]
   rw[List.getElem?_take]at hv
   split at hv
   ·simpa[List.getElem?_drop]using hv
   ·cases hv)
  rw[hlen]at this
  simp[Instr.loadAt,Instr.sureAddr,loadVar,Sem.run_bind,td_agg hf,hg,zfx hf,this]
 ·intro hg v hv
  have:w.cell? ⟨b,off,none⟩=some v:=by rw[zko hb,hv]
  simp[Instr.loadAt,Instr.sureAddr,loadVar,Sem.run_bind,td_agg hf,hg,run_load,this]
theorem ylg{t:TypeId}{x:Operand}(ho:o.op=.load t x):(execOp a.eval o).run P w=((Instr.loadAt t (a.eval x)).run P w).andThen fun v w'=>.ok (.value v) w':=by
 simp only[execOp,ho,Sem.run_bind,Sem.run_pure]
def zlk:XV→Nat
 | .own _ b _=>b
 | .ptr ad=>ad.block
 |_=>0
theorem zss{t:TypeId}{A:XV}{ret:XV→Prop}(hT:zba P T)(h:loadX T t A bx W ret)(inv:Inv ts bx a w W)(hA:A.wf (blks bx)):
  ∃r:XV,ret r∧r.wf (blks bx)∧((∃i b off,A=.own i b off)∨(∃ad,A=.ptr ad∧ad.block∉blks bx∧ad.block<W.heap.size))∧
   ∀w':World,w'.heap[zlk A]?=w.heap[zlk A]?→(Instr.loadAt t A.den).run P w'=.ok r.den w':=by
 unfold loadX at h
 replace h:=zae hT h
 obtain⟨ti,hf,h⟩:=h
 split at h
 ·rename_i i b off
  replace h:=zrl h
  obtain⟨z,hz,h⟩:=h
  have hzb:z.blk=b:=by
   simp only[XV.wf,blks,List.getElem?_map,hz,Option.map_some,Option.some.injEq]at hA
   exact hA
  have hown:=inv.sync.own z (List.mem_of_getElem? hz)
  rw[hzb]at hown
  have hwz:=inv.wf z (List.mem_of_getElem? hz)
  split at h
  ·rename_i hg
   replace h:=zfy _ _ _ _ h
   obtain⟨h1,h2⟩:=h
   refine⟨_,h1,by simpa[XV.wf]using wfL_sub hwz off ti.size,.inl ⟨_,_,_,rfl⟩,fun w' hw'=>?_⟩
   simp only[zlk]at hw'
   rw[hown]at hw'
   have hl:=(zts (P:=P) (off:=off) hf hw').1 hg (by rw[zcf]; exact h2)
   simpa[XV.den,ylw]using hl
  ·rename_i hg
   replace h:=zfy _ _ _ _ h
   obtain⟨h1,h2⟩:=h
   split at h1
   ·rename_i v hv
    have hv':z.cells[off]?=some v:=part1 (by rw[hv])
    refine⟨_,h1,(zky _ _).1 hwz v (List.mem_of_getElem? hv'),.inl ⟨_,_,_,rfl⟩,fun w' hw'=>?_⟩
    simp only[zlk]at hw'
    rw[hown]at hw'
    exact(zts (P:=P) (off:=off) hf hw').2 hg v.den (by rw[zgu]; simp[hv'])
   ·exact h1.elim
 ·rename_i ad
  split at h
  ·rename_i hg
   obtain⟨cs,h1,h0,h2,h3,h4⟩:=h
   rw[zdc]at h3
   have hlt:ad.block<W.heap.size:=by
    cases cs with
    |nil=>exact absurd rfl h0
    |cons c cs=>have:=World.block_lt_of_cell? W (ad.add 0) h2.1; rwa [zbq]at this
   refine⟨_,h4,by simpa[XV.wf]using ybi _ cs,.inr ⟨ad,rfl,h3,hlt⟩,fun w' hw'=>?_⟩
   simp only[zlk]at hw'
   have hc:∀j v,cs[j]?=some v→w'.cell? (ad.add j)=some v:=fun j v hv=>by
    have h5:=inv.sync.cell (by have:=zkn cs 0 h2 j v hv; rwa [Nat.zero_add]at this) (by rw[zbq]; exact h3)
    rw[←h5]
    exact World.cell?_of_block (by rw[zbq]; exact hw')
   have:=run_loadCells_list (P:=P) w' ad cs hc
   rw[h1]at this
   simp[XV.den,Instr.loadAt,Instr.sureAddr,loadVar,Sem.run_bind,td_agg hf,hg,zfx hf,this,zhy]
  ·rename_i hg
   obtain⟨c,h1,h2,h3⟩:=h
   rw[zdc]at h2
   refine⟨_,h3,zkx _ c,.inr ⟨ad,rfl,h2,World.block_lt_of_cell? W ad h1⟩,fun w' hw'=>?_⟩
   simp only[zlk]at hw'
   have h5:w'.cell? ad=some c:=by
    rw[←inv.sync.cell h1 h2]
    exact World.cell?_of_block hw'
   simp[XV.den,Instr.loadAt,Instr.sureAddr,loadVar,Sem.run_bind,td_agg hf,hg,run_load,h5,zrh]
 ·exact h.elim
theorem store_run{t:TypeId}{x y:Operand}(ho:o.op=.store t x y):(execOp a.eval o).run P w=((Instr.storeAt t (a.eval x) (a.eval y)).run P w).andThen fun _ w'=>.ok .skip w':=by
 simp only[execOp,ho,Sem.run_bind,Sem.run_pure]
theorem vc_store{t:TypeId}{x y:Operand}(hT:zba P T)(ho:o.op=.store t x y)(h:vcOp P T o ts bx W K)(inv:Inv ts bx a w W):o.wp P a w (Post K) Q:=by
 unfold vcOp at h
 simp only[ho]at h
 replace h:=zap h inv.frame
 obtain⟨p,h,hpw,hp⟩:=h
 replace h:=zap h inv.frame
 obtain⟨v,h,hvw,hv⟩:=h
 replace h:=zae hT h
 obtain⟨ti,hf,h⟩:=h
 replace h:=zkl h hvw
 obtain⟨cs,h,hcw,hcs⟩:=h
 replace h:=yge h
 obtain⟨hlen,h⟩:=h
 replace h:=oneK_spec h
 obtain⟨h,hone⟩:=h
 have hr:=store_run (P:=P) (w:=w) (a:=a) ho
 rw[hp,hv]at hr
 have hsz:v.den.cells.size=ti.size:=by rw[←Array.length_toList,hcs,zcf,hlen]
 split at h
 ·rename_i i b off
  replace h:=zrl h
  obtain⟨z,hz,h⟩:=h
  replace h:=zfy _ _ _ _ h
  obtain⟨h,hle⟩:=h
  rw[ybe,zil]at h
  have hzb:z.blk=b:=by
   simp only[XV.wf,blks,List.getElem?_map,hz,Option.map_some,Option.some.injEq]at hpw
   exact hpw
  have hzm:=List.mem_of_getElem? hz
  have hown:=inv.sync.own z hzm
  rw[hzb]at hown
  have hwz:=inv.wf z hzm
  have hst:=zhc (P:=P) ⟨b,off,none⟩ (denL cs) 0 w hone (fun j hj=>by
   rw[Nat.zero_add,zma,zko hown,zyc hown]
   refine⟨?_,rfl⟩
   rw[zcf]at hj
   have:off+j<(denL z.cells).length:=by rw[zcf]; omega
   simp[this])
  refine zrv (w':=setCells w ⟨b,off,none⟩ 0 (denL cs)) ?_ ?_
  ·rw[hr]
   simp only[XV.den,Instr.storeAt,Instr.sureAddr,storeVar,Sem.run_bind,Sem.run_pure,Result.andThen_ok,zfx hf,hsz,ne_eq,not_true_eq_false,if_false,hcs,hst]
  ·have hb:blks (setBox bx i (wr z.cells off cs))=blks bx:=zgc _ _ _
   have inv':Inv ts (setBox bx i (wr z.cells off cs)) a (setCells w ⟨b,off,none⟩ 0 (denL cs)) W:=by
    have hrest:=zen ⟨b,off,none⟩ (denL cs) 0 w
    refine⟨inv.defers,by rw[hb]; exact inv.frame,?_,by rw[hb]; exact inv.nodup,⟨by rw[hrest.1]; exact inv.sync.os,by rw[hrest.2.1]; exact inv.sync.tape,by rw[hrest.2.2.1]; exact inv.sync.output,by rw[hrest.2.2.2.1]; exact inv.sync.size,?_,?_⟩⟩
    ·intro u hu
     rw[hb]
     rcases zsp hu with ⟨u',hu',rfl⟩|⟨hu',_⟩
     ·exact wfL_wr off hwz hcw
     ·exact inv.wf u hu'
    ·intro c hc hcn
     rw[hb]at hcn
     rw[zef _ _ (by intro he; exact hcn (by rw[he,←hzb]; exact List.mem_map.2 ⟨z,hzm,rfl⟩))]
     exact inv.sync.same c hc hcn
    ·intro u hu
     rcases zsp hu with ⟨u',hu',rfl⟩|⟨hu',j,hj,hju⟩
     ·rw[hz]at hu'
      injection hu' with hu'
      subst hu'
      have:=zom b off (denL cs) 0 w _ hown
      rw[Nat.add_zero]at this
      simp only[hzb,denL_wr]
      exact this
     ·have hne:=blk_ne inv.nodup hz hju hj
      rw[zef _ _ (by rw[←hzb]; exact hne)]
      exact inv.sync.own u hu'
   exact zfi h inv' (x:=.und) (by simp[XV.wf])
 ·rename_i ad
  obtain⟨h1,h2,h3⟩:=h
  rw[zdc]at h2
  have hst:=zhc (P:=P) ad (denL cs) 0 w hone (fun j hj=>by
   rw[zcf]at hj
   obtain⟨h4,h5⟩:=h1 j hj
   obtain⟨u,hu⟩:=Option.isSome_iff_exists.1 h4
   rw[Nat.zero_add]
   have hnb:(ad.add j).block∉blks bx:=by rw[zbq]; exact h2
   exact⟨by rw[inv.sync.cell hu hnb]; rfl,by rw[inv.sync.frozen hu hnb]; exact h5⟩)
  refine zrv (w':=setCells w ad 0 (denL cs)) ?_ ?_
  ·rw[hr]
   simp only[XV.den,Instr.storeAt,Instr.sureAddr,storeVar,Sem.run_bind,Sem.run_pure,Result.andThen_ok,zfx hf,hsz,ne_eq,not_true_eq_false,if_false,hcs,hst]
  ·have hrest:=zen ad (denL cs) 0 w
   have hrestW:=zen ad (denL cs) 0 W
   have inv':Inv ts bx a (setCells w ad 0 (denL cs)) (setCells W ad 0 (denL cs)):=by
    refine⟨inv.defers,inv.frame,inv.wf,inv.nodup,⟨by rw[hrest.1,hrestW.1]; exact inv.sync.os,by rw[hrest.2.1,hrestW.2.1]; exact inv.sync.tape,by rw[hrest.2.2.1,hrestW.2.2.1]; exact inv.sync.output,by rw[hrest.2.2.2.1,hrestW.2.2.2.1]; exact inv.sync.size,?_,?_⟩⟩
    ·intro c hc hcn
     rw[hrestW.2.2.2.1]at hc
     by_cases hca:c=ad.block
     ·subst hca
      have hsame:=inv.sync.same _ hc hcn
      have:∀(vs:List Value) (i:Nat) (w1 w2:World),w1.heap[ad.block]?=w2.heap[ad.block]?→(setCells w1 ad i vs).heap[ad.block]?=(setCells w2 ad i vs).heap[ad.block]?:=by
       intro vs
       induction vs with
       |nil=>intro i w1 w2 h; exact h
       |cons v vs ih=>
        intro i w1 w2 h
        simp only[setCells]
        refine ih _ _ _ ?_
        simp only[World.setCell,zbq,Array.getElem?_modify,if_true]
        rw[h]
      exact this _ _ _ _ hsame
     ·rw[zef _ _ hca,zef _ _ hca]
      exact inv.sync.same c hc hcn
    ·intro u hu
     rw[zef _ _ (by intro he; exact h2 (by rw[←he]; exact List.mem_map.2 ⟨u,hu,rfl⟩))]
     exact inv.sync.own u hu
   exact zfi h3 inv' (x:=.und) (by simp[XV.wf])
 ·exact h.elim
end
end Go.Vc

namespace Go.Vc
open Go
section
variable {P:Program} {T:List TI} {o:Oper} {ts:List XV} {bx:List Box} {a:Act} {w W:World} {K:KT} {Q:Exit→Act→World→Prop}
theorem pickK_spec{g:Bool}{x y:XV}{ret:Ret}(h:pickK g x y ret):∃r:XV,ret r∧(∀bs,r.wf bs)∧r.den=(if g then x.den else y.den):=by
 unfold pickK at h
 split at h<;>first
  |exact h.elim
  |exact⟨_,h,by simp[XV.wf],by cases g<;>simp[XV.den]⟩
theorem zcy{lo:Option XV}{d bound:Nat}{K:Nat→Prop}(h:boundK lo d bound K):∃n,K n∧((lo=none∧n=d)∨∃k i,lo=some (.int k i)∧0≤i∧i≤bound∧n=i.toNat):=by
 unfold boundK at h
 split at h
 ·exact⟨d,h,.inl ⟨rfl,rfl⟩⟩
 ·exact⟨_,h.2.2,.inr ⟨_,_,rfl,h.1,h.2.1,rfl⟩⟩
 ·exact h.elim
theorem zuz{lo:Option Operand}{K:Option XV→Prop}{bs:List Nat}(h:opO ts lo K)(hr:Rel bs ts a.tmps.toList):
  ∃x:Option XV,K x∧(lo.map a.eval=x.map XV.den):=by
 cases lo with
 |none=>exact⟨none,h,rfl⟩
 |some l=>
  obtain⟨x,h1,h2,h3⟩:=zap h hr
  exact⟨some x,h1,by simp[h3]⟩
theorem zwz{ps:List (Nat×Operand)}{K:List (Nat×XV)→Prop}{bs:List Nat}(h:partsK ts ps K)(hr:Rel bs ts a.tmps.toList):
  ∃xs:List (Nat×XV),K xs∧(∀x∈xs,x.2.wf bs)∧ps.map (fun (i,x)=>(i,a.eval x))=denP xs:=by
 induction ps generalizing K with
 |nil=>exact⟨[],h,by simp,rfl⟩
 |cons p ps ih=>
  obtain⟨i,x⟩:=p
  obtain⟨y,h1,h2,h3⟩:=zap h hr
  obtain⟨ys,h4,h5,h6⟩:=ih h1
  refine⟨(i,y)::ys,h4,?_,by simp only[List.map_cons,h6,denP,h3]⟩
  intro z hz
  rcases List.mem_cons.1 hz with rfl|hz
  ·exact h2
  ·exact h5 z hz
theorem foldl_wr(cs:List Value):∀(xs:Array Value) (off k:Nat),(cs.zipIdx k).foldl (fun (acc:Array Value) (p:Value×Nat)=>acc.setIfInBounds (off+p.2) p.1) xs=(wr xs.toList (off+k) cs).toArray:=by
 induction cs with
 |nil=>intro xs off k; simp[wr]
 |cons c cs ih=>
  intro xs off k
  simp only[List.zipIdx_cons,List.foldl_cons,ih,wr]
  rw[show off+(k+1)=off+k+1 by omega]
  simp
theorem yaq{fs:List (Nat×Nat×Nat)}{bs:List Nat}:∀(ps:List (Nat×XV)) (cells:List XV) (K:List XV→Prop),fillK fs cells ps K→(∀x∈ps,x.2.wf bs)→wfL bs cells→
  ∃r,K r∧wfL bs r∧Instr.fill (fun i=>(fs.map fun f=>(f.1,f.2.2))[i]?) (denL cells).toArray (denP ps)=some (denL r).toArray
 |[],cells,K,h,_,hw=>⟨cells,h,hw,by simp[Instr.fill,denP]⟩
 |(i,x)::ps,cells,K,h,hp,hw=>by
  simp only[fillK]at h
  obtain⟨off,ty,sz,hf,hsz,h⟩:=zyd h
  obtain⟨cs,h,hcw,hcs⟩:=zkl (bs:=bs) h (hp (i,x) (by simp))
  obtain⟨hlen,h⟩:=yge h
  obtain⟨h,hle⟩:=zfy _ _ _ _ h
  rw[ybe]at h
  obtain⟨r,h1,h2,h3⟩:=yaq ps _ K h (fun y hy=>hp y (by simp[hy])) (wfL_wr off hw hcw)
  refine⟨r,h1,h2,?_⟩
  have hs:x.den.cells.size=sz:=by rw[←Array.length_toList,hcs,zcf,hlen]
  simp only[denP,Instr.fill,List.getElem?_map,hf,Option.map_some]
  have hgt:¬(off+sz>(denL cells).length):=by rw[zcf]; omega
  simp only[hs,ne_eq,not_true_eq_false,decide_false,List.size_toArray,Bool.false_or,hgt]
  rw[←h3]
  congr 1
  have:=foldl_wr (denL cs) (denL cells).toArray off 0
  rw[←Array.foldl_toList,Array.toList_zipIdx,hcs]
  rw[this]
  simp[denL_wr]
end
end Go.Vc

namespace Go.Vc
open Go
section
variable {P:Program} {T:List TI} {o:Oper} {ts:List XV} {bx:List Box} {a:Act} {w W:World} {K:KT} {Q:Exit→Act→World→Prop} {ret:Ret} {bs:List Nat}
theorem pu_pick{c x y:Operand}(ho:o.op=.pick c x y)(h:pureK T o.op ts ret)(hr0:Rel bs ts a.tmps.toList):∃r:XV,ret r∧r.wf bs∧∀w,(execOp a.eval o).run P w=.ok (.value r.den) w:=by
 unfold pureK at h
 simp only[ho]at h
 replace h:=zap h hr0
 obtain⟨g,h,hgw,hg⟩:=h
 have hr:∀w,(execOp a.eval o).run P w=((asBool g.den).run P w).andThen fun b w'=>.ok (.value (if b then a.eval x else a.eval y)) w':=by
  intro w
  simp only[execOp,ho,Sem.run_bind,Sem.run_pure,hg]
 split at h
 ·replace h:=zap h hr0
  obtain⟨z,h,hzw,hz⟩:=h
  exact⟨_,h,hzw,fun w=>by rw[hr]; simp[asBool,XV.den,hz]⟩
 ·replace h:=zap h hr0
  obtain⟨z,h,hzw,hz⟩:=h
  exact⟨_,h,hzw,fun w=>by rw[hr]; simp[asBool,XV.den,hz]⟩
 ·replace h:=zap h hr0
  obtain⟨z,h,hzw,hz⟩:=h
  replace h:=zap h hr0
  obtain⟨u,h,huw,hu⟩:=h
  replace h:=pickK_spec h
  obtain⟨r,h,hrw,hrd⟩:=h
  exact⟨_,h,(hrw _),fun w=>by rw[hr]; simp[asBool,XV.den,hz,hu,hrd]⟩
 ·exact h.elim
theorem yig{x:Operand}(ho:o.op=.nilCheck x)(h:pureK T o.op ts ret)(hr0:Rel bs ts a.tmps.toList):∃r:XV,ret r∧r.wf bs∧∀w,(execOp a.eval o).run P w=.ok (.value r.den) w:=by
 unfold pureK at h
 simp only[ho]at h
 replace h:=zap h hr0
 obtain⟨g,h,hgw,hg⟩:=h
 split at h
 ·exact⟨_,h,hgw,fun w=>by simp only[execOp,ho,hg,XV.den]; rfl⟩
 ·exact⟨_,h,hgw,fun w=>by simp only[execOp,ho,hg,XV.den]; rfl⟩
 ·exact⟨_,h,hgw,fun w=>by simp only[execOp,ho,hg,XV.den]; rfl⟩
 ·obtain⟨ad,rfl,h⟩:=h
  exact⟨_,h,(by simp[XV.wf]),fun w=>by simp only[execOp,ho,hg,XV.den]; rfl⟩
 ·exact h.elim
theorem pu_unOp{op:UnOp}{t:TypeId}{x:Operand}(ho:o.op=.unOp op t x)(h:pureK T o.op ts ret)(hr0:Rel bs ts a.tmps.toList):∃r:XV,ret r∧r.wf bs∧∀w,(execOp a.eval o).run P w=.ok (.value r.den) w:=by
 unfold pureK at h
 simp only[ho]at h
 replace h:=zap h hr0
 obtain⟨g,h,hgw,hg⟩:=h
 have hr:∀w,(execOp a.eval o).run P w=((Op.unary op g.den).run P w).andThen fun v w'=>.ok (.value v) w':=by
  intro w
  simp only[execOp,ho,Sem.run_bind,Sem.run_pure,hg]
 split at h
 ·exact⟨_,h,(by simp[XV.wf]),fun w=>by rw[hr]; simp[Op.unary,XV.den]⟩
 ·exact⟨_,h,(by simp[XV.wf]),fun w=>by rw[hr]; simp[Op.unary,XV.den]⟩
 ·exact⟨_,h,(by simp[XV.wf]),fun w=>by rw[hr]; simp[Op.unary,XV.den,Op.intArith]⟩
 ·exact⟨_,h,(by simp[XV.wf]),fun w=>by rw[hr]; simp[Op.unary,XV.den,intBits_xor]⟩
 ·exact h.elim
theorem pu_convert{s d:TypeId}{x:Operand}(hT:zba P T)(ho:o.op=.convert s d x)(h:pureK T o.op ts ret)(hr0:Rel bs ts a.tmps.toList):∃r:XV,ret r∧r.wf bs∧∀w,(execOp a.eval o).run P w=.ok (.value r.den) w:=by
 unfold pureK at h
 simp only[ho]at h
 replace h:=zap h hr0
 obtain⟨g,h,hgw,hg⟩:=h
 replace h:=zae hT h
 obtain⟨ts',hs,h⟩:=h
 replace h:=zae hT h
 obtain⟨td,hd,h⟩:=h
 obtain⟨ds,is,hds,_⟩:=hs.ex
 have hr:∀w,(execOp a.eval o).run P w=((convert s d g.den).run P w).andThen fun v w'=>.ok (.value v) w':=by
  intro w
  simp only[execOp,ho,Sem.run_bind,Sem.run_pure,hg]
 split at h
 ·rename_i htd
  have hu:=td_int hd htd
  refine⟨_,h,(by simp[XV.wf]),fun w=>?_⟩
  rw[hr]
  simp[convert,Sem.run_bind,run_underlying hds,run_underlying hu,XV.den,Conv.intToInt]
 ·rename_i htd
  have hu:=zfw hd htd
  refine⟨_,h,(by simp[XV.wf]),fun w=>?_⟩
  rw[hr]
  simp only[convert,Sem.run_bind,run_underlying hds,run_underlying hu,XV.den,Result.andThen_ok]
  cases ds<;>simp
 ·exact h.elim
theorem yfp{s:TypeId}{f:Nat}{x:Operand}(hT:zba P T)(ho:o.op=.fieldAddr s x f)(h:pureK T o.op ts ret)(hr0:Rel bs ts a.tmps.toList):∃r:XV,ret r∧r.wf bs∧∀w,(execOp a.eval o).run P w=.ok (.value r.den) w:=by
 unfold pureK at h
 simp only[ho]at h
 replace h:=zap h hr0
 obtain⟨g,h,hgw,hg⟩:=h
 replace h:=zae hT h
 obtain⟨ti,hf,h⟩:=h
 have hr:∀w,(execOp a.eval o).run P w=((Instr.fieldAt s g.den f).run P w).andThen fun v w'=>.ok (.value v) w':=by
  intro w
  simp only[execOp,ho,Sem.run_bind,Sem.run_pure,hg]
 split at h
 ·rename_i fs htd
  obtain⟨fl,hu,rfl⟩:=zpl hf htd
  replace h:=zyd h
  obtain⟨off,ty,sz,hfl,hsz,h⟩:=h
  simp only[List.getElem?_map,Option.map_eq_some_iff,Prod.mk.injEq]at hfl
  obtain⟨fd,hfd,rfl,rfl,rfl⟩:=hfl
  obtain⟨i,hi,hisz⟩:=zfr fd.type hsz
  have hfd':fl[f]?=some fd:=by simpa using hfd
  split at h
  ·refine⟨_,h,(by simpa[XV.wf]using hgw),fun w=>?_⟩
   rw[hr]
   simp[Instr.fieldAt,Sem.run_bind,run_underlying hu,hfd',Instr.sureAddr,fieldPlace,zeu hi,hisz,hsz,XV.den,zma]
  ·refine⟨_,h,(by simp[XV.wf]),fun w=>?_⟩
   rw[hr]
   simp[Instr.fieldAt,Sem.run_bind,run_underlying hu,hfd',Instr.sureAddr,fieldPlace,zeu hi,hisz,hsz,XV.den]
  ·exact h.elim
 ·exact h.elim
theorem pu_field{s:TypeId}{f:Nat}{x:Operand}(hT:zba P T)(ho:o.op=.field s x f)(h:pureK T o.op ts ret)(hr0:Rel bs ts a.tmps.toList):∃r:XV,ret r∧r.wf bs∧∀w,(execOp a.eval o).run P w=.ok (.value r.den) w:=by
 unfold pureK at h
 simp only[ho]at h
 replace h:=zap h hr0
 obtain⟨g,h,hgw,hg⟩:=h
 replace h:=zae hT h
 obtain⟨ti,hf,h⟩:=h
 have hr:∀w,(execOp a.eval o).run P w=((Instr.field s g.den f).run P w).andThen fun v w'=>.ok (.value v) w':=by
  intro w
  simp only[execOp,ho,Sem.run_bind,Sem.run_pure,hg]
 split at h
 ·rename_i fs xs htd
  obtain⟨fl,hu,rfl⟩:=zpl hf htd
  replace h:=zyd h
  obtain⟨off,ty,sz,hfl,hsz,h⟩:=h
  simp only[List.getElem?_map,Option.map_eq_some_iff,Prod.mk.injEq]at hfl
  obtain⟨fd,hfd,rfl,rfl,rfl⟩:=hfl
  obtain⟨i,hi,hisz⟩:=zfr fd.type hsz
  have hfd':fl[f]?=some fd:=by simpa using hfd
  replace h:=zae hT h
  obtain⟨tf,hff,h⟩:=h
  have hxw:wfL (bs) xs:=by simpa[XV.wf]using hgw
  split at h
  ·rename_i hag
   replace h:=zfy _ _ _ _ h
   obtain⟨h1,h2⟩:=h
   refine⟨_,h1,(by simpa[XV.wf]using wfL_sub hxw _ _),fun w=>?_⟩
   rw[hr]
   simp only[Instr.field,Sem.run_bind,run_underlying hu,Result.andThen_ok,hfd',asAgg,XV.den,Sem.run_pure,part,td_agg hff,hag,if_true,zeu hi,hisz]
   congr 3
   apply Array.ext'
   simp[ylw,Array.toList_extract,List.extract_eq_take_drop]
  ·rename_i hag
   replace h:=zfy _ _ _ _ h
   obtain⟨h1,h2⟩:=h
   split at h1
   ·rename_i v hv
    have hv':xs[fd.offset]?=some v:=part1 (by rw[hv])
    refine⟨_,h1,((zky _ _).1 hxw v (List.mem_of_getElem? hv')),fun w=>?_⟩
    rw[hr]
    have:(denL xs)[fd.offset]?=some v.den:=by rw[zgu]; simp[hv']
    simp[Instr.field,Sem.run_bind,run_underlying hu,hfd',asAgg,XV.den,part,td_agg hff,hag,this]
   ·exact h1.elim
 ·exact h.elim
theorem yfo{t:TypeId}{x ix:Operand}(hT:zba P T)(ho:o.op=.indexAddr t x ix)(h:pureK T o.op ts ret)(hr0:Rel bs ts a.tmps.toList):∃r:XV,ret r∧r.wf bs∧∀w,(execOp a.eval o).run P w=.ok (.value r.den) w:=by
 unfold pureK at h
 simp only[ho]at h
 replace h:=zap h hr0
 obtain⟨g,h,hgw,hg⟩:=h
 replace h:=zap h hr0
 obtain⟨u,h,huw,hu⟩:=h
 replace h:=zae hT h
 obtain⟨ti,hf,h⟩:=h
 have hr:∀w,(execOp a.eval o).run P w=((Instr.indexAt t g.den u.den).run P w).andThen fun v w'=>.ok (.value v) w':=by
  intro w
  simp only[execOp,ho,Sem.run_bind,Sem.run_pure,hg,hu]
 split at h
 ·rename_i e aa len cap k i htd
  have hun:=zii hf htd
  replace h:=zae hT h
  obtain⟨te,hfe,ad,rfl,h0,h1,h⟩:=h
  refine⟨_,h,(by simp[XV.wf]),fun w=>?_⟩
  rw[hr]
  simp[Instr.indexAt,Sem.run_bind,run_underlying hun,asIntOf,XV.den,h0,h1,zfx hfe]
 ·exact h.elim
theorem pu_extract{t:Operand}{i:Nat}(ho:o.op=.extract t i)(h:pureK T o.op ts ret)(hr0:Rel bs ts a.tmps.toList):∃r:XV,ret r∧r.wf bs∧∀w,(execOp a.eval o).run P w=.ok (.value r.den) w:=by
 unfold pureK at h
 simp only[ho]at h
 replace h:=zap h hr0
 obtain⟨g,h,hgw,hg⟩:=h
 have hr:∀w,(execOp a.eval o).run P w=((Instr.extract g.den i).run P w).andThen fun v w'=>.ok (.value v) w':=by
  intro w
  simp only[execOp,ho,Sem.run_bind,Sem.run_pure,hg]
 split at h
 ·rename_i xs
  have hxw:wfL (bs) xs:=by simpa[XV.wf]using hgw
  replace h:=zfy _ _ _ _ h
  obtain⟨h1,h2⟩:=h
  split at h1
  ·rename_i v hv
   have hv':xs[i]?=some v:=part1 (by rw[hv])
   refine⟨_,h1,((zky _ _).1 hxw v (List.mem_of_getElem? hv')),fun w=>?_⟩
   rw[hr]
   have:(denL xs)[i]?=some v.den:=by rw[zgu]; simp[hv']
   simp[Instr.extract,XV.den,this]
  ·exact h1.elim
 ·exact h.elim
end
end Go.Vc

namespace Go.Vc
open Go
section
variable {P:Program} {T:List TI} {o:Oper} {ts:List XV} {bx:List Box} {a:Act} {w W:World} {K:KT} {Q:Exit→Act→World→Prop} {ret:Ret} {bs:List Nat}
theorem pu_slice{t:TypeId}{x:Operand}{lo hi mx:Option Operand}(hT:zba P T)(ho:o.op=.slice t x lo hi mx)(h:pureK T o.op ts ret)(hr0:Rel bs ts a.tmps.toList):∃r:XV,ret r∧r.wf bs∧∀w,(execOp a.eval o).run P w=.ok (.value r.den) w:=by
 unfold pureK at h
 simp only[ho]at h
 replace h:=zap h hr0
 obtain⟨g,h,hgw,hg⟩:=h
 replace h:=zuz h hr0
 obtain⟨xl,h,hl⟩:=h
 replace h:=zuz h hr0
 obtain⟨xh,h,hh⟩:=h
 replace h:=zuz h hr0
 obtain⟨xm,h,hm⟩:=h
 replace h:=zae hT h
 obtain⟨ti,hf,h⟩:=h
 have hr:∀w,(execOp a.eval o).run P w=((Instr.sliceAt t g.den (xl.map XV.den) (xh.map XV.den) (xm.map XV.den)).run P w).andThen fun v w'=>.ok (.value v) w':=by
  intro w
  simp only[execOp,ho,Sem.run_bind,Sem.run_pure,hg,hl,hh,hm]
 have hbs:∀(w:World) {x:Option XV} {d bound n:Nat} (code:BoundsCode),((x=none∧n=d)∨∃k i,x=some (.int k i)∧0≤i∧i≤bound∧n=i.toNat)→∀v,x=some v→(Instr.sliceBound v.den bound code).run P w=.ok n w:=by
  rintro w x d bound n code (⟨rfl,_⟩|⟨k,i,rfl,h0,h1,rfl⟩) v hv
  ·cases hv
  ·injection hv with hv; subst hv; exact run_sliceBound w k i bound code h0 h1
 split at h
 ·rename_i e aa len cap htd
  have hun:=zii hf htd
  replace h:=zae hT h
  obtain⟨te,hfe,h⟩:=h
  split at h
  ·replace h:=zcy h
   obtain⟨n,h,hb⟩:=h
   refine⟨_,h,(by simp[XV.wf]),fun w=>?_⟩
   rw[hr]
   have hb':=fun w=>hbs w (x:=xh) .sliceAcap hb
   rcases hb with ⟨rfl,rfl⟩|⟨k,i,rfl,h0,h1,rfl⟩
   ·simp only[Instr.sliceAt,Instr.slice,Sem.run_bind,run_underlying hun,Result.andThen_ok,XV.den,Option.map_none,Instr.sliceBounds,Sem.run_pure,zfx hfe,Nat.zero_mul,Nat.sub_zero]
    congr 2
    cases aa<;>simp[Addr.add]
   ·have:=hb' w _ rfl
    simp only[XV.den]at this
    simp only[Instr.sliceAt,Instr.slice,Sem.run_bind,run_underlying hun,Result.andThen_ok,XV.den,Option.map_none,Option.map_some,Instr.sliceBounds,Sem.run_pure,if_true,this,zfx hfe,Nat.zero_mul,Nat.sub_zero]
    congr 2
    cases aa<;>simp[Addr.add]
  ·rename_i xlo
   replace h:=zcy h
   obtain⟨n,h,hb⟩:=h
   replace h:=zcy h
   obtain⟨l,h,hbl⟩:=h
   refine⟨_,h,(by simp[XV.wf]),fun w=>?_⟩
   rw[hr]
   have hb':=fun w=>hbs w (x:=xh) .sliceAcap hb
   have hl':=fun w=>hbs w .sliceB hbl _ rfl
   rcases hb with ⟨rfl,rfl⟩|⟨k,i,rfl,h0,h1,rfl⟩
   ·simp only[Instr.sliceAt,Instr.slice,Sem.run_bind,run_underlying hun,Result.andThen_ok,XV.den,Option.map_none,Option.map_some,Instr.sliceBounds,Sem.run_pure,Option.isSome_none,Bool.false_eq_true,if_false,hl',zfx hfe]
   ·have:=hb' w _ rfl
    simp only[XV.den]at this
    simp only[Instr.sliceAt,Instr.slice,Sem.run_bind,run_underlying hun,Result.andThen_ok,XV.den,Option.map_none,Option.map_some,Instr.sliceBounds,Sem.run_pure,Option.isSome_none,Bool.false_eq_true,if_false,if_true,this,hl',zfx hfe]
  ·rename_i xhi xmx
   replace h:=zcy h
   obtain⟨m,h,hbm⟩:=h
   replace h:=zcy h
   obtain⟨n,h,hb⟩:=h
   refine⟨_,h,(by simp[XV.wf]),fun w=>?_⟩
   rw[hr]
   have hm':=fun w=>hbs w .slice3Acap hbm _ rfl
   have hh':=fun w=>hbs w .slice3B hb _ rfl
   simp only[Instr.sliceAt,Instr.slice,Sem.run_bind,run_underlying hun,Result.andThen_ok,XV.den,Option.map_none,Option.map_some,Instr.sliceBounds,Sem.run_pure,Option.isSome_some,if_true,hm',hh',zfx hfe,Nat.zero_mul,Nat.sub_zero]
   congr 2
   cases aa<;>simp[Addr.add]
  ·rename_i xlo xhi xmx
   replace h:=zcy h
   obtain⟨m,h,hbm⟩:=h
   replace h:=zcy h
   obtain⟨n,h,hb⟩:=h
   replace h:=zcy h
   obtain⟨l,h,hbl⟩:=h
   refine⟨_,h,(by simp[XV.wf]),fun w=>?_⟩
   rw[hr]
   have hm':=fun w=>hbs w .slice3Acap hbm _ rfl
   have hh':=fun w=>hbs w .slice3B hb _ rfl
   have hl':=fun w=>hbs w .slice3C hbl _ rfl
   simp only[Instr.sliceAt,Instr.slice,Sem.run_bind,run_underlying hun,Result.andThen_ok,XV.den,Option.map_some,Instr.sliceBounds,Sem.run_pure,Option.isSome_some,if_true,hm',hh',hl',zfx hfe]
  ·exact h.elim
 ·rename_i s htd
  have hun:=zfw hf htd
  split at h
  ·replace h:=zcy h
   obtain⟨n,h,hb⟩:=h
   replace h:=zcy h
   obtain⟨l,h,hbl⟩:=h
   refine⟨_,h,(by simp[XV.wf]),fun w=>?_⟩
   rw[hr]
   have hb':=fun w=>hbs w (x:=xh) .sliceAlen hb
   have hl':=fun w=>hbs w (x:=xl) .sliceB hbl
   rcases hb with ⟨rfl,rfl⟩|⟨k,i,rfl,h0,h1,rfl⟩<;>rcases hbl with ⟨rfl,rfl⟩|⟨k2,i2,rfl,h2,h3,rfl⟩
   ·simp[Instr.sliceAt,Instr.slice,Sem.run_bind,run_underlying hun,XV.den,Instr.sliceBounds]
   ·have:=hl' w _ rfl
    simp only[XV.den]at this
    simp[Instr.sliceAt,Instr.slice,Sem.run_bind,run_underlying hun,XV.den,Instr.sliceBounds,this]
   ·have:=hb' w _ rfl
    simp only[XV.den]at this
    simp[Instr.sliceAt,Instr.slice,Sem.run_bind,run_underlying hun,XV.den,Instr.sliceBounds,this]
   ·have h4:=hb' w _ rfl
    have h5:=hl' w _ rfl
    simp only[XV.den]at h4 h5
    simp[Instr.sliceAt,Instr.slice,Sem.run_bind,run_underlying hun,XV.den,Instr.sliceBounds,h4,h5]
  ·exact h.elim
 ·exact h.elim
theorem zxh{P:Program}(w:World):∀(fl:List Field),(∀f∈fl,(sizeOf f.type).run P w=.ok (P.cellsOf f.type) w)→
  (fl.mapM (fun f=>do pure (f.offset,←sizeOf f.type):Field→Sem (Nat×Nat))).run P w=.ok (fl.map fun f=>(f.offset,P.cellsOf f.type)) w
 |[],_=>by simp
 |f::fl,h=>by
  have h0:=h f (by simp)
  have ih:=zxh w fl (fun g hg=>h g (by simp[hg]))
  simp only[List.mapM_cons,Sem.run_bind,h0,ih,Result.andThen_ok,Sem.run_pure,List.map_cons]
theorem pu_build{t:TypeId}{parts:Array (Nat×Operand)}(hT:zba P T)(ho:o.op=.build t parts)(h:pureK T o.op ts ret)(hr0:Rel bs ts a.tmps.toList):∃r:XV,ret r∧r.wf bs∧∀w,(execOp a.eval o).run P w=.ok (.value r.den) w:=by
 unfold pureK at h
 simp only[ho]at h
 replace h:=zwz h hr0
 obtain⟨ps,h,hpw,hps⟩:=h
 replace h:=zae hT h
 obtain⟨ti,hf,h⟩:=h
 have hr:∀w,(execOp a.eval o).run P w=((Instr.build t (denP ps).toArray).run P w).andThen fun v w'=>.ok (.value v) w':=by
  intro w
  simp only[execOp,ho,Sem.run_bind,Sem.run_pure]
  congr 3
  rw[←hps]
  apply Array.ext'
  simp
 split at h
 ·rename_i fs z zs htd hz
  obtain⟨fl,hu,rfl⟩:=zpl hf htd
  replace h:=posK_spec h
  obtain⟨h,hpos⟩:=h
  replace h:=yaq (bs:=bs) ps _ _ h hpw (zzo _ _)
  obtain⟨r,h,hrw,hfill⟩:=h
  refine⟨_,h,(by simpa[XV.wf]using hrw),fun w=>?_⟩
  obtain⟨i,hi,_,hzero⟩:=ybq hf
  rw[hz]at hzero
  obtain⟨zv,hzv,hzc⟩:∃zv,i.zero=some zv∧zv.cells.toList=z::zs:=by
   cases hiz:i.zero with
   |none=>rw[hiz]at hzero; cases hzero
   |some zv=>rw[hiz]at hzero; exact⟨zv,rfl,hzero.symm⟩
  rw[hr]
  have hm:=zxh (P:=P) w fl.toList (fun f hf'=>by
   have:=hpos _ (List.mem_map.2 ⟨f,hf',rfl⟩)
   obtain⟨j,hj,hjs⟩:=zfr f.type this
   rw[zeu hj,hjs])
  have hm':(fl.mapM (fun f=>do pure (f.offset,←sizeOf f.type):Field→Sem (Nat×Nat))).run P w=.ok (fl.toList.map fun f=>(f.offset,P.cellsOf f.type)).toArray w:=by
   rw[Array.mapM_eq_mapM_toList]
   simp only[Sem.run_map,hm,Result.andThen_ok]
  have hc:zv.cells=(denL (constL (z::zs))).toArray:=by rw[zke,←hzc]
  simp only[Instr.build,Sem.run_bind,zhb hi hzv,Result.andThen_ok,run_underlying hu,hm',hc]
  simp only[List.map_map]at hfill
  have e:(fun x:Nat=>((fl.toList.map fun f=>(f.offset,P.cellsOf f.type)).toArray)[x]?)=(fun i:Nat=>(fl.toList.map ((fun f=>(f.1,f.2.2)) ∘ fun f=>(f.offset,f.type,P.cellsOf f.type)))[i]?):=by
   funext i; simp; rfl
  rw[e,hfill]
  simp[XV.den]
 ·exact h.elim
theorem yih{fn:Fn}{first caps:Array Operand}(ho:o.op=.makeFunc fn first caps)(h:pureK T o.op ts ret)(hr0:Rel bs ts a.tmps.toList):∃r:XV,ret r∧r.wf bs∧∀w,(execOp a.eval o).run P w=.ok (.value r.den) w:=by
 unfold pureK at h
 simp only[ho]at h
 split at h
 ·rename_i f hfirst
  replace h:=zhp h hr0
  obtain⟨cs,h,hcw,hcs⟩:=h
  refine⟨_,h,(by simpa[XV.wf]using hcw),fun w=>?_⟩
  have hfa:first = #[]:=by
   apply Array.ext'; simpa using hfirst
  have hca:caps.map a.eval=(denL cs).toArray:=by
   apply Array.ext'; simp[←hcs]
  simp[execOp,ho,Instr.makeFunc,XV.den,hfa,hca]
 ·exact h.elim
theorem zero_of{t:TypeId}{ti:TI}{z:Value}{zs:List Value}(hf:TFacts P t ti)(hz:ti.zero=z::zs):∃zv,∀w,(zeroValue t).run P w=.ok zv w∧zv.cells=(z::zs).toArray:=by
 obtain⟨i,hi,_,hzero⟩:=ybq hf
 rw[hz]at hzero
 cases hiz:i.zero with
 |none=>rw[hiz]at hzero; cases hzero
 |some zv=>
  rw[hiz]at hzero
  exact⟨zv,fun w=>⟨zhb hi hiz w,by apply Array.ext'; simpa using hzero.symm⟩⟩
theorem vc_alloc{t:TypeId}(hT:zba P T)(ho:o.op=.alloc t)(h:vcOp P T o ts bx W K)(inv:Inv ts bx a w W):o.wp P a w (Post K) Q:=by
 unfold vcOp at h
 simp only[ho]at h
 replace h:=zae hT h
 obtain⟨ti,hf,h⟩:=h
 split at h
 ·rename_i z zs hz
  obtain⟨zv,hzv⟩:=zero_of hf hz
  refine yfx ?_ h inv (zzo _ _)
  simp only[execOp,ho,Sem.run_bind,Instr.alloc,(hzv w).1,Result.andThen_ok,newVar,newRow,run_newObj,Sem.run_pure,(hzv w).2,zke]
  rfl
 ·exact h.elim
theorem vc_box{t:TypeId}{x:Operand}(ho:o.op=.box t x)(h:vcOp P T o ts bx W K)(inv:Inv ts bx a w W):o.wp P a w (Post K) Q:=by
 unfold vcOp at h
 simp only[ho]at h
 replace h:=zap h inv.frame
 obtain⟨g,h,hgw,hg⟩:=h
 replace h:=zkl h hgw
 obtain⟨cs,h,hcw,hcs⟩:=h
 refine yfx ?_ h inv hcw
 have:g.den.cells=(denL cs).toArray:=by apply Array.ext'; simpa using hcs
 simp only[execOp,ho,Sem.run_bind,Instr.box,hg,newVar,newRow,run_newObj,Sem.run_pure,Result.andThen_ok,this]
 rfl
theorem zue{c:Call}{f:Operand}{g:FuncId}{caps:Array Value}(ho:o.op=.call c)(hc:c.callee=.value f)(hf:a.eval f=.func (.func g) #[] caps):
  (execOp a.eval o).run P w=(callFunc g (c.args.map a.eval++caps)).run P w:=by
 simp only[execOp,ho,resolve,hc,hf,Deferred.ofValue,Sem.run_bind,Sem.run_pure,Result.andThen_ok,invoke,Array.empty_append]
theorem zlw{xs:List Operand}{ys:List XV}(h:xs.map a.eval=denL ys)(c:Array Operand)(hc:c.toList=xs):c.map a.eval=(denL ys).toArray:=by
 apply Array.ext'; simp[hc,h]
theorem pu_call{c:Call}(hT:zba P T)(ho:o.op=.call c)(h:pureK T o.op ts ret)(hr0:Rel bs ts a.tmps.toList):∃r:XV,ret r∧r.wf bs∧∀w,(execOp a.eval o).run P w=.ok (.value r.den) w:=by
 unfold pureK at h
 simp only[ho]at h
 split at h
 ·rename_i b hcal
  replace h:=zhp h hr0
  obtain⟨xs,h,hxw,hxs⟩:=h
  have hargs:=zlw hxs c.args rfl
  have hr:∀w,(execOp a.eval o).run P w=(builtin b c.argTypes o.type (c.args.map fun | .const _=>true|_=>false) (denL xs).toArray).run P w:=by
   intro w
   simp only[execOp,ho,resolve,hcal,Sem.run_bind,Sem.run_pure,Result.andThen_ok,invoke,hargs]
   rfl
  unfold zvt at h
  split at h
  ·unfold argTy at h
   split at h
   ·rename_i t hats
    replace h:=zae hT h
    obtain⟨ti,hf,h⟩:=h
    split at h
    ·rename_i e htd
     have hun:=zii hf htd
     refine⟨_,h,(by simp[XV.wf]),fun w=>?_⟩
     rw[hr]
     have hat:c.argTypes = #[t]:=by apply Array.ext'; simpa using hats
     simp[builtin,Builtin.len_,hat,denL,XV.den,run_underlying hun,goInt,Sem.run_bind]
    ·exact h.elim
   ·exact h.elim
  ·unfold argTy at h
   split at h
   ·rename_i t hats
    replace h:=zae hT h
    obtain⟨ti,hf,h⟩:=h
    split at h
    ·rename_i htd
     have hun:=zfw hf htd
     refine⟨_,h,(by simp[XV.wf]),fun w=>?_⟩
     rw[hr]
     have hat:c.argTypes = #[t]:=by apply Array.ext'; simpa using hats
     simp[builtin,Builtin.len_,hat,denL,XV.den,run_underlying hun,goInt,Sem.run_bind]
    ·exact h.elim
   ·exact h.elim
  ·unfold argTy at h
   split at h
   ·rename_i t hats
    replace h:=zae hT h
    obtain⟨ti,hf,h⟩:=h
    split at h
    ·rename_i e htd
     have hun:=zii hf htd
     refine⟨_,h,(by simp[XV.wf]),fun w=>?_⟩
     rw[hr]
     have hat:c.argTypes = #[t]:=by apply Array.ext'; simpa using hats
     simp[builtin,Builtin.cap_,hat,denL,XV.den,run_underlying hun,goInt,Sem.run_bind]
    ·exact h.elim
   ·exact h.elim
  ·refine⟨_,h,(by simp[XV.wf]),fun w=>?_⟩
   rw[hr]
   simp only[builtin,Sem.run_bind,denL,XV.den,run_max_int2,Result.andThen_ok,Sem.run_pure]
  ·refine⟨_,h,(by simp[XV.wf]),fun w=>?_⟩
   rw[hr]
   simp only[builtin,Sem.run_bind,denL,XV.den,run_min_int2,Result.andThen_ok,Sem.run_pure]
  ·exact h.elim
 ·exact h.elim
theorem yfn(hT:zba P T)(h:pureK T o.op ts ret)(hr0:Rel bs ts a.tmps.toList):∃r:XV,ret r∧r.wf bs∧∀w,(execOp a.eval o).run P w=.ok (.value r.den) w:=by
 cases ho:o.op with
 |move x=>
  unfold pureK at h
  simp only[ho]at h
  replace h:=zap h hr0
  obtain⟨g,h,hgw,hg⟩:=h
  exact⟨_,h,hgw,fun w=>by simp[execOp,ho,hg]⟩
 |assign x=>
  unfold pureK at h
  simp only[ho]at h
  replace h:=zap h hr0
  obtain⟨g,h,hgw,hg⟩:=h
  exact⟨_,h,hgw,fun w=>by simp[execOp,ho,hg]⟩
 |pick c x y=>exact pu_pick ho h hr0
 |nilCheck x=>exact yig ho h hr0
 |binOp op t x y u=>
  unfold pureK at h
  simp only[ho]at h
  replace h:=zap h hr0
  obtain⟨g,h,hgw,hg⟩:=h
  replace h:=zap h hr0
  obtain⟨g2,h,hgw2,hg2⟩:=h
  obtain⟨r,hr,hrw,hrun⟩:=run_binX hT h x y bs
  refine⟨r,hr,hrw,fun w=>?_⟩
  have hrun:=hrun w
  rw[←hg,←hg2]at hrun
  simp only[execOp,ho]
  rw[Sem.run_bind,hrun]; simp
 |unOp op t x=>exact pu_unOp ho h hr0
 |convert s d x=>exact pu_convert hT ho h hr0
 |fieldAddr s x f=>exact yfp hT ho h hr0
 |field s x f=>exact pu_field hT ho h hr0
 |indexAddr t x ix=>exact yfo hT ho h hr0
 |extract t i=>exact pu_extract ho h hr0
 |slice t x lo hi mx=>exact pu_slice hT ho h hr0
 |build t ps=>exact pu_build hT ho h hr0
 |makeFunc fn f c=>exact yih ho h hr0
 |call c=>exact pu_call hT ho h hr0
 |_=>unfold pureK at h; simp only[ho]at h
theorem pure_wp(hT:zba P T)(h:pureK T o.op ts fun x=>retX o.dst x ts bx W K)(inv:Inv ts bx a w W):o.wp P a w (Post K) Q:=by
 obtain⟨r,hr,hw,hrun⟩:=yfn hT h inv.frame
 exact ret_wp (hrun w) hr inv hw
theorem vc_call{c:Call}(hT:zba P T)(ho:o.op=.call c)(h:vcOp P T o ts bx W K)(inv:Inv ts bx a w W):o.wp P a w (Post K) Q:=by
 unfold vcOp at h
 simp only[ho]at h
 split at h
 ·rename_i f hcal
  replace h:=zap h inv.frame
  obtain⟨g,h,hgw,hg⟩:=h
  replace h:=zhp h inv.frame
  obtain⟨xs,h,hxw,hxs⟩:=h
  have hargs:=zlw hxs c.args rfl
  split at h
  ·rename_i g caps
   rw[ylz]at h
   refine yly ?_ h inv
   rw[zue ho hcal hg,hargs]
   simp[zkf]
  ·rename_i y
   obtain⟨g,caps,rfl,h⟩:=h
   refine yly ?_ h inv
   rw[zue ho hcal hg,hargs]
   have e:(denL xs).toArray++caps=(denL (xs++injL caps.toList)).toArray:=by
    apply Array.ext'; simp[zkf,zhy]
   rw[e]
  ·exact h.elim
 ·rename_i b hcal
  have hr:∀xs,c.args.map a.eval=(denL xs).toArray→(execOp a.eval o).run P w=(builtin b c.argTypes o.type (c.args.map fun | .const _=>true|_=>false) (denL xs).toArray).run P w:=by
   intro xs hargs
   simp only[execOp,ho,resolve,hcal,Sem.run_bind,Sem.run_pure,Result.andThen_ok,invoke,hargs]
   rfl
  split at h
  ·replace h:=zhp h inv.frame
   obtain⟨xs,h,hxw,hxs⟩:=h
   exact zev (by rw[hr xs (zlw hxs c.args rfl)]; simp only[builtin,Sem.run_bind,Sem.run_pure]) h inv
  ·replace h:=zhp h inv.frame
   obtain⟨xs,h,hxw,hxs⟩:=h
   exact zev (by rw[hr xs (zlw hxs c.args rfl)]; simp only[builtin,Sem.run_bind,Sem.run_pure]) h inv
  ·replace h:=zhp h inv.frame
   obtain⟨xs,h,hxw,hxs⟩:=h
   exact zev (by rw[hr xs (zlw hxs c.args rfl)]; simp only[builtin,Sem.run_bind,Sem.run_pure]) h inv
  ·refine pure_wp hT ?_ inv
   unfold pureK
   simp only[ho,hcal]
   exact h
 ·exact h.elim
theorem vc_load{t:TypeId}{x:Operand}(hT:zba P T)(ho:o.op=.load t x)(h:vcOp P T o ts bx W K)(inv:Inv ts bx a w W):o.wp P a w (Post K) Q:=by
 unfold vcOp at h
 simp only[ho]at h
 replace h:=zap h inv.frame
 obtain⟨A,h,hAw,hA⟩:=h
 obtain⟨r,hr,hrw,_,hrun⟩:=zss (P:=P) hT h inv hAw
 refine ret_wp ?_ hr inv hrw
 rw[ylg ho,hA,hrun w rfl]; rfl
theorem vc_rest(hT:zba P T)(h:vcOp P T o ts bx W K)(inv:Inv ts bx a w W):o.wp P a w (Post K) Q:=by
 cases ho:o.op with
 |alloc t=>exact vc_alloc hT ho h inv
 |box t x=>exact vc_box ho h inv
 |load t x=>exact vc_load hT ho h inv
 |store t x y=>exact vc_store hT ho h inv
 |call c=>exact vc_call hT ho h inv
 |buildSlice t len parts=>
  unfold vcOp at h
  simp only[ho]at h
  replace h:=zwz h inv.frame
  obtain⟨ps,h,hpw,hps⟩:=h
  refine zev ?_ h inv
  simp only[execOp,ho,Sem.run_bind,Sem.run_pure]
  congr 3
  rw[←hps]
  apply Array.ext'
  simp
 |makeSlice t l c=>
  unfold vcOp at h
  simp only[ho]at h
  replace h:=zap h inv.frame
  obtain⟨g,h,hgw,hg⟩:=h
  replace h:=zap h inv.frame
  obtain⟨g2,h,hgw2,hg2⟩:=h
  exact zev (by simp only[execOp,ho,Sem.run_bind,Sem.run_pure,hg,hg2]) h inv
 |index t l c=>
  unfold vcOp at h
  simp only[ho]at h
  replace h:=zap h inv.frame
  obtain⟨g,h,hgw,hg⟩:=h
  replace h:=zap h inv.frame
  obtain⟨g2,h,hgw2,hg2⟩:=h
  exact zev (by simp only[execOp,ho,Sem.run_bind,Sem.run_pure,hg,hg2]) h inv
 |makeMap t r=>
  unfold vcOp at h
  simp only[ho]at h
  replace h:=zuz h inv.frame
  obtain⟨g,h,hg⟩:=h
  exact zev (by simp only[execOp,ho,Sem.run_bind,Sem.run_pure,hg]) h inv
 |lookup t l c ok=>
  unfold vcOp at h
  simp only[ho]at h
  replace h:=zap h inv.frame
  obtain⟨g,h,hgw,hg⟩:=h
  replace h:=zap h inv.frame
  obtain⟨g2,h,hgw2,hg2⟩:=h
  exact zev (by simp only[execOp,ho,Sem.run_bind,Sem.run_pure,hg,hg2]) h inv
 |mapUpdate t m k x=>
  unfold vcOp at h
  simp only[ho]at h
  replace h:=zap h inv.frame
  obtain⟨g,h,hgw,hg⟩:=h
  replace h:=zap h inv.frame
  obtain⟨g2,h,hgw2,hg2⟩:=h
  replace h:=zap h inv.frame
  obtain⟨g3,h,hgw3,hg3⟩:=h
  exact runU_wp (by simp only[execOp,ho,Sem.run_bind,Sem.run_pure,hg,hg2,hg3]) h inv
 |makeInterface t x=>
  unfold vcOp at h
  simp only[ho]at h
  replace h:=zap h inv.frame
  obtain⟨g,h,hgw,hg⟩:=h
  exact zev (by simp only[execOp,ho,Sem.run_bind,Sem.run_pure,hg]) h inv
 |range t x=>
  unfold vcOp at h
  simp only[ho]at h
  replace h:=zap h inv.frame
  obtain⟨g,h,hgw,hg⟩:=h
  exact zev (by simp only[execOp,ho,Sem.run_bind,Sem.run_pure,hg]) h inv
 |next x s=>
  unfold vcOp at h
  simp only[ho]at h
  replace h:=zap h inv.frame
  obtain⟨g,h,hgw,hg⟩:=h
  exact zev (by simp only[execOp,ho,Sem.run_bind,Sem.run_pure,hg]) h inv
 |entry x=>
  unfold vcOp at h
  simp only[ho]at h
  replace h:=zap h inv.frame
  obtain⟨g,h,hgw,hg⟩:=h
  exact zev (by simp only[execOp,ho,Sem.run_bind,Sem.run_pure,hg]) h inv
 |convert s d x=>
  unfold vcOp at h
  simp only[ho]at h
  replace h:=zap h inv.frame
  obtain⟨g,h,hgw,hg⟩:=h
  replace h:=zae hT h
  obtain⟨ts',hs,h⟩:=h
  replace h:=zae hT h
  obtain⟨td,hd,h⟩:=h
  obtain⟨ds,is,hds,_⟩:=hs.ex
  have hr:(execOp a.eval o).run P w=((convert s d g.den).run P w).andThen fun v w'=>.ok (.value v) w':=by
   simp only[execOp,ho,Sem.run_bind,Sem.run_pure,hg]
  split at h
  ·rename_i htd
   have hu:=td_int hd htd
   refine ret_wp ?_ h inv (by simp[XV.wf])
   rw[hr]
   simp[convert,Sem.run_bind,run_underlying hds,run_underlying hu,XV.den,Conv.intToInt]
  ·rename_i htd
   have hu:=zfw hd htd
   refine ret_wp ?_ h inv (by simp[XV.wf])
   rw[hr]
   simp only[convert,Sem.run_bind,run_underlying hds,run_underlying hu,XV.den,Result.andThen_ok]
   cases ds<;>simp
  ·exact zev hr h inv
 |_=>refine pure_wp hT ?_ inv; unfold vcOp at h; simp only[ho]at h; simp only[ho]; exact h
end
end Go.Vc

namespace Go.Vc
open Go
def nthDst:List Oper→Nat→Option Nat
 |[],_=>none
 |o::_,0=>o.dst
 |_::os,n+1=>nthDst os n
theorem yfw(ops:List Oper)(j:Nat):nthDst ops j=(ops[j]?).bind (·.dst):=by
 induction ops generalizing j with
 |nil=>rfl
 |cons o ops ih=>cases j<;>simp[nthDst,ih]
def guardK(ops:List Oper)(ts:List XV)(j:Nat)(want:Bool)(yes no:List XV→Prop):Prop:=
 match nthDst ops j with
 |none=>False
 |some d=>getK ts d fun x=>match x with
  | .lit true=>match want with|true=>yes ts|false=>no ts
  | .lit false=>match want with|true=>no ts|false=>yes ts
  | .bool b=>match want with
   |true=>(b=true→setK ts d (.lit true) yes)∧(b=false→setK ts d (.lit false) no)
   |false=>(b=false→setK ts d (.lit false) yes)∧(b=true→setK ts d (.lit true) no)
  | .und=>no ts
  |_=>False
theorem zow{ops:Array Oper}{ts:List XV}{bs:List Nat}{tmps:Array Value}{j:Nat}{want:Bool}{yes no:List XV→Prop}(h:guardK ops.toList ts j want yes no)(hr:Rel bs ts tmps.toList):
  ∃ts',Rel bs ts' tmps.toList∧((yielded ops tmps j=some want∧yes ts')∨(yielded ops tmps j≠some want∧no ts')):=by
 unfold guardK at h
 rw[yfw]at h
 have hy:∀d,(ops[j]?).bind (·.dst)=some d→yielded ops tmps j=match tmps[d]? with|some (.bool b)=>some b|_=>none:=by
  intro d hd
  unfold yielded
  rw[hd]; rfl
 split at h
 ·exact h.elim
 ·rename_i d hd
  have hy:=hy d (by simpa using hd)
  obtain⟨x,h,hxw,hx⟩:=zlt h hr
  have hx':(tmps[d]?).getD undef=x.den:=by simpa using hx
  have keep:∀c:Bool,x.den=.bool c→Rel bs (ts.set d (.lit c)) tmps.toList:=by
   intro c hc
   have h1:=hr.set d (x:=.lit c) (by simp[XV.wf])
   have:tmps.toList.set d (XV.lit c).den=tmps.toList:=by
    have hlt:d<tmps.size:=by
     rcases Nat.lt_or_ge d tmps.size with h'|h'
     ·exact h'
     ·rw[hc]at hx'; simp[Array.getElem?_eq_none h',undef]at hx'
    apply List.ext_getElem?
    intro i
    rw[List.getElem?_set]
    split
    ·rename_i hdi
     subst hdi
     rw[hc]at hx'
     simp[hlt]at hx' ⊢
     rw[hx']; rfl
    ·rfl
   rwa [this]at h1
  have get:∀c:Bool,x.den=.bool c→yielded ops tmps j=some c:=by
   intro c hc
   rw[hy]
   rw[hc]at hx'
   cases hq:tmps[d]? with
   |none=>rw[hq]at hx'; simp[undef]at hx'
   |some v=>rw[hq]at hx'; simp at hx'; subst hx'; rfl
  split at h
  ·have hg:=get true rfl
   cases want
   ·exact⟨ts,hr,.inr ⟨by rw[hg]; simp,h⟩⟩
   ·exact⟨ts,hr,.inl ⟨hg,h⟩⟩
  ·have hg:=get false rfl
   cases want
   ·exact⟨ts,hr,.inl ⟨hg,h⟩⟩
   ·exact⟨ts,hr,.inr ⟨by rw[hg]; simp,h⟩⟩
  ·rename_i b
   have hg:=get b rfl
   cases want<;>simp only[zfb]at h
   ·cases b
    ·exact⟨_,keep false rfl,.inl ⟨hg,h.1 rfl⟩⟩
    ·exact⟨_,keep true rfl,.inr ⟨by rw[hg]; simp,h.2 rfl⟩⟩
   ·cases b
    ·exact⟨_,keep false rfl,.inr ⟨by rw[hg]; simp,h.2 rfl⟩⟩
    ·exact⟨_,keep true rfl,.inl ⟨hg,h.1 rfl⟩⟩
  ·refine⟨ts,hr,.inr ⟨?_,h⟩⟩
   rw[hy]
   simp only[XV.den]at hx'
   cases hq:tmps[d]? with
   |none=>simp
   |some v=>rw[hq]at hx'; simp[undef]at hx'; subst hx'; simp
  ·exact h.elim
def vcList(P:Program)(T:List TI)(ops:List Oper):List Oper→List XV→List Box→World→KT→Prop
 |[],ts,bx,W,K=>K ts bx W
 |o::rest,ts,bx,W,K=>match o.guard with
  |none=>vcOp P T o ts bx W fun ts bx W=>vcList P T ops rest ts bx W K
  |some (j,want)=>guardK ops ts j want
   (fun ts=>vcOp P T o ts bx W fun ts bx W=>vcList P T ops rest ts bx W K)
   (fun ts=>retX o.dst .und ts bx W fun ts bx W=>vcList P T ops rest ts bx W K)
def zbd(wr:List Nat)(a a':Act):Prop:=a'.tmps.size=a.tmps.size∧∀i,i∉wr→a'.tmps[i]?=a.tmps[i]?
theorem zbd.refl(wr:List Nat)(a:Act):zbd wr a a:=⟨rfl,fun _ _=>rfl⟩
theorem zbd.trans{wr:List Nat}{a b c:Act}(h:zbd wr a b)(k:zbd wr b c):zbd wr a c:=⟨k.1.trans h.1,fun i hi=>(k.2 i hi).trans (h.2 i hi)⟩
theorem zbd.mono{wr wr':List Nat}{a b:Act}(h:zbd wr a b)(hs:∀i∈wr,i∈wr'):zbd wr' a b:=⟨h.1,fun i hi=>h.2 i fun hm=>hi (hs i hm)⟩
def dstL(o:Oper):List Nat:=match o.dst with|some d=>[d]|none=>[]
theorem zbd.put(a:Act)(o:Oper)(v:Value):zbd (dstL o) a (a.put o.dst v):=by
 unfold dstL
 cases o.dst with
 |none=>exact zbd.refl _ _
 |some d=>exact⟨by simp[Act.put],fun i hi=>by simp only[List.mem_singleton]at hi; simp[Act.put,Array.getElem?_setIfInBounds_ne (Ne.symm hi)]⟩
theorem wp_out{P:Program}{o:Oper}{a:Act}{w:World}{N:Act→World→Prop}{Q:Exit→Act→World→Prop}(hd:o.wp P a w N Q):o.wp P a w (fun a' w'=>N a' w'∧zbd (dstL o) a a') Q:=by
 unfold Oper.wp at*
 generalize (execOp a.eval o).run P w=r at*
 cases r with
 |ok n w'=>
  cases n<;>simp only[Oper.upon]at hd ⊢
  case value v=>exact⟨hd,zbd.put a o v⟩
  case skip=>exact⟨hd,zbd.put a o _⟩
  case defer d=>exact⟨hd,zbd.put { a with defers:=d::a.defers } o undef⟩
  case enter f args=>
   refine hd.mono fun e w'' he=>?_
   cases e with
   |returned v=>exact⟨he,zbd.put a o v⟩
   |panicked c=>exact he
   |outgrown=>exact he
  case row row args=>exact Rows.mono hd fun v w'' he=>⟨he,zbd.put a o v⟩
 |halt x w'=>
  cases x<;>simp only[Oper.upon]at hd ⊢
  case panic u=>exact hd
theorem yjr{P:Program}{o:Oper}{a:Act}{w:World}{N N':Act→World→Prop}{Q:Exit→Act→World→Prop}(hd:o.wp P a w N Q)(h:∀a w,N a w→N' a w):o.wp P a w N' Q:=Oper.wp_mono h hd
def dsts:List Oper→List Nat
 |[]=>[]
 |o::os=>dstL o++dsts os
theorem zkz{P:Program}{T:List TI}(hT:zba P T){ops:Array Oper}{K:KT}{Q:Exit→Act→World→Prop}:∀(l:List Oper) (ts:List XV) (bx:List Box) (a:Act) (w W:World),
  vcList P T ops.toList l ts bx W K→Inv ts bx a w W→(∀a' w',Post K a' w'→zbd (dsts l) a a'→Q .normal a' w')→wpList P ops Q l a w
 |[],ts,bx,a,w,W,h,inv,hQ=>wpList_nil (hQ a w ⟨ts,bx,W,inv,h⟩ (zbd.refl _ _))
 |o::rest,ts,bx,a,w,W,h,inv,hQ=>by
  have go:∀ts,Rel (blks bx) ts a.tmps.toList→(vcOp P T o ts bx W fun ts bx W=>vcList P T ops.toList rest ts bx W K)→o.wp P a w (wpList P ops Q rest) Q:=by
   intro ts hr h
   have inv':Inv ts bx a w W:=⟨inv.defers,hr,inv.wf,inv.nodup,inv.sync⟩
   have h1:=wp_out (vc_rest (Q:=Q) hT h inv')
   refine yjr h1 fun a' w' ⟨⟨ts',bx',W',inv'',h2⟩,hso⟩=>?_
   refine zkz hT rest ts' bx' a' w' W' h2 inv'' fun a'' w'' hp hso'=>hQ a'' w'' hp ?_
   exact(hso.mono (by intro i hi; simp[dsts,hi])).trans (hso'.mono (by intro i hi; simp[dsts,hi]))
  unfold vcList at h
  split at h
  ·rename_i hg
   unfold wpList
   rw[if_pos (by simp[Region.wanted,hg])]
   exact .inl (go ts inv.frame h)
  ·rename_i j want hg
   obtain⟨ts',hr,hc⟩:=zow h inv.frame
   unfold wpList
   have hw:Region.wanted o (yielded ops a.tmps)=(yielded ops a.tmps j==some want):=by simp[Region.wanted,hg]
   rcases hc with ⟨hy,hc⟩|⟨hy,hc⟩
   ·rw[if_pos (by rw[hw,hy]; simp)]
    exact .inl (go ts' hr hc)
   ·rw[if_neg (by rw[hw]; simpa using hy)]
    have inv':Inv ts' bx a w W:=⟨inv.defers,hr,inv.wf,inv.nodup,inv.sync⟩
    obtain⟨ts'',bx',W',inv'',h2⟩:=zfi hc inv' (x:=.und) (by simp[XV.wf])
    refine zkz hT rest ts'' bx' _ w W' h2 inv'' fun a'' w'' hp hso'=>hQ a'' w'' hp ?_
    exact((zbd.put a o undef).mono (by intro i hi; simp[dsts,hi])).trans (hso'.mono (by intro i hi; simp[dsts,hi]))
abbrev QX:=Exit→KT
structure LoopAnn where
 X:Type
 slots:List Nat
 vals:X→List XV
 boxes:List Nat
 cells:X→List (List XV)
 inv:X→World→Prop
 μ:X→Nat
abbrev Anns:=List (Nat×List Nat×LoopAnn)
def subB(xs ys:List Nat):Bool:=xs.all fun x=>ys.contains x
def annK:Anns→Nat→List Nat→(List Nat→LoopAnn→Prop)→Prop
 |[],_,ws,K=>∃wr l,subB ws wr=true∧K wr l
 |(k,wr,l)::as,n,ws,K=>match Nat.beq k n with|true=>K wr l|false=>annK as n ws K
theorem annK_spec{as:Anns}{n:Nat}{ws:List Nat}{K:List Nat→LoopAnn→Prop}(h:annK as n ws K):∃wr l,((n,wr,l)∈as∨subB ws wr=true)∧K wr l:=by
 induction as with
 |nil=>obtain⟨wr,l,h1,h2⟩:=h; exact⟨wr,l,.inr h1,h2⟩
 |cons x as ih=>
  obtain⟨k,wr,l⟩:=x
  simp only[annK]at h
  split at h
  ·rename_i hk; exact⟨wr,l,.inl (by rw[Nat.eq_of_beq_eq_true hk]; simp),h⟩
  ·obtain⟨wr',l',h1,h2⟩:=ih h; exact⟨wr',l',h1.imp (by intro h1; simp[h1]) id,h2⟩
def junkK:List XV→Nat→List Nat→(List XV→Prop)→Prop
 |[],_,[],K=>K []
 |[],_,_::_,_=>False
 |x::xs,i,[],K=>junkK xs i [] fun l=>K (x::l)
 |x::xs,i,j::js,K=>match Nat.beq i j with
  |true=>junkK xs (i+1) js fun l=>K (.junk::l)
  |false=>junkK xs (i+1) (j::js) fun l=>K (x::l)
def setsK:List XV→List Nat→List XV→(List XV→Prop)→Prop
 |ts,[],[],K=>K ts
 |ts,s::ss,v::vs,K=>setK ts s v fun ts=>setsK ts ss vs K
 |_,_,_,_=>False
def zdg:List Box→List Nat→List (List XV)→(List Box→Prop)→Prop
 |bx,[],[],K=>K bx
 |bx,i::is,c::cs,K=>zsc bx i c fun bx=>zdg bx is cs K
 |_,_,_,_=>False
def eqSl(ts:List XV):List Nat→List XV→Prop→Prop
 |[],[],K=>K
 |s::ss,v::vs,K=>getK ts s fun x=>x=v∧eqSl ts ss vs K
 |_,_,_=>False
def eqBx:List Box→List Box→Prop→Prop
 |_,[],K=>K
 |x::xs,y::ys,K=>x=y∧eqBx xs ys K
 |[],_::_,_=>False
def zdr:Code→Nat
 | .region id _ _=>id
 | .seq a _=>zdr a
 | .block _ b=>zdr b
 | .loop b=>zdr b
 | .scope b=>zdr b
 | .cond c _ _=>match c with
  | .tmp t=>t+500000
  |_=>0
 |_=>0
def writes:Code→List Nat
 | .region _ ops _=>dsts ops.toList
 | .seq a b=>writes a++writes b
 | .cond _ a b=>writes a++writes b
 | .block _ b=>writes b
 | .loop b=>writes b
 | .scope b=>writes b
 |_=>[]
def zcx(A:Anns):Code→Bool
 | .seq a b=>zcx A a&&zcx A b
 | .cond _ a b=>zcx A a&&zcx A b
 | .block _ b=>zcx A b
 | .scope b=>zcx A b
 | .loop b=>zcx A b&&A.all fun x=>!(x.1==zdr b)||(subB (writes b) x.2.1)
 |_=>true
def wfLL (bs : List Nat) : List (List XV) → Prop
  | [] => True
  | x :: xs => wfL bs x ∧ wfLL bs xs
theorem ybj {bs : List Nat} {xs : List (List XV)} (h : wfLL bs xs) : ∀ x ∈ xs, wfL bs x := by
  induction xs with
  | nil => simp
  | cons x xs ih =>
    intro y hy
    rcases List.mem_cons.1 hy with rfl | hy
    · exact h.1
    · exact ih h.2 y hy
abbrev DrawK := Nat → Array Oper → List XV → List Box → World → KT → Prop
def cutAt : Anns → Nat → Bool
  | [], _ => false
  | (k, _, _) :: as, n => match Nat.beq k (n + 1000000) with | true => true | false => cutAt as n
def noAnn : LoopAnn := ⟨Unit, [], fun _ => [], [], fun _ => [], fun _ _ => True, fun _ => 0⟩
def cuts : List Nat → Anns
  | [] => []
  | k :: ks => (k + 1000000, [], noAnn) :: cuts ks
def appN {α : Type} : List α → List α → List α
  | [], ys => ys
  | x :: xs, ys => x :: appN xs ys
theorem yel {α : Type} (xs ys : List α) : appN xs ys = xs ++ ys := by induction xs <;> simp_all [appN]
def cellsB : List Box → List (List XV)
  | [] => []
  | x :: xs => x.cells :: cellsB xs
theorem mem_cellsB {bx : List Box} {x : Box} (h : x ∈ bx) : x.cells ∈ cellsB bx := by
  induction bx with
  | nil => cases h
  | cons y bx ih =>
    rcases List.mem_cons.1 h with rfl | h
    · exact List.mem_cons_self
    · exact List.mem_cons_of_mem _ (ih h)
def appsK : List Box → List Box → (List Box → Prop) → Prop
  | [], ys, K => K ys
  | x :: xs, ys, K => appsK xs ys fun l => K (x :: l)
theorem zrn (xs ys : List Box) (K : List Box → Prop) : appsK xs ys K ↔ K (xs ++ ys) := by
  induction xs generalizing K with
  | nil => simp [appsK]
  | cons x xs ih => simp [appsK, ih]
def vc (P : Program) (T : List TI) (A : Anns) (D : DrawK) : Code → QX → List XV → List Box → World → Prop
  | .skip, Q, ts, bx, W => Q .normal ts bx W
  | .label _, Q, ts, bx, W => Q .normal ts bx W
  | .exit id, Q, ts, bx, W => Q (.exit id) ts bx W
  | .ret, Q, ts, bx, W => Q .ret ts bx W
  | .seq x y, Q, ts, bx, W => match cutAt A (zdr y) with
    | false => vc P T A D x (fun e ts bx W => match e with
      | .normal => vc P T A D y Q ts bx W
      | .exit i => Q (.exit i) ts bx W
      | .ret => Q .ret ts bx W
      | _ => False) ts bx W
    | true => ∃ (wr : List Nat) (l : LoopAnn) (nb : l.X → List Box), subB (writes x) wr = true ∧ (∀ z, wfLL (appN (blks bx) (blks (nb z))) (l.vals z :: appN (l.cells z) (cellsB (nb z)))) ∧
      vc P T A D x (fun e ts' bx' W' => match e with
        | .normal => ∀ w, Sync bx' W' w → ∃ z, eqSl ts' l.slots (l.vals z) (zdg bx l.boxes (l.cells z) fun hb => appsK hb (nb z) fun hb => eqBx bx' hb (l.inv z w))
        | .exit i => Q (.exit i) ts' bx' W'
        | .ret => Q .ret ts' bx' W'
        | _ => False) ts bx W ∧
      ∀ z w0, l.inv z w0 → junkK ts 0 wr fun ts => setsK ts l.slots (l.vals z) fun ts => zdg bx l.boxes (l.cells z) fun hb => appsK hb (nb z) fun hb => vc P T A D y Q ts hb w0
  | .cond c x y, Q, ts, bx, W => opK ts c fun c => match c with
    | .lit true => vc P T A D x Q ts bx W
    | .lit false => vc P T A D y Q ts bx W
    | .bool b => (b = true → vc P T A D x Q ts bx W) ∧ (b = false → vc P T A D y Q ts bx W)
    | _ => False
  | .block id x, Q, ts, bx, W => vc P T A D x (fun e ts bx W => match e with
    | .normal => Q .normal ts bx W
    | .exit i => match Nat.beq i id with | true => Q .normal ts bx W | false => Q (.exit i) ts bx W
    | .ret => Q .ret ts bx W
    | _ => False) ts bx W
  | .scope x, Q, ts, bx, W => vc P T A D x Q ts bx W
  | .region id ops draw, Q, ts, bx, W => match draw with
    | false => vcList P T ops.toList ops.toList ts bx W (Q .normal)
    | true => D id ops ts bx W (Q .normal)
  | .loop x, Q, ts, bx, W => annK A (zdr x) (writes x) fun wr l =>
    (∀ x, wfLL (blks bx) (l.vals x :: l.cells x)) ∧ (∀ w, Sync bx W w → ∃ x0, eqSl ts l.slots (l.vals x0) (zdg bx l.boxes (l.cells x0) fun hb => eqBx bx hb (l.inv x0 w))) ∧
    ∀ x0 w0, l.inv x0 w0 → junkK ts 0 wr fun ts => setsK ts l.slots (l.vals x0) fun ts => zdg bx l.boxes (l.cells x0) fun hb =>
      vc P T A D x (fun e ts' bx' W' => match e with
        | .normal => ∀ w, Sync bx' W' w → ∃ x1, eqSl ts' l.slots (l.vals x1) (zdg bx l.boxes (l.cells x1) fun hb => eqBx bx' hb (l.inv x1 w ∧ l.μ x1 < l.μ x0))
        | .exit i => Q (.exit i) ts' bx' W'
        | .ret => Q .ret ts' bx' W'
        | _ => False) ts hb w0
  | _, _, _, _, _ => False
def QPost (wr : List Nat) (a : Act) (Q : QX) : Exit → Act → World → Prop
  | .normal, a', w' => Post (Q .normal) a' w' ∧ zbd wr a a'
  | .exit i, a', w' => Post (Q (.exit i)) a' w' ∧ zbd wr a a'
  | .ret, a', w' => Post (Q .ret) a' w' ∧ zbd wr a a'
  | _, _, _ => False
theorem QPost.mono {wr wr' : List Nat} {a b : Act} {Q : QX} {e : Exit} {a' : Act} {w' : World} (h : QPost wr b Q e a' w') (hs : ∀ i ∈ wr, i ∈ wr') (hab : zbd wr' a b) : QPost wr' a Q e a' w' := by
  cases e <;> simp only [QPost] at * <;> first | exact h.elim | exact ⟨h.1, hab.trans (h.2.mono hs)⟩
def DrawOk (P : Program) (D : DrawK) : Prop :=
  ∀ (id : Nat) (ops : Array Oper) (ts : List XV) (bx : List Box) (a : Act) (w W : World) (K : KT), D id ops ts bx W K → Inv ts bx a w W →
    (Code.region id ops true).wp P (fun e a' w' => match e with | .normal => Post K a' w' ∧ zbd (dsts ops.toList) a a' | _ => False) a w
theorem zyv {bs : List Nat} : {xs : List XV} → {vs : List Value} → (Rel bs xs vs ↔ xs.length = vs.length ∧ ∀ (k : Nat) (x : XV), xs[k]? = some x → x = .junk ∨ (vs[k]? = some x.den ∧ x.wf bs))
  | [], [] => by simp [Rel]
  | [], _ :: _ => by simp [Rel]
  | _ :: _, [] => by simp [Rel]
  | x :: xs, v :: vs => by
    simp only [Rel, zyv (xs := xs) (vs := vs), List.length_cons, Nat.add_right_cancel_iff]
    constructor
    · rintro ⟨h0, hl, h⟩
      refine ⟨hl, fun k y hy => ?_⟩
      cases k with
      | zero => simp at hy; subst hy; simpa using h0
      | succ k => simpa using h k y (by simpa using hy)
    · rintro ⟨hl, h⟩
      exact ⟨by simpa using h 0 x (by simp), hl, fun k y hy => by simpa using h (k + 1) y (by simpa using hy)⟩
theorem zey : ∀ (ts : List XV) (i : Nat) (wr : List Nat) (K : List XV → Prop), junkK ts i wr K →
    ∃ l, K l ∧ l.length = ts.length ∧ ∀ (k : Nat) (x : XV), l[k]? = some x → x = .junk ∨ (ts[k]? = some x ∧ i + k ∉ wr)
  | [], i, [], K, h => ⟨[], h, rfl, by simp⟩
  | [], i, _ :: _, K, h => h.elim
  | x :: xs, i, [], K, h => by
    obtain ⟨l, h1, h2, h3⟩ := zey xs i [] _ h
    refine ⟨x :: l, h1, by simp [h2], fun k y hy => ?_⟩
    cases k with
    | zero => simp at hy; subst hy; exact .inr ⟨by simp, by simp⟩
    | succ k => rcases h3 k y (by simpa using hy) with h | h
                · exact .inl h
                · exact .inr ⟨by simpa using h.1, by simp⟩
  | x :: xs, i, j :: js, K, h => by
    simp only [junkK] at h
    split at h
    · rename_i hij
      have hij := Nat.eq_of_beq_eq_true hij
      subst hij
      obtain ⟨l, h1, h2, h3⟩ := zey xs (i + 1) js _ h
      refine ⟨.junk :: l, h1, by simp [h2], fun k y hy => ?_⟩
      cases k with
      | zero => simp at hy; exact .inl hy.symm
      | succ k => rcases h3 k y (by simpa using hy) with h | h
                  · exact .inl h
                  · refine .inr ⟨by simpa using h.1, ?_⟩
                    have := h.2
                    simp only [List.mem_cons, not_or]
                    exact ⟨by omega, by rwa [show i + (k + 1) = i + 1 + k by omega]⟩
    · rename_i hij
      have hij := Nat.ne_of_beq_eq_false hij
      obtain ⟨l, h1, h2, h3⟩ := zey xs (i + 1) (j :: js) _ h
      refine ⟨x :: l, h1, by simp [h2], fun k y hy => ?_⟩
      cases k with
      | zero =>
        simp at hy; subst hy
        refine .inr ⟨by simp, ?_⟩
        have key : ∀ (ts : List XV) (i : Nat) (wr : List Nat) (K : List XV → Prop), junkK ts i wr K → wr = [] ∨ ∀ m ∈ wr, i ≤ m := by
          intro ts
          induction ts with
          | nil => intro i wr K h; cases wr with
            | nil => exact .inl rfl
            | cons _ _ => exact h.elim
          | cons t ts ih =>
            intro i wr K h
            cases wr with
            | nil => exact .inl rfl
            | cons n ns =>
              refine .inr ?_
              simp only [junkK] at h
              split at h
              · rename_i hn
                have hn := Nat.eq_of_beq_eq_true hn
                subst hn
                intro m hm
                rcases List.mem_cons.1 hm with rfl | hm
                · exact Nat.le_refl _
                · rcases ih _ _ _ h with h' | h'
                  · subst h'; cases hm
                  · have := h' m hm; omega
              · intro m hm
                rcases ih _ _ _ h with h' | h'
                · cases h'
                · have := h' m hm; omega
        rcases key _ _ _ _ h with h' | h'
        · cases h'
        · intro hm; have := h' _ hm; omega
      | succ k => rcases h3 k y (by simpa using hy) with h | h
                  · exact .inl h
                  · exact .inr ⟨by simpa using h.1, by rw [show i + (k + 1) = i + 1 + k by omega]; exact h.2⟩
def setsL : List XV → List Nat → List XV → List XV
  | ts, s :: ss, v :: vs => setsL (ts.set s v) ss vs
  | ts, _, _ => ts
theorem zsb : ∀ (ss : List Nat) (vs : List XV) (ts : List XV) (K : List XV → Prop), setsK ts ss vs K → K (setsL ts ss vs)
  | [], [], ts, K, h => h
  | s :: ss, v :: vs, ts, K, h => by
    simp only [setsK, zfb] at h
    exact zsb ss vs _ K h
  | [], _ :: _, _, _, h => h.elim
  | _ :: _, [], _, _, h => h.elim
def zbw : List Box → List Nat → List (List XV) → List Box
  | bx, i :: is, c :: cs => zbw (setBox bx i c) is cs
  | bx, _, _ => bx
theorem zcw : ∀ (is : List Nat) (cs : List (List XV)) (bx : List Box) (K : List Box → Prop), zdg bx is cs K → K (zbw bx is cs)
  | [], [], bx, K, h => h
  | i :: is, c :: cs, bx, K, h => by
    simp only [zdg, zil] at h
    exact zcw is cs _ K h
  | [], _ :: _, _, _, h => h.elim
  | _ :: _, [], _, _, h => h.elim
theorem zhd : ∀ (is : List Nat) (cs : List (List XV)) (bx : List Box), blks (zbw bx is cs) = blks bx
  | i :: is, c :: cs, bx => by simp only [zbw]; rw [zhd is cs, zgc]
  | [], _, bx => by cases bx <;> rfl
  | _ :: _, [], bx => by simp [zbw]
theorem zrb {bs : List Nat} {vs : List Value} : ∀ (ss : List Nat) (ys : List XV) (ts : List XV) (K : Prop), eqSl ts ss ys K → Rel bs ts vs →
    K ∧ ∀ bs2 l, wfL bs2 ys → Rel bs2 l vs → Rel bs2 (setsL l ss ys) vs
  | [], [], ts, K, h, _ => ⟨h, fun bs2 l _ hl => hl⟩
  | s :: ss, y :: ys, ts, K, h, hr => by
    obtain ⟨x, hx1, hw, hx⟩ := zlt h hr
    obtain ⟨rfl, h'⟩ := hx1
    obtain ⟨h1, h2⟩ := zrb ss ys ts K h' hr
    refine ⟨h1, fun bs2 l hw2 hl => h2 bs2 _ hw2.2 ?_⟩
    have h3 := hl.set s hw2.1
    have : vs.set s x.den = vs := by
      apply List.ext_getElem?
      intro i
      rw [List.getElem?_set]
      split
      · rename_i hs
        subst hs
        split
        · rename_i hlt; rw [← hx]; simp [hlt]
        · rename_i hlt; simp [Nat.le_of_not_lt hlt]
      · rfl
    rwa [this] at h3
  | [], _ :: _, _, _, h, _ => h.elim
  | _ :: _, [], _, _, h, _ => h.elim
theorem zrc : ∀ (hb bx : List Box) (K : Prop), eqBx bx hb K → K ∧ ∃ ex, bx = hb ++ ex
  | [], bx, K, h => by cases bx <;> exact ⟨h, _, rfl⟩
  | y :: ys, x :: xs, K, h => by
    obtain ⟨rfl, h⟩ := h
    obtain ⟨h1, ex, rfl⟩ := zrc ys xs K h
    exact ⟨h1, ex, rfl⟩
  | _ :: _, [], _, h => h.elim
def junkL : List XV → Nat → List Nat → List XV
  | [], _, _ => []
  | x :: xs, i, [] => x :: junkL xs i []
  | x :: xs, i, j :: js => match Nat.beq i j with
    | true => .junk :: junkL xs (i + 1) js
    | false => x :: junkL xs (i + 1) (j :: js)
theorem zjx : ∀ (ts : List XV) (i : Nat) (wr : List Nat) (K : List XV → Prop), junkK ts i wr K → junkK ts i wr fun l => K l ∧ l = junkL ts i wr
  | [], i, [], K, h => ⟨h, rfl⟩
  | [], i, _ :: _, K, h => h.elim
  | x :: xs, i, [], K, h => by
    have := zjx xs i [] _ h
    simp only [junkK, junkL]
    refine Eq.mp ?_ this
    congr 1; funext l; simp
  | x :: xs, i, j :: js, K, h => by
    simp only [junkK, junkL] at *
    split at h
    · rename_i hb
      have := zjx xs (i + 1) js _ h
      try simp only []
      refine Eq.mp ?_ this
      congr 1; funext l; simp
    · rename_i hb
      have := zjx xs (i + 1) (j :: js) _ h
      try simp only []
      refine Eq.mp ?_ this
      congr 1; funext l; simp
theorem zjq : ∀ (is : List Nat) (cs : List (List XV)) (bx : List Box) (y : Box), y ∈ zbw bx is cs → y.cells ∈ cs ∨ y ∈ bx
  | [], cs, bx, y, h => by cases cs <;> exact .inr (by simpa [zbw] using h)
  | i :: is, [], bx, y, h => .inr (by simpa [zbw] using h)
  | i :: is, c :: cs, bx, y, h => by
    simp only [zbw] at h
    rcases zjq is cs _ y h with h | h
    · exact .inl (by simp [h])
    · rcases zsp h with ⟨u, hu, rfl⟩ | ⟨hy, _⟩
      · exact .inl (by simp)
      · exact .inr hy
theorem zwi {xs ys : List Nat} (h : subB xs ys = true) : ∀ i ∈ xs, i ∈ ys := by
  intro i hi
  have := List.all_eq_true.1 h i hi
  simpa using this
theorem Inv.dropEx {ts l : List XV} {hb ex : List Box} {a : Act} {w W : World} (inv : Inv ts (hb ++ ex) a w W) (hr : Rel (blks hb) l a.tmps.toList) (hw : ∀ x ∈ hb, wfL (blks hb) x.cells) : Inv l hb a w w := by
  refine ⟨inv.defers, hr, hw, ?_, ⟨rfl, rfl, rfl, Nat.le_refl _, fun _ _ _ => rfl, fun x hx => inv.sync.own x (by simp [hx])⟩⟩
  have := inv.nodup
  simp only [blks, List.map_append, List.nodup_append] at this
  exact this.1
theorem Rel_more {bs : List Nat} {xs : List XV} {vs : List Value} (l : List Nat) (h : Rel bs xs vs) : Rel (bs ++ l) xs vs := by
  induction l generalizing bs with
  | nil => simpa using h
  | cons b l ih => have := ih (h.mono b); simpa using this
theorem wfL_more {bs : List Nat} {xs : List XV} (l : List Nat) (h : wfL bs xs) : wfL (bs ++ l) xs := by
  induction l generalizing bs with
  | nil => simpa using h
  | cons b l ih => have := ih (zih bs b xs h); simpa using this
theorem yjs {P : Program} {T : List TI} {A : Anns} {D : DrawK} (hT : zba P T) (hD : DrawOk P D) : ∀ (c : Code), zcx A c = true → ∀ (Q : QX) (ts : List XV) (bx : List Box) (a : Act) (w W : World),
    vc P T A D c Q ts bx W → Inv ts bx a w W → c.wp P (QPost (writes c) a Q) a w := by
  intro c
  induction c with
  | skip => intro _ Q ts bx a w W h inv; exact wp_skip ⟨⟨ts, bx, W, inv, h⟩, zbd.refl _ _⟩
  | label l => intro _ Q ts bx a w W h inv; exact wp_label ⟨⟨ts, bx, W, inv, h⟩, zbd.refl _ _⟩
  | exit id => intro _ Q ts bx a w W h inv; exact wp_exit ⟨⟨ts, bx, W, inv, h⟩, zbd.refl _ _⟩
  | ret => intro _ Q ts bx a w W h inv; exact wp_ret ⟨⟨ts, bx, W, inv, h⟩, zbd.refl _ _⟩
  | seq x y ihx ihy =>
    intro hl Q ts bx a w W h inv
    simp only [zcx, Bool.and_eq_true] at hl
    have hs1 : ∀ i ∈ writes x, i ∈ writes (.seq x y) := fun i hi => by simp [writes, hi]
    have hs2 : ∀ i ∈ writes y, i ∈ writes (.seq x y) := fun i hi => by simp [writes, hi]
    unfold vc at h
    split at h
    · refine wp_seq (wp_mono (ihx hl.1 _ ts bx a w W h inv) fun e a' w' hq => ?_)
      cases e with
      | normal =>
        obtain ⟨⟨ts', bx', W', inv', h'⟩, hso⟩ := hq
        exact wp_mono (ihy hl.2 Q ts' bx' a' w' W' h' inv') fun e a'' w'' hq' => hq'.mono hs2 (hso.mono hs1)
      | exit i => exact ⟨hq.1, hq.2.mono hs1⟩
      | ret => exact ⟨hq.1, hq.2.mono hs1⟩
      | _ => exact hq.elim
    · obtain ⟨wr, l, nb, hsub, hwf, hx, hy⟩ := h
      have hsub := zwi hsub
      refine wp_seq (wp_mono (ihx hl.1 _ ts bx a w W hx inv) fun e a' w' hq => ?_)
      cases e with
      | normal =>
        obtain ⟨⟨ts', bx', W', inv2, h2⟩, hso⟩ := hq
        obtain ⟨z, h2⟩ := h2 w' inv2.sync
        obtain ⟨h2, hset⟩ := zrb _ _ _ _ h2 inv2.frame
        replace h2 := zcw _ _ _ _ h2
        rw [zrn] at h2
        obtain ⟨hinv, ex, hex⟩ := zrc _ _ _ h2
        have hy1 := hy z w' hinv
        have hwz := hwf z
        rw [yel, yel] at hwz
        have hbb : blks (zbw bx l.boxes (l.cells z)) = blks bx := zhd _ _ _
        have hbn : blks (zbw bx l.boxes (l.cells z) ++ nb z) = blks bx ++ blks (nb z) := by
          rw [← hbb]; simp [blks]
        have hj : Rel (blks bx) (junkL ts 0 wr) a'.tmps.toList := by
          obtain ⟨l', ⟨_, rfl⟩, hlen, hall⟩ := zey ts 0 wr _ (zjx ts 0 wr _ hy1)
          have hr := zyv.1 inv.frame
          rw [zyv]
          refine ⟨by rw [hlen, hr.1]; simp [hso.1], fun k y hy => ?_⟩
          rcases hall k y hy with h' | ⟨h1, h2⟩
          · exact .inl h'
          · rcases hr.2 k y h1 with h' | ⟨h3, h4⟩
            · exact .inl h'
            · refine .inr ⟨?_, h4⟩
              have := hso.2 k (fun hm => h2 (by simpa using hsub k hm))
              simp only [Array.getElem?_toList] at h3 ⊢
              rw [this]; exact h3
        have hfr := hset (blks bx ++ blks (nb z)) _ hwz.1 (Rel_more (blks (nb z)) hj)
        have inv3 : Inv (setsL (junkL ts 0 wr) l.slots (l.vals z)) (zbw bx l.boxes (l.cells z) ++ nb z) a' w' w' := by
          refine Inv.dropEx (ts := ts') (ex := ex) (W := W') (by rw [← hex]; exact inv2) (by rw [hbn]; exact hfr) fun y hy => ?_
          rw [hbn]
          rcases List.mem_append.1 hy with hy | hy
          · rcases zjq _ _ _ _ hy with h' | h'
            · exact ybj hwz.2 _ (List.mem_append.2 (.inl h'))
            · exact wfL_more (blks (nb z)) (inv.wf y h')
          · exact ybj hwz.2 _ (List.mem_append.2 (.inr (mem_cellsB hy)))
        obtain ⟨l', ⟨hy1, rfl⟩, _, _⟩ := zey ts 0 wr _ (zjx ts 0 wr _ hy1)
        replace hy1 := zsb _ _ _ _ hy1
        replace hy1 := zcw _ _ _ _ hy1
        rw [zrn] at hy1
        exact wp_mono (ihy hl.2 Q _ _ a' w' w' hy1 inv3) fun e a'' w'' hq' => hq'.mono hs2 (hso.mono hs1)
      | exit i => exact ⟨hq.1, hq.2.mono hs1⟩
      | ret => exact ⟨hq.1, hq.2.mono hs1⟩
      | _ => exact hq.elim
  | cond c x y ihx ihy =>
    intro hl Q ts bx a w W h inv
    simp only [zcx, Bool.and_eq_true] at hl
    unfold vc at h
    replace h := zap h inv.frame
    obtain ⟨g, h, _, hg⟩ := h
    have hs1 : ∀ i ∈ writes x, i ∈ writes (.cond c x y) := fun i hi => by simp [writes, hi]
    have hs2 : ∀ i ∈ writes y, i ∈ writes (.cond c x y) := fun i hi => by simp [writes, hi]
    have gx : vc P T A D x Q ts bx W → x.wp P (QPost (writes (.cond c x y)) a Q) a w := fun h => wp_mono (ihx hl.1 Q ts bx a w W h inv) fun e a' w' hq => hq.mono hs1 (zbd.refl _ _)
    have gy : vc P T A D y Q ts bx W → y.wp P (QPost (writes (.cond c x y)) a Q) a w := fun h => wp_mono (ihy hl.2 Q ts bx a w W h inv) fun e a' w' hq => hq.mono hs2 (zbd.refl _ _)
    split at h
    · exact wp_cond_true (by rw [hg]; rfl) (gx h)
    · exact wp_cond_false (by rw [hg]; rfl) (gy h)
    · exact wp_cond_split (by rw [hg]; rfl) (fun hb => gx (h.1 hb)) (fun hb => gy (h.2 hb))
    · exact h.elim
  | block id x ih =>
    intro hl Q ts bx a w W h inv
    refine wp_block (wp_mono (ih hl _ ts bx a w W h inv) fun e a' w' hq => ?_)
    cases e with
    | normal => exact hq
    | exit i =>
      obtain ⟨⟨ts', bx', W', inv', h'⟩, hso⟩ := hq
      simp only [Exit.inBlock]
      dsimp only at h'
      cases hb : Nat.beq i id with
      | true =>
        rw [hb] at h'
        rw [if_pos (Nat.eq_of_beq_eq_true hb)]
        exact ⟨⟨ts', bx', W', inv', h'⟩, hso⟩
      | false =>
        rw [hb] at h'
        rw [if_neg (Nat.ne_of_beq_eq_false hb)]
        exact ⟨⟨ts', bx', W', inv', h'⟩, hso⟩
    | ret => exact hq
    | _ => exact hq.elim
  | scope x ih =>
    intro hl Q ts bx a w W h inv
    refine wp_scope_straight (wp_mono (ih hl _ ts bx a w W h inv) fun e a' w' hq => ?_)
    cases e with
    | goto l => exact hq.elim
    | _ => exact hq
  | region id ops draw =>
    intro _ Q ts bx a w W h inv
    unfold vc at h
    cases draw with
    | false => exact wp_region_list (zkz hT _ ts bx a w W h inv fun a' w' hp hso => ⟨hp, hso⟩)
    | true =>
      refine wp_mono (hD id ops ts bx a w W _ h inv) fun e a' w' hq => ?_
      cases e <;> first | exact hq | exact hq.elim
  | loop body ih =>
    intro hl Q ts bx a w W h inv
    simp only [zcx, Bool.and_eq_true] at hl
    unfold vc at h
    obtain ⟨wr, l, hmem, hwf, hstart, hround⟩ := annK_spec h
    have hsub : ∀ i ∈ writes body, i ∈ wr := by
      rcases hmem with hmem | hmem
      · have := List.all_eq_true.1 hl.2 _ hmem
        simp only [beq_self_eq_true, Bool.not_true, Bool.false_or] at this
        exact zwi this
      · exact zwi hmem
    have hwfv : ∀ x, wfL (blks bx) (l.vals x) := fun x => (hwf x).1
    have hwfc : ∀ x, ∀ c ∈ l.cells x, wfL (blks bx) c := fun x => ybj (hwf x).2
    let hd (x : l.X) : List XV := setsL (junkL ts 0 wr) l.slots (l.vals x)
    let hb (x : l.X) : List Box := zbw bx l.boxes (l.cells x)
    have hbb : ∀ x, blks (hb x) = blks bx := fun x => zhd _ _ _
    have hbw : ∀ x, ∀ y ∈ hb x, wfL (blks (hb x)) y.cells := by
      intro x y hy
      rw [hbb]
      rcases zjq _ _ _ _ hy with h' | h'
      · exact hwfc x _ h'
      · exact inv.wf y h'
    obtain ⟨x0, h0⟩ := hstart w inv.sync
    obtain ⟨h0, hset0⟩ := zrb _ _ _ _ h0 inv.frame
    replace h0 := zcw _ _ _ _ h0
    obtain ⟨hinv0, ex0, hex0⟩ := zrc _ _ _ h0
    have hjunk : ∀ a' : Act, zbd wr a a' → (∀ K, junkK ts 0 wr K → Rel (blks bx) (junkL ts 0 wr) a'.tmps.toList) := by
      intro a' hso K hK
      obtain ⟨l', ⟨_, rfl⟩, hlen, hall⟩ := zey ts 0 wr _ (zjx ts 0 wr K hK)
      have hr := zyv.1 inv.frame
      rw [zyv]
      refine ⟨by rw [hlen, hr.1]; simp [hso.1], fun k y hy => ?_⟩
      rcases hall k y hy with h' | ⟨h1, h2⟩
      · exact .inl h'
      · rcases hr.2 k y h1 with h' | ⟨h3, h4⟩
        · exact .inl h'
        · refine .inr ⟨?_, h4⟩
          have := hso.2 k (by simpa using h2)
          simp only [Array.getElem?_toList] at h3 ⊢
          rw [this]; exact h3
    refine wp_loop_ghost (fun n a' w' => ∃ x, l.μ x = n ∧ l.inv x w' ∧ zbd (writes body) a a' ∧ Inv (hd x) (hb x) a' w' w') (l.μ x0) ⟨x0, rfl, hinv0, zbd.refl _ _, ?_⟩ ?_
    · have hj := hjunk a (zbd.refl _ _) _ (hround x0 w hinv0)
      have hfr := hset0 (blks bx) _ (hwfv x0) hj
      have inv' : Inv ts (hb x0 ++ ex0) a w W := by
        have : bx = hb x0 ++ ex0 := hex0
        rw [← this]; exact inv
      exact inv'.dropEx (by rw [hbb]; exact hfr) (hbw x0)
    · rintro n a1 w1 ⟨x1, rfl, hi1, hso1, inv1⟩
      have hr1 := hround x1 w1 hi1
      obtain ⟨l', ⟨hr1, rfl⟩, _, _⟩ := zey ts 0 wr _ (zjx ts 0 wr _ hr1)
      replace hr1 := zsb _ _ _ _ hr1
      replace hr1 := zcw _ _ _ _ hr1
      refine wp_mono (ih hl.1 _ _ _ a1 w1 w1 hr1 inv1) fun e a2 w2 hq => ?_
      cases e with
      | normal =>
        obtain ⟨⟨ts', bx', W', inv2, h2⟩, hso2⟩ := hq
        obtain ⟨x2, h2⟩ := h2 w2 inv2.sync
        obtain ⟨h2, hset2⟩ := zrb _ _ _ _ h2 inv2.frame
        replace h2 := zcw _ _ _ _ h2
        obtain ⟨⟨hinv2, hlt⟩, ex2, hex2⟩ := zrc _ _ _ h2
        have hso := hso1.trans hso2
        refine ⟨l.μ x2, hlt, x2, rfl, hinv2, hso, ?_⟩
        have hj := hjunk a2 (hso.mono hsub) _ (hround x0 w hinv0)
        have hfr := hset2 (blks bx) _ (hwfv x2) hj
        have inv' : Inv ts' (hb x2 ++ ex2) a2 w2 W' := by
          have : bx' = hb x2 ++ ex2 := hex2
          rw [← this]; exact inv2
        exact inv'.dropEx (by rw [hbb]; exact hfr) (hbw x2)
      | exit i => exact ⟨hq.1, hso1.trans hq.2⟩
      | ret => exact ⟨hq.1, hso1.trans hq.2⟩
      | _ => exact hq.elim
  | _ => intro _ Q ts bx a w W h inv; exact h.elim
def resK(T:List TI):List ResultVar→List XV→List Box→World→(List XV→Prop)→Prop
 |[],_,_,_,K=>K []
 | .tmp t::rs,ts,bx,W,K=>getK ts t fun x=>resK T rs ts bx W fun xs=>K (x::xs)
 | .cell c t::rs,ts,bx,W,K=>getK ts c fun A=>loadX T t A bx W fun x=>resK T rs ts bx W fun xs=>K (x::xs)
def oneRes(xs:List XV):XV:=match xs with|[x]=>x|xs=>.tup xs
def retQ(T:List TI)(rs:List ResultVar)(R:Value→World→Prop):QX:=fun e ts bx W=>
 match e with
 | .normal=>resK T rs ts bx W fun xs=>∀w,Sync bx W w→R (oneRes xs).den w
 | .ret=>resK T rs ts bx W fun xs=>∀w,Sync bx W w→R (oneRes xs).den w
 |_=>False
def resOne(tmps:Array Value):ResultVar→Sem Value
 | .tmp t=>pure (tmps.getD t undef)
 | .cell c t=>do loadVar t (←asAddr (tmps.getD c undef))
theorem zws{P:Program}{T:List TI}(hT:zba P T){ts:List XV}{bx:List Box}{a:Act}{w W:World}(inv:Inv ts bx a w W):∀(rs:List ResultVar) (K:List XV→Prop),resK T rs ts bx W K→
  ∃xs,K xs∧(rs.mapM (resOne a.tmps)).run P w=.ok (denL xs) w
 |[],K,h=>⟨[],h,by simp[denL]⟩
 | .tmp t::rs,K,h=>by
  obtain⟨x,h1,hw,hx⟩:=zlt h inv.frame
  obtain⟨xs,h2,h3⟩:=zws hT inv rs _ h1
  refine⟨x::xs,h2,?_⟩
  have:a.tmps.getD t undef=x.den:=by rw[←hx]; simp
  simp only[List.mapM_cons,resOne,Sem.run_bind,Sem.run_pure,Result.andThen_ok,h3,denL,this]
 | .cell c t::rs,K,h=>by
  obtain⟨A,h1,hw,hA⟩:=zlt h inv.frame
  obtain⟨x,h1,hxw,hcase,hrun⟩:=zss (P:=P) hT h1 inv hw
  obtain⟨xs,h2,h3⟩:=zws hT inv rs _ h1
  refine⟨x::xs,h2,?_⟩
  have hA':a.tmps.getD c undef=A.den:=by rw[←hA]; simp
  have hr:=hrun w rfl
  obtain⟨ad,had⟩:∃ad,A.den=.pointer (some ad):=by
   rcases hcase with ⟨i,b,off,rfl⟩|⟨ad,rfl,_⟩
   ·exact⟨_,rfl⟩
   ·exact⟨_,rfl⟩
  rw[had]at hr hA'
  simp only[Instr.loadAt,Instr.sureAddr,Sem.run_bind,Sem.run_pure,Result.andThen_ok]at hr
  simp only[List.mapM_cons,resOne,Sem.run_bind,hA',asAddr,Sem.run_pure,Result.andThen_ok,hr,h3,denL]
theorem zin{P:Program}{T:List TI}(hT:zba P T){fn:Func}{ts:List XV}{bx:List Box}{a:Act}{w W:World}(inv:Inv ts bx a w W){K:List XV→Prop}(h:resK T fn.results.toList ts bx W K):
  ∃xs,K xs∧(results fn a.tmps).run P w=.ok (oneRes xs).den w:=by
 obtain⟨xs,h1,h2⟩:=zws hT inv _ _ h
 refine⟨xs,h1,?_⟩
 unfold results
 rw[Sem.run_bind,Array.mapM_eq_mapM_toList,Sem.run_map]
 have e:∀f:ResultVar→Sem Value,f=resOne a.tmps→(fn.results.toList.mapM f).run P w=(fn.results.toList.mapM (resOne a.tmps)).run P w:=fun f h=>by rw[h]
 rw[e _ (by funext x; cases x<;>rfl),h2]
 simp only[Result.andThen_ok]
 match xs with
 |[]=>simp[denL,oneRes,XV.den]
 |[x]=>simp[denL,oneRes]
 |x::y::zs=>simp[denL,oneRes,XV.den]
def initL:Nat→List XV
 |0=>[]
 |n+1=>.und::initL n
theorem ylp(n:Nat):initL n=List.replicate n .und:=by induction n<;>simp[initL,List.replicate_succ, *]
def initK:List XV→Nat→(List XV→Prop)→Prop
 |[],n,K=>K (initL n)
 |x::xs,n+1,K=>initK xs n fun l=>K (x::l)
 |_::_,0,_=>False
theorem zsz:∀(xs:List XV) (n:Nat) (K:List XV→Prop),initK xs n K→K (xs++List.replicate (n - xs.length) .und)∧xs.length≤n
 |[],n,K,h=>⟨by simpa[initK,ylp]using h,by simp⟩
 |x::xs,n+1,K,h=>by
  have:=zsz xs n _ h
  simpa using this
 |_::_,0,_,h=>h.elim
theorem yeo{bs:List Nat}:∀(xs:List XV),wfL bs xs→Rel bs xs (denL xs)
 |[],_=>by simp[Rel,denL]
 |x::xs,h=>⟨.inr ⟨rfl,h.1⟩,yeo xs h.2⟩
theorem zud{P:Program}{T:List TI}{A:Anns}{D:DrawK}(hT:zba P T)(hD:DrawOk P D){f:FuncId}{fn:Func}{c:Code}{args:Array Value}{w:World}{R:Value→World→Prop}
  (hf:P.funcs[f]?=some fn) (hb:fn.body=some c) (hn:(fn.name== "runtime.NumGoroutine")=false) (hl:zcx A c=true) (xs:List XV) (hargs:args=(denL xs).toArray) (hw:wfL [] xs)
  (h:initK xs fn.ntmps fun ts=>vc P T A D c (retQ T fn.results.toList R) ts [] w):CallsX P f args w R:=by
 refine⟨.inl ⟨⟨fn,hf,hn,by simp[hb]⟩,?_⟩⟩
 subst hargs
 obtain⟨h,hlen⟩:=zsz _ _ _ h
 have inv:Inv (xs++List.replicate (fn.ntmps - xs.length) .und) [] { tmps:=(denL xs).toArray++Array.replicate (fn.ntmps - (denL xs).toArray.size) undef,defers:=[] } w w:=by
  refine⟨rfl,?_,by simp,by simp[blks],⟨rfl,rfl,rfl,Nat.le_refl _,fun _ _ _=>rfl,by simp⟩⟩
  have e:(denL xs).toArray++Array.replicate (fn.ntmps - (denL xs).toArray.size) undef=(denL (xs++List.replicate (fn.ntmps - xs.length) .und)).toArray:=by
   apply Array.ext'
   have hu:XV.den .und=undef:=by simp[XV.den]
   simp[zkf,zcf,zgu,hu]
  simp only[e]
  exact yeo _ (zzp hw (by rw[zky]; intro x hx; rw[List.eq_of_mem_replicate hx]; simp[XV.wf]))
 refine calls_of_wp hf hb (wp_mono (yjs hT hD c hl _ _ _ _ _ _ h inv) fun e a' w' hq=>?_)
 cases e with
 |normal=>
  obtain⟨⟨ts',bx',W',inv',h'⟩,_⟩:=hq
  obtain⟨ys,h1,h2⟩:=zin (fn:=fn) hT inv' h'
  exact⟨inv'.defers,_,h2,_,rfl,h1 w' inv'.sync⟩
 |ret=>
  obtain⟨⟨ts',bx',W',inv',h'⟩,_⟩:=hq
  obtain⟨ys,h1,h2⟩:=zin (fn:=fn) hT inv' h'
  exact⟨inv'.defers,_,h2,_,rfl,h1 w' inv'.sync⟩
 |exit i=>exact(by obtain⟨⟨ts',bx',W',inv',h'⟩,_⟩:=hq; exact h'.elim)
 |_=>exact hq.elim
theorem yeg{P:Program}{T:List TI}{A:Anns}{D:DrawK}(hT:zba P T)(hD:DrawOk P D){f:FuncId}{fn:Func}{c:Code}{args:Array Value}{w W:World}{R:Value→World→Prop}{bx:List Box}
  (hf:P.funcs[f]?=some fn) (hb:fn.body=some c) (hn:(fn.name== "runtime.NumGoroutine")=false) (hl:zcx A c=true) (xs:List XV) (hargs:args=(denL xs).toArray) (hw:wfL (blks bx) xs)
  (hwf:∀x∈bx,wfL (blks bx) x.cells) (hnd:(blks bx).Nodup) (hs:Sync bx W w)
  (h:initK xs fn.ntmps fun ts=>vc P T A D c (retQ T fn.results.toList R) ts bx W):CallsX P f args w R:=by
 refine⟨.inl ⟨⟨fn,hf,hn,by simp[hb]⟩,?_⟩⟩
 subst hargs
 obtain⟨h,hlen⟩:=zsz _ _ _ h
 have inv:Inv (xs++List.replicate (fn.ntmps - xs.length) .und) bx { tmps:=(denL xs).toArray++Array.replicate (fn.ntmps - (denL xs).toArray.size) undef,defers:=[] } w W:=by
  refine⟨rfl,?_,hwf,hnd,hs⟩
  have e:(denL xs).toArray++Array.replicate (fn.ntmps - (denL xs).toArray.size) undef=(denL (xs++List.replicate (fn.ntmps - xs.length) .und)).toArray:=by
   apply Array.ext'
   have hu:XV.den .und=undef:=by simp[XV.den]
   simp[zkf,zcf,zgu,hu]
  simp only[e]
  exact yeo _ (zzp hw (by rw[zky]; intro x hx; rw[List.eq_of_mem_replicate hx]; simp[XV.wf]))
 refine calls_of_wp hf hb (wp_mono (yjs hT hD c hl _ _ _ _ _ _ h inv) fun e a' w' hq=>?_)
 cases e with
 |normal=>
  obtain⟨⟨ts',bx',W',inv',h'⟩,_⟩:=hq
  obtain⟨ys,h1,h2⟩:=zin (fn:=fn) hT inv' h'
  exact⟨inv'.defers,_,h2,_,rfl,h1 w' inv'.sync⟩
 |ret=>
  obtain⟨⟨ts',bx',W',inv',h'⟩,_⟩:=hq
  obtain⟨ys,h1,h2⟩:=zin (fn:=fn) hT inv' h'
  exact⟨inv'.defers,_,h2,_,rfl,h1 w' inv'.sync⟩
 |exit i=>exact(by obtain⟨⟨ts',bx',W',inv',h'⟩,_⟩:=hq; exact h'.elim)
 |_=>exact hq.elim
theorem Sync.below{bx:List Box}{W w:World}{B:Nat}(h:Sync bx W w)(hB:B≤W.heap.size)(hb:∀x∈bx,B≤x.blk):RowKit.Below B W w:=
 ⟨h.os,h.tape,h.output,h.size,fun k hk=>h.same k (by omega) (by
  intro hm
  simp only[blks,List.mem_map]at hm
  obtain⟨x,hx,rfl⟩:=hm
  have:=hb x hx
  omega)⟩
theorem addLt(x:Addr)(j B:Nat)(h:x.block<B):(x.add j).block<B:=by
 have e:(x.add j).block=x.block:=by unfold Addr.add; split<;>rfl
 omega
def nthOp:List Oper→Nat→(Oper→Prop)→Prop
 |[],_,_=>False
 |o::_,0,K=>K o
 |_::os,n+1,K=>nthOp os n K
theorem yad{ops:List Oper}{n:Nat}{K:Oper→Prop}(h:nthOp ops n K):∃o,ops[n]?=some o∧K o:=by
 induction ops generalizing n with
 |nil=>exact h.elim
 |cons o os ih=>cases n with
  |zero=>exact⟨o,by simp,h⟩
  |succ n=>obtain⟨o',h1,h2⟩:=ih h; exact⟨o',by simpa using h1,h2⟩
theorem wf_app{bs:List Nat}{x:XV}(h:x.wf bs)(l:List Nat):x.wf (bs++l):=by
 induction l generalizing bs with
 |nil=>simpa using h
 |cons b l ih=>
  have:=ih (XV.wf_mono bs b x h)
  simpa using this
theorem zeq{ops:List Oper}{i:Nat}{o:Oper}(h:ops[i]?=some o):∀d∈dstL o,d∈dsts ops:=by
 induction ops generalizing i with
 |nil=>simp at h
 |cons p ops ih=>
  intro d hd
  simp only[dsts,List.mem_append]
  cases i with
  |zero=>simp at h; subst h; exact .inl hd
  |succ i=>exact .inr (ih (by simpa using h) d hd)
theorem zwr{dst:Option Tmp}{x:XV}{ts:List XV}{bx:List Box}{a:Act}{w W:World}{K:KT}(h:retX dst x ts bx W K)(inv:Inv ts bx a w W)(hw:x.wf (blks bx)):
  ∃ts',Inv ts' bx (a.put dst x.den) w W∧K ts' bx W:=by
 cases dst with
 |none=>exact⟨ts,inv,h⟩
 |some d=>
  simp only[retX,zfb]at h
  exact⟨_,⟨inv.defers,by simpa[Act.put]using inv.frame.set d hw,inv.wf,inv.nodup,inv.sync⟩,h⟩
def QD(K:KT)(ops:Array Oper)(a0:Act):Exit→Act→World→Prop:=fun e a' w'=>match e with
 | .normal=>Post K a' w'∧zbd (dsts ops.toList) a0 a'
 |_=>False
end Go.Vc
namespace Go.Vc
open Go Go.RowKit
theorem yaj{bx:List Box}{W w w':World}{row:Option Nat}(hs:Sync bx W w)(hg:w.grownBy w' row)(hr:∀k,row=some k→notBox bx k):Kept (blks bx) w w':=by
 intro b hb
 have hlt:b<w.heap.size:=by
  simp only[blks,List.mem_map]at hb
  obtain⟨x,hx,rfl⟩:=hb
  exact hs.blk_lt hx
 exact hg.block b hlt fun e=>(zdc.1 (hr b e.symm)) hb
structure ElemOk(P:Program)(t e:TypeId)(size bytes:Nat):Prop where
 under:P.underlying t=some (.slice e)
 info:∃i z,P.info? e=some i∧i.zero=some z∧i.size=size∧i.bytes=bytes∧z.cells.size=size
 pos:0<size
theorem ycz{w:World}{base:Nat}{e:TypeId}{size:Nat}{v:Value}{n:Nat}{xs:List Value}(h:w.ownsRow base e size v n xs):∃a c,v=.slice a n c:=by
 rcases h.2 with ⟨rfl,rfl⟩|⟨g,cap,cur,rfl,_⟩
 ·exact⟨_,_,rfl⟩
 ·exact⟨_,_,rfl⟩
theorem zwm{P:Program}{w:World}{t ty e:TypeId}{size bytes base n c m c2:Nat}{a:Option Addr}{b:Addr}{xs news:List Value}(he:ElemOk P t e size bytes)
  (hown:w.ownsRow base e size (.slice a n c) n xs) (hl:news.length=m*size) (hnews:∀j u,news[j]?=some u→w.cell? (b.add j)=some u) (h1:∀u∈news,u.oneCell'=true)
  (h63:n+m≤maxLen) (hbytes:(n+m)*bytes≤140737488355328) (hbase:base≤w.heap.size):
  RunsX P (Builtin.append_ #[t,t] ty #[.slice a n c,.slice (some b) m c2]) w fun v w'=>∃a' c',v=.slice a' (n+m) c'∧w'.ownsRow base e size (.slice a' (n+m) c') (n+m) (xs++news)∧w.grownBy w' (Value.slice a n c).ownBlock∧((Value.slice a' (n+m) c').ownBlock=(Value.slice a n c).ownBlock∨(Value.slice a' (n+m) c').ownBlock=some w.heap.size):=by
 obtain⟨i,z,hi,hz,hs,hb,hzs⟩:=he.info
 obtain⟨v',w',h,ho,hg,_,hat⟩:=run_append_own_at w base t ty e i z size bytes he.under hi hz hs hb hzs he.pos (.slice a n c) n xs hown b m c2 news hl hnews h1 h63 hbytes hbase
 obtain⟨a',c',rfl⟩:=ycz ho
 exact⟨⟨_,_,h,a',c',rfl,ho,hg,hat⟩⟩
def RowV(B:Nat)(w:World)(a:Option Addr)(vs:List Value):Prop:=∀j v,vs[j]?=some v→∃x,a=some x∧x.block<B∧w.cell? (x.add j)=some v
theorem RowV.mono{B B':Nat}{w:World}{a:Option Addr}{vs:List Value}(h:RowV B w a vs)(hB:B≤B'):RowV B' w a vs:=fun j v hv=>by
 obtain⟨x,h1,h2,h3⟩:=h j v hv
 exact⟨x,h1,Nat.lt_of_lt_of_le h2 hB,h3⟩
theorem RowV.below{B:Nat}{w w':World}{a:Option Addr}{vs:List Value}(h:RowV B w a vs)(hb:Below B w w'):RowV B w' a vs:=fun j v hv=>by
 obtain⟨x,h1,h2,h3⟩:=h j v hv
 exact⟨x,h1,h2,(hb.cell (addLt x j B h2)).trans h3⟩
theorem RowV.take{B:Nat}{w:World}{a:Option Addr}{vs:List Value}(h:RowV B w a vs)(n:Nat):RowV B w a (vs.take n):=fun j v hv=>by
 rw[List.getElem?_take]at hv
 split at hv
 ·exact h j v hv
 ·simp at hv
end Go.Vc
namespace Go.Vc
open Go Go.RowKit
structure Later(U U':Nat→Prop)(w w':World):Prop where
 same:∀b,b<w.heap.size→¬U b→w'.heap[b]?=w.heap[b]?
 size:w.heap.size≤w'.heap.size
 sub:∀b,b<w.heap.size→U' b→U b
inductive R where
 |val (x:Value)
 |sl (k:Nat) (els:List (List R))
 |agg (rs:List R)
 |tup (rs:List R)
 |oth (h:(Nat→Prop)→World→Value→Prop) (m:∀{U U':Nat→Prop} {w w':World} {v:Value},h U w v→Later U U' w w'→h U' w' v)
mutual
def R.h(U:Nat→Prop)(w:World):R→Value→Prop
 | .val x,v=>v=x
 | .sl k els,v=>∃a c,v=.slice a els.length c∧els.length≤c∧c≤maxLen∧rowsH U w a k 0 els
 | .agg rs,v=>∃vs,v=.agg vs∧listH U w rs vs.toList
 | .tup rs,v=>∃vs,v=.tuple vs∧listH U w rs vs.toList
 | .oth h _,v=>h U w v
def rowsH(U:Nat→Prop)(w:World)(a:Option Addr)(k:Nat):Nat→List (List R)→Prop
 |_,[]=>True
 |off,cs::els=>cs.length=k∧cellsH U w a off cs∧rowsH U w a k (off+k) els
def cellsH(U:Nat→Prop)(w:World)(a:Option Addr):Nat→List R→Prop
 |_,[]=>True
 |off,r::rs=>(∃x u,a=some x∧¬U x.block∧x.block<w.heap.size∧w.cell? (x.add off)=some u∧u.oneCell'=true∧R.h U w r u)∧cellsH U w a (off+1) rs
def listH(U:Nat→Prop)(w:World):List R→List Value→Prop
 |[],vs=>vs=[]
 |r::rs,vs=>∃u us,vs=u::us∧R.h U w r u∧listH U w rs us
end
theorem Later.cell{U U':Nat→Prop}{w w':World}(l:Later U U' w w'){x:Addr}(hn:¬U x.block)(hl:x.block<w.heap.size)(j:Nat):w'.cell? (x.add j)=w.cell? (x.add j):=
 World.cell?_of_block (by rw[zbq]; exact l.same _ hl hn)
mutual
theorem R.mono{U U':Nat→Prop}{w w':World}(l:Later U U' w w'):(r:R)→{v:Value}→r.h U w v→r.h U' w' v
 | .val x,v,h=>by simpa only[R.h]using h
 | .sl k els,v,h=>by
  simp only[R.h]at h ⊢
  obtain⟨a,c,e,hc,hm,h⟩:=h
  exact⟨a,c,e,hc,hm,zzy l els h⟩
 | .agg rs,v,h=>by
  simp only[R.h]at h ⊢
  obtain⟨vs,e,h⟩:=h
  exact⟨vs,e,zbj l rs h⟩
 | .tup rs,v,h=>by
  simp only[R.h]at h ⊢
  obtain⟨vs,e,h⟩:=h
  exact⟨vs,e,zbj l rs h⟩
 | .oth h m,v,hh=>by simp only[R.h]at hh ⊢; exact m hh l
theorem zzy{U U':Nat→Prop}{w w':World}(l:Later U U' w w'):(els:List (List R))→{a:Option Addr}→{k off:Nat}→rowsH U w a k off els→rowsH U' w' a k off els
 |[],_,_,_,_=>by simp only[rowsH]
 |cs::els,a,k,off,h=>by
  simp only[rowsH]at h ⊢
  exact⟨h.1,zoz l cs h.2.1,zzy l els h.2.2⟩
theorem zoz{U U':Nat→Prop}{w w':World}(l:Later U U' w w'):(rs:List R)→{a:Option Addr}→{off:Nat}→cellsH U w a off rs→cellsH U' w' a off rs
 |[],_,_,_=>by simp only[cellsH]
 |r::rs,a,off,h=>by
  simp only[cellsH]at h ⊢
  obtain⟨⟨x,u,e,hn,hl,hc,h1,hu⟩,h⟩:=h
  exact⟨⟨x,u,e,fun hb=>hn (l.sub _ hl hb),Nat.lt_of_lt_of_le hl l.size,(l.cell hn hl off).trans hc,h1,R.mono l r hu⟩,zoz l rs h⟩
theorem zbj{U U':Nat→Prop}{w w':World}(l:Later U U' w w'):(rs:List R)→{vs:List Value}→listH U w rs vs→listH U' w' rs vs
 |[],_,h=>by simpa only[listH]using h
 |r::rs,vs,h=>by
  simp only[listH]at h ⊢
  obtain⟨u,us,e,hu,h⟩:=h
  exact⟨u,us,e,R.mono l r hu,zbj l rs h⟩
end
theorem zhz{U:Nat→Prop}{w:World}{a:Option Addr}:∀{rs:List R} {off:Nat},cellsH U w a off rs↔∀j r,rs[j]?=some r→∃x u,a=some x∧¬U x.block∧x.block<w.heap.size∧w.cell? (x.add (off+j))=some u∧u.oneCell'=true∧r.h U w u
 |[],off=>by simp[cellsH]
 |r::rs,off=>by
  simp only[cellsH,zhz (rs:=rs)]
  constructor
  ·rintro⟨h0,h⟩ j r' hj
   cases j with
   |zero=>simp at hj; subst hj; simpa using h0
   |succ j=>have:=h j r' (by simpa using hj); rwa [show off+1+j=off+(j+1) by omega]at this
  ·intro h
   refine⟨by simpa using h 0 r rfl,fun j r' hj=>?_⟩
   have:=h (j+1) r' (by simpa using hj)
   rwa [show off+1+j=off+(j+1) by omega]
theorem zdv{U:Nat→Prop}{w:World}{a:Option Addr}{k:Nat}:∀{els:List (List R)} {off:Nat},rowsH U w a k off els↔∀i cs,els[i]?=some cs→cs.length=k∧cellsH U w a (off+i*k) cs
 |[],off=>by simp[rowsH]
 |cs::els,off=>by
  simp only[rowsH,zdv (els:=els)]
  constructor
  ·rintro⟨h1,h2,h⟩ i cs' hi
   cases i with
   |zero=>simp at hi; subst hi; simpa using⟨h1,h2⟩
   |succ i=>have:=h i cs' (by simpa using hi); rwa [show off+k+i*k=off+(i+1)*k by rw[Nat.succ_mul]; omega]at this
  ·intro h
   have h0:=h 0 cs rfl
   refine⟨h0.1,by simpa using h0.2,fun i cs' hi=>?_⟩
   have:=h (i+1) cs' (by simpa using hi)
   rwa [show off+k+i*k=off+(i+1)*k by rw[Nat.succ_mul]; omega]
def appG:List (Value×R)→List (Value×R)→List (Value×R)
 |[],G=>G
 |p::ps,G=>p::appG ps G
mutual
def getV:R→(Value→List (Value×R)→Prop)→Prop
 | .val x,K=>K x []
 | .sl k els,K=>∀a n c,n=els.length→n≤c→c≤maxLen→K (.slice a n c) [(.slice a n c,.sl k els)]
 | .agg rs,K=>getL rs fun vs G=>K (.agg vs.toArray) G
 | .tup rs,K=>getL rs fun vs G=>K (.tuple vs.toArray) G
 | .oth h m,K=>∀v,K v [(v,.oth h m)]
def getL:List R→(List Value→List (Value×R)→Prop)→Prop
 |[],K=>K [] []
 |r::rs,K=>getV r fun v G=>getL rs fun vs G'=>K (v::vs) (appG G G')
end
def Holds(U:Nat→Prop)(w:World)(G:List (Value×R)):Prop:=∀p∈G,p.2.h U w p.1
theorem yjm(A B:List (Value×R)):appG A B=A++B:=by induction A with
 |nil=>rfl
 |cons p A ih=>simp[appG,ih]
theorem Holds.app{U:Nat→Prop}{w:World}{A B:List (Value×R)}(h:Holds U w A)(h':Holds U w B):Holds U w (appG A B):=by
 rw[yjm]; intro p hp
 rcases List.mem_append.1 hp with h1|h1
 ·exact h p h1
 ·exact h' p h1
mutual
theorem ygu{U:Nat→Prop}{w:World}:(r:R)→{v:Value}→{K:Value→List (Value×R)→Prop}→r.h U w v→getV r K→∃G,K v G∧Holds U w G
 | .val x,v,K,h,k=>by
  simp only[R.h]at h; subst h
  simp only[getV]at k
  exact⟨[],k,by simp[Holds]⟩
 | .sl n els,v,K,h,k=>by
  have h0:=h
  simp only[R.h]at h
  obtain⟨a,c,rfl,hc,hm,_⟩:=h
  simp only[getV]at k
  exact⟨_,k a _ c rfl hc hm,by simpa[Holds]using h0⟩
 | .agg rs,v,K,h,k=>by
  simp only[R.h]at h
  obtain⟨vs,rfl,h⟩:=h
  simp only[getV]at k
  obtain⟨G,h1,h2⟩:=zfk rs h k
  exact⟨G,by simpa using h1,h2⟩
 | .tup rs,v,K,h,k=>by
  simp only[R.h]at h
  obtain⟨vs,rfl,h⟩:=h
  simp only[getV]at k
  obtain⟨G,h1,h2⟩:=zfk rs h k
  exact⟨G,by simpa using h1,h2⟩
 | .oth hh m,v,K,h,k=>by
  simp only[getV]at k
  exact⟨_,k v,by simpa[Holds]using h⟩
theorem zfk{U:Nat→Prop}{w:World}:(rs:List R)→{vs:List Value}→{K:List Value→List (Value×R)→Prop}→listH U w rs vs→getL rs K→∃G,K vs G∧Holds U w G
 |[],vs,K,h,k=>by
  simp only[listH]at h; subst h
  simp only[getL]at k
  exact⟨[],k,by simp[Holds]⟩
 |r::rs,vs,K,h,k=>by
  simp only[listH]at h
  obtain⟨u,us,rfl,hu,h⟩:=h
  simp only[getL]at k
  obtain⟨G,h1,h2⟩:=ygu r hu k
  obtain⟨G',h3,h4⟩:=zfk rs h h1
  exact⟨_,h3,h2.app h4⟩
end
def memG:List (Value×R)→Value→R→Prop:=fun G v r=>(v,r)∈G
mutual
def ent(G:List (Value×R)):R→Value→Prop
 | .val x,v=>v=x
 | .agg rs,v=>match v with
  | .agg vs=>entL G rs vs.toList
  |_=>memG G v (.agg rs)
 | .tup rs,v=>match v with
  | .tuple vs=>entL G rs vs.toList
  |_=>memG G v (.tup rs)
 | .sl k els,v=>memG G v (.sl k els)
 | .oth h m,v=>memG G v (.oth h m)
def entL(G:List (Value×R)):List R→List Value→Prop
 |[],[]=>True
 |r::rs,v::vs=>ent G r v∧entL G rs vs
 |_,_=>False
end
mutual
theorem zvp{U:Nat→Prop}{w:World}{G:List (Value×R)}(hG:Holds U w G):(r:R)→{v:Value}→ent G r v→r.h U w v
 | .val x,v,h=>by simpa only[R.h,ent]using h
 | .agg rs,v,h=>by
  simp only[ent]at h
  split at h
  ·simp only[R.h]; exact⟨_,rfl,zhx hG rs h⟩
  ·exact hG _ h
 | .tup rs,v,h=>by
  simp only[ent]at h
  split at h
  ·simp only[R.h]; exact⟨_,rfl,zhx hG rs h⟩
  ·exact hG _ h
 | .sl k els,v,h=>by simp only[ent]at h; exact hG _ h
 | .oth hh m,v,h=>by simp only[ent]at h; exact hG _ h
theorem zhx{U:Nat→Prop}{w:World}{G:List (Value×R)}(hG:Holds U w G):(rs:List R)→{vs:List Value}→entL G rs vs→listH U w rs vs
 |[],vs,h=>by cases vs<;>simp_all [entL,listH]
 |r::rs,vs,h=>by
  cases vs with
  |nil=>simp[entL]at h
  |cons v vs=>
   simp only[entL]at h
   simp only[listH]
   exact⟨v,vs,rfl,zvp hG r h.1,zhx hG rs h.2⟩
end
theorem Holds.mono{U U':Nat→Prop}{w w':World}{G:List (Value×R)}(h:Holds U w G)(l:Later U U' w w'):Holds U' w' G:=fun p hp=>R.mono l p.2 (h p hp)
structure Own where
 bl:List Nat
 h:(Nat→Prop)→World→Prop
 mono:∀{U U':Nat→Prop} {w w':World},h U w→Later U U' w w'→(∀b∈bl,w'.heap[b]?=w.heap[b]?)→h U' w'
 lt:∀{U:Nat→Prop} {w:World},h U w→∀b∈bl,b<w.heap.size
def ownBl:List Own→List Nat
 |[]=>[]
 |o::os=>o.bl++ownBl os
theorem zcp{os:List Own}{b:Nat}:b∈ownBl os↔∃o∈os,b∈o.bl:=by
 induction os with
 |nil=>simp[ownBl]
 |cons o os ih=>simp[ownBl,ih]
theorem zac(A B:List Own):ownBl (A++B)=ownBl A++ownBl B:=by induction A with
 |nil=>rfl
 |cons o A ih=>simp[ownBl,ih]
def Us(U0:Nat→Prop)(bs:List Nat)(os:List Own):Nat→Prop:=fun b=>U0 b∨b∈bs∨b∈ownBl os
structure Ctx(V:World)(U0:Nat→Prop)(L:List Nat)(bs:List Nat)(os:List Own)(G:List (Value×R))(W:World):Prop where
 os_:W.os=V.os
 tape:W.tape=V.tape
 output:W.output=V.output
 size:V.heap.size≤W.heap.size
 same:∀b,b<V.heap.size→b∉L→W.heap[b]?=V.heap[b]?
 low:∀b∈bs,V.heap.size≤b∨b∈L
 lowo:∀b∈ownBl os,V.heap.size≤b∨b∈L
 u0:∀b,U0 b→b<V.heap.size
 nd:(bs++ownBl os).Nodup
 own:∀o∈os,o.h (Us U0 bs os) W
 facts:Holds (Us U0 bs os) W G
theorem Ctx.ltOwn{V W:World}{U0:Nat→Prop}{L bs:List Nat}{os:List Own}{G:List (Value×R)}(H:Ctx V U0 L bs os G W){b:Nat}(hb:b∈ownBl os):b<W.heap.size:=by
 obtain⟨o,ho,hb⟩:=zcp.1 hb
 exact o.lt (H.own o ho) b hb
theorem Ctx.sync{V W w:World}{U0:Nat→Prop}{L bs:List Nat}{os:List Own}{G:List (Value×R)}{bx:List Box}(H:Ctx V U0 L bs os G W)(hs:Sync bx W w)(hb:blks bx=bs:=by rfl):Ctx V U0 L bs os G w:=by
 subst hb
 have l:Later (Us U0 (blks bx) os) (Us U0 (blks bx) os) W w:=⟨fun b hb hn=>hs.same b hb fun h=>hn (.inr (.inl h)),hs.size,fun _ _ h=>h⟩
 have hnd:=List.nodup_append.1 H.nd
 refine⟨hs.os.trans H.os_,hs.tape.trans H.tape,hs.output.trans H.output,Nat.le_trans H.size hs.size,fun b hb hL=>?_,H.low,H.lowo,H.u0,H.nd,fun o ho=>?_,H.facts.mono l⟩
 ·rw[hs.same b (Nat.lt_of_lt_of_le hb H.size) fun hm=>(H.low b hm).elim (fun h=>absurd h (by omega)) hL]
  exact H.same b hb hL
 ·refine o.mono (H.own o ho) l fun b hb=>hs.same b (o.lt (H.own o ho) b hb) fun hm=>?_
  exact hnd.2.2 b hm b (zcp.2 ⟨o,ho,hb⟩) rfl
theorem Ctx.box{V W:World}{U0:Nat→Prop}{L bs:List Nat}{os:List Own}{G:List (Value×R)}(H:Ctx V U0 L bs os G W){b:Nat}{bx:List Box}(hbb:W.heap.size≤b∧notBox bx b)(hbx:blks bx=bs:=by rfl):Ctx V U0 L (bs++[b]) os G W:=by
 obtain⟨hb,hn⟩:=hbb
 rw[zdc,hbx]at hn
 have l:Later (Us U0 bs os) (Us U0 (bs++[b]) os) W W:=⟨fun _ _ _=>rfl,Nat.le_refl _,fun c hc h=>by
  rcases h with h|h|h
  ·exact .inl h
  ·rcases List.mem_append.1 h with h|h
   ·exact .inr (.inl h)
   ·simp at h; omega
  ·exact .inr (.inr h)⟩
 have hnd:=List.nodup_append.1 H.nd
 refine⟨H.os_,H.tape,H.output,H.size,H.same,fun c hc=>?_,H.lowo,H.u0,?_,fun o ho=>o.mono (H.own o ho) l fun _ _=>rfl,H.facts.mono l⟩
 ·rcases List.mem_append.1 hc with h|h
  ·exact H.low c h
  ·simp at h; have:=H.size; exact .inl (by omega)
 ·refine List.nodup_append.2 ⟨List.nodup_append.2 ⟨hnd.1,by simp,?_⟩,hnd.2.1,?_⟩
  ·intro c hc d hd; simp at hd; subst hd; rintro rfl; exact hn hc
  ·intro c hc d hd
   rcases List.mem_append.1 hc with h|h
   ·exact hnd.2.2 c h d hd
   ·simp at h; have:=H.ltOwn hd; omega
theorem yfs{os' os:List Own}(h:List.Sublist os' os):List.Sublist (ownBl os') (ownBl os):=by
 induction h with
 |slnil=>exact List.Sublist.refl _
 |cons o _ ih=>exact List.Sublist.trans ih (List.sublist_append_right _ _)
 |cons_cons o _ ih=>exact(List.append_sublist_append_left _).2 ih
theorem Us.fewer{U0:Nat→Prop}{bs bs':List Nat}{os os':List Own}(h1:List.Sublist bs' bs)(h2:List.Sublist os' os)(W:World):Later (Us U0 bs os) (Us U0 bs' os') W W:=
 ⟨fun _ _ _=>rfl,Nat.le_refl _,fun _ _ h=>h.imp id fun h=>h.imp (fun h=>h1.subset h) fun h=>(yfs h2).subset h⟩
theorem Ctx.weak{V W:World}{U0:Nat→Prop}{L bs bs':List Nat}{os os':List Own}{G G':List (Value×R)}(H:Ctx V U0 L bs os G W)(h1:List.Sublist bs' bs)(h2:List.Sublist os' os)(h3:∀p∈G',p∈G):Ctx V U0 L bs' os' G' W:=by
 have h4:=yfs h2
 have l:=Us.fewer (U0:=U0) h1 h2 W
 exact⟨H.os_,H.tape,H.output,H.size,H.same,fun b hb=>H.low b (h1.subset hb),fun b hb=>H.lowo b (h4.subset hb),H.u0,H.nd.sublist (h1.append h4),fun o ho=>o.mono (H.own o (h2.subset ho)) l fun _ _=>rfl,fun p hp=>R.mono l p.2 (H.facts p (h3 p hp))⟩
theorem Ctx.know{V W:World}{U0:Nat→Prop}{L bs:List Nat}{os:List Own}{G:List (Value×R)}(H:Ctx V U0 L bs os G W)(r:R){v:Value}(h:ent G r v):Ctx V U0 L bs os ((v,r)::G) W:=
 have hf:Holds (Us U0 bs os) W ((v,r)::G):=by
  intro p hp
  rcases List.mem_cons.1 hp with rfl|hp
  ·exact zvp H.facts r h
  ·exact H.facts p hp
 { H with facts:=hf }
def Post0(V:World)(U:Nat→Prop)(L:List Nat)(Q:Value→List Own→List (Value×R)→Prop):Value→World→Prop:=
 fun v w'=>∃os' G',Q v os' G'∧Ctx V U L [] os' G' w'
def CtG(P:Program)(f:FuncId)(vs:List Value)(os:List Own)(G:List (Value×R))(Q:Value→List Own→List (Value×R)→Prop):Prop:=
 ∀U w,Ctx w U (ownBl os) [] os G w→CallsX P f vs.toArray w (Post0 w U (ownBl os) Q)
def isR(q:R):Value→List Own→List (Value×R)→Prop:=fun v os G=>os=[]∧ent G q v
def Ct(P:Program)(f:FuncId)(ars:List R)(q:R):Prop:=getL ars fun vs G=>CtG P f vs [] G (isR q)
theorem Ctx.called{V W w2:World}{U0:Nat→Prop}{L bs:List Nat}{os1 os2 os':List Own}{G G':List (Value×R)}(H:Ctx V U0 L bs (os1++os2) G W)
  (h:Ctx W (Us U0 bs (os1++os2)) (ownBl os1) [] os' G' w2):Ctx V U0 L bs (os'++os2) (appG G' G) w2:=by
 have hnd:=List.nodup_append.1 H.nd
 rw[zac]at hnd
 have hnd2:=List.nodup_append.1 hnd.2.1
 have hin:∀b,b∈ownBl os2→b∈ownBl (os1++os2):=fun b hb=>by rw[zac]; exact List.mem_append.2 (.inr hb)
 have keep:∀b,b<W.heap.size→b∉ownBl os1→w2.heap[b]?=W.heap[b]?:=fun b hb hn=>h.same b hb hn
 have lo:∀b∈ownBl os',W.heap.size≤b∨b∈ownBl os1:=h.lowo
 have l1:Later (Us U0 bs (os1++os2)) (Us U0 bs (os'++os2)) W w2:=by
  refine⟨fun b hb hn=>keep b hb fun hm=>hn (.inr (.inr (by rw[zac]; exact List.mem_append.2 (.inl hm)))),h.size,fun b hb hu=>?_⟩
  rcases hu with hu|hu|hu
  ·exact .inl hu
  ·exact .inr (.inl hu)
  ·rw[zac]at hu
   rcases List.mem_append.1 hu with hu|hu
   ·rcases lo b hu with h'|h'
    ·omega
    ·exact .inr (.inr (by rw[zac]; exact List.mem_append.2 (.inl h')))
   ·exact .inr (.inr (hin b hu))
 have l2:Later (Us (Us U0 bs (os1++os2)) [] os') (Us U0 bs (os'++os2)) w2 w2:=by
  refine⟨fun _ _ _=>rfl,Nat.le_refl _,fun b _ hu=>?_⟩
  rcases hu with hu|hu|hu
  ·exact .inl (.inl hu)
  ·exact .inl (.inr (.inl hu))
  ·rw[zac]at hu
   rcases List.mem_append.1 hu with hu|hu
   ·exact .inr (.inr hu)
   ·exact .inl (.inr (.inr (hin b hu)))
 have hbW:∀b∈bs,b∉ownBl os1:=fun b hb hm=>hnd.2.2 b hb b (List.mem_append.2 (.inl hm)) rfl
 refine⟨h.os_.trans H.os_,h.tape.trans H.tape,h.output.trans H.output,Nat.le_trans H.size h.size,fun b hb hL=>?_,H.low,fun b hb=>?_,H.u0,?_,fun o ho=>?_,Holds.app (h.facts.mono l2) (H.facts.mono l1)⟩
 ·rw[keep b (Nat.lt_of_lt_of_le hb H.size) fun hm=>?_,H.same b hb hL]
  rcases H.lowo b (by rw[zac]; exact List.mem_append.2 (.inl hm)) with h'|h'
  ·omega
  ·exact hL h'
 ·rw[zac]at hb
  rcases List.mem_append.1 hb with hb|hb
  ·rcases lo b hb with h'|h'
   ·exact .inl (Nat.le_trans H.size h')
   ·exact H.lowo b (by rw[zac]; exact List.mem_append.2 (.inl h'))
  ·exact H.lowo b (hin b hb)
 ·rw[zac]
  have hnd':=(List.nodup_append.1 h.nd).2.1
  refine List.nodup_append.2 ⟨hnd.1,List.nodup_append.2 ⟨hnd',hnd2.2.1,?_⟩,?_⟩
  ·intro b hb c hc hbc
   subst hbc
   rcases lo b hb with h'|h'
   ·have:=H.ltOwn (hin b hc); omega
   ·exact hnd2.2.2 b h' b hc rfl
  ·intro b hb c hc hbc
   subst hbc
   rcases List.mem_append.1 hc with hc|hc
   ·have hu:=h.u0 b (.inr (.inl hb))
    rcases lo b hc with h'|h'
    ·omega
    ·exact hbW b hb h'
   ·exact hnd.2.2 b hb b (List.mem_append.2 (.inr hc)) rfl
 ·rcases List.mem_append.1 ho with ho|ho
  ·exact o.mono (h.own o ho) l2 fun _ _=>rfl
  ·have hm:=List.mem_append.2 (Or.inr ho:o∈os1∨o∈os2)
   refine o.mono (H.own o hm) l1 fun b hb=>keep b (o.lt (H.own o hm) b hb) fun hm1=>?_
   exact hnd2.2.2 b hm1 b (zcp.2 ⟨o,ho,hb⟩) rfl
theorem Ctx.lend{V W:World}{U0:Nat→Prop}{L bs:List Nat}{os1 os2:List Own}{G Gc:List (Value×R)}(H:Ctx V U0 L bs (os1++os2) G W)(hb:∀b∈bs,b<W.heap.size)(hG:Holds (Us U0 bs (os1++os2)) W Gc):
  Ctx W (Us U0 bs (os1++os2)) (ownBl os1) [] os1 Gc W:=by
 have hl:∀b,b∈ownBl os1→b∈ownBl (os1++os2):=fun b hb=>by rw[zac]; exact List.mem_append.2 (.inl hb)
 have l:Later (Us U0 bs (os1++os2)) (Us (Us U0 bs (os1++os2)) [] os1) W W:=⟨fun _ _ _=>rfl,Nat.le_refl _,fun b _ h=>by
  rcases h with h|h|h
  ·exact h
  ·simp at h
  ·exact .inr (.inr (hl b h))⟩
 have hnd:=(List.nodup_append.1 H.nd).2.1
 rw[zac]at hnd
 refine⟨rfl,rfl,rfl,Nat.le_refl _,fun _ _ _=>rfl,by simp,fun b hb=>.inr hb,fun b hu=>?_,by simpa using(List.nodup_append.1 hnd).1,fun o ho=>o.mono (H.own o (List.mem_append.2 (.inl ho))) l fun _ _=>rfl,hG.mono l⟩
 rcases hu with hu|hu|hu
 ·exact Nat.lt_of_lt_of_le (H.u0 b hu) H.size
 ·exact hb b hu
 ·exact H.ltOwn hu
theorem Ctx.leaves{V W w w2:World}{U0:Nat→Prop}{L:List Nat}{bx:List Box}{os1 os2 os':List Own}{G G':List (Value×R)}(ids:List Nat)(H:Ctx V U0 L (blks bx) (os1++os2) G w)(hs:Sync bx W w)
  (h:Ctx w (Us U0 (blks bx) (os1++os2)) (ownBl os1) [] os' G' w2):Kept (keptB ids 0 bx) w w2:=by
 have hnd:=List.nodup_append.1 H.nd
 have key:∀b∈blks bx,w2.heap[b]?=w.heap[b]?:=fun b hb=>by
  have hlt:b<w.heap.size:=by
   simp only[blks,List.mem_map]at hb
   obtain⟨x,hx,rfl⟩:=hb
   exact hs.blk_lt hx
  refine h.same b hlt fun hm=>hnd.2.2 b hb b ?_ rfl
  rw[zac]; exact List.mem_append.2 (.inl hm)
 have:∀(bx:List Box) (i:Nat),∀b∈Go.Vc.keptB ids i bx,b∈blks bx:=by
  intro bx
  induction bx with
  |nil=>intro i b h; simp[Go.Vc.keptB]at h
  |cons x bx ih=>
   intro i b h
   unfold Go.Vc.keptB at h
   split at h
   ·simp only[blks,List.map_cons,List.mem_cons]; exact .inr (ih _ b h)
   ·simp only[List.mem_cons]at h
    simp only[blks,List.map_cons,List.mem_cons]
    exact h.imp id (ih _ b)
 exact fun b hb=>key b (this bx 0 b hb)
theorem Ctx.call{P:Program}{f:FuncId}{ars:List R}{q:R}{vs:List Value}{V W w:World}{U0:Nat→Prop}{L bs:List Nat}{os:List Own}{G:List (Value×R)}{bx:List Box}{ids:List Nat}{K:Value→World→Prop}
  (H:Ctx V U0 L bs os G W) (hs:Sync bx W w) (hc:Ct P f ars q) (hG:entL G ars vs)
  (k:getV q fun v G'=>∀w2,Ctx V U0 L bs os (appG G' G) w2→K v w2) (hb:blks bx=bs:=by rfl):
  CallsX P f vs.toArray w fun u w'=>Kept (keptB ids 0 bx) w w'∧K u w':=by
 have H:=H.sync hs hb
 subst hb
 have hlt:∀b∈blks bx,b<w.heap.size:=fun b hb=>by
  simp only[blks,List.mem_map]at hb
  obtain⟨x,hx,rfl⟩:=hb
  exact hs.blk_lt hx
 obtain⟨Gc,hc,hGc⟩:=zfk ars (zhx H.facts ars hG) hc
 refine(hc _ w (H.lend (os1:=[]) (os2:=os) hlt hGc)).mono ?_
 rintro v w2 ⟨os',G',⟨rfl,hq⟩,h⟩
 refine⟨Ctx.leaves (os1:=[]) (os2:=os) ids H hs h,?_⟩
 obtain⟨G2,k2,h2⟩:=ygu q (zvp h.facts q hq) k
 exact k2 w2 (Ctx.called (os1:=[]) (os2:=os) H ⟨h.os_,h.tape,h.output,h.size,h.same,h.low,h.lowo,h.u0,h.nd,h.own,h2⟩)
theorem Ctx.retG{V W w:World}{U0:Nat→Prop}{L bs:List Nat}{os os':List Own}{G:List (Value×R)}{bx:List Box}{Q:Value→List Own→List (Value×R)→Prop}{v:Value}(H:Ctx V U0 L bs os G W)(hs:Sync bx W w)(ho:List.Sublist os' os)(h:Q v os' G)(hb:blks bx=bs:=by rfl):Post0 V U0 L Q v w:=
 ⟨os',G,h,(H.sync hs hb).weak (List.nil_sublist _) ho fun _ h=>h⟩
end Go.Vc

namespace Go.Vc
open Go Go.RowKit
theorem fnG_startA{P:Program}{T:List TI}{D:DrawK}{A:Anns}(hT:zba P T)(hD:DrawOk P D){f:FuncId}{fn:Func}{c:Code}{vs:List Value}{os:List Own}{G:List (Value×R)}{Q:Value→List Own→List (Value×R)→Prop}
  (hf:P.funcs[f]?=some fn) (hb:fn.body=some c) (hn:(fn.name== "runtime.NumGoroutine")=false) (hl:zcx A c=true)
  (h:∀U w,Ctx w U (ownBl os) [] os G w→initK (injL1 vs) fn.ntmps fun ts=>vc P T A D c (retQ T fn.results.toList (Post0 w U (ownBl os) Q)) ts [] w):CtG P f vs os G Q:=
 fun U w H=>zud hT hD hf hb hn hl (injL1 vs) (by rw[yau]) (yeq [] vs) (h U w H)
theorem zia{W:World}{a:Addr}:∀(us:List Value) (i:Nat),(∀j u,us[j]?=some u→W.cell? (a.add (i+j))=some u)→zez W a i us
 |[],_,_=>trivial
 |u::us,i,h=>⟨by simpa using h 0 u rfl,zia us (i+1) fun j v hj=>by have:=h (j+1) v (by simpa using hj); rwa [show i+1+j=i+(j+1) by omega]⟩
theorem zkm{U:Nat→Prop}{w:World}{ad:Addr}:∀{rs:List R} {off:Nat},cellsH U w (some ad) off rs→∃us,us.length=rs.length∧listH U w rs us∧(∀u∈us,u.oneCell'=true)∧∀j u,us[j]?=some u→w.cell? (ad.add (off+j))=some u
 |[],_,_=>⟨[],rfl,by simp[listH],by simp,by simp⟩
 |r::rs,off,h=>by
  simp only[cellsH]at h
  obtain⟨⟨x,u,e,_,_,hc,h1,hu⟩,h⟩:=h
  cases e
  obtain⟨us,hl,hus,h1s,hcs⟩:=zkm h
  refine⟨u::us,by simp[hl],by simp only[listH]; exact⟨u,us,rfl,hu,hus⟩,by simpa using⟨h1,h1s⟩,fun j v hj=>?_⟩
  cases j with
  |zero=>simp at hj; subst hj; simpa using hc
  |succ j=>have:=hcs j v (by simpa using hj); rwa [show off+(j+1)=off+1+j by omega]
theorem Ctx.elem{V W:World}{U0:Nat→Prop}{L bs:List Nat}{os:List Own}{G:List (Value×R)}{a:Option Addr}{n c k i:Nat}{els:List (List R)}{cs:List R}{Goal:Prop}(H:Ctx V U0 L bs os G W)
  (hm:(Value.slice a n c,R.sl k els)∈G) (hi:els[i]?=some cs) (hk:0<cs.length)
  (g:∀ad,a=some ad→(¬Us U0 bs os ad.block)→getL cs fun us G'=>Ctx V U0 L bs os (appG G' G) W→us.length=k→zez W (ad.add (i*k)) 0 us→Goal):Goal:=by
 have h:=H.facts _ hm
 simp only[R.h]at h
 obtain⟨a',c',e,hc,_,h⟩:=h
 simp only[Value.slice.injEq]at e
 obtain⟨rfl,rfl,rfl⟩:=e
 obtain⟨hl,h⟩:=zdv.1 h i cs hi
 obtain⟨ad,rfl,hn⟩:∃ad,a=some ad∧¬Us U0 bs os ad.block:=by
  cases cs with
  |nil=>simp at hk
  |cons r rs=>simp only[cellsH]at h; obtain⟨⟨x,_,rfl,hn,_⟩,_⟩:=h; exact⟨x,rfl,hn⟩
 obtain⟨us,hul,hus,_,hcs⟩:=zkm h
 obtain⟨G',hg,hG'⟩:=zfk cs hus (g ad rfl hn)
 refine hg { H with facts:=hG'.app H.facts } (by rw[hul,hl]) (zia us 0 fun j u hj=>?_)
 have:=hcs j u hj
 rw[Addr.add_add]; simpa using this
theorem owns_same{w w':World}{base:Nat}{e:TypeId}{size:Nat}{a:Option Addr}{n c:Nat}{xs:List Value}(h:w.ownsRow base e size (.slice a n c) n xs)(hk:∀x,a=some x→w'.heap[x.block]?=w.heap[x.block]?):w'.ownsRow base e size (.slice a n c) n xs:=by
 refine⟨h.1,?_⟩
 rcases h.2 with h2|⟨g,cap,cur,heq,hb,hg,rest⟩
 ·exact .inl h2
 ·simp only[Value.slice.injEq]at heq
  obtain⟨rfl,_,rfl⟩:=heq
  exact .inr ⟨g,c,cur,rfl,hb,(hk _ rfl).trans hg,rest⟩
def oblk:Option Addr→List Nat
 |none=>[]
 |some x=>[x.block]
def Own.row(e:TypeId)(k:Nat)(a:Option Addr)(c:Nat)(els:List (List R)):Own where
 bl:=oblk a
 h U w:=∃xs,w.ownsRow 0 e k (.slice a els.length c) els.length xs∧listH U w els.flatten xs∧(∀u∈xs,u.oneCell'=true)∧∀l∈els,l.length=k
 mono:=by
  rintro U U' w w' ⟨xs,h1,h2,h3⟩ l hk
  refine⟨xs,owns_same h1 ?_,zbj l _ h2,h3⟩
  rintro x rfl; exact hk _ (by simp[oblk])
 lt:=by
  rintro U w ⟨xs,h1,_⟩ b hb
  cases a with
  |none=>simp[oblk]at hb
  |some x=>
   simp only[oblk,List.mem_singleton]at hb
   subst hb
   exact(h1.lt x.block rfl).2
theorem Ctx.newRow{V W:World}{U0:Nat→Prop}{L bs:List Nat}{os:List Own}{G:List (Value×R)}(H:Ctx V U0 L bs os G W)(e:TypeId)(k:Nat):Ctx V U0 L bs (Own.row e k none 0 []::os) G W:=by
 have eb:ownBl (Own.row e k none 0 []::os)=ownBl os:=rfl
 have eu:Us U0 bs (Own.row e k none 0 []::os)=Us U0 bs os:=rfl
 refine⟨H.os_,H.tape,H.output,H.size,H.same,H.low,by rw[eb]; exact H.lowo,H.u0,by rw[eb]; exact H.nd,fun o ho=>?_,by rw[eu]; exact H.facts⟩
 rw[eu]
 rcases List.mem_cons.1 ho with rfl|ho
 ·exact⟨[],World.ownsRow_nil _ _ _ _,by simp[listH],by simp,by simp⟩
 ·exact H.own o ho
theorem zbe{U:Nat→Prop}{w:World}:∀{rs:List R} {us:List Value},listH U w rs us→us.length=rs.length
 |[],us,h=>by simp only[listH]at h; simp[h]
 |r::rs,us,h=>by simp only[listH]at h; obtain⟨u,us,rfl,_,h⟩:=h; simp[zbe h]
theorem zxm{U:Nat→Prop}{w:World}:∀{rs:List R} {us:List Value},listH U w rs us→∀(j:Nat) (r:R),rs[j]?=some r→∃u,us[j]?=some u∧r.h U w u
 |[],_,_,j,r,hj=>by simp at hj
 |r::rs,us,h,j,r',hj=>by
  simp only[listH]at h
  obtain⟨u,us,rfl,hu,h⟩:=h
  cases j with
  |zero=>simp at hj; subst hj; exact⟨u,by simp,hu⟩
  |succ j=>simpa using zxm h j r' (by simpa using hj)
theorem zcv{U:Nat→Prop}{w:World}:∀{rs rs':List R} {us us':List Value},listH U w rs us→listH U w rs' us'→listH U w (rs++rs') (us++us')
 |[],_,us,_,h,h'=>by simp only[listH]at h; subst h; simpa using h'
 |r::rs,_,us,_,h,h'=>by
  simp only[listH]at h
  obtain⟨u,us,rfl,hu,h⟩:=h
  simp only[List.cons_append,listH]
  exact⟨u,_,rfl,hu,zcv h h'⟩
theorem zga{α:Type}{k:Nat}:∀{els:List (List α)} {i:Nat} {cs:List α},(∀l∈els,l.length=k)→els[i]?=some cs→∀j r,cs[j]?=some r→els.flatten[i*k+j]?=some r
 |[],i,cs,_,h,_,_,_=>by simp at h
 |l::els,i,cs,hk,h,j,r,hj=>by
  have hl:=hk l (by simp)
  have hj':=(List.getElem?_eq_some_iff.1 hj).1
  cases i with
  |zero=>
   simp at h; subst h
   simp only[List.flatten_cons,Nat.zero_mul,Nat.zero_add]
   rw[List.getElem?_append_left hj']; exact hj
  |succ i=>
   simp only[List.flatten_cons]
   rw[List.getElem?_append_right (by rw[hl,Nat.succ_mul]; omega),show (i+1)*k+j - l.length=i*k+j by rw[hl,Nat.succ_mul]; omega]
   exact zga (fun l hl=>hk l (by simp[hl])) (by simpa using h) j r hj
theorem zzz{w:World}{e:TypeId}{k:Nat}{a:Option Addr}{n c:Nat}{xs:List Value}(h:w.ownsRow 0 e k (.slice a n c) n xs)(hx:xs≠[]):∃g,a=some ⟨g,0,none⟩∧g<w.heap.size∧∀j u,xs[j]?=some u→w.cell? ((⟨g,0,none⟩:Addr).add j)=some u:=by
 rcases h.2 with ⟨heq,rfl⟩|⟨g,cap,cur,heq,hb,hg,_⟩
 ·have:=h.1; simp at this; exact absurd this hx
 ·simp only[Value.slice.injEq]at heq
  obtain⟨rfl,_,rfl⟩:=heq
  exact⟨g,rfl,(Array.getElem?_eq_some_iff.1 hg).1,fun j u hj=>h.cells rfl j u hj⟩
theorem zuy{w:World}{e:TypeId}{k:Nat}{a:Option Addr}{n c:Nat}{xs:List Value}(h:w.ownsRow 0 e k (.slice a n c) n xs):n≤c∧c≤maxLen:=by
 rcases h.2 with ⟨heq,rfl⟩|⟨g,cap,cur,heq,hb,hg,hn,hm,_⟩
 ·simp only[Value.slice.injEq]at heq; omega
 ·simp only[Value.slice.injEq]at heq; omega
end Go.Vc