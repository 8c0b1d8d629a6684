import Derived.WalkKit
import Derived.OrdersHeld
import Derived.WalkSpells
import Derived.Deep.LoopGhost
import Derived.ChangeKeysEq
import Derived.Laws.AppendOwn
import Derived.Maps.RangeRun
import Derived.MapKept
namespace Go
abbrev ag:=@if_neg
abbrev ah:=@if_pos
abbrev ak:=@Option.some.injEq
abbrev an:=@decide_eq_false
abbrev ap:=@decide_eq_true
abbrev aq:=@List.length_append
abbrev au:=@Nat.le_refl
abbrev aw:=@List.getElem?_eq_getElem
abbrev ax:=@List.take_succ_eq_append_getElem
abbrev ay:=@List.mem_singleton
abbrev aB:=@List.mem_cons
abbrev aC:=@List.getElem?_eq_some_iff
abbrev aD:=@Bool.and_eq_true
abbrev aE:=@List.getElem_mem
abbrev aF:=@Nat.eq_of_beq_eq_true
abbrev aI:=@List.mem_filter
abbrev aJ:=@List.length_cons
abbrev aK:=@List.mem_map
abbrev aQ:=@List.mem_append
abbrev aR:=@Go.Sem.run_bind
abbrev aW:=@List.length_map
abbrev aX:=@Int.toNat_natCast
abbrev bb:=@Go.run_underlying
abbrev bd:=@List.mem_cons_of_mem
abbrev bf:=@List.length_take
abbrev bg:=@decide_eq_true_eq
abbrev bh:=@List.getElem?_set
abbrev bi:=@List.filter_cons
abbrev bn:=@List.append_assoc
abbrev bq:=@Go.Result.andThen_ok
abbrev br:=@Nat.zero_le
abbrev bs:=@List.take_length
abbrev bw:=@List.pairwise_cons
abbrev bA:=@of_decide_eq_true
abbrev bC:=@List.getElem?_append_left
abbrev bD:=@List.getElem?_eq_none
abbrev bE:=@Go.Sem.run_pure
abbrev bG:=@Go.IntWalk.i64_in
abbrev bI:=@List.map_cons
abbrev bN:=@List.pairwise_iff_getElem
abbrev bP:=@Nat.le_of_ble_eq_true
abbrev bQ:=@List.mem_flatMap
abbrev bS:=@congrArg
abbrev bU:=@List.mem_cons_self
abbrev bV:=@List.getD_eq_getElem?_getD
abbrev bZ:=@List.append_nil
abbrev cf:=@List.mem_of_find?_eq_some
abbrev cg:=@Go.IntKind.wrap_u64
abbrev cn:=@Nat.le_trans
abbrev cp:=@List.length_filter_le
abbrev cq:=@Nat.zero_add
abbrev cu:=@List.drop_eq_getElem_cons
abbrev cw:=@List.map_append
abbrev cy:=@Array.getElem?_eq_some_iff
abbrev cD:=@List.getElem?_take
abbrev cF:=@List.flatMap_cons
abbrev cK:=@Option.some.inj
abbrev cN:=@List.getElem?_drop
abbrev cR:=@Int.eq_ofNat_of_zero_le
abbrev cS:=@List.nil_append
abbrev cZ:=@Classical.byContradiction
abbrev dm:=@List.mem_map_of_mem
abbrev dt:=@List.Pairwise.sublist
abbrev du:=@Array.getElem?_toList
abbrev dw:=@Go.World.cell?_setCells_out
abbrev dC:=@List.mem_iff_getElem
abbrev dD:=@List.not_mem_nil
abbrev dE:=@Nat.mul_le_mul_right
abbrev dF:=@List.pairwise_append
abbrev dK:=@List.nodup_cons
abbrev dN:=@List.getElem?_take_of_lt
abbrev dO:=@Nat.lt_or_ge
abbrev dP:=@List.getElem?_append_right
abbrev dR:=@Go.IntKind.wrap_i64
abbrev dS:=@List.length_drop
abbrev dX:=@List.length_eq_zero_iff
abbrev eA:=@decide_eq_decide
abbrev eE:=@Option.map_eq_some_iff
abbrev eF:=@List.findIdx?_eq_some_iff_getElem
abbrev eH:=@Int.fdiv_eq_ediv_of_nonneg
abbrev eI:=@Int.mul_le_mul_of_nonneg_left
abbrev eJ:=@List.mem_of_mem_take
abbrev eT:=@List.ext_getElem?
abbrev eU:=@List.filter_append
abbrev eV:=@List.length_nil
abbrev eW:=@Nat.lt_of_lt_of_le
abbrev fc:=@Prod.mk.injEq
abbrev fg:=@Option.getD_some
abbrev fi:=@List.size_toArray
abbrev fj:=@List.cons.injEq
abbrev fv:=@Bool.false_eq_true
abbrev fw:=@Nat.eq_zero_or_pos
abbrev fx:=@List.setIfInBounds_toArray
abbrev fz:=@List.eq_nil_of_length_eq_zero
abbrev fC:=@List.getElem?_cons_succ
abbrev fF:=@List.filter_sublist
abbrev fG:=@List.sum_cons
abbrev fH:=@Array.length_toList
abbrev fO:=@List.length_set
abbrev fP:=@List.drop_length
abbrev fQ:=@Bool.or_eq_true
abbrev fR:=@Int.ediv_nonneg
abbrev fS:=@Option.map_some
abbrev fY:=@Array.ext'
abbrev gg:=@Int.le_of_lt
abbrev gj:=@List.length_pos_iff
abbrev gz:=@Int.mul_le_mul_of_nonneg_right
abbrev gA:=@Go.Value.slice.injEq
abbrev gC:=@List.findIdx?_eq_none_iff
abbrev gE:=@Int.mul_comm
abbrev gG:=@Int.emod_lt_of_pos
abbrev gS:=@List.getElem_of_mem
abbrev gT:=@beq_iff_eq
abbrev gU:=@Nat.ble_eq_true_of_le
abbrev hJ:=@List.map_map
abbrev hZ:=@Ne.symm
abbrev ib:=@Go.World.cell?_setCells_in
abbrev ic:=@List.getElem?_cons_zero
abbrev ir:=@List.mem_of_getElem?
abbrev iu:=@Go.run_sliceBound
abbrev iw:=@Int.emod_nonneg
abbrev iY:=@Nat.add_mul
abbrev iZ:=@Array.size_append
abbrev i6:=@Int.ediv_lt_of_lt_mul
abbrev jf:=@Int.mul_nonneg
abbrev jg:=@Prod.ext
abbrev jh:=@Nat.add_zero
abbrev jt:=@List.any_eq_true
abbrev jH:=@Bool.not_eq_true'
abbrev jI:=@Int.ediv_eq_zero_of_lt
abbrev jM:=@List.flatMap_append
abbrev jS:=@List.find?_some
abbrev jT:=@Int.le_refl
abbrev jU:=@Nat.min_eq_left
abbrev jW:=@List.takeWhile_append_dropWhile
abbrev kr:=@Nat.mod_eq_of_lt
abbrev ku:=@List.getElem_map
abbrev kv:=@List.find?_eq_none
abbrev kw:=@List.cons_append
abbrev kH:=@Nat.mul_comm
abbrev kN:=@List.take_append_of_le_length
abbrev kO:=@or_false
abbrev kP:=@List.mem_of_mem_drop
abbrev kQ:=@Go.heap_alloc_new
abbrev kZ:=@List.any_eq_false
abbrev la:=@List.getElem?_map
abbrev lc:=@List.getElem_take
abbrev lf:=@Nat.le_mul_of_pos_right
abbrev lr:=@List.sum_append
abbrev lu:=@List.foldl_cons
abbrev lv:=@Option.map_none
abbrev lM:=@List.filter_eq_self
abbrev lN:=@Nat.mul_le_mul_left
abbrev lX:=@List.take_of_length_le
abbrev lY:=@Nat.succ_mul
abbrev lZ:=@getElem!_pos
abbrev mq:=@List.all_eq_true
abbrev mN:=@List.drop_drop
abbrev mP:=@BitVec.toNat_ofInt
abbrev mQ:=@Go.heap_alloc_old
abbrev mR:=@Array.getElem?_append_left
abbrev mV:=@Nat.div_lt_iff_lt_mul
abbrev mW:=@Int.mul_ediv_add_emod
abbrev mX:=@List.take_append_drop
abbrev nj:=@List.getElem_append_right
abbrev nr:=@Int.natCast_mul
abbrev nY:=@Bool.or_eq_false_iff
abbrev nZ:=@Int.mul_add
abbrev n2:=@Int.add_mul
abbrev n3:=@Int.ne_of_gt
abbrev n5:=@Int.emod_eq_of_lt
abbrev n9:=@Int.add_zero
abbrev oa:=@List.pairwise_map
abbrev oe:=@List.nodup_append
abbrev og:=@Go.Addr.add_add
abbrev oU:=@List.take_succ_cons
abbrev oV:=@List.replicate_succ
abbrev oW:=@List.takeWhile_cons
abbrev pj:=@and_true
abbrev pk:=@decide_eq_false_iff_not
abbrev pn:=@if_false
abbrev pU:=@Nat.zero_mul
abbrev pV:=@Go.grownCap_le_maxLen
abbrev pW:=@List.map_nil
abbrev pX:=@Option.isSome_none
abbrev qi:=@List.filter_nil
abbrev qj:=@List.length_zip
abbrev qk:=@List.of_mem_zip
abbrev qE:=@List.getElem_set_self
abbrev qF:=@List.set_append_right
abbrev qG:=@List.mem_iff_getElem?
abbrev qH:=@List.length_singleton
abbrev qI:=@Array.getElem?_modify
abbrev rr:=@Int.tdiv_eq_ediv_of_nonneg
abbrev ru:=@Int.tmod_eq_emod_of_nonneg
abbrev rv:=@Go.World.cell?_alloc_at
abbrev ry:=@List.drop_zero
abbrev rz:=@Array.mem_toList_iff
abbrev r':=@Int.zero_add
abbrev sb:=@List.Sublist.map
abbrev sd:=@if_true
abbrev se:=@Go.wp_mono
abbrev sq:=@List.mem_or_eq_of_mem_set
abbrev sr:=@Array.getElem?_eq_getElem
abbrev su:=@List.extract_eq_take_drop
abbrev sD:=@Int.toNat_of_nonneg
abbrev sE:=@List.map_congr_left
abbrev sF:=@Go.run_firstCells_some
abbrev sG:=@List.drop_succ_cons
abbrev s7:=@Int.mul_assoc
abbrev s8:=@List.getElem_append_left
abbrev s9:=@List.Perm.eq_of_pairwise
abbrev tn:=@Bool.eq_iff_iff
abbrev tH:=@BitVec.toNat_ofNat
abbrev ug:=@Nat.pow_add
abbrev uh:=@Nat.sub_mul
abbrev vA:=@Int.mul_le_mul
abbrev vB:=@List.sum_nil
abbrev vC:=@List.filter_eq_nil_iff
abbrev vD:=@List.Pairwise.imp
abbrev vE:=@Go.Addr.add_lit
abbrev vF:=@Go.World.frozen?_setCells
abbrev vG:=@List.drop_eq_nil_of_le
abbrev vH:=@List.flatten_cons
abbrev vJ:=@Array.contains_iff_mem
abbrev vK:=@Function.comp_def
abbrev vM:=@Go.World.ownsRow_nil
abbrev vN:=@List.getElem_cons_succ
abbrev vP:=@Nat.mul_succ
abbrev vX:=@Array.getElem?_setIfInBounds_ne
abbrev wo:=@List.eq_nil_or_concat
abbrev wq:=@List.length_replicate
abbrev xi:=@Bool.not_eq_true
abbrev xj:=@Int.ediv_le_self
abbrev xk:=@List.isEmpty_iff
abbrev xl:=@List.range'_succ
abbrev xm:=@List.find?_eq_some_iff_getElem
abbrev xo:=@BitVec.toNat_not
abbrev yv:=@Nat.pow_le_pow_right
abbrev yw:=@List.getLast?_eq_some_getLast
abbrev yx:=@Go.run_storeCells_cells
abbrev yz:=@Go.World.cell?_of_block
abbrev yA:=@Array.toList_extract
abbrev yS:=@Nat.two_pow_pos
abbrev yT:=@Nat.div_add_mod
abbrev y6:=@List.take_set_of_le
abbrev y7:=@List.drop_set_of_lt
abbrev y8:=@Go.run_callFunc_extern
abbrev y9:=@Array.getElem?_push
abbrev za:=@List.dropWhile_cons
abbrev zC:=@Int.zero_sub
abbrev zD:=@Decidable.em
abbrev zE:=@Nat.sub_self
abbrev zF:=@dif_pos
abbrev Br:=@List.take_take
abbrev Bs:=@List.mem_range
abbrev Bu:=@Nat.mod_lt
abbrev Bv:=@Nat.lt_or_gt_of_ne
abbrev Bw:=@List.set_cons_succ
abbrev Bx:=@Go.eqGuard_at_int
abbrev By:=@List.zip_cons_cons
abbrev Co:=@List.drop_sublist
abbrev Cp:=@Nat.one_mul
abbrev Cw:=@List.take_sublist
abbrev Cz:=@List.map_id
abbrev CA:=@List.getElem_drop
abbrev CB:=@Go.cell_of_row
abbrev CC:=@Go.grownCap_ge
abbrev CD:=@Decidable.not_not
abbrev CE:=@Array.toList_push
abbrev CF:=@List.foldl_append
abbrev Db:=@List.any_cons
abbrev Dc:=@Bool.false_or
abbrev Dd:=@Nat.mul_assoc
abbrev De:=@Nat.add_assoc
abbrev Ei:=@List.getElem_zip
abbrev Ej:=@List.ext_getElem
abbrev Ek:=@List.getElem_set
abbrev Em:=@List.drop_append
abbrev Fk:=@Int.emod_def
abbrev Fl:=@Int.mul_zero
abbrev Fm:=@List.map_id'
abbrev Fo:=@Int.lt_trans
abbrev Fp:=@Nat.le_of_eq
abbrev Fq:=@Nat.sub_zero
abbrev Fs:=@Classical.em
abbrev FT:=@Int.ediv_mul_le
abbrev FV:=@Go.Value.agg.injEq
abbrev FW:=@Int.natCast_add
abbrev HU:=@Int.mul_neg
abbrev HV:=@Nat.min_def
abbrev HW:=@Nat.mul_one
abbrev IT:=@Iff.rfl
end Go
namespace Go.Vc
open Go
inductive LK where|int(k:IntKind)|bool|str
inductive TD where
 |struct (fs:List (Nat×Nat×Nat))
 |slice (e:TypeId)
 |array (n:Nat) (e:TypeId)
 |int (k:IntKind)
 |bool
 |string
 |ptr (e:TypeId)
 |map (k e:TypeId)
 |other
structure TI where
 ok:Bool
 td:TD
 size:Nat
 bytes:Nat
 agg:Bool
 zero:List Value
 leaves:Option (List LK)
def G1(y:TypeId->Option (List LK))(j:TypeId->Nat):List Field->Nat->Option (List LK)
 |[],_=>some []
 |f::C,off=>
  if f.name== "_" || f.offset != off then none else
  match y f.type with
  |none=>none
  |some l=>if l.length != j f.type||l.length==0 then none else
   match G1 y j C (off+l.length) with
   |none=>none
   |some r=>some (l++r)
def mw(P:Program):Nat->TypeId->Option (List LK)
 |0,_=>none
 |d+1,t=>
  match P.underlying t with
  |some (.int k)=>some [.int k]
  |some .bool=>some [.bool]
  |some .string=>some [.str]
  |some (.struct j)=>if P.stoodInHeld t then none else G1 (mw P d) P.cellsOf j.toList 0
  |some (.array n e)=>match mw P d e with
   |some [l]=>if P.cellsOf e=1/\n<=8 then some (List.replicate n l)else none
   |_=>none
  |_=>none
def TD.of(P:Program):TypeDesc->TD
 | .struct j=>.struct (j.toList.map λf=>(f.offset,f.type,P.cellsOf f.type))
 | .slice e=>.slice e
 | .array n e=>.array n e
 | .int k=>.int k
 | .bool=>.bool
 | .string=>.string
 | .pointer e=>.ptr e
 | .map k e=>.map k e
 |_=>.other
def ER:TypeDesc->Bool
 | .struct _=>true
 | .array _ _=>true
 |_=>false
def rowOf(P:Program)(t:TypeId):TI:=
  match P.underlying t,P.info? t with
  |some d,some i=>
    { ok:=true,td:=.of P d,size:=i.size,bytes:=i.bytes,agg:=ER d
      zero:=(match i.zero with|some z=>z.cells.toList|none=>[])
      leaves:=if P.eqGuardType P.depth t then none else mw P 8 t }
  |_,_=>{ ok:=false,td:=.other,size:=0,bytes:=0,agg:=false,zero:=[],leaves:=none }
def uV(a b:Int):Value:=.agg #[.int .i64 a,.int .i64 b]
def isU(v:Value):Prop:=∃a b:Int,v=uV a b
structure alx(P:Program)(kt:TypeId):Prop where
 check:∀(e:Bool) (w:World) {v:Value},isU v->(Instr.checkKey e 10000 kt v).run P w=.ok () w
 find:∀(w:World) {x:Value},isU x->∀es:List MapEntry,(∀e∈es,isU e.key)->((Instr.findKey kt x es).run P w=.ok none w/\∀e∈es,e.key≠x)\/∃j e,(Instr.findKey kt x es).run P w=.ok (some (j,e.val)) w/\es[j]?=some e/\e.key=x
 stays:∀(w:World) {v:Value},isU v->(Instr.keyThatStays v v).run P w=.ok v w
structure afF(P:Program)(kt et:TypeId):Prop where
 key:alx P kt
 zero:∀w:World,(zeroValue et).run P w=.ok (.bool false) w
structure dL(P:Program)(T:List TI):Prop where
 rows:∀(t:TypeId) (ti:TI),T[t]?=some ti->ti.ok=true->ti=rowOf P t
 keys:∀ti∈T,ti.ok=true->∀k e,ti.td=.map k e->afF P k e
def JR:List TI->List (TypeId×TypeId)
 |[]=>[]
 |j::T=>match j.ok,j.td with
  |true,.map k e=>(k,e)::JR T
  |_,_=>JR T
theorem aad{k e}:∀{T:List TI} {j:TI},j∈T->j.ok=true->j.td=.map k e->(k,e)∈JR T
 |x::T,j,h,h1,y=>by
  unfold JR;rcases aB.1 h with rfl|h
  .rw[h1,y];simp
  .have:=aad h h1 y;split
   .exact bd _ this
   .exact this
def G3(P:Program):Nat->List TI->List TI
 |_,[]=>[]
 |n,j::T=>(match j.ok with|true=>rowOf P n|false=>j)::G3 P (n+1) T
theorem apJ{P}{T}(h:G3 P 0 T=T):∀(t:TypeId) (j:TI),T[t]?=some j->j.ok=true->j=rowOf P t:=by
 have key:∀(T:List TI) (n:Nat),G3 P n T=T->∀(t:TypeId) (j:TI),T[t]?=some j->j.ok=true->j=rowOf P (n+t):=by
  intro T;induction T with
  |nil=>intro n _ t j y;simp at y
  |cons x T C=>
   intro n h t j y ho;simp only[G3,fj]at h;cases t with
   |zero=>simp at y;subst y;rw[ho]at h;simpa using h.1.symm
   |succ t=>
    have:=C (n+1) h.2 t j (by simpa using y) ho
    rwa [show n+(t+1)=n+1+t by omega]
 intro t j y ho;simpa using key T 0 h t j y ho
theorem adl{P}{T}(h:G3 P 0 T=T)(j:∀p∈JR T,afF P p.1 p.2):dL P T:=⟨apJ h,λ_ F C k e y=>j (k,e) (aad F C y)⟩
structure ou(P:Program)(t:TypeId)(ti:TI):Prop where ex:∃d i,P.underlying t=some d/\P.info? t=some i/\ti.td=.of P d/\ti.size=i.size/\ti.bytes=i.bytes/\ti.agg=ER d/\ti.zero=(match i.zero with|some z=>z.cells.toList|none=>[])/\ti.leaves=if P.eqGuardType P.depth t then none else mw P 8 t
theorem dL.facts{P}{T}(h:dL P T){t}{j}(C:T[t]?=some j)(hs:j.ok=true):ou P t j:=by
  have y:=h.rows t j C hs
  unfold rowOf at y
  split at y
  · rename_i d i F hi
    subst y
    exact⟨d,i,F,hi,rfl,rfl,rfl,rfl,rfl,rfl⟩
  · subst y;simp at hs
theorem run_typeInfo{P}{t}{i}(h:P.info? t=some i)(w):(typeInfo t).run P w=.ok i w:=by simp[typeInfo,run_program,h]
theorem tP{P}{t}{i}(h:P.info? t=some i)(w):(sizeOf t).run P w=.ok i.size w:=by simp[sizeOf,run_typeInfo h]
theorem wQ{P}{t}{d}(h:P.underlying t=some d)(w):
 (isAgg t).run P w=.ok (ER d) w:=by
 simp only[isAgg,aR,bb h,bq];cases d<;>simp[ER]
theorem uO{P}{t}{i}{z}(h:P.info? t=some i)(j:i.zero=some z)(w):(zeroValue t).run P w=.ok z w:=by simp[zeroValue,run_typeInfo h,j]
def ul:List LK->List Value->List Value->Option Bool
 |[],[],[]=>some true
 | .int _::ls,.int C a::xs,.int y b::j=>if C=y then(ul ls xs j).map ((a==b)&&·)else none
 | .bool::ls,.bool a::xs,.bool b::j=>(ul ls xs j).map ((a==b)&&·)
 | .str::ls,.string a::xs,.string b::j=>(ul ls xs j).map ((a.toList==b.toList)&&·)
 |_,_,_=>none
theorem PN{l r}{xs y}{b}(h:ul (l++r) xs y=some b):
 ∃b1 C,ul l (xs.take l.length) (y.take l.length)=some b1/\ul r (xs.drop l.length) (y.drop l.length)=some C/\b=(b1&&C)/\l.length<=xs.length/\l.length<=y.length:=by
 induction l generalizing xs y b with
 |nil=>exact⟨true,b,by simp[ul],by simpa using h,by simp,by simp,by simp⟩
 |cons k l W=>
  simp only[kw]at h;unfold ul at h;split at h
  .simp_all
  .rename_i ls k1 a xs Y V y j;injection j with h1 R;subst R;split at h
   .rename_i X;simp only[eE]at h;obtain⟨c,F,rfl⟩:=h;obtain⟨b1,C,K,J,rfl,H,G⟩:=W F;subst h1;refine⟨(a==V)&&b1,C,?_,by simpa using J,?_,by simpa using H,by simpa using G⟩
    .simp only[aJ,oU,ul,ah X,K,fS]
    .simp[Bool.and_assoc]
   .cases h
  .rename_i ls a xs V y j;injection j with h1 R;subst R;simp only[eE]at h;obtain⟨c,F,rfl⟩:=h;obtain⟨b1,C,K,J,rfl,H,G⟩:=W F;subst h1;exact⟨(a==V)&&b1,C,by simp only[aJ,oU,ul,K,fS],by simpa using J,by simp[Bool.and_assoc],by simpa using H,by simpa using G⟩
  .rename_i ls a xs V y j;injection j with h1 R;subst R;simp only[eE]at h;obtain⟨c,F,rfl⟩:=h;obtain⟨b1,C,K,J,rfl,H,G⟩:=W F;subst h1;exact⟨(a.toList==V.toList)&&b1,C,by simp only[aJ,oU,ul,K,fS],by simpa using J,by simp[Bool.and_assoc],by simpa using H,by simpa using G⟩
  .cases h
def yZ(P:Program)(t:TypeId)(xs:List Value):Value:=
 match P.underlying t with
 |some (.struct _)=>.agg xs.toArray
 |some (.array _ _)=>.agg xs.toArray
 |_=>xs.getD 0 undef
theorem Mf{P}{t}{xs}{off}{i}{l}{d}(hl:mw P d t=some l)(hi:P.info? t=some i)(y:l.length=i.size)(C:off+l.length<=xs.size)(w):
 (part t xs off).run P w=.ok (yZ P t ((xs.toList.drop off).take l.length)) w:=by
 cases d with
 |zero=>simp[mw]at hl
 |succ d=>
  unfold mw at hl;unfold yZ;have one:∀k:LK,l=[k]->off<xs.size:=by rintro k rfl;simp at C;omega
  split at hl
  .rename_i k j;simp only[ak]at hl;have:=one _ hl.symm;subst hl;simp[part,wQ j,ER,j,this,List.getD]
  .rename_i j;simp only[ak]at hl;have:=one _ hl.symm;subst hl;simp[part,wQ j,ER,j,this,List.getD]
  .rename_i j;simp only[ak]at hl;have:=one _ hl.symm;subst hl;simp[part,wQ j,ER,j,this,List.getD]
  .rename_i F j;simp only[part,aR,wQ j,ER,bq,sd,tP hi,j,bE];congr 2;apply fY;simp[y]
  .rename_i n e j;simp only[part,aR,wQ j,ER,bq,sd,tP hi,j,bE];congr 2;apply fY;simp[y]
  .cases hl
theorem alE{P:Program}{d:Nat}{e:TypeId}{C:LK}{i:TypeInfo}(G:mw P d e=some [C])(hi:P.info? e=some i)(J:i.size=1)(H:P.cellsOf e=1)
 (W:∀(t:TypeId) (l:List LK),mw P d t=some l->∀(D:Nat),d<=D->∀(xs j:List Value) (r:Bool),ul l xs j=some r->∀w,(Op.equalIn D t (yZ P t xs) (yZ P t j)).run P w=.ok r w) (D:Nat) (hD:d<=D) (xs j:Array Value):
 ∀(m k:Nat) (r:Bool),ul (List.replicate m C) (xs.toList.drop k) (j.toList.drop k)=some r->∀w,(Op.eqItems D e (P.cellsOf e) xs j (List.range' k m)).run P w=.ok r w:=by
 intro m;induction m with
 |zero=>intro k r y w;unfold ul at y;split at y<;>simp_all [Op.eqItems]
 |succ m F=>
  intro k r y w;rw[oV,<-List.singleton_append]at y;obtain⟨b1,b2,g1,V,rfl,R,K⟩:=PN y;simp only[qH]at g1 V R K;have Y:k+[C].length<=xs.size:=by simp at R ⊢;omega
  have X:k+[C].length<=j.size:=by simp at K ⊢;omega
  simp only[xl,Op.eqItems,aR,H,HW,Mf G hi (by rw[J];rfl) Y,Mf G hi (by rw[J];rfl) X,bq,qH,W e [C] G D hD _ _ b1 g1,Sem.run_ite,bE];cases b1
  .simp
  .have:=F (k+1) b2 (by simpa[mN]using V) w
   rwa [H]at this
theorem aio{P:Program}{d:Nat}(Y:∀t,P.cellsOf t≠0->∃i,P.info? t=some i/\i.size=P.cellsOf t)
 (ih:∀(t:TypeId) (l:List LK),mw P d t=some l->∀(D:Nat),d<=D->∀(xs C:List Value) (r:Bool),ul l xs C=some r->∀w,(Op.equalIn D t (yZ P t xs) (yZ P t C)).run P w=.ok r w):
 ∀(V:List Field) (off:Nat) (l:List LK),G1 (mw P d) P.cellsOf V off=some l->∀(D:Nat),d<=D->∀(xs C:Array Value) (r:Bool),ul l (xs.toList.drop off) (C.toList.drop off)=some r->∀w,(Op.eqFields D xs C V).run P w=.ok r w:=by
 intro V;induction V with
 |nil=>intro off l hl D hD xs C r W w;simp only[G1,ak]at hl;subst hl;unfold ul at W;split at W<;>simp_all [Op.eqFields]
 |cons f V X=>
  intro off l hl D hD xs C r W w;unfold G1 at hl;split at hl
  .cases hl
  .rename_i R;simp only[fQ,gT,bne_iff_ne,not_or,CD]at R;have⟨hn,K⟩:=R;subst K;split at hl
   .cases hl
   .rename_i F H;split at hl
    .cases hl
    .rename_i j;simp only[fQ,gT,bne_iff_ne,not_or,ne_eq,CD]at j;have⟨j,hne⟩:=j;split at hl
     .cases hl
     .rename_i J G;simp only[ak]at hl;subst hl;obtain⟨b1,b2,h1,h2,rfl,h3,h4⟩:=PN W;have y:F≠[]:=by intro h0;subst h0;simp at hne
      have⟨i,hi,ayB⟩:=Y f.type (by rw[<-j];simpa using y)
      have hx:f.offset+F.length<=xs.size:=by
       have:F.length<=xs.toList.length-f.offset:=by simpa using h3
       have:=gj.2 y;simp at *;omega
      have hy:f.offset+F.length<=C.size:=by
       have:F.length<=C.toList.length-f.offset:=by simpa using h4
       have:=gj.2 y;simp at *;omega
      simp only[Op.eqFields,ne_eq,hn,not_false_eq_true,sd,aR,Mf H hi (by omega) hx,Mf H hi (by omega) hy,bq,ih f.type F H D hD _ _ b1 h1,Sem.run_ite,bE];cases b1
      .simp
      .simp only[Bool.not_true,fv,pn,Bool.true_and];exact X (f.offset+F.length) J G D hD xs C b2 (by simpa[mN]using h2) w
theorem sT{P:Program}(t:TypeId)(h:P.cellsOf t≠0):∃i,P.info? t=some i/\i.size=P.cellsOf t:=by
 unfold Program.cellsOf at *;cases hi:P.info? t with
 |none=>simp[hi]at h
 |some i=>exact⟨i,rfl,by simp⟩
theorem Oj{P:Program}:∀(d:Nat) (t:TypeId) (l:List LK),mw P d t=some l->∀(D:Nat),d<=D->∀(xs H:List Value) (r:Bool),ul l xs H=some r->∀w,
 (Op.equalIn D t (yZ P t xs) (yZ P t H)).run P w=.ok r w:=by
 intro d;induction d with
 |zero=>intro t l hl;simp[mw]at hl
 |succ d R=>
  intro t l hl D hD xs H r j w;obtain⟨D,rfl⟩:∃D',D=D'+1:=⟨D-1,by omega⟩;unfold mw at hl;split at hl
  .rename_i k y;simp only[ak]at hl;subst hl;unfold ul at j;split at j<;>try (simp_all;done)
   rename_i F;injection F with F G;subst G;split at j
   .rename_i X;subst X;simp only[eE]at j;obtain⟨c,C,rfl⟩:=j;unfold ul at C;split at C<;>simp_all [yZ,List.getD,run_equalIn_int];all_goals rw [run_equalIn_int (h:=y)]
   .cases j
  .rename_i y;simp only[ak]at hl;subst hl;unfold ul at j;split at j<;>try (simp_all;done)
   rename_i F;injection F with F G;subst G;simp only[eE]at j;obtain⟨c,C,rfl⟩:=j;unfold ul at C;split at C<;>simp_all [yZ,List.getD];all_goals rw [run_equalIn_bool' (h:=y)]
  .rename_i y;simp only[ak]at hl;subst hl;unfold ul at j;split at j<;>try (simp_all;done)
   rename_i F;injection F with F G;subst G;simp only[eE]at j;obtain⟨c,C,rfl⟩:=j;unfold ul at C;split at C<;>simp_all [yZ,List.getD];all_goals rw [run_equalIn_string (h:=y)]
  .rename_i W y;split at hl
   .cases hl
   .rename_i J;have V:P.fieldsOf t=W:=by simp[Program.fieldsOf,y]
    simp only[yZ,y];rw[run_equalIn_struct w D t _ _ (by rw[V];exact y) (by simpa using J),V];exact aio sT R W.toList 0 l hl D (by omega) _ _ r (by simpa using j) w
  .rename_i n e y;split at hl
   .rename_i l0 Y;split at hl
    .rename_i C;simp only[ak]at hl;subst hl;have⟨i,hi,K⟩:=sT (P:=P) e (by rw[C.1];decide);simp only[yZ,y];rw[run_equalIn_array w D _ _ y hi,List.range_eq_range'];exact alE Y hi (K.trans C.1) C.1 R D (by omega) _ _ n 0 r (by simpa using j) w
    .cases hl
   .cases hl
  .cases hl
def ikn:IntKind->Nat | .i8=>0 | .i16=>1 | .i32=>2 | .i64=>3 | .u8=>4 | .u16=>5 | .u32=>6 | .u64=>7
def eqk(a b:IntKind):Bool:=Nat.beq (ikn a) (ikn b)
theorem Tc{a b}(h:eqk a b=true):a=b:=by cases a<;>cases b<;>first|rfl|(simp[eqk,ikn]at h)
def cX(neg b:Bool):Bool:=match neg with|true=>!b|false=>b
theorem zo{P}{neg:Bool}{t:TypeId}{x y:Operand}{a b v:Value}{w:World}(j:eqGuard (if neg then .neq else .eql) t x y a b=pure ())
 (hb:(binOp (if neg then .neq else .eql) t a b).run P w=.ok v w):
 (do eqGuard (if neg then .neq else .eql) t x y a b;binOp (if neg then .neq else .eql) t a b).run P w=.ok v w:=by
 rw[j,aR];simp[hb]
theorem aae{P}(neg:Bool){t:TypeId}(x y:Operand)(a b:Bool)(w:World)(h:P.underlying t=some .bool):
 (do eqGuard (if neg then .neq else .eql) t x y (.bool a) (.bool b);binOp (if neg then .neq else .eql) t (.bool a) (.bool b)).run P w=.ok (.bool (cX neg (a==b))) w:=by
 refine zo (by cases neg<;>rfl) ?_;cases neg
 .exact run_eql_bool w t a b h
 .exact run_neq_bool w t a b h
theorem ET{P}(neg:Bool){t e:TypeId}(x y:Operand)(p:Option Addr)(w:World)(h:P.underlying t=some (.pointer e)):
 (do eqGuard (if neg then .neq else .eql) t x y (.pointer p) (.pointer none);binOp (if neg then .neq else .eql) t (.pointer p) (.pointer none)).run P w=.ok (.bool (cX neg p.isNone)) w:=by
 have j:P.underlying t=some (.pointer (P.pointee t)):=by simp[Program.pointee,h]
 refine zo (by cases neg<;>rfl) ?_;cases neg
 .exact run_eql_pointer_nil w t p j
 .exact run_neq_pointer_nil w t p j
theorem Tm{P}(neg:Bool){t e:TypeId}(x y:Operand)(p:Option Addr)(l c:Nat)(w:World)(h:P.underlying t=some (.slice e)):
 (do eqGuard (if neg then .neq else .eql) t x y (.slice p l c) (.slice none 0 0);binOp (if neg then .neq else .eql) t (.slice p l c) (.slice none 0 0)).run P w=.ok (.bool (cX neg p.isNone)) w:=by
 refine zo (by cases neg<;>rfl) ?_;cases neg
 .simp[binOp,Op.equal,Op.maxDepth,Lib.run_equalIn_slice_nil w 9999 t e p l c 0 0 h,cX]
 .simp[binOp,Op.equal,Op.maxDepth,Lib.run_equalIn_slice_nil w 9999 t e p l c 0 0 h,cX]
theorem adq{P}(neg:Bool){t:TypeId}(x y:Operand)(a b:ByteArray)(w:World):
 (do eqGuard (if neg then .neq else .eql) t x y (.string a) (.string b);binOp (if neg then .neq else .eql) t (.string a) (.string b)).run P w=.ok (.bool (cX neg (a.toList==b.toList))) w:=by
 refine zo (by cases neg<;>rfl) ?_;cases neg<;>rfl
theorem apK{P}{t}{j:TI}(C:ou P t j)(h:j.td=.bool):P.underlying t=some .bool:=by have⟨d,i,F,hi,y,_⟩:=C.ex;rw[h]at y;cases d<;>simp[TD.of]at y;exact F
theorem Y4{P}{t e}{y:TI}(C:ou P t y)(h:y.td=.ptr e):P.underlying t=some (.pointer e):=by have⟨d,i,F,hi,j,_⟩:=C.ex;rw[h]at j;cases d<;>simp[TD.of]at j;subst j;exact F
theorem q8{P}{t e}{y:TI}(C:ou P t y)(h:y.td=.slice e):P.underlying t=some (.slice e):=by have⟨d,i,F,hi,j,_⟩:=C.ex;rw[h]at j;cases d<;>simp[TD.of]at j;subst j;exact F
theorem alF{P}{t k e}{y:TI}(C:ou P t y)(h:y.td=.map k e):P.underlying t=some (.map k e):=by have⟨d,i,F,hi,j,_⟩:=C.ex;rw[h]at j;cases d<;>simp[TD.of]at j;obtain⟨rfl,rfl⟩:=j;exact F
theorem DF{P}{t}{j:TI}(C:ou P t j)(h:j.td=.string):P.underlying t=some .string:=by have⟨d,i,F,hi,y,_⟩:=C.ex;rw[h]at y;cases d<;>simp[TD.of]at y;exact F
theorem atT{P}{t}{y:TI}{k:IntKind}(C:ou P t y)(h:y.td=.int k):P.underlying t=some (.int k):=by have⟨d,i,F,hi,j,_⟩:=C.ex;rw[h]at j;cases d<;>simp[TD.of]at j;subst j;exact F
theorem Iu{P}{t}{y:TI}{C:List (Nat×Nat×Nat)}(F:ou P t y)(h:y.td=.struct C):
 ∃fl:Array Field,P.underlying t=some (.struct fl)/\C=fl.toList.map λf=>(f.offset,f.type,P.cellsOf f.type):=by
 have⟨d,i,G,hi,j,_⟩:=F.ex;rw[h]at j;cases d<;>simp[TD.of]at j;exact⟨_,G,j⟩
theorem aaf{P}{t e}{n:Nat}{y:TI}(C:ou P t y)(h:y.td=.array n e):P.underlying t=some (.array n e):=by have⟨d,i,F,hi,j,_⟩:=C.ex;rw[h]at j;cases d<;>simp[TD.of]at j;obtain⟨rfl,rfl⟩:=j;exact F
def Tn:Value->Bool
 | .agg _=>false
 | .tuple _=>false
 |_=>true
def wr{α:Type}:List α->Nat->List α->List α
 |xs,_,[]=>xs
 |xs,off,v::vs=>wr (xs.set off v) (off+1) vs
theorem DA{α}(xs)(off:Nat)(vs:List α):(wr xs off vs).length=xs.length:=by
 induction vs generalizing xs off with
 |nil=>rfl
 |cons v vs j=>simp[wr,j]
def setCells(w:World)(a:Addr):Nat->List Value->World
 |_,[]=>w
 |i,v::vs=>setCells (w.setCell (a.add i) v) a (i+1) vs
theorem QI(w:World)(a:Addr)(v:Value)(b:Nat)(h:b≠a.block):(w.setCell a v).heap[b]?=w.heap[b]?:=RowKit.Below.heap_setCell w a v b h
theorem QJ{w:World}{b o:Nat}{j:Array Value}{t:TypeId}{fr:Nat×Nat}(v:Value)(h:w.heap[b]?=some (.cells j t fr)):
 (w.setCell ⟨b,o,none⟩ v).heap[b]?=some (.cells (j.setIfInBounds o v) t fr):=by
 simp[World.setCell,qI,h]
theorem jK(a:Addr)(n:Nat):(a.add n).block=a.block:=by unfold Addr.add;split<;>rfl
theorem tg(b o n):(⟨b,o,none⟩:Addr).add n=⟨b,o+n,none⟩:=by unfold Addr.add;split<;>simp_all
theorem xU(a:Addr)(b:Nat)(h:b≠a.block):∀(vs:List Value) (i:Nat) (w:World),(setCells w a i vs).heap[b]?=w.heap[b]?
 |[],_,_=>rfl
 |v::vs,i,w=>by simp only[setCells];rw[xU a b h vs,QI _ _ _ _ (by rw[jK];exact h)]
theorem GV(b o:Nat){t:TypeId}{fr:Nat×Nat}:∀(vs:List Value) (i:Nat) (w:World) (xs:List Value),w.heap[b]?=some (.cells xs.toArray t fr)->
 (setCells w ⟨b,o,none⟩ i vs).heap[b]?=some (.cells (wr xs (o+i) vs).toArray t fr)
 |[],_,w,xs,h=>by simpa[setCells,wr]using h
 |v::vs,i,w,xs,h=>by simp only[setCells,wr,tg];have j:=QJ (o:=o+i) v h;simp only[fx]at j;have:=GV b o vs (i+1) _ _ j;rw[show o+i+1=o+(i+1)by omega];exact this
theorem CR(a):∀(vs:List Value) (i:Nat) (w:World),(setCells w a i vs).os=w.os/\(setCells w a i vs).tape=w.tape/\(setCells w a i vs).output=w.output/\(setCells w a i vs).heap.size=w.heap.size/\(setCells w a i vs).drawn=w.drawn
 |[],_,_=>⟨rfl,rfl,rfl,rfl,rfl⟩
 |v::vs,i,w=>by have:=CR a vs (i+1) (w.setCell (a.add i) v);simp only[setCells];refine⟨this.1,this.2.1,this.2.2.1,?_,this.2.2.2.2⟩;rw[this.2.2.2.1];simp
theorem To{w:World}{a b:Addr}(v:Value)(h:(w.cell? b).isSome=true):((w.setCell a v).cell? b).isSome=true:=by
 by_cases j:a=b
 .subst j;have⟨u,y⟩:=Option.isSome_iff_exists.1 h;rw[World.cell?_setCell_same w a v y];rfl
 .rw[World.cell?_setCell_other w a b v j];exact h
theorem adr{P}(w)(a)(v)(hv:Tn v=true)(j:(w.cell? a).isSome=true)(C:w.frozen? a=false):
 (store a v).run P w=.ok () (w.setCell a v):=by
 have⟨u,y⟩:=Option.isSome_iff_exists.1 j;unfold store;cases v<;>simp_all [Sem.run,Tn]
theorem G4{P}(a):∀(vs:List Value) (i:Nat) (w:World),(∀v∈vs,Tn v=true)->(∀j,j<vs.length->(w.cell? (a.add (i+j))).isSome=true/\w.frozen? (a.add (i+j))=false)->
 (storeCells a vs i).run P w=.ok () (setCells w a i vs)
 |[],_,_,_,_=>by simp[storeCells,setCells]
 |v::vs,i,w,hv,C=>by
  have y:=C 0 (by simp);simp only[jh]at y;simp only[storeCells,aR,adr w _ v (hv v (by simp)) y.1 y.2,bq,setCells];refine G4 a vs (i+1) _ (λu F=>hv u (by simp[F])) λj G=>?_
  have:=C (j+1) (by simp;omega);rw[show i+1+j=i+(j+1)by omega];exact⟨To v this.1,by rw[World.frozen?_setCell];exact this.2⟩
theorem cell_of_block{w:World}{b:Nat}{xs:List Value}{t:TypeId}{fr:Nat×Nat}(h:w.heap[b]?=some (.cells xs.toArray t fr))(o:Nat):w.cell? ⟨b,o,none⟩=xs[o]?:=by simp[World.cell?,h]
theorem FE{w:World}{b:Nat}{xs:List Value}{t:TypeId}(h:w.heap[b]?=some (.cells xs.toArray t (0,0)))(o:Nat):w.frozen? ⟨b,o,none⟩=false:=by simp[World.frozen?,h]
def rI(P:Program)(f:FuncId):Prop:=∃fn,P.funcs[f]?=some fn/\(fn.name== "runtime.NumGoroutine")=false/\fn.body.isNone=false
structure pG(P:Program)(f:FuncId)(args:Array Value)(w:World)(R:Value->World->Prop):Prop where ex:(rI P f/\Calls P f args w λe w'=>∃v,e=.returned v/\R v w')\/(∃v w',(callFunc f args).run P w=.ok (.value v) w'/\R v w')
theorem pG.mono{P}{f}{args}{w:World}{R y:Value->World->Prop}(h:pG P f args w R)(j:∀v w',R v w'->y v w'):pG P f args w y:=by
 rcases h.ex with⟨hb,F⟩|⟨v,w',h1,G⟩
 .exact⟨.inl ⟨hb,F.mono λ_ _ ⟨v,C,hv⟩=>⟨v,C,j _ _ hv⟩⟩⟩
 .exact⟨.inr ⟨v,w',h1,j _ _ G⟩⟩
theorem rI.run{P}{f}(h:rI P f)(j:Array Value)(w:World):(callFunc f j).run P w=.ok (.enter f j) w:=by have⟨fn,F,C,y⟩:=h;simp only[callFunc,aR,run_program,bq,F,C,y,fv,pn,bE]
theorem pG.calls{P}{f}{args}{w:World}{R:Value->World->Prop}(h:pG P f args w R)(hb:rI P f):Calls P f args w λe w'=>∃v,e=.returned v/\R v w':=by
 rcases h.ex with⟨_,j⟩|⟨v,w',h1,y⟩
 .exact j
 .rw[hb.run]at h1;simp at h1
structure alG(P:Program)(s:Sem Value)(w:World)(R:Value->World->Prop):Prop where ex:∃v w',s.run P w=.ok v w'/\R v w'
theorem alG.mono{P}{s}{w:World}{R j:Value->World->Prop}(h:alG P s w R)(y:∀v w',R v w'->j v w'):alG P s w j:=⟨let ⟨v,w',F,C⟩:=h.ex;⟨v,w',F,y _ _ C⟩⟩
def Aw:Nat->List Nat->Bool
 |_,[]=>false
 |i,j::y=>match Nat.beq i j with|true=>true|false=>Aw i y
section
variable {P : Program} {a : Act} {o : Oper} {w : World}
theorem Mg{t}{j:TI}(y:ou P t j):∃i,P.info? t=some i/\j.size=i.size/\j.zero=(match i.zero with|some z=>z.cells.toList|none=>[]):=by have⟨d,i,G,hi,R,F,K,J,C,H⟩:=y.ex;exact⟨i,hi,F,C⟩
theorem Y5{t}{j}(y:ou P t j)(w:World):(isAgg t).run P w=.ok j.agg w:=by have⟨d,i,C,hi,R,K,J,F,H,G⟩:=y.ex;rw[wQ C,F]
theorem rJ{t}{j}(y:ou P t j)(w:World):(sizeOf t).run P w=.ok j.size w:=by have⟨i,hi,C,_⟩:=Mg y;rw[tP hi,C]
theorem Tp{t}{x}(ho:o.op=.load t x):(execOp a.eval o).run P w=((Instr.loadAt t (a.eval x)).run P w).andThen λv w'=>.ok (.value v) w':=by simp only[execOp,ho,aR,bE]
theorem aip{t}{x y}(ho:o.op=.store t x y):(execOp a.eval o).run P w=((Instr.storeAt t (a.eval x) (a.eval y)).run P w).andThen λ_ w'=>.ok .skip w':=by simp only[execOp,ho,aR,bE]
end
theorem uP(i)(ids):Aw i ids=true↔i∈ids:=by
 induction ids with
 |nil=>simp[Aw]
 |cons j C y=>
  unfold Aw;split
  .rename_i h;simp[aF h]
  .rename_i h;simp[y,Nat.ne_of_beq_eq_false h]
theorem alH(cs):∀(xs:Array Value) (off k:Nat),(cs.zipIdx k).foldl (λacc (p:Value×Nat)=>acc.setIfInBounds (off+p.2) p.1) xs=(wr xs.toList (off+k) cs).toArray:=by
 induction cs with
 |nil=>intro xs off k;simp[wr]
 |cons c cs j=>intro xs off k;simp only[List.zipIdx_cons,lu,j,wr];rw[show off+(k+1)=off+k+1 by omega];simp
open Go.RowKit
section
abbrev KU:=Int×Int×Unit
def kV(x:KU):Value:=uV x.1 x.2.1
theorem atU{x y}(h:kV x=kV y):x=y:=by have⟨a,b,⟨⟩⟩:=x;have⟨c,d,⟨⟩⟩:=y;simp only[kV,uV,FV,Array.mk.injEq,fj,Value.int.injEq,true_and,pj]at h;exact jg h.1 (jg h.2 rfl)
theorem Tq{x}{l:List KU}:kV x∈l.map kV↔x∈l:=⟨λh=>let ⟨_,j,e⟩:=aK.1 h;atU e▸j,λh=>aK.2 ⟨x,h,rfl⟩⟩
structure aag(es:Array MapEntry)(clock:Nat)(ks:List Value):Prop where
 keys:es.toList.map (·.key)=ks
 kok:∀k∈ks,isU k
 nd:ks.Nodup
 val:∀e∈es.toList,e.val=.bool true
 bnd:(es.toList.map (·.born)).Nodup
 lt:∀e∈es.toList,e.born<clock
inductive DT where
 |int (k:IntKind)
 |bool
 |str
 |slc (t:DT)
 |unit
 |pair (a b:DT)
 |set
@[reducible] def DT.den:DT->Type
 | .int _=>Int
 | .bool=>Bool
 | .str=>ByteArray
 | .slc t=>List t.den
 | .unit=>Unit
 | .pair a b=>a.den×b.den
 | .set=>List KU
def DT.size:DT->Nat
 | .int _=>1
 | .bool=>1
 | .str=>1
 | .slc _=>1
 | .unit=>0
 | .pair a b=>a.size+b.size
 | .set=>1
def DT.agg:DT->Bool
 | .unit=>true
 | .pair _ _=>true
 |_=>false
def DT.same:(a b:DT)->Option (PLift (a=b))
 | .int k,.int j=>if h:eqk k j=true then some ⟨by rw[Tc h]⟩else none
 | .bool,.bool=>some ⟨rfl⟩
 | .str,.str=>some ⟨rfl⟩
 | .unit,.unit=>some ⟨rfl⟩
 | .set,.set=>some ⟨rfl⟩
 | .slc a,.slc b=>match a.same b with
  |some ⟨h⟩=>some ⟨by rw[h]⟩
  |none=>none
 | .pair a b,.pair a' C=>match a.same a',b.same C with
  |some ⟨h⟩,some ⟨y⟩=>some ⟨by rw[h,y]⟩
  |_,_=>none
 |_,_=>none
def DT.PO{a b:DT}(h:a=b)(l:List a.den):List b.den:=h▸l
variable {β : Type}
def aah{α:Type}(l:List α)(i:Int)(K:α->Option β):Option β:=
 match l[i.toNat]? with
 |some x=>bif decide (0<=i)then K x else none
 |none=>none
def alI{α:Type}(l:List α)(i:Nat)(K:α->Option β):Option β:=
 match l[i]? with
 |some x=>K x
 |none=>none
def ads(i:Int)(n:Nat)(K:Nat->Option β):Option β:=bif decide (0<=i)&&decide (i<=(n:Int))then K i.toNat else none
def nzF(b:Int)(K:Option β):Option β:=bif decide (b=0)then none else K
def nnF(b:Int)(K:Option β):Option β:=bif decide (0<=b)then K else none
def aai(n b:Nat)(K:Option β):Option β:=bif decide (n<=281474976710656)&&decide (n*b<=140737488355328)then K else none
def atV(n:Int)(K:Option β):Option β:=bif decide (n<=9223372036854775807)then K else none
def ajR(s:ByteArray)(i:Int)(K:Int->Option β):Option β:=bif decide (0<=i)then(match s[i.toNat]? with|some b=>K (b.toNat:Int)|none=>none)else none
def ë(s:ByteArray)(p:Int)(K:Int->Int->Option β)(N:Option β):Option β:=bif decide (p.toNat<s.size)then K ((Utf8.decode s p.toNat).1:Int) ((p.toNat+(Utf8.decode s p.toNat).2:Nat):Int)else N
def ar9{X:Type}(k:X->Option β)(f:(X->Option β)->Option β):Option β:=f k
def xW{X:Type}:Nat->(X->(X->Option β)->Option β)->X->Option β
 |0,_,_=>none
 |n+1,f,z=>f z (xW n f)
class qT (β:Type) where
 eq:β->β->Bool
 iff:∀x y,eq x y=true↔x=y
def eqI:Int->Int->Bool
 | .ofNat a,.ofNat b=>Nat.beq a b
 | .negSucc a,.negSucc b=>Nat.beq a b
 |_,_=>false
theorem afI:∀x y,eqI x y=true↔x=y
 | .ofNat a,.ofNat b=>by simp only[eqI,Nat.beq_eq];exact⟨λh=>by rw[h],λh=>by injection h⟩
 | .negSucc a,.negSucc b=>by simp[eqI]
 | .ofNat a,.negSucc b=>by simp[eqI]
 | .negSucc a,.ofNat b=>by simp[eqI]
def aaj{α:Type}(f:α->α->Bool):List α->List α->Bool
 |[],[]=>true
 |x::xs,y::j=>f x y&&aaj f xs j
 |_,_=>false
theorem Ts{α:Type}{f:α->α->Bool}(h:∀x y,f x y=true↔x=y):∀xs j,aaj f xs j=true↔xs=j
 |[],[]=>by simp[aaj]
 |[],y::j=>by simp[aaj]
 |x::xs,[]=>by simp[aaj]
 |x::xs,y::j=>by simp[aaj,h,Ts h xs j]
def Y6(a b:ByteArray):Bool:=aaj (λx y:UInt8=>Nat.beq x.toNat y.toNat) a.data.toList b.data.toList
theorem aak(a b:ByteArray):Y6 a b=true↔a=b:=by
 unfold Y6;rw[Ts λx y=>by rw[Nat.beq_eq,UInt8.toNat_inj]];constructor
 .intro h;cases a;cases b;simpa using h
 .rintro rfl;rfl
instance:qT Int:=⟨eqI,afI⟩
instance:qT Bool:=⟨λa b=>bif a then b else !b,λa b=>by cases a<;>cases b<;>simp⟩
instance:qT Unit:=⟨λ_ _=>true,λ_ _=>by simp⟩
instance:qT ByteArray:=⟨Y6,aak⟩
instance {α:Type} [qT α]:qT (List α):=⟨aaj qT.eq,Ts qT.iff⟩
instance {α β:Type} [qT α] [qT β]:qT (α×β):=⟨λx y=>qT.eq x.1 y.1&&qT.eq x.2 y.2,λx y=>by simp[qT.iff,Prod.ext_iff]⟩
@[reducible] def DT.eqb:(t:DT)->qT t.den
 | .int _=>inferInstanceAs (qT Int)
 | .bool=>inferInstanceAs (qT Bool)
 | .str=>inferInstanceAs (qT ByteArray)
 | .slc t=>have:=t.eqb;inferInstanceAs (qT (List t.den))
 | .unit=>inferInstanceAs (qT Unit)
 | .pair a b=>have:=a.eqb;have:=b.eqb;inferInstanceAs (qT (a.den×b.den))
 | .set=>inferInstanceAs (qT (List KU))
def FF[qT β](a b:Option β):Option β:=match a,b with
 |some x,some y=>bif qT.eq x y then some x else none
 |_,_=>none
def aiq[qT β](e:Bool)(f:Bool->Option β):Option β:=bif e then FF (f true) (f false)else f false
@[irreducible] def FU:Nat:=18446744073709551616
theorem PQ:FU=18446744073709551616:=by unfold FU;rfl
def eqU(a b:KU):Bool:=eqI a.1 b.1&&eqI a.2.1 b.2.1
def N1(x:KU):List KU->Bool
 |[]=>false
 |y::l=>eqU x y||N1 x l
def QK(ks:List KU)(x:KU):List KU:=bif N1 x ks then ks else ks++[x]
def PR(ks j:List KU):List KU:=ks.filter λk=>!N1 k j
def alJ[qT β](l:List KU)(K:KU->Option β)(N:Option β):Option β:=
 match l with
 |[]=>N
 |x::l=>l.foldl (λr y=>FF r (K y)) (K x)
def orF(a b:Option β):Option β:=match a with
 |some x=>some x
 |none=>b
structure Wd:Type 1 where
 af:{β:Type}->Bool->Option β->Option β->Option β
 aH:{α β:Type}->List α->Int->(α->Option β)->Option β
 cr:{α β:Type}->List α->Nat->(α->Option β)->Option β
 j5:{β:Type}->Int->Nat->(Nat->Option β)->Option β
 wg:{β:Type}->Int->Option β->Option β
 jb:{β:Type}->Int->Option β->Option β
 bc:{β:Type}->Nat->Nat->Option β->Option β
 adt:{β:Type}->Int->Option β->Option β
 aG:{X β:Type}->(X->Option β)->((X->Option β)->Option β)->Option β
 aV:{X β:Type}->(X->(X->Option β)->Option β)->X->Option β
 gP:{β:Type}->[qT β]->Option β->Option β->Option β
 ae:{α β:Type}->Option α->(α->Option β)->Option β
 qJ:{β:Type}->[qT β]->Bool->(Bool->Option β)->Option β
 Lz:{β:Type}->ByteArray->Int->(Int->Option β)->Option β
 zd:{β:Type}->ByteArray->Int->(Int->Int->Option β)->Option β->Option β
 Mh:{β:Type}->[qT β]->List KU->(KU->Option β)->Option β->Option β
 ast:{β:Type}->Option β->Option β->Option β
@[reducible] def aj:Wd where
 af:=λc a b=>bif c then a else b
 aH:=aah
 cr:=alI
 j5:=ads
 wg:=nzF
 jb:=nnF
 bc:=aai
 adt:=atV
 aG:=ar9
 aV:=xW FU
 gP:=FF
 ae:=Option.bind
 qJ:=aiq
 Lz:=ajR
 zd:=ë
 Mh:=alJ
 ast:=orF
theorem apL{a b}:eqU a b=true↔a=b:=by have⟨y,a2,⟨⟩⟩:=a;have⟨b1,j,⟨⟩⟩:=b;simp[eqU,afI]
theorem uQ{x}:∀{l:List KU},N1 x l=true↔x∈l
 |[]=>by simp[N1]
 |y::l=>by simp[N1,apL,uQ (l:=l)]
@[reducible] def Wd.two(W:Wd){β:Type}[qT β](a:Option β):Option β:=W.gP a a
abbrev U3{C y j R T:Type}(e:C×y×j×R)(t:T):C×y×j×T:=(e.1,e.2.1,e.2.2.1,t)
abbrev U4{F C y j R T:Type}(e:F×C×y×j×R)(t:T):F×C×y×j×T:=(e.1,e.2.1,e.2.2.1,e.2.2.2.1,t)
abbrev U5{G F C y j R T:Type}(e:G×F×C×y×j×R)(t:T):G×F×C×y×j×T:=(e.1,e.2.1,e.2.2.1,e.2.2.2.1,e.2.2.2.2.1,t)
abbrev U6{H G F C y j R T:Type}(e:H×G×F×C×y×j×R)(t:T):H×G×F×C×y×j×T:=(e.1,e.2.1,e.2.2.1,e.2.2.2.1,e.2.2.2.2.1,e.2.2.2.2.2.1,t)
abbrev U7{J H G F C y j R T:Type}(e:J×H×G×F×C×y×j×R)(t:T):J×H×G×F×C×y×j×T:=(e.1,e.2.1,e.2.2.1,e.2.2.2.1,e.2.2.2.2.1,e.2.2.2.2.2.1,e.2.2.2.2.2.2.1,t)
abbrev U8{K J H G F C y j R T:Type}(e:K×J×H×G×F×C×y×j×R)(t:T):K×J×H×G×F×C×y×j×T:=(e.1,e.2.1,e.2.2.1,e.2.2.2.1,e.2.2.2.2.1,e.2.2.2.2.2.1,e.2.2.2.2.2.2.1,e.2.2.2.2.2.2.2.1,t)
abbrev U9{V K J H G F C y j R T:Type}(e:V×K×J×H×G×F×C×y×j×R)(t:T):V×K×J×H×G×F×C×y×j×T:=(e.1,e.2.1,e.2.2.1,e.2.2.2.1,e.2.2.2.2.1,e.2.2.2.2.2.1,e.2.2.2.2.2.2.1,e.2.2.2.2.2.2.2.1,e.2.2.2.2.2.2.2.2.1,t)
abbrev U10{W V K J H G F C y j R T:Type}(e:W×V×K×J×H×G×F×C×y×j×R)(t:T):W×V×K×J×H×G×F×C×y×j×T:=(e.1,e.2.1,e.2.2.1,e.2.2.2.1,e.2.2.2.2.1,e.2.2.2.2.2.1,e.2.2.2.2.2.2.1,e.2.2.2.2.2.2.2.1,e.2.2.2.2.2.2.2.2.1,e.2.2.2.2.2.2.2.2.2.1,t)
abbrev U11{X W V K J H G F C y j R T:Type}(e:X×W×V×K×J×H×G×F×C×y×j×R)(t:T):X×W×V×K×J×H×G×F×C×y×j×T:=(e.1,e.2.1,e.2.2.1,e.2.2.2.1,e.2.2.2.2.1,e.2.2.2.2.2.1,e.2.2.2.2.2.2.1,e.2.2.2.2.2.2.2.1,e.2.2.2.2.2.2.2.2.1,e.2.2.2.2.2.2.2.2.2.1,e.2.2.2.2.2.2.2.2.2.2.1,t)
abbrev xp{Y X W V K J H G F C y j R T:Type}(e:Y×X×W×V×K×J×H×G×F×C×y×j×R)(t:T):Y×X×W×V×K×J×H×G×F×C×y×j×T:=(e.1,e.2.1,e.2.2.1,e.2.2.2.1,e.2.2.2.2.1,e.2.2.2.2.2.1,e.2.2.2.2.2.2.1,e.2.2.2.2.2.2.2.1,e.2.2.2.2.2.2.2.2.1,e.2.2.2.2.2.2.2.2.2.1,e.2.2.2.2.2.2.2.2.2.2.1,e.2.2.2.2.2.2.2.2.2.2.2.1,t)
abbrev U13{A0 Y X W V K J H G F C y j R T:Type}(e:A0×Y×X×W×V×K×J×H×G×F×C×y×j×R)(t:T):A0×Y×X×W×V×K×J×H×G×F×C×y×j×T:=(e.1,e.2.1,e.2.2.1,e.2.2.2.1,e.2.2.2.2.1,e.2.2.2.2.2.1,e.2.2.2.2.2.2.1,e.2.2.2.2.2.2.2.1,e.2.2.2.2.2.2.2.2.1,e.2.2.2.2.2.2.2.2.2.1,e.2.2.2.2.2.2.2.2.2.2.1,e.2.2.2.2.2.2.2.2.2.2.2.1,e.2.2.2.2.2.2.2.2.2.2.2.2.1,t)
abbrev U14{A0 A1 Y X W V K J H G F C y j R T:Type}(e:A0×A1×Y×X×W×V×K×J×H×G×F×C×y×j×R)(t:T):A0×A1×Y×X×W×V×K×J×H×G×F×C×y×j×T:=(e.1,e.2.1,e.2.2.1,e.2.2.2.1,e.2.2.2.2.1,e.2.2.2.2.2.1,e.2.2.2.2.2.2.1,e.2.2.2.2.2.2.2.1,e.2.2.2.2.2.2.2.2.1,e.2.2.2.2.2.2.2.2.2.1,e.2.2.2.2.2.2.2.2.2.2.1,e.2.2.2.2.2.2.2.2.2.2.2.1,e.2.2.2.2.2.2.2.2.2.2.2.2.1,e.2.2.2.2.2.2.2.2.2.2.2.2.2.1,t)
abbrev U15{A0 A1 A2 Y X W V K J H G F C y j R T:Type}(e:A0×A1×A2×Y×X×W×V×K×J×H×G×F×C×y×j×R)(t:T):A0×A1×A2×Y×X×W×V×K×J×H×G×F×C×y×j×T:=(e.1,e.2.1,e.2.2.1,e.2.2.2.1,e.2.2.2.2.1,e.2.2.2.2.2.1,e.2.2.2.2.2.2.1,e.2.2.2.2.2.2.2.1,e.2.2.2.2.2.2.2.2.1,e.2.2.2.2.2.2.2.2.2.1,e.2.2.2.2.2.2.2.2.2.2.1,e.2.2.2.2.2.2.2.2.2.2.2.1,e.2.2.2.2.2.2.2.2.2.2.2.2.1,e.2.2.2.2.2.2.2.2.2.2.2.2.2.1,e.2.2.2.2.2.2.2.2.2.2.2.2.2.2.1,t)
abbrev U16{A0 A1 A2 A3 Y X W V K J H G F C y j R T:Type}(e:A0×A1×A2×A3×Y×X×W×V×K×J×H×G×F×C×y×j×R)(t:T):A0×A1×A2×A3×Y×X×W×V×K×J×H×G×F×C×y×j×T:=(e.1,e.2.1,e.2.2.1,e.2.2.2.1,e.2.2.2.2.1,e.2.2.2.2.2.1,e.2.2.2.2.2.2.1,e.2.2.2.2.2.2.2.1,e.2.2.2.2.2.2.2.2.1,e.2.2.2.2.2.2.2.2.2.1,e.2.2.2.2.2.2.2.2.2.2.1,e.2.2.2.2.2.2.2.2.2.2.2.1,e.2.2.2.2.2.2.2.2.2.2.2.2.1,e.2.2.2.2.2.2.2.2.2.2.2.2.2.1,e.2.2.2.2.2.2.2.2.2.2.2.2.2.2.1,e.2.2.2.2.2.2.2.2.2.2.2.2.2.2.2.1,t)
theorem apM[qT β]{a b}{q:β}(h:FF a b=some q):a=some q/\b=some q:=by
 unfold FF at h;split at h
 .rename_i x y;cases hb:qT.eq x y with
  |true=>rw[hb]at h;have:=(qT.iff x y).1 hb;subst this;exact⟨h,h⟩
  |false=>rw[hb]at h;cases h
 .cases h
theorem W7[qT β]{K:KU->Option β}{q:β}:∀{l:List KU} {r:Option β},l.foldl (λr y=>FF r (K y)) r=some q->r=some q/\∀y∈l,K y=some q
 |[],r,h=>⟨h,by simp⟩
 |x::l,r,h=>by have⟨h1,G⟩:=W7 (l:=l) h;have⟨F,C⟩:=apM h1;exact⟨F,λy j=>(aB.1 j).elim (λe=>e▸C) (G y)⟩
theorem apN[qT β]{l}{K:KU->Option β}{N:Option β}{q:β}(h:alJ l K N=some q):(l=[]->N=some q)/\∀y∈l,K y=some q:=by
 cases l with
 |nil=>exact⟨λ_=>h,by simp⟩
 |cons x l=>have⟨h1,C⟩:=W7 (l:=l) h;exact⟨λh=>(by cases h),λy j=>(aB.1 j).elim (λe=>e▸h1) (C y)⟩
structure lE(U U':Nat->Prop)(w w':World):Prop where
 same:∀b,b<w.heap.size->¬U b->w'.heap[b]?=w.heap[b]?
 size:w.heap.size<=w'.heap.size
 sub:∀b,b<w.heap.size->U' b->U b
theorem lE.refl(U)(w):lE U U w w:=⟨λ_ _ _=>rfl,au _,λ_ _ h=>h⟩
theorem lE.cell{U U'}{w w'}(l:lE U U' w w'){x:Addr}(y:¬U x.block)(hl:x.block<w.heap.size)(j:Nat):w'.cell? (x.add j)=w.cell? (x.add j):=yz (by rw[jK];exact l.same _ hl y)
def At(U:Nat->Prop)(w:World)(a:Option Addr)(off:Nat)(us:List Value):Prop:=∀j u,us[j]?=some u->∃x,a=some x/\¬U x.block/\x.block<w.heap.size/\w.cell? (x.add (off+j))=some u
theorem At.mono{U U'}{w w':World}(l:lE U U' w w'){a:Option Addr}{off:Nat}{us:List Value}(h:At U w a off us):At U' w' a off us:=λj u C=>
 let ⟨x,e,y,hl,F⟩:=h j u C
 ⟨x,e,λhb=>y (l.sub _ hl hb),eW hl l.size,(l.cell y hl _).trans F⟩
def DT.h(U:Nat->Prop)(w:World):(t:DT)->t.den->List Value->Prop
 | .int k,n,vs=>vs=[.int k n]
 | .bool,b,vs=>vs=[.bool b]
 | .str,s,vs=>vs=[.string s]
 | .slc t,l,vs=>∃a c,vs=[.slice a l.length c]/\l.length<=c/\c<=maxLen/\∀i x,l[i]?=some x->∃us,t.h U w x us/\At U w a (i*t.size) us
 | .unit,_,vs=>vs=[]
 | .pair a b,x,vs=>∃us us',vs=us++us'/\a.h U w x.1 us/\b.h U w x.2 us'
 | .set,ks,vs=>∃b es j,vs=[.map (some b)]/\¬U b/\b<w.heap.size/\w.heap[b]?=some (.map es j)/\aag es j (ks.map kV)
theorem DT.mono{U U':Nat->Prop}{w w':World}(l:lE U U' w w'):(t:DT)->{x:t.den}->{vs:List Value}->t.h U w x vs->t.h U' w' x vs
 | .int _,_,_,h=>h
 | .bool,_,_,h=>h
 | .str,_,_,h=>h
 | .slc t,_,_,h=>by have⟨a,c,e,C,j,F⟩:=h;exact⟨a,c,e,C,j,λi x hi=>let ⟨us,g1,J⟩:=F i x hi;⟨us,t.mono l g1,J.mono l⟩⟩
 | .unit,_,_,h=>h
 | .pair a b,_,_,h=>by have⟨us,us',e,C,j⟩:=h;exact⟨us,us',e,a.mono l C,b.mono l j⟩
 | .set,_,_,h=>by have⟨b,es,y,e,C,j,F,H⟩:=h;exact⟨b,es,y,e,λG=>C (l.sub _ j G),eW j l.size,(l.same _ j C).trans F,H⟩
def DT.free:DT->Bool
 | .slc _=>false
 | .set=>false
 | .pair a b=>a.free&&b.free
 |_=>true
theorem DT.Y7{U U'}{w w'}:(t:DT)->{x:t.den}->{vs:List Value}->t.free=true->t.h U w x vs->t.h U' w' x vs
 | .int _,_,_,_,h=>h
 | .bool,_,_,_,h=>h
 | .str,_,_,_,h=>h
 | .slc t,_,_,f,_=>by cases f
 | .unit,_,_,_,h=>h
 | .pair a b,_,_,f,h=>by have⟨us,us',e,y,j⟩:=h;simp only[DT.free,aD]at f;exact⟨us,us',e,a.Y7 f.1 y,b.Y7 f.2 j⟩
 | .set,_,_,f,_=>by cases f
theorem DT.Av{U}{w}:(t:DT)->{x:t.den}->{vs:List Value}->t.h U w x vs->vs.length=t.size
 | .int _,_,_,h=>by subst h;rfl
 | .bool,_,_,h=>by subst h;rfl
 | .str,_,_,h=>by subst h;rfl
 | .slc t,_,_,h=>by obtain⟨a,c,rfl,_⟩:=h;rfl
 | .unit,_,_,h=>by subst h;rfl
 | .pair a b,_,_,h=>by obtain⟨us,us',rfl,C,y⟩:=h;simp[DT.size,a.Av C,b.Av y]
 | .set,_,_,h=>by obtain⟨b,es,j,rfl,_⟩:=h;rfl
def yI:Value->Bool
 | .int _ _=>true
 | .bool _=>true
 | .string _=>true
 | .slice _ _ _=>true
 | .map _=>true
 |_=>false
theorem DT.WZ{U}{w}:(t:DT)->{x:t.den}->{vs:List Value}->t.h U w x vs->∀u∈vs,yI u=true
 | .int _,_,_,h=>by subst h;simp[yI]
 | .bool,_,_,h=>by subst h;simp[yI]
 | .str,_,_,h=>by subst h;simp[yI]
 | .slc t,_,_,h=>by obtain⟨a,c,rfl,_⟩:=h;simp[yI]
 | .unit,_,_,h=>by subst h;simp
 | .pair a b,_,_,h=>by obtain⟨us,us',rfl,F,C⟩:=h;intro u y;exact(aQ.1 y).elim (a.WZ F u) (b.WZ C u)
 | .set,_,_,h=>by obtain⟨b,es,j,rfl,_⟩:=h;simp[yI]
theorem wP{v}(h:yI v=true):Tn v=true/\v.oneCell'=true:=by cases v<;>simp_all [yI,Tn,Value.oneCell']
def DT.hs(U:Nat->Prop)(w:World)(t:DT)(l:List t.den)(vs:List Value):Prop:=vs.length=l.length*t.size/\∀i x,l[i]?=some x->t.h U w x ((vs.drop (i*t.size)).take t.size)
theorem DT.lR{U U'}{w w':World}(l:lE U U' w w'){t:DT}{xs:List t.den}{vs:List Value}(h:t.hs U w xs vs):t.hs U' w' xs vs:=⟨h.1,λi x hi=>t.mono l (h.2 i x hi)⟩
theorem wR{i n k:Nat}(h:i<n):i*k+k<=n*k:=by have:=dE k h;rwa [lY]at this
theorem DT.EM{U}{w}{t:DT}{xs y:List t.den}{us vs:List Value}(h:t.hs U w xs us)(k:t.hs U w y vs):t.hs U w (xs++y) (us++vs):=by
 refine⟨by simp[h.1,k.1,iY],λi x hi=>?_⟩;rcases dO i xs.length with hl|hl
 .rw[bC hl]at hi;have:=wR (k:=t.size) hl;have j:=h.2 i x hi;rw[List.drop_append_of_le_length (by rw[h.1];omega),kN (by rw[dS,h.1];omega)];exact j
 .rw[dP hl]at hi;have j:=k.2 _ x hi;have e:i*t.size=us.length+(i-xs.length)*t.size:=by rw[h.1,<-iY];congr 1;omega
  rw[e,Em,vG (by omega),cS,Nat.add_sub_cancel_left];exact j
theorem DT.EQ{U}{w:World}{t:DT}:t.hs U w [] []:=⟨by simp,by simp⟩
theorem DT.YS{U}{w}{t:DT}{x:t.den}{us:List Value}(h:t.h U w x us):t.hs U w [x] us:=by
 refine⟨by simp[t.Av h],λi y hi=>?_⟩;cases i with
 |zero=>simp at hi;subst hi;simpa[lX (Fp (t.Av h))]using h
 |succ i=>simp at hi
theorem DT.GW {U} {w} {t : DT} {xs : List t.den} {vs : List Value} (h : t.hs U w xs vs) : ∀ u ∈ vs, yI u = true := by
  intro u hu
  obtain ⟨n, C⟩ := qG.1 hu
  have j := (aC.1 C).1
  rw [h.1] at j
  have hk : 0 < t.size := by rcases fw t.size with y | y; · simp [y] at j
                             · exact y
  have hi := Nat.div_lt_of_lt_mul (by rwa [kH])
  refine t.WZ (h.2 (n / t.size) _ (aw hi)) u (qG.2 ⟨n % t.size, ?_⟩)
  rw [cD, ah (Bu _ hk), cN]
  rw [show n / t.size * t.size + n % t.size = n by rw [kH]; exact yT n _]
  exact C
theorem sU{α}{vs:List α}{o n j:Nat}{u:α}:((vs.drop o).take n)[j]?=some u↔j<n/\vs[o+j]?=some u:=by
 rw[cD];split
 .rename_i h;simp[h]
 .rename_i h;simp[h]
theorem DT.Rz{U}{w:World}{t:DT}{xs:List t.den}{vs:List Value}(h:t.hs U w xs vs){n:Nat}(y:n<=xs.length):t.hs U w (xs.take n) (vs.take (n*t.size)):=by
 have hm:=dE t.size y;refine⟨by simp[h.1,jU hm,jU y],λi x hi=>?_⟩;rw[cD]at hi;split at hi
 .rename_i hl;have C:=h.2 i x hi;have:=wR (k:=t.size) hl
  have e:((vs.take (n*t.size)).drop (i*t.size)).take t.size=(vs.drop (i*t.size)).take t.size:=by
   apply eT;intro j;simp only[cD,cN];split
   .rw[ah (by omega)]
   .rfl
  rwa [e]
 .cases hi
theorem JS{α}:∀(vs xs:List α) (off j:Nat),off+vs.length<=xs.length->(wr xs off vs)[j]?=if off<=j/\j<off+vs.length then vs[j-off]? else xs[j]?
 |[],xs,off,j,h=>by simp only[wr,eV];rw[ag (by omega)]
 |v::vs,xs,off,j,h=>by
  simp only[aJ]at h;rw[wr,JS vs _ _ _ (by simp;omega)];rcases Nat.lt_trichotomy j off with y|rfl|y
  .rw[ag (by omega),ag (by omega),bh,ag (by omega)]
  .rw[ag (by omega),ah (by simp),bh,ah rfl];simp;omega
  .have e:j-off=(j-(off+1))+1:=by omega
   simp only[aJ];by_cases hl:j<off+1+vs.length
   .rw[ah (by omega),ah (by omega),e,fC]
   .rw[ag (by omega),ag (by omega),bh,ag (by omega)]
theorem DT.atW{U}{w:World}{t:DT}{xs:List t.den}{vs us:List Value}{i:Nat}{y:t.den}(h:t.hs U w xs vs)(hi:i<xs.length)(R:t.h U w y us):t.hs U w (xs.set i y) (wr vs (i*t.size) us):=by
 have J:=t.Av R;have hb:=wR (k:=t.size) hi;refine⟨by rw[DA];simp[h.1],λj x F=>?_⟩;rw[bh]at F;split at F
 .rename_i C;subst C;simp[]at F;subst F
  have e:((wr vs (i*t.size) us).drop (i*t.size)).take t.size=us:=by
   apply eT;intro k;rw[cD];split
   .rename_i K;rw[cN,JS _ _ _ _ (by rw[h.1,J];exact hb),ah (by omega)];congr 1;omega
   .rename_i K;rw[bD (by omega)]
  rwa [e]
 .rename_i C;have Y:=h.2 j x F;have G:=(aC.1 F).1;have V:=wR (k:=t.size) G
  have e:((wr vs (i*t.size) us).drop (j*t.size)).take t.size=(vs.drop (j*t.size)).take t.size:=by
   apply eT;intro k;simp only[cD];split
   .rename_i K;rw[cN,cN,JS _ _ _ _ (by rw[h.1,J];exact hb),ag];rintro⟨X,W⟩;rcases Bv C with H|H
    .have:=wR (k:=t.size) H;omega
    .have:=wR (k:=t.size) H;omega
   .rfl
  rwa [e]
theorem DT.Y8{U}{w}{t:DT}{x:t.den}{us:List Value}(h:t.h U w x us):∀n,t.hs U w (List.replicate n x) (List.replicate n us).flatten
 |0=>DT.EQ
 |n+1=>by simp only[oV,vH];exact DT.EM (DT.YS h) (DT.Y8 h n)
theorem DT.atX{U}{w}{t:DT}{xs:List t.den}{vs:List Value}{a:Option Addr}{c:Nat}(h:t.hs U w xs vs)(F:xs.length<=c)(hm:c<=maxLen)
 (C:At U w a 0 vs):(DT.slc t).h U w xs [.slice a xs.length c]:=
 ⟨a,c,rfl,F,hm,λi x hi=>⟨_,h.2 i x hi,λj u y=>by
  have⟨_,y⟩:=sU.1 y;have:=C _ u y
  rwa [cq]at this⟩⟩
end
end Go.Vc
namespace Go.Vc
open Go Go.RowKit
inductive DV:Type where
 |int (k:IntKind) (n:Int)
 |bool (b:Bool)
 |lit (b:Bool)
 |str (s:ByteArray)
 |v (y:Value)
 |On
 |sl (t:DT) (l:List t.den)
 |cs (t:DT) (l:List t.den)
 |set (ks:List KU)
 |row (j:Nat)
 |el (t:DT) (x:t.den) (off:Nat)
 |re (j i off:Nat)
 |rt (j i:Nat)
 |ob (j:Nat)
 |own (i off:Nat)
 |fn (f:FuncId) (axK:List DV)
 |agg (xs:List DV)
 |Iv (xs:List DV)
 |fns (xs:List DV)
 |fp (xs:List DV) (k:Nat)
 |ra (j:Nat)
 |rs (j i:Nat)
 |jD
structure DB where
 ty:TypeId
 cells:List DV
 w:Bool
abbrev im:=List (Option DB)
inductive OD where
 |IZ (s:ByteArray) (p:Int)
 |set (ks:List KU)
 |walk (ks dn:List KU)
def OD.po:OD->Bool
 | .set _=>true
 |_=>false
inductive OKd where
 |IZ
 |set
 |walk
@[reducible] def tKU:DT:=.pair (.int .i64) (.pair (.int .i64) .unit)
@[reducible] def OKd.T:OKd->DT
 | .IZ=>.pair .str (.pair (.int .i64) .unit)
 | .set=>.slc tKU
 | .walk=>.pair (.slc tKU) (.pair (.slc tKU) .unit)
def OKd.od:(k:OKd)->k.T.den->OD
 | .IZ,z=>.IZ z.1 z.2.1
 | .set,z=>.set z
 | .walk,z=>.walk z.1 z.2.1
def OKd.of:(k:OKd)->OD->Option k.T.den
 | .IZ,d=>match d with | .IZ s p=>some (s,p,())|_=>none
 | .set,d=>match d with | .set ks=>some ks|_=>none
 | .walk,d=>match d with | .walk ks j=>some (ks,j,())|_=>none
inductive DR where
 |own (e:TypeId) (t:DT) (l:List t.den)
 |obj (d:OD)
 |dead
def RC:Value->DV
 | .bool b=>.lit b
 | .int k n=>.int k n
 | .string s=>.str s
 |x=>.v x
def DT.cells:(t:DT)->t.den->List DV->List DV
 | .int k,n,r=>.int k n::r
 | .bool,b,r=>.bool b::r
 | .str,s,r=>.str s::r
 | .slc t,l,r=>.sl t l::r
 | .unit,_,r=>r
 | .pair a b,x,r=>a.cells x.1 (b.cells x.2 r)
 | .set,ks,r=>.set ks::r
def DT.val:(t:DT)->t.den->DV
 | .int k,n=>.int k n
 | .bool,b=>.bool b
 | .str,s=>.str s
 | .slc t,l=>.sl t l
 | .unit,_=>.agg []
 | .pair a b,x=>.agg (a.cells x.1 (b.cells x.2 []))
 | .set,ks=>.set ks
def DT.of:(t:DT)->List DV->Option (t.den×List DV)
 | .int k,cs=>match cs with
  | .int C n::r=>match eqk k C with|true=>some (n,r)|false=>none
  |_=>none
 | .bool,cs=>match cs with
  | .bool b::r=>some (b,r)
  | .lit b::r=>some (b,r)
  |_=>none
 | .str,cs=>match cs with
  | .str s::r=>some (s,r)
  |_=>none
 | .slc t,cs=>match cs with
  | .sl j l::r=>match j.same t with|some ⟨h⟩=>some (DT.PO h l,r)|none=>none
  | .v (.slice none 0 0)::r=>some ([],r)
  |_=>none
 | .unit,cs=>some ((),cs)
 | .set,cs=>match cs with
  | .set ks::r=>some (ks,r)
  |_=>none
 | .pair a b,cs=>match a.of cs with
  |some (x,r)=>match b.of r with
   |some (y,r)=>some ((x,y),r)
   |none=>none
  |none=>none
def DT.ofV(t:DT)(v:DV):Option t.den:=
 match t.agg with
 |true=>match v with
  | .agg cs=>match t.of cs with|some (x,r)=>(match r with|[]=>some x|_=>none)|none=>none
  |_=>none
 |false=>match t.of [v]with|some (x,r)=>(match r with|[]=>some x|_=>none)|none=>none
variable {β : Type}
abbrev DK(β:Type):=List DV->im->List DR->Option β
def gtV:List DV->Nat->Option DV
 |[],_=>some .On
 |p::_,0=>match p with
  | .jD=>none
  |p=>some p
 |_::ps,n+1=>gtV ps n
def yJ{α:Type}:List α->Nat->α->(List α->Option β)->Option β
 |[],_,_,K=>K []
 |_::ps,0,y,K=>K (y::ps)
 |p::ps,n+1,y,K=>yJ ps n y λl=>K (p::l)
def vS(ts:List DV)(o:Operand):Option DV:=
 match o with
 | .tmp t=>gtV ts t
 | .const c=>some (RC c)
 | .global g=>some (.v (.pointer (some ⟨g,0,none⟩)))
 | .func f=>match Nat.ble 1000000 f with|true=>none|false=>some (.fn f [])
def opsV(ts:List DV):List Operand->Option (List DV)
 |[]=>some []
 |o::os=>match vS ts o with
  |some x=>match opsV ts os with|some xs=>some (x::xs)|none=>none
  |none=>none
def G5:List DV->Nat->Nat->Option (List DV)
 |_::xs,o+1,n=>G5 xs o n
 |_,0,0=>some []
 |x::xs,0,n+1=>match G5 xs 0 n with|some l=>some (x::l)|none=>none
 |[],_,_=>none
def wrE:List DV->Nat->List DV->(List DV->Option β)->Option β
 |xs,_,[],K=>K xs
 |xs,off,v::vs,K=>yJ xs off v λl=>wrE l (off+1) vs K
def RD:im->Nat->Option DB
 |[],_=>none
 |o::_,0=>o
 |_::xs,n+1=>RD xs n
def Iw:im->Nat->Bool
 |[],_=>false
 |o::_,0=>match o with|some _=>false|none=>true
 |_::xs,n+1=>Iw xs n
def Mi:List DR->Nat->Option DR
 |[],_=>none
 |r::_,0=>some r
 |_::rs,n+1=>Mi rs n
def F0(n:Nat)(K:Nat->Option β):Option β:=
 match n with
 |0=>K 0
 |1=>K 1
 |2=>K 2
 |3=>K 3
 |4=>K 4
 |5=>K 5
 |6=>K 6
 |7=>K 7
 |8=>K 8
 |9=>K 9
 |10=>K 10
 |11=>K 11
 |n=>K n
def uR{α:Type}:List α->α->(List α->Option β)->Option β
 |[],y,K=>K [y]
 |x::xs,y,K=>uR xs y λl=>K (x::l)
mutual
def DV.Mj(f:Nat->Option DV):DV->(DV->Option β)->Option β
 | .row i,K=>match f i with|some p=>K p|none=>K (.row i)
 | .re i a b,K=>match f i with|some _=>K .jD|none=>K (.re i a b)
 | .rt i a,K=>match f i with|some _=>K .jD|none=>K (.rt i a)
 | .ob i,K=>match f i with|some p=>K p|none=>K (.ob i)
 | .ra i,K=>match f i with|some _=>K .jD|none=>K (.ra i)
 | .rs i a,K=>match f i with|some _=>K .jD|none=>K (.rs i a)
 | .fns xs,K=>uS f xs λxs=>K (.fns xs)
 | .fp xs k,K=>uS f xs λxs=>K (.fp xs k)
 | .fn g cs,K=>uS f cs λcs=>K (.fn g cs)
 | .agg xs,K=>uS f xs λxs=>K (.agg xs)
 | .Iv xs,K=>uS f xs λxs=>K (.Iv xs)
 | .int k n,K=>K (.int k n)
 | .bool b,K=>K (.bool b)
 | .lit b,K=>K (.lit b)
 | .str s,K=>K (.str s)
 | .v y,K=>K (.v y)
 | .On,K=>K .On
 | .sl t l,K=>K (.sl t l)
 | .cs t l,K=>K (.cs t l)
 | .set ks,K=>K (.set ks)
 | .el t x o,K=>K (.el t x o)
 | .own i o,K=>K (.own i o)
 | .jD,K=>K .jD
def uS(f:Nat->Option DV):List DV->(List DV->Option β)->Option β
 |[],K=>K []
 |p::ps,K=>p.Mj f λp=>uS f ps λps=>K (p::ps)
end
def BX(f:Nat->Option DV):im->(im->Option β)->Option β
 |[],K=>K []
 |some ⟨t,cs,w⟩::ps,K=>uS f cs λcs=>BX f ps λps=>K (some ⟨t,cs,w⟩::ps)
 |none::ps,K=>BX f ps λps=>K (none::ps)
def kc(j:Nat)(p:DV):Nat->Option DV:=λi=>match Nat.beq i j with|true=>some p|false=>none
def Oo:Nat->Option DV:=λ_=>some .jD
def PS(y:List Nat):Nat->Option DV:=λj=>match Aw j y with|true=>some .jD|false=>none
def Oq(ts:List DV):List (Nat×Operand)->Option (List (Nat×DV))
 |[]=>some []
 |(i,o)::ps=>match vS ts o with
  |some x=>match Oq ts ps with|some xs=>some ((i,x)::xs)|none=>none
  |none=>none
def afJ(p:DV):Bool:=
 match p with
 | .v y=>Tn y
 | .agg _=>false
 | .Iv _=>false
 | .On=>false
 | .jD=>false
 |_=>true
def Tu(x:DV):Option (List DV):=
 match x with
 | .agg xs=>some xs
 |x=>match afJ x with|true=>some [x]|false=>none
def afK:List DV->Bool
 |[]=>true
 |p::ps=>match afJ p with|true=>afK ps|false=>false
def Mk:List TI->Nat->Option TI
 |[],_=>none
 |j::_,0=>match j.ok with|true=>some j|false=>none
 |_::T,n+1=>Mk T n
def aal:List (Nat×Nat×Nat)->Nat->Option (Nat×Nat×Nat)
 |[],_=>none
 |(off,ty,j)::_,0=>match j with|0=>none|n+1=>some (off,ty,n+1)
 |_::y,i+1=>aal y i
def apO:List (Nat×Nat×Nat)->Bool
 |[]=>true
 |(_,_,j)::y=>match j with|0=>false|_+1=>apO y
def aam(y:List (Nat×Nat×Nat)):List DV->List (Nat×DV)->(List DV->Option β)->Option β
 |cells,[],K=>K cells
 |cells,(i,x)::ps,K=>match aal y i with
  |some (off,_,j)=>match Tu x with
   |some cs=>match Nat.beq cs.length j,G5 cells off j with
    |true,some _=>wrE cells off cs λcells=>aam y cells ps K
    |_,_=>none
   |none=>none
  |none=>none
def W8(e:TypeId)(j:Nat):Nat->Nat->List (Nat×Nat×Nat)
 |0,_=>[]
 |n+1,i=>(i*j,e,j)::W8 e j n (i+1)
def CT:List Value->List DV
 |[]=>[]
 |x::xs=>RC x::CT xs
def alK(ts:List DV)(o:Option Operand):Option (Option DV):=
 match o with
 |none=>some none
 |some o=>match vS ts o with|some x=>some (some x)|none=>none
def adu(W:Wd)(o:Option DV)(y j:Nat)(K:Nat->Option β):Option β:=
 match o with
 |none=>K y
 |some (.int _ i)=>W.j5 i j K
 |_=>none
def afL(W:Wd)(op:BinOp)(k:IntKind)(a b:Int)(ret:DV->Option β):Option β:=
 match op with
 | .add=>ret (.int k (k.wrap (a+b)))
 | .sub=>ret (.int k (k.wrap (a-b)))
 | .mul=>ret (.int k (k.wrap (a*b)))
 | .quo=>W.wg b (ret (.int k (k.wrap (a.tdiv b))))
 | .rem=>W.wg b (ret (.int k (a.tmod b)))
 | .and=>ret (.int k (bits .and k a b))
 | .or=>ret (.int k (bits .or k a b))
 | .xor=>ret (.int k (bits .xor k a b))
 | .eql=>ret (.bool (a==b))
 | .neq=>ret (.bool (a != b))
 | .lss=>ret (.bool (decide (a<b)))
 | .leq=>ret (.bool (decide (a<=b)))
 | .gtr=>ret (.bool (decide (b<a)))
 | .geq=>ret (.bool (decide (b<=a)))
 |_=>none
def afM(l:LK)(x y:DV):Option Bool:=
 match l,x,y with
 | .int _,.int k a,.int j b=>match eqk k j with|true=>some (a==b)|false=>none
 | .bool,.bool a,.bool b=>some (a==b)
 | .bool,.lit a,.bool b=>some (a==b)
 | .bool,.bool a,.lit b=>some (a==b)
 | .bool,.lit a,.lit b=>some (a==b)
 | .str,.str a,.str b=>some (a.toList==b.toList)
 |_,_,_=>none
def W9:List LK->List DV->List DV->Option Bool
 |[l],[x],[y]=>afM l x y
 |l::ls,x::xs,y::j=>match afM l x y with
  |some r=>match W9 ls xs j with|some C=>some (r&&C)|none=>none
  |none=>none
 |_,_,_=>none
def BY(T:List TI)(t:TypeId):Option TD:=match Mk T t with|some j=>some j.td|none=>none
def apP(T:List TI)(neg:Bool)(t:TypeId)(a b:DV):Option DV:=
 match a,b with
 | .str s,.str u=>some (.bool (cX neg (s.toList==u.toList)))
 | .agg xs,.agg j=>match Mk T t with
  |some C=>match C.leaves,C.td with
   |some ls,.struct _=>match W9 ls xs j with|some r=>some (.bool (cX neg r))|none=>none
   |some ls,.array _ _=>match W9 ls xs j with|some r=>some (.bool (cX neg r))|none=>none
   |_,_=>none
  |none=>none
 | .bool x,.bool y=>match BY T t with|some .bool=>some (.bool (cX neg (x==y)))|_=>none
 | .bool x,.lit y=>match BY T t with|some .bool=>some (.bool (cX neg (x==y)))|_=>none
 | .lit x,.bool y=>match BY T t with|some .bool=>some (.bool (cX neg (x==y)))|_=>none
 | .lit x,.lit y=>match BY T t with|some .bool=>some (.bool (cX neg (x==y)))|_=>none
 | .v (.pointer none),.v (.pointer none)=>match BY T t with|some (.ptr _)=>some (.lit (!neg))|_=>none
 | .own _ _,.v (.pointer none)=>match BY T t with|some (.ptr _)=>some (.lit neg)|_=>none
 | .v (.slice none 0 0),.v (.slice none 0 0)=>match BY T t with|some (.slice _)=>some (.bool (cX neg true))|_=>none
 |_,_=>none
def atY(W:Wd)(T:List TI)(op:BinOp)(t:TypeId)(a b:DV)(ret:DV->Option β):Option β:=
 match op,a,b with
 | .shl,.int k x,.int _ y=>W.jb y (ret (.int k (k.wrap (x*2 ^ (min y.toNat k.bits)))))
 | .shr,.int k x,.int _ y=>W.jb y (ret (.int k (x.fdiv (2 ^ (min y.toNat k.bits)))))
 |op,.int k x,.int j y=>match eqk k j with|true=>afL W op k x y ret|false=>none
 | .add,.str s,.str u=>W.adt ((s.size:Int)+u.size) (ret (.str (s++u)))
 | .eql,a,b=>match apP T false t a b with|some y=>ret y|none=>none
 | .neq,a,b=>match apP T true t a b with|some y=>ret y|none=>none
 |_,_,_=>none
def adv(T:List TI)(j:Array TypeId):Option TD:=
 match j.toList with
 |[t]=>BY T t
 |_=>none
def awb(xs:List DV)(rw:List DR):Option Nat:=
 match xs with
 |[.sl _ l]=>some l.length
 |[.row j]=>match Mi rw j with|some (.own _ _ l)=>some l.length|_=>none
 |[.v (.slice none 0 0)]=>some 0
 |[.fns l]=>some l.length
 |_=>none
def Ml(T:List TI)(b:Builtin)(j:Array TypeId)(xs:List DV)(rw:List DR)(ret:DV->Option β):Option β:=
 match b with
 | .len=>match adv T j with
  |some (.slice _)=>match awb xs rw with|some n=>ret (.int .i64 (n:Nat))|none=>none
  |some .string=>match xs with|[.str s]=>ret (.int .i64 s.size)|_=>none
  |_=>none
 | .max=>match xs with|[.int k x,.int _ y]=>ret (.int k (if y>x then y else x))|_=>none
 | .min=>match xs with|[.int k x,.int _ y]=>ret (.int k (if y<x then y else x))|_=>none
 |_=>none
def alL(g:Bool)(a b:DV):Option DV:=
 match a,b with
 | .lit true,.bool y=>some (.bool (g||y))
 | .bool x,.lit false=>some (.bool (g&&x))
 | .lit true,.lit y=>some (.bool (g||y))
 | .lit false,.lit y=>some (.bool (!g&&y))
 | .bool x,.lit y=>some (.bool (bif g then x else y))
 | .lit x,.bool y=>some (.bool (bif g then x else y))
 | .bool x,.bool y=>some (.bool (bif g then x else y))
 |_,_=>none
def unV(op:UnOp)(a:DV):Option DV:=
 match op,a with
 | .not,.bool b=>some (.bool (!b))
 | .not,.lit b=>some (.lit (!b))
 | .neg,.int k n=>some (.int k (k.wrap (0-n)))
 | .xor,.int k n=>some (.int k (bits .xor k (if k.signed then -1 else k.max) n))
 |_,_=>none
def o1{α:Type}(o:Option α)(K:α->Option β):Option β:=match o with|some x=>K x|none=>none
def alM(a:DV)(off:Nat):Option DV:=
 match a with
 | .own i y=>some (.own i (y+off))
 | .el t x y=>some (.el t x (y+off))
 | .re j i y=>some (.re j i (y+off))
 |_=>none
def alN(T:List TI)(ty:TypeId)(y:Nat)(xs:List DV)(off:Nat):Option DV:=
 match Mk T ty with
 |some j=>match j.agg with
  |true=>match G5 xs off y with|some l=>some (.agg l)|none=>none
  |false=>match G5 xs off 1 with|some [x]=>some x|_=>none
 |none=>none
def vT(W:Wd)(T:List TI)(op:Op)(ts:List DV)(rw:List DR)(ret:DV->Option β):Option β:=
 match op with
 | .move x=>o1 (vS ts x) ret
 | .assign x=>o1 (vS ts x) ret
 | .pick c a b=>o1 (vS ts c) λc=>match c with
  | .lit true=>o1 (vS ts a) ret
  | .lit false=>o1 (vS ts b) ret
  | .bool g=>o1 (vS ts a) λa=>o1 (vS ts b) λb=>o1 (alL g a b) ret
  |_=>none
 | .nilCheck x=>o1 (vS ts x) λp=>match p with
  | .own i o=>ret (.own i o)
  | .el t x o=>ret (.el t x o)
  | .re j i o=>ret (.re j i o)
  | .fn f cs=>ret (.fn f cs)
  |_=>none
 | .binOp op t x y _=>o1 (vS ts x) λa=>o1 (vS ts y) λb=>atY W T op t a b ret
 | .unOp op _ x=>o1 (vS ts x) λa=>o1 (unV op a) ret
 | .convert src dst x=>o1 (vS ts x) λa=>match Mk T src,BY T dst,a with
  |some _,some (.int k),.int _ n=>ret (.int k (k.wrap n))
  |some _,some .string,.str s=>ret (.str s)
  |_,_,_=>none
 | .fieldAddr s x f=>o1 (vS ts x) λa=>match BY T s with
  |some (.struct G)=>o1 (aal G f) λq=>o1 (alM a q.1) ret
  |_=>none
 | .field s x f=>o1 (vS ts x) λa=>match BY T s,a with
  |some (.struct G),.agg xs=>o1 (aal G f) λq=>o1 (alN T q.2.1 q.2.2 xs q.1) ret
  |_,_=>none
 | .indexAddr t x V=>o1 (vS ts x) λa=>o1 (vS ts V) λi=>match BY T t,a,i with
  |some (.slice e),.sl C l,.int _ i=>match Mk T e with
   |some F=>match Nat.beq F.size C.size,Nat.blt 0 C.size with
    |true,true=>W.aH l i λx=>ret (.el C x 0)
    |_,_=>none
   |none=>none
  |some (.slice e),.row j,.int _ i=>match Mk T e,Mi rw j with
   |some F,some (.own _ C l)=>match Nat.beq F.size C.size,Nat.blt 0 C.size with
    |true,true=>W.aH l i λ_=>ret (.re j i.toNat 0)
    |_,_=>none
   |_,_=>none
  |some (.slice e),.fns l,.int _ (.ofNat k)=>match Mk T e with
   |some F=>match Nat.beq F.size 1,Nat.blt k l.length with
    |true,true=>ret (.fp l k)
    |_,_=>none
   |none=>none
  |_,_,_=>none
 | .extract t i=>o1 (vS ts t) λa=>match a with
  | .Iv xs=>match G5 xs i 1 with|some [x]=>ret x|_=>none
  |_=>none
 | .slice t x lo hi R=>o1 (vS ts x) λa=>match alK ts lo,alK ts hi with
  |some lo,some hi=>match BY T t,a,R with
   |some (.slice e),.sl C l,none=>match Mk T e with
    |some F=>match Nat.beq F.size C.size with
     |true=>match lo with
      |none=>adu W hi l.length l.length λh=>ret (.sl C (l.take h))
      |some lo=>adu W hi l.length l.length λh=>adu W (some lo) 0 h λk=>ret (.sl C ((l.take h).drop k))
     |false=>none
    |none=>none
   |some .string,.str s,none=>adu W hi s.size s.size λh=>adu W lo 0 h λl=>ret (.str (s.extract l h))
   |some (.slice e),.sl C l,some m=>match lo,hi,vS ts m,Mk T e with
    |none,some (.int _ n),some (.int _ k),some F=>match Nat.beq F.size C.size with
     |true=>W.af (n==(l.length:Int)&&k==(l.length:Int)) (ret (.cs C l)) none
     |false=>none
    |_,_,_,_=>none
   |_,_,_=>none
  |_,_=>none
 | .build t parts=>match Oq ts parts.toList with
  |some ps=>match Mk T t with
   |some K=>match K.td,K.zero with
    | .struct G,z::J=>match apO G with
     |true=>aam G (CT (z::J)) ps λcells=>ret (.agg cells)
     |false=>none
    | .array n e,z::J=>match Mk T e with
     |some F=>match Nat.blt 0 F.size with
      |true=>aam (W8 e F.size n 0) (CT (z::J)) ps λcells=>ret (.agg cells)
      |false=>none
     |none=>none
    |_,_=>none
   |none=>none
  |none=>none
 | .makeFunc fn first H=>match fn,first.toList,H.toList with
  | .func f,[],cs=>match Nat.ble 1000000 f,opsV ts cs with|false,some cs=>ret (.fn f cs)|_,_=>none
  | .func f,G,[]=>match opsV ts G with|some cs=>ret (.fn (f+1000000) cs)|none=>none
  |_,_,_=>none
 | .call c=>match c.callee with
  | .builtin b=>match opsV ts c.args.toList with|some xs=>Ml T b c.argTypes xs rw ret|none=>none
  |_=>none
 |_=>none
def Xa(j:TI)(cs:List DV)(off:Nat)(ret:DV->Option β):Option β:=
 match j.agg,j.size with
 |true,n+1=>match G5 cs off (n+1)with|some l=>ret (.agg l)|none=>none
 |false,_=>match G5 cs off 1 with|some [x]=>ret x|_=>none
 |_,_=>none
def PT(W:Wd)(T:List TI)(t:TypeId)(A:DV)(pb:im)(rw:List DR)(ret:DV->Option β):Option β:=
 match Mk T t with
 |some y=>match A with
  | .own i off=>match RD pb i with
   |some b=>Xa y b.cells off ret
   |none=>none
  | .el C x off=>Xa y (C.cells x []) off ret
  | .fp l k=>Xa y l k ret
  | .re j i off=>match Mi rw j with
   |some (.own _ C l)=>W.cr l i λx=>Xa y (C.cells x []) off ret
   |_=>none
  |_=>none
 |none=>none
def alO(t:DT):List (Nat×DV)->Nat->Option (List t.den)
 |[],_=>some []
 |(i,p)::ps,n=>match Nat.beq i n,t.ofV p with
  |true,some x=>match alO t ps (n+1)with|some l=>some (x::l)|none=>none
  |_,_=>none
mutual
def DV.rows:DV->List Nat->List Nat
 | .row j,acc=>j::acc
 | .ob j,acc=>j::acc
 | .fn _ cs,acc=>AA cs acc
 | .agg cs,acc=>AA cs acc
 | .Iv cs,acc=>AA cs acc
 | .fns cs,acc=>AA cs acc
 | .fp cs _,acc=>AA cs acc
 |_,acc=>acc
def AA:List DV->List Nat->List Nat
 |[],acc=>acc
 |p::ps,acc=>p.rows (AA ps acc)
end
def JT:List Nat->List DV->im->List DR->List DV->(List DV->im->List DR->List DV->Option β)->Option β
 |[],ts,pb,rw,ps,K=>K ts pb rw ps
 |j::y,ts,pb,rw,ps,K=>match Mi rw j with
  |some (.own _ t l)=>uS (kc j (.sl t l)) ts λts=>BX (kc j (.sl t l)) pb λpb=>uS (kc j (.sl t l)) ps λps=>yJ rw j .dead λrw=>JT y ts pb rw ps K
  |some (.obj (.set ks))=>uS (kc j (.set ks)) ts λts=>BX (kc j (.set ks)) pb λpb=>uS (kc j (.set ks)) ps λps=>yJ rw j .dead λrw=>JT y ts pb rw ps K
  |_=>JT y ts pb rw ps K
def jx(j:Option Tmp)(x:DV)(ts:List DV)(pb:im)(rw:List DR)(K:DK β):Option β:=
 match j with
 |none=>K ts pb rw
 |some d=>yJ ts d x λl=>K l pb rw
inductive NK where
 |ptr
 |slc
 |fn
def NK.val:NK->Value
 | .ptr=>.pointer none
 | .slc=>.slice none 0 0
 | .fn=>.nilFunc
def NK.is:NK->Value->Bool
 | .ptr,.pointer none=>true
 | .slc,.slice none 0 0=>true
 | .fn,.nilFunc=>true
 |_,_=>false
inductive QT where
 |v (t:DT)
 |own (e:TypeId) (t:DT)
 |ptr (k:Nat)
 |nil (k:NK)
 |unit
 |pair (a b:QT)
@[reducible] def QT.den:QT->Type
 | .v t=>t.den
 | .own _ t=>List t.den
 | .ptr _=>Unit
 | .nil _=>Unit
 | .unit=>Unit
 | .pair a b=>a.den×b.den
structure ES where
 P:DT
 Q:QT
 fn:P.den->Option Q.den
inductive PK where
 |v (t:DT)
 |row (e:TypeId) (t:DT)
 |ptr (k:Nat)
 |fn (g:Nat) (l:List PK)
 |agg (l:List PK)
 |fns (l:List PK)
 |nil (k:NK)
structure BK where
 ty:TypeId
 cells:List PK
mutual
@[reducible] def PK.T:PK->DT->DT
 | .v t,r=>.pair t r
 | .row _ t,r=>.pair (.slc t) r
 | .ptr _,r=>r
 | .fn _ l,r=>Jh l r
 | .agg l,r=>Jh l r
 | .fns l,r=>Jh l r
 | .nil _,r=>r
@[reducible] def Jh:List PK->DT->DT
 |[],r=>r
 |p::l,r=>p.T (Jh l r)
end
@[reducible] def FC:List BK->DT->DT
 |[],r=>r
 |B::l,r=>Jh B.cells (FC l r)
structure LS where
 B:List BK
 P:List PK
 E:List BK
 Q:QT
 fn:(FC B (Jh P .unit)).den->Option (Q.den×(FC E .unit).den)
structure MU where
 e:TypeId
 t:DT
 P:List PK
 fn:List t.den->(Jh P .unit).den->Option (List t.den)
inductive EC where
 |es (s:ES)
 |ls (s:LS)
 |mu (s:MU)
abbrev F9:=List (Nat×EC)
def axL:PK->DV->Bool
 | .fn g _,.fn j _=>Nat.beq g j
 | .nil n,.v y=>n.is y
 | .nil _,_=>false
 | .ptr _,.v _=>false
 |_,_=>true
def alP:List PK->List DV->Bool
 |p::l,v::vs=>axL p v&&alP l vs
 |_,_=>true
def axM:EC->List DV->Bool
 | .ls s,xs=>alP s.P xs
 | .es _,_=>true
 | .mu s,xs=>alP s.P xs.tail
def esL:F9->Nat->List DV->List EC
 |[],_,_=>[]
 |(n,s)::ss,f,xs=>match Nat.beq n f&&axM s xs with|true=>s::esL ss f xs|false=>esL ss f xs
def ofA:(P:DT)->List DV->Option P.den
 | .unit,vs=>match vs with|[]=>some ()|_=>none
 | .pair a b,vs=>match vs with
  |v::vs=>match a.ofV v,ofA b vs with|some x,some y=>some (x,y)|_,_=>none
  |_=>none
 |_,_=>none
def BW:(P:DT)->P.den->List DV
 | .pair a b,x=>a.val x.1::BW b x.2
 |_,_=>[]
def FG:List (Nat×Nat)->Nat->Option Nat
 |[],_=>none
 |(k,i)::l,n=>match Nat.beq k n with|true=>some i|false=>FG l n
mutual
def PK.ids:PK->DV->List (Nat×Nat)->List (Nat×Nat)
 | .ptr k,.own i _,am=>match FG am k with|some _=>am|none=>(k,i)::am
 | .fn _ l,.fn _ cs,am=>air l cs am
 | .agg l,.agg cs,am=>air l cs am
 | .fns l,.fns cs,am=>air l cs am
 |_,_,am=>am
def air:List PK->List DV->List (Nat×Nat)->List (Nat×Nat)
 |p::l,v::vs,am=>air l vs (p.ids v am)
 |_,_,am=>am
end
def apQ:List BK->Nat->im->List (Nat×Nat)->List (Nat×Nat)
 |[],_,_,am=>am
 |B::l,n,pb,am=>match FG am n with
  |some i=>match RD pb i with
   |some b=>apQ l (n+1) pb (air B.cells b.cells am)
   |none=>am
  |none=>am
def G6:List Nat->Bool
 |[]=>true
 |n::l=>!Aw n l&&G6 l
def QL:List (Nat×Nat)->List Nat
 |[]=>[]
 |p::l=>p.2::QL l
mutual
def PK.frz:PK->DV->List Nat->List Nat
 | .v _,p,acc=>p.rows acc
 | .fn _ l,.fn _ cs,acc=>aan l cs acc
 | .agg l,.agg cs,acc=>aan l cs acc
 | .fns l,.fns cs,acc=>aan l cs acc
 |_,_,acc=>acc
def aan:List PK->List DV->List Nat->List Nat
 |p::l,v::vs,acc=>p.frz v (aan l vs acc)
 |_,_,acc=>acc
end
def apR(am:List (Nat×Nat)):List BK->Nat->im->List Nat->List Nat
 |[],_,_,acc=>acc
 |B::l,n,pb,acc=>match FG am n with
  |some i=>match RD pb i with
   |some b=>aan B.cells b.cells (apR am l (n+1) pb acc)
   |none=>acc
  |none=>acc
structure MS where
 rs:List (Option Nat)
 rw:List DR
mutual
def PK.x(am:List (Nat×Nat)):(p:PK)->(r:DT)->DV->MS->(MS->Option (r.den×MS))->Option ((p.T r).den×MS)
 | .v t,_,u,m,k=>match t.ofV u,k m with
  |some x,some (y,m)=>some ((x,y),m)
  |_,_=>none
 | .row e t,_,u,m,k=>match u with
  | .row j=>match Mi m.rw j with
   |some (.own H C xs)=>match Nat.beq H e,C.same t,k ⟨m.rs++[some j],m.rw.set j .dead⟩with
    |true,some ⟨h⟩,some (y,m)=>some ((DT.PO h xs,y),m)
    |_,_,_=>none
   |_=>none
  | .v (.slice none 0 0)=>match k ⟨m.rs++[none],m.rw⟩with
   |some (y,m)=>some (([],y),m)
   |none=>none
  |_=>none
 | .ptr n,_,u,m,k=>match u with
  | .own i o=>match o,FG am n with
   |0,some F=>match Nat.beq i F with|true=>k m|false=>none
   |_,_=>none
  |_=>none
 | .fn g l,r,u,m,k=>match u with
  | .fn G cs=>match Nat.beq G g with|true=>pkX am l r cs m k|false=>none
  |_=>none
 | .agg l,r,u,m,k=>match u with
  | .agg cs=>pkX am l r cs m k
  |_=>none
 | .fns l,r,u,m,k=>match u with
  | .fns cs=>pkX am l r cs m k
  |_=>none
 | .nil n,_,u,m,k=>match u with
  | .v y=>match n.is y with|true=>k m|false=>none
  |_=>none
def pkX(am:List (Nat×Nat)):(l:List PK)->(r:DT)->List DV->MS->(MS->Option (r.den×MS))->Option ((Jh l r).den×MS)
 |[],_,vs,m,k=>match vs with|[]=>k m|_=>none
 |p::l,r,vs,m,k=>match vs with
  |v::vs=>p.x am (Jh l r) v m λm=>pkX am l r vs m k
  |_=>none
end
def bkX(am:List (Nat×Nat))(pb:im):(l:List BK)->Nat->(r:DT)->MS->(MS->Option (r.den×MS))->Option ((FC l r).den×MS)
 |[],_,_,m,k=>k m
 |B::l,n,r,m,k=>match FG am n with
  |some i=>match RD pb i with
   |some b=>match Nat.beq b.ty B.ty with
    |true=>pkX am B.cells (FC l r) b.cells m λm=>bkX am pb l (n+1) r m k
    |false=>none
   |none=>none
  |none=>none
mutual
def PK.mk:(p:PK)->(r:DT)->(p.T r).den->List DR->DV×r.den×List DR
 | .v t,_,z,rw=>(t.val z.1,z.2,rw)
 | .row e t,_,z,rw=>(.row rw.length,z.2,rw++[.own e t z.1])
 | .ptr k,_,z,rw=>(.own k 0,z,rw)
 | .fn g l,r,z,rw=>match G7 l r z rw with|(vs,y,rw)=>(.fn g vs,y,rw)
 | .agg l,r,z,rw=>match G7 l r z rw with|(vs,y,rw)=>(.agg vs,y,rw)
 | .fns l,r,z,rw=>match G7 l r z rw with|(vs,y,rw)=>(.fns vs,y,rw)
 | .nil n,_,z,rw=>(.v n.val,z,rw)
def G7:(l:List PK)->(r:DT)->(Jh l r).den->List DR->List DV×r.den×List DR
 |[],_,z,rw=>([],z,rw)
 |p::l,r,z,rw=>match p.mk (Jh l r) z rw with|(v,y,rw)=>match G7 l r y rw with|(vs,y,rw)=>(v::vs,y,rw)
end
def y0:(l:List BK)->(r:DT)->(FC l r).den->List DR->im×r.den×List DR
 |[],_,z,rw=>([],z,rw)
 |B::l,r,z,rw=>match G7 B.cells (FC l r) z rw with|(vs,y,rw)=>match y0 l r y rw with|(j,y,rw)=>(some ⟨B.ty,vs,true⟩::j,y,rw)
mutual
def QT.mk:(Q:QT)->Q.den->List DR->DV×List DR
 | .v t,x,rw=>(t.val x,rw)
 | .own e t,l,rw=>(.row rw.length,rw++[.own e t l])
 | .ptr k,_,rw=>(.own k 0,rw)
 | .nil n,_,rw=>(.v n.val,rw)
 | .unit,_,rw=>(.Iv [],rw)
 | .pair a b,q,rw=>match a.mk q.1 rw with|(u,rw)=>match b.mks q.2 rw with|(vs,rw)=>(.Iv (u::vs),rw)
def QT.mks:(Q:QT)->Q.den->List DR->List DV×List DR
 | .pair a b,q,rw=>match a.mk q.1 rw with|(u,rw)=>match b.mks q.2 rw with|(vs,rw)=>(u::vs,rw)
 |_,_,rw=>([],rw)
end
def apS(ρ:List (Option Nat))(e:TypeId)(t:DT)(l:List t.den)(rw:List DR)(K:DV->List (Option Nat)->List DR->Option β):Option β:=
 match ρ with
 |some j::ρ=>yJ rw j (.own e t l) λrw=>K (.row j) ρ rw
 |none::ρ=>uR rw (.own e t l) λrw'=>F0 rw.length λn=>K (.row n) ρ rw'
 |[]=>uR rw (.own e t l) λrw'=>F0 rw.length λn=>K (.row n) [] rw'
mutual
def PK.o(σ:Nat->Option Nat):(p:PK)->(r:DT)->(p.T r).den->List (Option Nat)->List DR->(DV->r.den->List (Option Nat)->List DR->Option β)->Option β
 | .v t,_,z,ρ,rw,K=>K (t.val z.1) z.2 ρ rw
 | .row e t,_,z,ρ,rw,K=>apS ρ e t z.1 rw λv ρ rw=>K v z.2 ρ rw
 | .ptr k,_,z,ρ,rw,K=>match σ k with|some i=>K (.own i 0) z ρ rw|none=>none
 | .fn g l,r,z,ρ,rw,K=>pkO σ l r z ρ rw λvs y ρ rw=>K (.fn g vs) y ρ rw
 | .agg l,r,z,ρ,rw,K=>pkO σ l r z ρ rw λvs y ρ rw=>K (.agg vs) y ρ rw
 | .fns l,r,z,ρ,rw,K=>pkO σ l r z ρ rw λvs y ρ rw=>K (.fns vs) y ρ rw
 | .nil n,_,z,ρ,rw,K=>K (.v n.val) z ρ rw
def pkO(σ:Nat->Option Nat):(l:List PK)->(r:DT)->(Jh l r).den->List (Option Nat)->List DR->(List DV->r.den->List (Option Nat)->List DR->Option β)->Option β
 |[],_,z,ρ,rw,K=>K [] z ρ rw
 |p::l,r,z,ρ,rw,K=>p.o σ (Jh l r) z ρ rw λv y ρ rw=>pkO σ l r y ρ rw λvs y ρ rw=>K (v::vs) y ρ rw
end
def bkO(σ:Nat->Option Nat)(m:Nat):(l:List BK)->Nat->(r:DT)->(FC l r).den->List (Option Nat)->im->List DR->(r.den->List (Option Nat)->im->List DR->Option β)->Option β
 |[],_,_,z,ρ,pb,rw,K=>K z ρ pb rw
 |B::l,n,r,z,ρ,pb,rw,K=>pkO σ B.cells (FC l r) z ρ rw λvs y ρ rw=>match Nat.blt n m with
  |true=>match σ n with
   |some i=>yJ pb i (some ⟨B.ty,vs,true⟩) λpb=>bkO σ m l (n+1) r y ρ pb rw K
   |none=>none
  |false=>uR pb (some ⟨B.ty,vs,true⟩) λpb=>bkO σ m l (n+1) r y ρ pb rw K
mutual
def QT.o(σ:Nat->Option Nat):(Q:QT)->Q.den->List (Option Nat)->List DR->(DV->List (Option Nat)->List DR->Option β)->Option β
 | .v t,x,ρ,rw,K=>K (t.val x) ρ rw
 | .own e t,l,ρ,rw,K=>apS ρ e t l rw K
 | .ptr k,_,ρ,rw,K=>match σ k with|some i=>K (.own i 0) ρ rw|none=>none
 | .nil n,_,ρ,rw,K=>K (.v n.val) ρ rw
 | .unit,_,ρ,rw,K=>K (.Iv []) ρ rw
 | .pair a b,q,ρ,rw,K=>a.o σ q.1 ρ rw λv ρ rw=>b.os σ q.2 ρ rw λvs ρ rw=>K (.Iv (v::vs)) ρ rw
def QT.os(σ:Nat->Option Nat):(Q:QT)->Q.den->List (Option Nat)->List DR->(List DV->List (Option Nat)->List DR->Option β)->Option β
 | .pair a b,q,ρ,rw,K=>a.o σ q.1 ρ rw λv ρ rw=>b.os σ q.2 ρ rw λvs ρ rw=>K (v::vs) ρ rw
 |_,_,ρ,rw,K=>K [] ρ rw
end
def QT.free:QT->Bool
 | .v t=>t.free
 | .own _ t=>t.free
 | .ptr _=>true
 | .nil _=>true
 | .unit=>true
 | .pair a b=>a.free&&b.free
mutual
def PK.free:PK->Bool
 | .v t=>t.free
 | .row _ t=>t.free
 | .ptr _=>true
 | .fn _ l=>Ot l
 | .agg l=>Ot l
 | .fns _=>false
 | .nil _=>true
def Ot:List PK->Bool
 |[]=>true
 |p::l=>p.free&&Ot l
end
def Tw:List BK->Bool
 |[]=>true
 |B::l=>Ot B.cells&&Tw l
def sV(rw:List DR):Nat->Option DV:=λj=>match Mi rw j with|some (.own _ t l)=>some (.sl t l)|some (.obj (.set ks))=>some (.set ks)|_=>none
mutual
def PK.view(rw:List DR):PK->DV->(DV->Option β)->Option β
 | .v _,p,K=>p.Mj (sV rw) K
 | .fn _ l,.fn g cs,K=>Mm rw l cs λcs=>K (.fn g cs)
 | .agg l,.agg cs,K=>Mm rw l cs λcs=>K (.agg cs)
 | .fns l,.fns cs,K=>Mm rw l cs λcs=>K (.fns cs)
 |_,p,K=>K p
def Mm(rw:List DR):List PK->List DV->(List DV->Option β)->Option β
 |p::l,v::vs,K=>p.view rw v λv=>Mm rw l vs λvs=>K (v::vs)
 |_,vs,K=>K vs
end
def FH:List (Option Nat)->List Nat
 |[]=>[]
 |some j::l=>j::FH l
 |none::l=>FH l
def Y9(al:Nat->Bool):List Nat->Bool
 |[]=>true
 |i::l=>al i&&Y9 al l
def alQ:List BK->List BK->Bool
 |[],_=>true
 |B::l,l'=>match l' with|E::l'=>Nat.beq B.ty E.ty&&alQ l l'|[]=>false
def alR(am:List (Nat×Nat))(m n:Nat):Nat->Option Nat:=λk=>match Nat.blt k m with|true=>FG am k|false=>some (n+(k-m))
def Ou:List (Nat×Nat)->Nat->Bool
 |[],_=>true
 |(k,_)::l,n=>Nat.blt k n&&Ou l n
def apT:List Nat->List Nat->Bool
 |[],_=>true
 |n::l,j=>!Aw n j&&apT l j
def afN(W:Wd)(s:LS)(al:Nat->Bool)(am:List (Nat×Nat))(y:List Nat)(xs ts:List DV)(pb:im)(rw:List DR)(K:DV->DK β):Option β:=
 match G6 (QL am)&&Y9 al (QL am)&&alQ s.B s.E&&Ou am s.B.length,bkX am pb s.B 0 (Jh s.P .unit) ⟨[],rw⟩ (λm=>pkX am s.P .unit xs m λm=>some ((),m))with
 |true,some (z,m)=>match apT y (FH m.rs)with
  |true=>uS (PS (FH m.rs)) ts λts=>BX (PS (FH m.rs)) pb λpb=>W.ae (s.fn z) λo=>bkO (alR am s.B.length pb.length) s.B.length s.E 0 .unit o.2 m.rs pb m.rw λ_ ρ j rw=>s.Q.o (alR am s.B.length pb.length) o.1 ρ rw λv _ rw=>K v ts j rw
  |false=>none
 |_,_=>none
def esF(W:Wd)(s:ES)(xs ts:List DV)(pb:im)(rw:List DR)(K:DV->DK β):Option β:=
 match ofA s.P xs with
 |some x=>W.ae (s.fn x) λq=>s.Q.o (λ_=>none) q [] rw λv _ rw=>K v ts pb rw
 |none=>none
def alS(W:Wd)(s:MU)(xs ts:List DV)(pb:im)(rw:List DR)(K:DV->DK β):Option β:=
 match xs with
 | .row j::y=>match Mi rw j with
  |some (.own e t l)=>match Nat.beq e s.e&&s.t.free,t.same s.t,pkX [] s.P .unit y ⟨[],rw⟩ (λm=>some ((),m))with
   |true,some ⟨h⟩,some (z,m)=>match m.rs with
    |[]=>W.ae (s.fn (DT.PO h l) z) λl'=>yJ rw j (.own s.e s.t l') λrw=>K (.Iv []) ts pb rw
    |_=>none
   |_,_,_=>none
  |_=>none
 |_=>none
def aao(W:Wd)(c:EC)(al:Nat->Bool)(xs ts:List DV)(pb:im)(rw:List DR)(K:DV->DK β):Option β:=
 match c with
 | .mu s=>alS W s xs ts pb rw K
 | .es s=>match s.Q.free with
  |true=>uS (sV rw) xs λxs=>esF W s xs ts pb rw K
  |false=>JT (AA xs []) ts pb rw xs λts pb rw xs=>esF W s xs ts pb rw K
 | .ls s=>match apQ s.B 0 pb (air s.P xs [])with
  |am=>match s.Q.free&&Tw s.E with
   |true=>JT (apR am s.B 0 pb []) ts pb rw xs λts pb rw xs=>Mm rw s.P xs λj=>afN W s al am (aan s.P xs []) j ts pb rw K
   |false=>JT (apR am s.B 0 pb (aan s.P xs [])) ts pb rw xs λts pb rw xs=>afN W s al am [] xs ts pb rw K
def aap(W:Wd)(al:Nat->Bool)(xs ts:List DV)(pb:im)(rw:List DR)(K:DV->DK β):List EC->Option β
 |[]=>none
 |c::l=>match l with
  |[]=>aao W c al xs ts pb rw K
  |_::_=>W.ast (aao W c al xs ts pb rw K) (aap W al xs ts pb rw K l)
def alT(W:Wd)(C:F9)(al:Nat->Bool)(g:Nat)(xs ts:List DV)(pb:im)(rw:List DR)(K:DV->DK β):Option β:=aap W al xs ts pb rw K (esL C g xs)
end Go.Vc








namespace Go.Vc
open Go Go.RowKit
variable {β : Type}
def strOf(j:List Int):ByteArray:=j.foldl (λr n=>r.push (UInt8.ofNat n.toNat)) ByteArray.empty
def avV:List (Nat×Nat)->Nat->Option Nat
 |[],_=>none
 |(d,i)::l,n=>match Nat.beq d n with|true=>some i|false=>avV l n
def afO(y:List (Nat×Nat))(j:Option Tmp)(ty:TypeId)(cs ts:List DV)(pb:im)(rw:List DR)(K:DK β):Option β:=
 match j with
 |none=>none
 |some d=>match avV y d with
  |some i=>match Iw pb i with
   |true=>yJ pb i (some ⟨ty,cs,true⟩) λpb'=>jx (some d) (.own i 0) ts pb' rw K
   |false=>none
  |none=>uR pb (some ⟨ty,cs,true⟩) λpb'=>F0 pb.length λn=>jx (some d) (.own n 0) ts pb' rw K
def Xb:List (Nat×DV)->List DV
 |[]=>[]
 |(_,p)::ps=>p::Xb ps
def Tx:List (Nat×DV)->List DV->List (Nat×DV)
 |(i,_)::ps,q::qs=>(i,q)::Tx ps qs
 |_,_=>[]
def asu(f:TypeId->Option DT):List (Nat×Nat×Nat)->Option DT
 |[]=>some .unit
 |(_,ty,_)::j=>match f ty,asu f j with
  |some a,some b=>some (.pair a b)
  |_,_=>none
def awc(a:DT):Nat->DT
 |0=>.unit
 |n+1=>.pair a (awc a n)
def alU(T:List TI):Nat->TypeId->Option DT
 |0,_=>none
 |n+1,t=>match BY T t with
  |some (.int k)=>some (.int k)
  |some .bool=>some .bool
  |some .string=>some .str
  |some (.slice e)=>match alU T n e with|some a=>some (.slc a)|none=>none
  |some (.struct j)=>asu (alU T n) j
  |some (.array m e)=>match alU T n e with|some a=>some (awc a m)|none=>none
  |_=>none
def axN(T:List TI)(o:Oper)(ts:List DV):Option ByteArray:=
 match o.op with
 | .convert src dst x=>match vS ts x with
  |some (.sl (.int .u8) l)=>match BY T src,BY T dst with
   |some (.slice e),some .string=>match BY T e with|some (.int .u8)=>some (strOf l)|_=>none
   |_,_=>none
  |_=>none
 |_=>none
def ayC(T:List TI)(j y:TypeId)(x:Option DV):Option ByteArray:=
 match x,BY T j,BY T y with
 |some (.str s),some .string,some (.slice e)=>match BY T e with|some (.int .u8)=>some s|_=>none
 |_,_,_=>none
def awd:Operand->Bool
 | .const (.int _ (.ofNat 0))=>true
 |_=>false
def awe(k:IntKind):List Value->Option (List Int)
 |[]=>some []
 |v::vs=>match v with
  | .int j n=>match eqk j k,awe k vs with
   |true,some l=>some (n::l)
   |_,_=>none
  |_=>none
def awf(k:IntKind):List DV->Option (List Int)
 |[]=>some []
 |v::vs=>match v with
  | .int j n=>match eqk j k,awf k vs with
   |true,some l=>some (n::l)
   |_,_=>none
  |_=>none
def axO(T:List TI)(t:TypeId)(x:Option DV)(lo hi C:Option Operand)(rw:List DR):Option DV:=
 match lo,hi,C,BY T t with
 |none,none,none,some (.array n e)=>match BY T e,x with
  |some (.int _),some (.ra j)=>match Mi rw j with
   |some (.own _ _ l)=>match Nat.beq l.length n&&Nat.blt 0 n with|true=>some (.row j)|false=>none
   |_=>none
  |some (.int _),some (.re j i o)=>match Mi rw j with
   |some (.own _ y _)=>match Nat.beq y.size n&&(Nat.beq o 0&&Nat.blt 0 n)with|true=>some (.rs j i)|false=>none
   |_=>none
  |_,_=>none
 |_,_,_,_=>none
def alV:List (Nat×DV)->Nat->Bool
 |[],_=>true
 |(i,p)::ps,n=>Nat.beq i n&&(match p with | .fn _ _=>alV ps (n+1)|_=>false)
def atZ(T:List TI)(t:TypeId)(len:Nat)(ps:List (Nat×DV)):Option (List DV):=
 match BY T t with
 |some (.slice e)=>match Mk T e with
  |some j=>match Nat.beq j.size 1&&(Nat.beq j.zero.length 1&&!j.agg),Nat.beq len ps.length&&(Nat.blt 0 len&&(Nat.ble len 16777216&&alV ps 0))with
   |true,true=>some (Xb ps)
   |_,_=>none
  |none=>none
 |_=>none
def ayD(T:List TI)(xs:List DV)(C:List TypeId)(rw:List DR):Option (Nat×TypeId×List Int×ByteArray×Nat):=
 match xs,C with
 |[.row j,.str s],[t,F]=>match BY T t,BY T F,Mi rw j with
  |some (.slice e),some .string,some (.own G (.int .u8) l)=>match BY T e,Mk T e with
   |some (.int .u8),some y=>match Nat.beq e G&&(Nat.beq y.zero.length y.size&&Nat.beq y.size 1)with
    |true=>some (j,e,l,s,y.bytes)
    |false=>none
   |_,_=>none
  |_,_,_=>none
 |_,_=>none
def ayE(T:List TI)(xs:List DV)(y:List TypeId):Option (TypeId×ByteArray×Nat):=
 match xs,y with
 |[.v (.slice none 0 0),.str s],[t,C]=>match BY T t,BY T C with
  |some (.slice e),some .string=>match BY T e,Mk T e with
   |some (.int .u8),some j=>match Nat.beq j.zero.length j.size&&Nat.beq j.size 1 with
    |true=>some (e,s,j.bytes)
    |false=>none
   |_,_=>none
  |_,_=>none
 |_,_=>none
def alW:F9->Bool
 |[]=>false
 |(g,_)::C=>match Nat.beq g 2000000 with|true=>true|false=>alW C
def awg(C:F9)(x:Option DV)(lo hi y:Option Operand)(ts:List DV):Option (Nat×Int):=
 match alW C with
 |true=>match x,lo,hi,y with
  |some (.row j),none,some h,none=>match vS ts h with|some (.int _ n)=>some (j,n)|_=>none
  |_,_,_,_=>none
 |false=>none
def qA(W:Wd)(T:List TI)(C:F9)(al:Nat->Bool)(av:List (Nat×Nat))(o:Oper)(ts:List DV)(pb:im)(rw:List DR)(K:DK β):Option β:=
 match o.op with
 | .alloc t=>match Mk T t with
  |some V=>match V.zero with
   |z::zs=>afO av o.dst t (CT (z::zs)) ts pb rw K
   |[]=>none
  |none=>none
 | .box t x=>match vS ts x with
  |some a=>match Tu a with|some cs=>afO av o.dst t cs ts pb rw K|none=>none
  |none=>none
 | .load t a=>match vS ts a with
  |some A=>PT W T t A pb rw λx=>jx o.dst x ts pb rw K
  |none=>none
 | .store t a x=>match vS ts a,vS ts x,Mk T t with
  |some a,some x,some V=>match Tu x with
   |some cs=>match Nat.beq cs.length V.size,afK cs,a with
    |true,true,.own i off=>match al i,RD pb i with
     |true,some y=>match G5 y.cells off V.size with
      |some _=>wrE y.cells off cs λcells=>yJ pb i (some ⟨y.ty,cells,true⟩) λpb'=>jx o.dst .On ts pb' rw K
      |none=>none
     |_,_=>none
    |true,true,.re j i off=>JT (AA cs []) ts pb rw (.re j i off::cs) λts pb rw ps=>match ps with
     | .re j i off::cs=>match Mi rw j with
      |some (.own e H l)=>match Nat.ble (off+cs.length) H.size with
       |true=>W.cr l i λy=>wrE (H.cells y []) off cs λcells=>match H.of cells with
        |some (y',[])=>yJ rw j (.own e H (l.set i y')) λrw=>jx o.dst .On ts pb rw K
        |_=>none
       |false=>none
      |_=>none
     |_=>none
    |_,_,_=>none
   |none=>none
  |_,_,_=>none
 | .call c=>match c.callee with
  | .value f=>match vS ts f,opsV ts c.args.toList with
   |some (.fn g J),some xs=>match Nat.ble 1000000 g with
    |true=>alT W C al (g-1000000) (J++xs) ts pb rw λr ts pb rw=>jx o.dst r ts pb rw K
    |false=>alT W C al g (xs++J) ts pb rw λr ts pb rw=>jx o.dst r ts pb rw K
   |_,_=>none
  | .builtin b=>match opsV ts c.args.toList with
   |some xs=>match b with
    | .append=>match xs with
     |[a,b]=>JT (b.rows []) ts pb rw [a,b] λts pb rw xs=>match xs,c.argTypes.toList with
      |[a,b],[t,H]=>match BY T t with
       |some (.slice e)=>match Mk T e with
        |some F=>match Nat.beq t H,Nat.beq F.zero.length F.size,b with
         |true,true,.sl t2 news=>match Nat.blt 0 t2.size,a with
          |true,.row j=>match Mi rw j with
           |some (.own R t1 l)=>match Nat.beq e R,Nat.beq t1.size F.size,t2.same t1 with
            |true,true,some ⟨h⟩=>W.bc (l.length+news.length) F.bytes (uS (kc j .jD) ts λts=>BX (kc j .jD) pb λpb=>yJ rw j (.own e t1 (l++DT.PO h news)) λrw=>jx o.dst (.row j) ts pb rw K)
            |_,_,_=>none
           |_=>none
          |true,.v (.slice none 0 0)=>match Nat.beq t2.size F.size with
           |true=>W.bc news.length F.bytes (uR rw (.own e t2 news) λrw'=>F0 rw.length λn=>jx o.dst (.row n) ts pb rw' K)
           |false=>none
          |true,.cs t1 l=>match Nat.beq t1.size F.size,t2.same t1,news with
           |true,some ⟨h⟩,y::X=>W.bc (l.length+(y::X).length) F.bytes (uR rw (.own e t1 (l++DT.PO h (y::X))) λrw'=>F0 rw.length λn=>jx o.dst (.row n) ts pb rw' K)
           |_,_,_=>none
          |_,_=>none
         |_,_,_=>none
        |none=>none
       |_=>none
      |_,_=>none
     |_=>none
    | .clear=>match xs,c.argTypes.toList with
     |[.rt j i],[t]=>match BY T t with
      |some (.slice e)=>match Mk T e,Mi rw j with
       |some F,some (.own R H l)=>match Nat.beq e R,Nat.beq H.size F.size,Nat.beq F.zero.length F.size,Nat.ble 1 F.size,H.of (CT F.zero)with
        |true,true,true,true,some (z,[])=>W.j5 (.ofNat i) l.length λn=>yJ rw j (.own R H (l.take n++List.replicate (l.length-n) z)) λrw=>jx o.dst .jD ts pb rw K
        |_,_,_,_,_=>none
       |_,_=>none
      |_=>none
     |_,_=>none
    |b=>Ml T b c.argTypes xs rw λx=>jx o.dst x ts pb rw K
   |none=>none
  |_=>none
 | .buildSlice t len parts=>match Oq ts parts.toList with
  |some ps=>match atZ T t len ps with
   |some l=>jx o.dst (.fns l) ts pb rw K
   |none=>JT (AA (Xb ps) []) ts pb rw (Xb ps) λts pb rw qs=>match BY T t with
    |some (.slice e)=>match Mk T e,alU T 9 e with
     |some F,some G=>match alO G (Tx ps qs) 0 with
      |some l=>match Nat.beq G.size F.size,Nat.beq len l.length,Nat.ble 1 F.size,Nat.ble (len*F.size) 16777216,Nat.beq F.zero.length F.size with
       |true,true,true,true,true=>uR rw (.own e G l) λrw'=>F0 rw.length λn=>jx o.dst (.row n) ts pb rw' K
       |_,_,_,_,_=>none
      |none=>none
     |_,_=>none
    |_=>none
  |none=>none
 | .slice t x lo hi Y=>match awg C (vS ts x) lo hi Y ts with
  |some (j,n)=>match BY T t,Mi rw j with
   |some (.slice e),some (.own R H l)=>match Mk T e with
    |some F=>match Nat.beq e R,Nat.beq F.size H.size with
     |true,true=>W.j5 n l.length λh=>uS (kc j .jD) ts λts=>BX (kc j .jD) pb λpb=>yJ rw j (.own R H (l.take h)) λrw=>jx o.dst (.row j) ts pb rw K
     |_,_=>none
    |none=>none
   |_,_=>none
  |none=>match vS ts x with
   |some a=>JT (a.rows []) ts pb rw [] λts pb rw _=>vT W T (.slice t x lo hi Y) ts rw λy=>jx o.dst y ts pb rw K
   |none=>none
 | .makeSlice t l c=>match vS ts l,vS ts c,BY T t with
  |some (.int _ n),some (.int _ c),some (.slice e)=>match Mk T e,alU T 9 e with
   |some F,some G=>match Nat.beq G.size F.size,Nat.ble 1 F.size,Nat.beq F.zero.length F.size,G.of (CT F.zero)with
    |true,true,true,some (z,[])=>match awd l with
     |true=>match n with
      | .ofNat 0=>W.jb c (W.bc c.toNat F.bytes (uR rw (.own e G []) λrw'=>F0 rw.length λn=>jx o.dst (.row n) ts pb rw' K))
      |_=>none
     |false=>W.jb c (W.bc c.toNat F.bytes (W.j5 n c.toNat λn=>uR rw (.own e G (List.replicate n z)) λrw'=>F0 rw.length λn=>jx o.dst (.row n) ts pb rw' K))
    |_,_,_,_=>none
   |_,_=>none
  |_,_,_=>none
 | .index t x ix=>match vS ts x,vS ts ix,BY T t with
  |some (.str s),some (.int _ i),some .string=>W.Lz s i λb=>jx o.dst (.int .u8 b) ts pb rw K
  |_,_,_=>none
 | .range t x=>match vS ts x,BY T t with
  |some (.str s),some .string=>uR rw (.obj (.IZ s 0)) λrw'=>F0 rw.length λn=>jx o.dst (.ob n) ts pb rw' K
  |some (.ob j),some (.map _ _)=>match Mi rw j with
   |some (.obj (.set ks))=>uS (kc j .jD) ts λts=>BX (kc j .jD) pb λpb=>yJ rw j .dead λrw=>uR rw (.obj (.walk ks [])) λrw'=>F0 rw.length λn=>jx o.dst (.ob n) ts pb rw' K
   |_=>none
  |_,_=>none
 | .next it b=>match vS ts it,b with
  |some (.ob j),true=>match Mi rw j with
   |some (.obj (.IZ s p))=>W.zd s p (λc q=>yJ rw j (.obj (.IZ s q)) λrw'=>jx o.dst (.Iv [.lit true,.int .i64 (p.toNat:Int),.int .i32 c]) ts pb rw' K) (jx o.dst (.Iv [.lit false]) ts pb rw K)
   |_=>none
  |_,_=>none
 | .makeMap t r=>match r,BY T t with
  |none,some (.map _ _)=>uR rw (.obj (.set [])) λrw'=>F0 rw.length λn=>jx o.dst (.ob n) ts pb rw' K
  |_,_=>none
 | .mapUpdate t m k x=>match BY T t,vS ts m,vS ts k,vS ts x with
  |some (.map _ _),some (.ob j),some k,some (.lit true)=>match Mi rw j,tKU.ofV k with
   |some (.obj (.set ks)),some k=>yJ rw j (.obj (.set (QK ks k))) λrw=>jx o.dst .On ts pb rw K
   |_,_=>none
  |_,_,_,_=>none
 | .entry it=>match vS ts it with
  |some (.ob j)=>match Mi rw j with
   |some (.obj (.walk _ dn))=>W.aH dn ((dn.length:Int)-1) λk=>jx o.dst (.Iv [tKU.val k,.lit true]) ts pb rw K
   |_=>none
  |_=>none
 |op=>vT W T op ts rw λx=>jx o.dst x ts pb rw K
def awh(T:List TI)(o:Oper)(ts:List DV)(rw:List DR):Option (Bool×Bool):=
 match o.op with
 | .binOp op t x y _=>match BY T t,vS ts x,vS ts y with
  |some (.slice _),some (.sl d l),some (.v (.slice none 0 0))=>match Nat.blt 0 d.size with
   |true=>match op with
    | .eql=>some (List.isEmpty l,false)
    | .neq=>some (List.isEmpty l,true)
    |_=>none
   |false=>none
  |some (.slice _),some (.row j),some (.v (.slice none 0 0))=>match Mi rw j with
   |some (.own _ _ l)=>match op with
    | .eql=>some (List.isEmpty l,false)
    | .neq=>some (List.isEmpty l,true)
    |_=>none
   |_=>none
  |_,_,_=>none
 |_=>none
def alX(o:Oper)(ts:List DV)(rw:List DR):Option (Nat×List KU×List KU):=
 match o.op with
 | .next it false=>match vS ts it with
  |some (.ob j)=>match Mi rw j with
   |some (.obj (.walk ks y))=>some (j,ks,y)
   |_=>none
  |_=>none
 |_=>none
def Ty[qT β](W:Wd)(T:List TI)(C:F9)(al:Nat->Bool)(av:List (Nat×Nat))(o:Oper)(ts:List DV)(pb:im)(rw:List DR)(K:DK β):Option β:=
 match awh T o ts rw with
 |some (e,neg)=>W.qJ e λg=>jx o.dst (.bool (cX neg g)) ts pb rw K
 |none=>match alX o ts rw with
  |some (j,ks,y)=>W.Mh (PR ks y) (λk=>yJ rw j (.obj (.walk ks (y++[k]))) λrw'=>jx o.dst (.Iv [.lit true,tKU.val k,.lit true]) ts pb rw' K) (jx o.dst (.Iv [.lit false]) ts pb rw K)
  |none=>qA W T C al av o ts pb rw K
def apU:List Oper->Bool
 |o::_=>match o.op with
  | .call c=>match c.callee with | .builtin .clear=>true|_=>false
  |_=>false
 |[]=>false
def asv(T:List TI)(o:Oper)(y:List Oper)(ts:List DV)(rw:List DR):Option (Nat×Int×Nat):=
 match apU y with
 |true=>match o.op with
  | .slice t x (some lo) none none=>match BY T t,vS ts x,vS ts lo with
   |some (.slice e),some (.row j),some (.int _ i)=>match Mk T e,Mi rw j with
    |some C,some (.own _ F l)=>match Nat.beq F.size C.size with|true=>some (j,i,l.length)|false=>none
    |_,_=>none
   |_,_,_=>none
  |_=>none
 |false=>none
def alY[qT β](W:Wd)(T:List TI)(C:F9)(al:Nat->Bool)(av:List (Nat×Nat))(o:Oper)(rest:List Oper)(ts:List DV)(pb:im)(rw:List DR)(K:DK β):Option β:=
 match asv T o rest ts rw with
 |some (j,i,n)=>W.j5 i n λm=>jx o.dst (.rt j m) ts pb rw K
 |none=>Ty W T C al av o ts pb rw K
inductive OT where
 |nil
 |rd (i:Nat) (t:OT)
 |er (i:Nat) (D:List Nat) (t:OT)
 |op (i:Nat) (t:OT)
 |two (i j:Nat) (ti tj:OT)
 |three (i j k:Nat) (ti tj tk:OT)
 |four (i j k l:Nat) (ti tj tk tl:OT)
def Tz(o:Oper):Bool:=match o.op with | .load _ _=>true|_=>false
def apV(ops:Array Oper)(D:List Nat)(i d:Nat):Bool:=match Nat.beq d i with
 |true=>true
 |false=>match ops[d]? with
  |some o=>o.after.any λe=>Region.binds .any e&&Aw e.on D
  |none=>false
def apW(L:Array Bool):List Nat->Bool
 |[]=>true
 |d::D=>!L.getD d true&&apW L D
def Y'(ops:Array Oper)(L:Array Bool)(i:Nat)(D:List Nat):Bool:=Aw i D&&apW L D&&D.all (apV ops D i)&&(List.range ops.size).all λj=>Aw j D||L.getD j true||(match ops[j]? with|some o=>Tz o|none=>true)
def tu(ops:Array Oper):Nat->OT->Array Bool->Bool
 |_,.nil,L=>(Region.ready .any ops L).isEmpty
 |n+1,.rd i t,L=>Region.free .any ops L i&&(Region.ready .any ops L).contains i&&tu ops n t (L.setIfInBounds i true)
 |n+1,.er i D t,L=>Region.free .any ops L i&&(Region.ready .any ops L).contains i&&Y' ops L i D&&tu ops n t (L.setIfInBounds i true)
 |n+1,.op i t,L=>(Region.ready .any ops L==[i])&&tu ops n t (L.setIfInBounds i true)
 |n+1,.two i j C y,L=>(Region.ready .any ops L==[i,j])&&tu ops n C (L.setIfInBounds i true)&&tu ops n y (L.setIfInBounds j true)
 |n+1,.three i j k C y F,L=>(Region.ready .any ops L==[i,j,k])&&tu ops n C (L.setIfInBounds i true)&&tu ops n y (L.setIfInBounds j true)&&tu ops n F (L.setIfInBounds k true)
 |n+1,.four i j k l C y F G,L=>(Region.ready .any ops L==[i,j,k,l])&&tu ops n C (L.setIfInBounds i true)&&tu ops n y (L.setIfInBounds j true)&&tu ops n F (L.setIfInBounds k true)&&tu ops n G (L.setIfInBounds l true)
 |0,_,_=>false
def AB:List Bool->Nat->(List Bool->Bool)->Bool
 |[],_,K=>K []
 |_::l,0,K=>K (true::l)
 |b::l,n+1,K=>AB l n λl=>K (b::l)
def Ov(ops:Array Oper):Nat->OT->List Bool->Bool
 |_,.nil,L=>(Region.ready .any ops L.toArray).isEmpty
 |n+1,.rd i t,L=>Region.free .any ops L.toArray i&&(Region.ready .any ops L.toArray).contains i&&AB L i λL=>Ov ops n t L
 |n+1,.er i D t,L=>Region.free .any ops L.toArray i&&(Region.ready .any ops L.toArray).contains i&&Y' ops L.toArray i D&&AB L i λL=>Ov ops n t L
 |n+1,.op i t,L=>(Region.ready .any ops L.toArray==[i])&&AB L i λL=>Ov ops n t L
 |n+1,.two i j C y,L=>(Region.ready .any ops L.toArray==[i,j])&&(AB L i λL=>Ov ops n C L)&&(AB L j λL=>Ov ops n y L)
 |n+1,.three i j k C y F,L=>(Region.ready .any ops L.toArray==[i,j,k])&&(AB L i λL=>Ov ops n C L)&&(AB L j λL=>Ov ops n y L)&&(AB L k λL=>Ov ops n F L)
 |n+1,.four i j k l C y F G,L=>(Region.ready .any ops L.toArray==[i,j,k,l])&&(AB L i λL=>Ov ops n C L)&&(AB L j λL=>Ov ops n y L)&&(AB L k λL=>Ov ops n F L)&&(AB L l λL=>Ov ops n G L)
 |0,_,_=>false
def Za:List Oper->Nat->Option Nat
 |[],_=>none
 |o::_,0=>o.dst
 |_::os,n+1=>Za os n
def apX(Ia:List Nat)(n i:Nat):Bool:=match Aw i Ia with|true=>true|false=>Nat.ble n i
def aua(Ia:List Nat)(j:Nat->Bool)(i:Nat):Bool:=match Aw i Ia with|true=>false|false=>j i
def alZ(o:Oper):List Nat:=match o.dst with|some d=>[d]|none=>[]
def QM:List Oper->List Nat
 |[]=>[]
 |o::os=>alZ o++QM os
def axP(xs j:List Nat):Bool:=xs.all λx=>j.contains x
def Ix:Code->Nat
 | .region id _ _=>id
 | .seq a _=>Ix a
 | .block _ b=>Ix b
 | .loop b=>Ix b
 | .scope b=>Ix b
 | .cond c _ _=>match c with
  | .tmp t=>t+500000
  |_=>0
 |_=>0
def writes:Code->List Nat
 | .region _ ops _=>QM ops.toList
 | .seq a b=>writes a++writes b
 | .cond _ a b=>writes a++writes b
 | .block _ b=>writes b
 | .loop b=>writes b
 | .scope b=>writes b
 |_=>[]
def TA(W:Wd)(ops:List Oper)(ts:List DV)(j:Nat)(y:Bool)(C no:List DV->Option β):Option β:=
 match Za ops j with
 |none=>none
 |some d=>match gtV ts d with
  |some (.lit true)=>match y with|true=>C ts|false=>no ts
  |some (.lit false)=>match y with|true=>no ts|false=>C ts
  |some (.bool b)=>W.af b
   (yJ ts d (.lit true) λts=>match y with|true=>C ts|false=>no ts)
   (yJ ts d (.lit false) λts=>match y with|true=>no ts|false=>C ts)
  |some (.On)=>no ts
  |_=>none
def JU[qT β](W:Wd)(T:List TI)(C:F9)(al:Nat->Bool)(av:List (Nat×Nat))(ops:List Oper):List Oper->List DV->im->List DR->DK β->Option β
 |[],ts,pb,rw,K=>K ts pb rw
 |o::rest,ts,pb,rw,K=>match o.guard with
  |none=>alY W T C al av o rest ts pb rw λts pb rw=>JU W T C al av ops rest ts pb rw K
  |some (j,want)=>TA W ops ts j want
   (λts=>Ty W T C al av o ts pb rw λts pb rw=>JU W T C al av ops rest ts pb rw K)
   (λts=>jx o.dst (.On) ts pb rw λts pb rw=>JU W T C al av ops rest ts pb rw K)
def FJ[qT β](W:Wd)(T:List TI)(C:F9)(al:Nat->Bool)(av:List (Nat×Nat))(ops:List Oper)(o:Oper)(ts:List DV)(pb:im)(rw:List DR)(K:DK β):Option β:=
 match o.guard with
 |none=>Ty W T C al av o ts pb rw K
 |some (j,want)=>TA W ops ts j want (λts=>Ty W T C al av o ts pb rw K) (λts=>jx o.dst (.On) ts pb rw K)
def afP(Ia:List Nat):DV->Bool
 | .own i _=>match Aw i Ia with|false=>true|true=>false
 | .el _ _ _=>true
 |_=>false
def afQ(sn:Nat->Bool):DV->Bool
 | .own i _=>sn i
 |_=>false
def rdE(W:Wd)(T:List TI)(Ia:List Nat)(sn:Nat->Bool)(j:Bool)(o:Oper)(ts:List DV)(pb:im)(rw:List DR)(ret:DV->Option β):Option β:=
 match o.op with
 | .load t a=>match j with
  |false=>o1 (vS ts a) λA=>match afP Ia A with|true=>PT W T t A pb rw ret|false=>none
  |true=>o1 (vS ts a) λA=>match afQ sn A with|true=>PT W T t A pb rw ret|false=>none
 |op=>vT W T op ts rw ret
def I0:List Oper->Nat->Option Oper
 |[],_=>none
 |o::_,0=>some o
 |_::os,n+1=>I0 os n
def RE[qT β](W:Wd)(T:List TI)(C:F9)(al:Nat->Bool)(av:List (Nat×Nat))(Ia:List Nat)(sn:Nat->Bool)(ops:List Oper):Bool->OT->List DV->im->List DR->DK β->Option β
 |_,.nil,ts,pb,rw,K=>K ts pb rw
 |y,.rd i t,ts,pb,rw,K=>match I0 ops i with
  |some o=>match o.guard with
   |none=>rdE W T Ia sn y o ts pb rw λx=>jx o.dst x ts pb rw λts pb rw=>RE W T C al av Ia sn ops y t ts pb rw K
   |some (j,want)=>TA W ops ts j want
    (λts=>rdE W T Ia sn y o ts pb rw λx=>jx o.dst x ts pb rw λts pb rw=>RE W T C al av Ia sn ops y t ts pb rw K)
    (λts=>jx o.dst (.On) ts pb rw λts pb rw=>RE W T C al av Ia sn ops y t ts pb rw K)
  |none=>none
 |y,.er i _ t,ts,pb,rw,K=>match y,I0 ops i with
  |false,some o=>match o.guard,o.op with
   |none,.load ty a=>o1 (vS ts a) λA=>PT W T ty A pb rw λx=>jx o.dst x ts pb rw λts pb rw=>RE W T C al av Ia sn ops false t ts pb rw K
   |_,_=>none
  |_,_=>none
 |_,.op i t,ts,pb,rw,K=>match I0 ops i with
  |some o=>FJ W T C al av ops o ts pb rw λts pb rw=>RE W T C al av Ia sn ops true t ts pb rw K
  |none=>none
 |_,.two i j G F,ts,pb,rw,K=>match I0 ops i,I0 ops j with
  |some o,some H=>W.gP (FJ W T C al av ops o ts pb rw λts pb rw=>RE W T C al av Ia sn ops true G ts pb rw K) (FJ W T C al av ops H ts pb rw λts pb rw=>RE W T C al av Ia sn ops true F ts pb rw K)
  |_,_=>none
 |_,.three i j k G F J,ts,pb,rw,K=>match I0 ops i,I0 ops j,I0 ops k with
  |some o,some H,some R=>W.gP (FJ W T C al av ops o ts pb rw λts pb rw=>RE W T C al av Ia sn ops true G ts pb rw K) (W.gP (FJ W T C al av ops H ts pb rw λts pb rw=>RE W T C al av Ia sn ops true F ts pb rw K) (FJ W T C al av ops R ts pb rw λts pb rw=>RE W T C al av Ia sn ops true J ts pb rw K))
  |_,_,_=>none
 |_,.four i j k l G F J V,ts,pb,rw,K=>match I0 ops i,I0 ops j,I0 ops k,I0 ops l with
  |some o,some H,some R,some X=>W.gP (FJ W T C al av ops o ts pb rw λts pb rw=>RE W T C al av Ia sn ops true G ts pb rw K) (W.gP (FJ W T C al av ops H ts pb rw λts pb rw=>RE W T C al av Ia sn ops true F ts pb rw K) (W.gP (FJ W T C al av ops R ts pb rw λts pb rw=>RE W T C al av Ia sn ops true J ts pb rw K) (FJ W T C al av ops X ts pb rw λts pb rw=>RE W T C al av Ia sn ops true V ts pb rw K)))
  |_,_,_,_=>none
def EU:List Oper->im->Nat->(List (Nat×Nat)->im->Option β)->Option β
 |[],pb,_,K=>K [] pb
 |o::os,pb,n,K=>match o.op,o.dst with
  | .alloc _,some d=>uR pb none λpb=>EU os pb (n+1) λj pb=>F0 n λm=>K ((d,m)::j) pb
  | .box _ _,some d=>uR pb none λpb=>EU os pb (n+1) λj pb=>F0 n λm=>K ((d,m)::j) pb
  |_,_=>EU os pb n K
abbrev DTs:=List (Nat×List Nat×OT)
def asw:DTs->Nat->Option (List Nat×OT)
 |[],_=>none
 |(k,o)::os,n=>match Nat.beq k n with|true=>some o|false=>asw os n
def adw:im->Nat->Bool
 |[],_=>false
 |o::_,0=>match o with|some _=>true|none=>false
 |_::pb,n+1=>adw pb n
def ama[qT β](W:Wd)(T:List TI)(C:F9)(O:DTs)(id:Nat)(ops:Array Oper)(ts:List DV)(pb:im)(rw:List DR)(K:DK β):Option β:=
 match asw O id with
 |some (Ia,t)=>match Region.noSelect ops&&Ov ops ops.size t (ops.toList.map λ_=>false)with
  |true=>F0 pb.length λn=>EU ops.toList pb n λj pb'=>RE W T C (apX Ia n) j Ia (aua Ia (adw pb)) ops.toList false t ts pb' rw K
  |false=>none
 |none=>none
inductive θ where
 |dead
 |own (e:TypeId) (t:DT)
 |obj (k:OKd)
inductive DS where
 |t (t:DT)
 |row (j:Nat)
 |ob (j:Nat)
 |own (i off:Nat)
 |nil
 |fn (f:FuncId) (cs:List (Nat×Nat))
def aub:List (Nat×Nat)->List DV
 |[]=>[]
 |(i,o)::cs=>.own i o::aub cs
structure DJ where
 sl:List (Nat×DS)
 bo:List (Nat×List DS)
 ro:List θ
def dsS:List (Nat×DS)->List DS
 |[]=>[]
 |(_,d)::l=>d::dsS l
def dsN:List (Nat×DS)->List Nat
 |[]=>[]
 |(n,_)::l=>n::dsN l
def boN:List (Nat×List DS)->List Nat
 |[]=>[]
 |(n,_)::l=>n::boN l
def vsT:List DS->DT->DT
 |[],r=>r
 |d::l,r=>match d with
  | .t t=>.pair t (vsT l r)
  |_=>vsT l r
def boT:List (Nat×List DS)->DT->DT
 |[],r=>r
 |(_,cs)::l,r=>vsT cs (boT l r)
def roT:List θ->DT
 |[]=>.unit
 | .own _ t::l=>.pair (.slc t) (roT l)
 | .obj k::l=>.pair k.T (roT l)
 | .dead::l=>roT l
@[reducible] def DJ.T(j:DJ):DT:=vsT (dsS j.sl) (boT j.bo (roT j.ro))
def vsV:(l:List DS)->(r:DT)->(vsT l r).den->List DV×r.den
 |[],_,z=>([],z)
 | .t t::l,r,z=>match vsV l r z.2 with|(vs,y)=>(t.val z.1::vs,y)
 | .row j::l,r,z=>match vsV l r z with|(vs,y)=>(.row j::vs,y)
 | .ob j::l,r,z=>match vsV l r z with|(vs,y)=>(.ob j::vs,y)
 | .own i o::l,r,z=>match vsV l r z with|(vs,y)=>(.own i o::vs,y)
 | .nil::l,r,z=>match vsV l r z with|(vs,y)=>(.v (.slice none 0 0)::vs,y)
 | .fn f cs::l,r,z=>match vsV l r z with|(vs,y)=>(.fn f (aub cs)::vs,y)
def boV:(l:List (Nat×List DS))->(r:DT)->(boT l r).den->List (List DV)×r.den
 |[],_,z=>([],z)
 |(_,cs)::l,r,z=>match vsV cs (boT l r) z with|(vs,y)=>match boV l r y with|(j,y)=>(vs::j,y)
def TB:(l:List θ)->(roT l).den->List DR
 |[],_=>[]
 | .own e t::l,z=>.own e t z.1::TB l z.2
 | .obj k::l,z=>.obj (k.od z.1)::TB l z.2
 | .dead::l,z=>.dead::TB l z
def roN:List θ->Nat->Bool
 |[],_=>false
 |o::_,0=>match o with | .own _ _=>true|_=>false
 |_::l,n+1=>roN l n
def roI:List θ->Nat->Bool
 |[],_=>false
 |o::_,0=>match o with | .obj _=>true|_=>false
 |_::l,n+1=>roI l n
def amb(ro:List θ)(rw:List DR)(j:Nat)(v:DV):Bool:=
 roI ro j&&match v with
 | .ob y=>match Nat.beq j y,Mi rw j with|true,some (.obj _)=>true|_,_=>false
 |_=>false
def adx(ro:List θ)(rw:List DR)(j:Nat)(v:DV):Bool:=
 roN ro j&&match v with
 | .row y=>match Nat.beq j y,Mi rw j with|true,some (.own _ _ _)=>true|_,_=>false
 | .v (.slice none 0 0)=>match Mi rw j with|some (.own _ _ _)=>false|_=>true
 |_=>false
def TC(i o:Nat)(v:DV):Bool:=
 match v with
 | .own y j=>Nat.beq i y&&Nat.beq o j
 |_=>false
def amc(v:DV):Bool:=
 match v with
 | .v (.slice none 0 0)=>true
 |_=>false
def Iy:List (Nat×Nat)->List DV->Bool
 |[],[]=>true
 |(i,o)::cs,v::vs=>TC i o v&&Iy cs vs
 |_,_=>false
def asx(f:FuncId)(cs:List (Nat×Nat))(v:DV):Bool:=
 match v with
 | .fn y j=>Nat.beq f y&&Iy cs j
 |_=>false
def á(ro:List θ)(rw:List DR):(l:List DS)->(r:DT)->List DV->r.den->Option (vsT l r).den
 |[],_,vs,y=>match vs with|[]=>some y|_=>none
 | .t t::l,r,vs,y=>match vs with
  |v::vs=>match t.ofV v,á ro rw l r vs y with
   |some x,some z=>some (x,z)
   |_,_=>none
  |_=>none
 | .row j::l,r,vs,y=>match vs with
  |v::vs=>match adx ro rw j v with
   |true=>á ro rw l r vs y
   |false=>none
  |_=>none
 | .ob j::l,r,vs,y=>match vs with
  |v::vs=>match amb ro rw j v with
   |true=>á ro rw l r vs y
   |false=>none
  |_=>none
 | .own i o::l,r,vs,y=>match vs with
  |v::vs=>match TC i o v with
   |true=>á ro rw l r vs y
   |false=>none
  |_=>none
 | .nil::l,r,vs,y=>match vs with
  |v::vs=>match amc v with
   |true=>á ro rw l r vs y
   |false=>none
  |_=>none
 | .fn f cs::l,r,vs,y=>match vs with
  |v::vs=>match asx f cs v with
   |true=>á ro rw l r vs y
   |false=>none
  |_=>none
def boX(ro:List θ)(pb:im)(rw:List DR):(l:List (Nat×List DS))->(r:DT)->r.den->Option (boT l r).den
 |[],_,y=>some y
 |(i,cs)::l,r,y=>match RD pb i,boX ro pb rw l r y with
  |some b,some z=>á ro rw cs (boT l r) b.cells z
  |_,_=>none
def roX:(l:List θ)->List DR->Option (roT l).den
 |[],_=>some ()
 | .own e t::l,rw=>match rw with
  | .own C j xs::rw=>match Nat.beq e C,j.same t,roX l rw with
   |true,some ⟨h⟩,some y=>some (DT.PO h xs,y)
   |_,_,_=>none
  | .obj _::_=>none
  | .dead::rw=>match roX l rw with|some y=>some ([],y)|none=>none
  |[]=>match roX l []with|some y=>some ([],y)|none=>none
 | .obj k::l,rw=>match rw with
  | .obj d::rw=>match k.of d,roX l rw with
   |some x,some y=>some (x,y)
   |_,_=>none
  |_=>none
 | .dead::l,rw=>roX l rw.tail
def Xc:List θ->List DR->Nat->List Nat
 |ro,rw,n=>match rw with
  |[]=>[]
  | .own _ _ _::rw=>match ro with
   | .own _ _::ro=>Xc ro rw (n+1)
   |_::ro=>n::Xc ro rw (n+1)
   |[]=>n::Xc [] rw (n+1)
  | .obj _::rw=>Xc ro.tail rw (n+1)
  | .dead::rw=>Xc ro.tail rw (n+1)
def amd(ts:List DV):List Nat->Option (List DV)
 |[]=>some []
 |n::j=>match gtV ts n,amd ts j with
  |some v,some vs=>some (v::vs)
  |_,_=>none
def TE(pb:im):List (Nat×Nat)->Bool
 |[]=>true
 |(i,_)::cs=>(RD pb i).isSome&&TE pb cs
def PU(pb:im):List DS->Bool
 |[]=>true
 |d::l=>(match d with | .own i _=>(RD pb i).isSome | .fn _ cs=>TE pb cs|_=>true)&&PU pb l
def TF(pb:im):List (Nat×List DS)->Bool
 |[]=>true
 |(i,cs)::l=>(RD pb i).isSome&&PU pb cs&&TF pb l
def Ox(j:List Nat):Nat->Nat->List Bool
 |0,_=>[]
 |n+1,i=>Aw i j::Ox j n (i+1)
def okJ(j:DJ)(x:Code)(ts:List DV)(pb:im):Bool:=axP (writes x) (List.range ts.length)&&PU pb (dsS j.sl)&&TF pb j.bo&&G6 (dsN j.sl)&&G6 (boN j.bo)
def sA(l:List Nat):Nat->im->im->Bool
 |_,[],_=>true
 |n,o::pb,pb'=>match o,pb' with
  |none,[]=>false
  |none,_::pb'=>sA l (n+1) pb pb'
  |some b,some j::pb'=>Nat.beq b.ty j.ty&&(Aw n l||!j.w)&&sA l (n+1) pb pb'
  |some _,_=>false
def TG(j:DJ)(pb0:im)(ts:List DV)(pb:im)(rw:List DR)(k:j.T.den->Option β):Option β:=
 match sA (boN j.bo) 0 pb0 pb with
 |true=>JT (Xc j.ro rw 0) ts pb rw [] λts pb rw _=>match amd ts (dsN j.sl),roX j.ro rw with
  |some vs,some y=>match boX j.ro pb rw j.bo (roT j.ro) y with
   |some y=>match á j.ro rw (dsS j.sl) (boT j.bo (roT j.ro)) vs y with
    |some z=>k z
    |none=>none
   |none=>none
  |_,_=>none
 |false=>none
def TH:List DV->List Bool->(List DV->Option β)->Option β
 |[],[],K=>K []
 |x::xs,b::j,K=>match b with
  |true=>TH xs j λl=>K (.jD::l)
  |false=>TH xs j λl=>K (x::l)
 |_,_,_=>none
def Xd:List DV->List Nat->List DV->(List DV->Option β)->Option β
 |ts,[],[],K=>K ts
 |ts,s::ss,v::vs,K=>yJ ts s v λts=>Xd ts ss vs K
 |_,_,_,_=>none
def PV:im->List Nat->List (List DV)->(im->Option β)->Option β
 |pb,[],[],K=>K pb
 |pb,i::is,c::cs,K=>match RD pb i with
  |some b=>yJ pb i (some ⟨b.ty,c,true⟩) λpb=>PV pb is cs K
  |none=>none
 |_,_,_,_=>none
def headD(j:DJ)(x:Code)(ts:List DV)(pb:im)(z:j.T.den)(K:DK β):Option β:=
 match vsV (dsS j.sl) (boT j.bo (roT j.ro)) z with
 |(vs,y)=>match boV j.bo (roT j.ro) y with|(C,y)=>uS Oo ts λF=>TH F (Ox (writes x) ts.length 0) λts=>Xd ts (dsN j.sl) vs λts=>BX Oo pb λpb=>PV pb (boN j.bo) C λpb=>K ts pb (TB j.ro y)
def qB:im->im
 |[]=>[]
 |some b::pb=>some ⟨b.ty,b.cells,false⟩::qB pb
 |none::pb=>none::qB pb
def Vo:im->im->im
 |_,[]=>[]
 |ps,none::pb=>none::Vo ps.tail pb
 |ps,some b::pb=>some ⟨b.ty,b.cells,b.w||(match ps with|some a::_=>a.w|_=>true)⟩::Vo ps.tail pb
def djV:List (Nat×DJ)->Nat->Option DJ
 |[],_=>none
 |(k,j)::l,n=>match Nat.beq k n with|true=>some j|false=>djV l n
def awi(d:DS)(v:DV):Bool:=
 match d,v with
 | .row k,.row j=>Nat.beq k j
 | .ob k,.ob j=>Nat.beq k j
 |_,_=>true
def awj(ts:List DV):List (Nat×DS)->Bool
 |[]=>true
 |(n,d)::l=>(match gtV ts n with|some v=>awi d v|none=>true)&&awj ts l
def awk:List DS->List DV->Bool
 |d::l,v::vs=>awi d v&&awk l vs
 |_,_=>true
def awl(pb:im):List (Nat×List DS)->Bool
 |[]=>true
 |(i,cs)::l=>(match RD pb i with|some b=>awk cs b.cells|none=>true)&&awl pb l
def djF:List (Nat×DJ)->Nat->List DV->im->Option DJ
 |[],_,_,_=>none
 |(k,j)::l,n,ts,pb=>match Nat.beq k n&&(awj ts j.sl&&awl pb j.bo)with|true=>some j|false=>djF l n ts pb
def djW(J:List (Nat×DJ))(n:Nat)(ts:List DV)(pb:im):Option DJ:=
 match djV J n with
 |none=>none
 |some j=>match djF J n ts pb with|some j=>some j|none=>some j
def awm(J:List (Nat×DJ))(k:Nat):Bool:=match J with
 |[]=>false
 |(n,_)::J=>match Nat.beq n k with|true=>true|false=>awm J k
def aaq(J:List (Nat×DJ))(n:Nat):Nat->F9->F9
 |_,[]=>[]
 |i,c::C=>match awm J (2251799813685248+n*1024+i)with|true=>aaq J n (i+1) C|false=>c::aaq J n (i+1) C
def auc(J:List (Nat×DJ)):Bool:=match J with
 |[]=>false
 |(k,_)::_=>Nat.ble 1125899906842624 k
def ame(J:List (Nat×DJ)):Nat:=match J with
 |[]=>0
 |(k,_)::_=>k-1125899906842624
def asy(J:List (Nat×DJ))(n:Nat):List (Nat×DJ):=match auc J with
 |true=>(1125899906842624+n,⟨[],[],[]⟩)::J
 |false=>J
def afR(J:List (Nat×DJ))(C:F9):F9:=match auc J with
 |true=>aaq J (ame J) 0 C
 |false=>C
def djX(J:List (Nat×DJ))(n:Nat)(ts:List DV)(pb:im):Option DJ:=match auc J with
 |true=>djW J (n+4294967296*(ame J+1)) ts pb
 |false=>djW J n ts pb
def unr(f:Nat->DK β->DK β):Nat->DK β
 |0=>λ_ _ _=>none
 |n+1=>f n (unr f n)
def ev[qT β](W:Wd)(T:List TI)(C:F9)(O:DTs)(JC JL:List (Nat×DJ)):Code->(Exit->DK β)->List DV->im->List DR->Option β
 | .skip,Q,ts,pb,rw=>Q .normal ts pb rw
 | .label _,Q,ts,pb,rw=>Q .normal ts pb rw
 | .exit id,Q,ts,pb,rw=>Q (.exit id) ts pb rw
 | .ret,Q,ts,pb,rw=>Q .ret ts pb rw
 | .seq x y,Q,ts,pb,rw=>match djX JC (Ix y) ts pb with
  |none=>ev W T C O JC JL x (λe ts pb rw=>match e with
   | .normal=>ev W T C O JC JL y Q ts pb rw
   | .exit i=>Q (.exit i) ts pb rw
   | .ret=>Q .ret ts pb rw
   |_=>none) ts pb rw
  |some j=>match okJ j x ts pb with
   |true=>W.aG (X:=j.T.den) (λz=>headD j x ts pb z λG J H=>ev W T C O JC JL y Q G J H) λk=>
    ev W T C O JC JL x (λe F pb' rw'=>match e with
     | .normal=>TG j pb F pb' rw' k
     | .exit i=>Q (.exit i) F (Vo pb pb') rw'
     | .ret=>Q .ret F (Vo pb pb') rw'
     |_=>none) ts (qB pb) rw
   |false=>none
 | .cond c x y,Q,ts,pb,rw=>match vS ts c with
  |some (.lit true)=>ev W T C O JC JL x Q ts pb rw
  |some (.lit false)=>ev W T C O JC JL y Q ts pb rw
  |some (.bool b)=>W.af b (ev W T C O JC JL x Q ts pb rw) (ev W T C O JC JL y Q ts pb rw)
  |_=>none
 | .block id x,Q,ts,pb,rw=>ev W T C O JC JL x (λe ts pb rw=>match e with
  | .normal=>Q .normal ts pb rw
  | .exit i=>match Nat.beq i id with|true=>Q .normal ts pb rw|false=>Q (.exit i) ts pb rw
  | .ret=>Q .ret ts pb rw
  |_=>none) ts pb rw
 | .scope x,Q,ts,pb,rw=>ev W T C O JC JL x Q ts pb rw
 | .region id ops draw,Q,ts,pb,rw=>match draw with
  |false=>JU W T (afR JC C) (λ_=>true) [] ops.toList ops.toList ts pb rw (Q .normal)
  |true=>ama W T (afR JC C) O id ops ts pb rw (Q .normal)
 | .loop x,Q,ts,pb,rw=>match djW JL (Ix x) ts pb with
  |none=>unr (λn again ts pb rw=>ev W T C O (asy JC n) JL x (λe ts pb rw=>match e with
   | .normal=>again ts pb rw
   | .exit i=>Q (.exit i) ts pb rw
   | .ret=>Q .ret ts pb rw
   |_=>none) ts pb rw) 5 ts pb rw
  |some j=>match okJ j x ts pb with
   |true=>TG j pb ts (qB pb) rw λz0=>W.aV (X:=j.T.den) (λz again=>headD j x ts (qB pb) z λG J H=>
    ev W T C O JC JL x (λe F pb' rw'=>match e with
     | .normal=>TG j pb F pb' rw' again
     | .exit i=>Q (.exit i) F (Vo pb pb') rw'
     | .ret=>Q .ret F (Vo pb pb') rw'
     |_=>none) G J H) z0
   |false=>none
 |_,_,_,_,_=>none
def QN(W:Wd)(T:List TI):List ResultVar->List DV->im->List DR->(List DV->Option β)->Option β
 |[],_,_,_,K=>K []
 | .tmp t::rs,ts,pb,rw,K=>match gtV ts t with
  |some x=>QN W T rs ts pb rw λxs=>K (x::xs)
  |none=>none
 | .cell c t::rs,ts,pb,rw,K=>match gtV ts c with
  |some A=>PT W T t A pb rw λx=>QN W T rs ts pb rw λxs=>K (x::xs)
  |none=>none
def VA(xs:List DV):DV:=match xs with|[x]=>x|xs=>.Iv xs
mutual
def QT.ids:QT->DV->List (Nat×Nat)->List (Nat×Nat)
 | .ptr k,.own i _,am=>match FG am k with|some _=>am|none=>(k,i)::am
 | .pair a b,.Iv (p::ps),am=>b.awn ps (a.ids p am)
 |_,_,am=>am
def QT.awn:QT->List DV->List (Nat×Nat)->List (Nat×Nat)
 | .pair a b,p::ps,am=>b.awn ps (a.ids p am)
 |_,_,am=>am
end
mutual
def QT.frz:QT->DV->List Nat->List Nat
 | .v _,p,acc=>p.rows acc
 | .pair a b,.Iv (p::ps),acc=>a.frz p (b.awo ps acc)
 |_,_,acc=>acc
def QT.awo:QT->List DV->List Nat->List Nat
 | .pair a b,p::ps,acc=>a.frz p (b.awo ps acc)
 |_,_,acc=>acc
end
mutual
def QT.x(am:List (Nat×Nat)):(Q:QT)->DV->MS->Option (Q.den×MS)
 | .v t,p,m=>match t.ofV p with|some x=>some (x,m)|none=>none
 | .own e t,p,m=>match p with
  | .row j=>match Mi m.rw j with
   |some (.own G C l)=>match Nat.beq G e,C.same t with
    |true,some ⟨h⟩=>some (DT.PO h l,⟨m.rs++[some j],m.rw.set j .dead⟩)
    |_,_=>none
   |_=>none
  | .v (.slice none 0 0)=>some ([],⟨m.rs++[none],m.rw⟩)
  |_=>none
 | .ptr n,p,m=>match p with
  | .own i o=>match o,FG am n with
   |0,some F=>match Nat.beq i F with|true=>some ((),m)|false=>none
   |_,_=>none
  |_=>none
 | .nil n,p,m=>match p with
  | .v y=>match n.is y with|true=>some ((),m)|false=>none
  |_=>none
 | .unit,p,m=>match p with | .Iv []=>some ((),m)|_=>none
 | .pair a b,p,m=>match p with
  | .Iv (p::ps)=>match a.x am p m with
   |some (x,m)=>match b.xs am ps m with
    |some (y,m)=>some ((x,y),m)
    |none=>none
   |none=>none
  |_=>none
def QT.xs(am:List (Nat×Nat)):(Q:QT)->List DV->MS->Option (Q.den×MS)
 | .unit,ps,m=>match ps with|[]=>some ((),m)|_=>none
 | .pair a b,ps,m=>match ps with
  |p::ps=>match a.x am p m with
   |some (x,m)=>match b.xs am ps m with
    |some (y,m)=>some ((x,y),m)
    |none=>none
   |none=>none
  |_=>none
 |_,_,_=>none
end
def idA:Nat->List (Nat×Nat)
 |0=>[]
 |n+1=>(n,n)::idA n
def afS(am:List (Nat×Nat)):Nat->Bool
 |0=>true
 |n+1=>(match FG am n with|some i=>Nat.beq i n|none=>false)&&afS am n
def apY(s:LS)(ts:List DV)(pb:im)(rw:List DR)(p:DV):Option (s.Q.den×(FC s.E .unit).den):=
 match apQ s.E 0 pb (s.Q.ids p (idA s.B.length))with
 |am=>JT (apR am s.E 0 pb (s.Q.frz p [])) ts pb rw [p] λ_ pb rw ps=>match ps with
  |[p]=>match G6 (QL am)&&Ou am s.E.length&&afS am s.B.length,bkX am pb s.E 0 .unit ⟨[],rw⟩ (λm=>some ((),m))with
   |true,some (e,m)=>match s.Q.x am p m with|some (q,_)=>some (q,e)|none=>none
   |_,_=>none
  |_=>none
def awp(W:Wd)(T:List TI)(rs:List ResultVar)(s:LS)(e:Exit)(ts:List DV)(pb:im)(rw:List DR):Option (s.Q.den×(FC s.E .unit).den):=
 match e with
 | .normal=>QN W T rs ts pb rw λxs=>apY s ts pb rw (VA xs)
 | .ret=>QN W T rs ts pb rw λxs=>apY s ts pb rw (VA xs)
 |_=>none
def apZ(Q:QT)(ts:List DV)(pb:im)(rw:List DR)(p:DV):Option Q.den:=
 JT (Q.frz p []) ts pb rw [p] λ_ _ rw ps=>match ps with
  |[p]=>match Q.x [] p ⟨[],rw⟩with|some (q,_)=>some q|none=>none
  |_=>none
def awq(W:Wd)(T:List TI)(rs:List ResultVar)(Q:QT)(e:Exit)(ts:List DV)(pb:im)(rw:List DR):Option Q.den:=
 match e with
 | .normal=>QN W T rs ts pb rw λxs=>apZ Q ts pb rw (VA xs)
 | .ret=>QN W T rs ts pb rw λxs=>apZ Q ts pb rw (VA xs)
 |_=>none
def TJ:List DV->Nat->(List DV->Option β)->Option β
 |[],n,K=>K (List.replicate n .On)
 |x::xs,n+1,K=>TJ xs n λl=>K (x::l)
 |_::_,0,_=>none
@[reducible] def QT.eqb:(Q:QT)->qT Q.den
 | .v t=>t.eqb
 | .own _ t=>have:=t.eqb;inferInstanceAs (qT (List t.den))
 | .ptr _=>inferInstanceAs (qT Unit)
 | .nil _=>inferInstanceAs (qT Unit)
 | .unit=>inferInstanceAs (qT Unit)
 | .pair a b=>have:=a.eqb;have:=b.eqb;inferInstanceAs (qT (a.den×b.den))
def evF(W:Wd)(T:List TI)(C:F9)(O:DTs)(JC JL:List (Nat×DJ))(fn:Func)(P:DT)(Q:QT)(x:P.den):Option Q.den:=
 match fn.body with
 |some c=>have:=Q.eqb;TJ (BW P x) fn.ntmps λts=>ev W T C O JC JL c (awq W T fn.results.toList Q) ts [] []
 |none=>none
def al0(W:Wd)(T:List TI)(C:F9)(O:DTs)(JC JL:List (Nat×DJ))(fn:Func)(s:LS)(z:(FC s.B (Jh s.P .unit)).den):Option (s.Q.den×(FC s.E .unit).den):=
 match fn.body with
 |some c=>match y0 s.B (Jh s.P .unit) z []with|(pb,y,rw)=>match G7 s.P .unit y rw with|(vs,_,rw)=>have:=s.Q.eqb;have:=(FC s.E .unit).eqb;TJ vs fn.ntmps λts=>ev W T C O JC JL c (awp W T fn.results.toList s) ts pb rw
 |none=>none
end Go.Vc








namespace Go.Vc
open Go Go.RowKit
structure Env where
 U:Nat->Prop
 w:World
 B:Nat->Nat
 A:Nat->Option Addr×Nat
 pb:im
 rw:List DR
def live(pb:im)(i:Nat):Prop:=∃b,pb[i]?=some (some b)
def OD.at(d:OD)(ad:Addr):Value:=bif d.po then .map (some ad.block)else .pointer (some ad)
def fnV(f:Nat)(vs:Array Value):Value:=bif Nat.ble 1000000 f then .func (.func (f-1000000)) vs #[]else .func (.func f) #[] vs
mutual
def DV.h(E:Env):DV->Value->Prop
 | .int k n,v=>v=.int k n
 | .bool b,v=>v=.bool b
 | .lit b,v=>v=.bool b
 | .str s,v=>v=.string s
 | .v y,v=>v=y
 | .On,v=>v=undef
 | .sl t l,v=>(DT.slc t).h E.U E.w l [v]
 | .cs t l,v=>(DT.slc t).h E.U E.w l [v]/\∃a,v=.slice a l.length l.length
 | .set ks,v=>DT.set.h E.U E.w ks [v]
 | .row j,v=>∃e t l,E.rw[j]?=some (.own e t l)/\v=.slice (E.A j).1 l.length (E.A j).2
 | .el t x off,v=>∃ad us,v=.pointer (some (ad.add off))/\t.h E.U E.w x us/\At E.U E.w (some ad) 0 us
 | .re j i off,v=>∃e t l ad,E.rw[j]?=some (.own e t l)/\i<l.length/\(E.A j).1=some ad/\v=.pointer (some (ad.add (i*t.size+off)))
 | .rt j i,v=>∃e t l,E.rw[j]?=some (.own e t l)/\i<=l.length/\v=.slice (if(E.A j).2=i then(E.A j).1 else(E.A j).1.map (·.add (i*t.size))) (l.length-i) ((E.A j).2-i)
 | .ob j,v=>∃d ad,E.rw[j]?=some (.obj d)/\(E.A j).1=some ad/\v=d.at ad
 | .own i off,v=>live E.pb i/\v=.pointer (some ⟨E.B i,off,none⟩)
 | .fn f C,v=>∃vs,v=fnV f vs/\hL E C vs.toList
 | .agg xs,v=>∃vs,v=.agg vs/\hL E xs vs.toList
 | .Iv xs,v=>∃vs,v=.tuple vs/\hL E xs vs.toList
 | .fns xs,v=>∃ad vs c,v=.slice (some ad) xs.length c/\hL E xs vs/\At E.U E.w (some ad) 0 vs
 | .fp xs k,v=>∃ad vs,v=.pointer (some (ad.add k))/\hL E xs vs/\At E.U E.w (some ad) 0 vs
 | .ra j,v=>∃e t l ad,E.rw[j]?=some (.own e t l)/\t.size=1/\E.A j=(some ad,l.length)/\v=.pointer (some ad)
 | .rs j i,v=>∃e t l ad,E.rw[j]?=some (.own e t l)/\i<l.length/\(E.A j).1=some ad/\v=.slice (some (ad.add (i*t.size))) t.size t.size
 | .jD,_=>True
def hL(E:Env):List DV->List Value->Prop
 |[],vs=>vs=[]
 |p::ps,vs=>∃v j,vs=v::j/\DV.h E p v/\hL E ps j
end
section
variable {E E' : Env}
theorem pI:∀{ps:List DV} {vs:List Value},hL E ps vs->vs.length=ps.length
 |[],_,h=>by simp only[hL]at h;subst h;rfl
 |p::ps,_,h=>by simp only[hL]at h;obtain⟨v,j,rfl,_,y⟩:=h;simp[pI y]
theorem JV:∀{ps:List DV} {vs:List Value},hL E ps vs->∀(i:Nat) (p:DV),ps[i]?=some p->∃v,vs[i]?=some v/\p.h E v
 |[],_,_,i,p,hp=>by simp at hp
 |q::ps,_,h,i,p,hp=>by
  simp only[hL]at h;obtain⟨v,j,rfl,C,y⟩:=h;cases i with
  |zero=>simp at hp;subst hp;exact⟨v,rfl,C⟩
  |succ i=>simpa using JV y i p (by simpa using hp)
theorem amf:∀{ps:List DV} {vs:List Value},vs.length=ps.length->(∀(i:Nat) (p:DV) (v:Value),ps[i]?=some p->vs[i]?=some v->p.h E v)->hL E ps vs
 |[],vs,hl,_=>by simp only[hL];exact dX.1 (by simpa using hl)
 |p::ps,[],hl,_=>by simp at hl
 |p::ps,v::vs,hl,h=>by simp only[hL];exact⟨v,vs,rfl,h 0 p v rfl rfl,amf (by simpa using hl) λi p v j hv=>h (i+1) p v (by simpa using j) (by simpa using hv)⟩
theorem ady{ps qs}{vs us}(h:hL E ps vs)(k:hL E qs us):hL E (ps++qs) (vs++us):=by
 induction ps generalizing vs with
 |nil=>simp only[hL]at h;subst h;simpa using k
 |cons p ps y=>simp only[hL]at h;obtain⟨v,j,rfl,F,C⟩:=h;exact⟨v,_,rfl,F,y C⟩
theorem Zb{ps}{vs}(h:hL E ps vs)(i){p}{v}(H:p.h E v):hL E (ps.set i p) (vs.set i v):=by
 refine amf (by simp[pI h]) λj q u y F=>?_
 rw[bh]at y F;split at y
 .rename_i C;subst C;split at y
  .rw[ah rfl,ah (by rw[pI h];assumption)]at F;simp at y F;subst y;subst F;exact H
  .cases y
 .rename_i C;rw[ag C]at F;have⟨K,G,J⟩:=JV h j q y;rw[F]at G;simp at G;subst G;exact J
theorem amg{ps qs}{vs us}(off)(h:hL E ps vs)(k:hL E qs us):hL E (wr ps off qs) (wr vs off us):=by
 induction qs generalizing ps vs us off with
 |nil=>simp only[hL]at k;subst k;simpa[wr]using h
 |cons q qs j=>simp only[hL]at k;obtain⟨u,us',rfl,C,y⟩:=k;exact j _ (Zb h off C) y
theorem amh{ps}{vs}(h:hL E ps vs)(o n):hL E ((ps.drop o).take n) ((vs.drop o).take n):=by
 refine amf (by simp[pI h]) λj q u F C=>?_
 have⟨R,J⟩:=sU.1 F;have⟨_,H⟩:=sU.1 C;have⟨K,y,G⟩:=JV h _ q J;rw[H]at y;simp at y;subst y;exact G
end
mutual
def DV.sub(f:Nat->Option DV):DV->DV
 | .row i=>match f i with|some p=>p|none=>.row i
 | .re i a b=>match f i with|some _=>.jD|none=>.re i a b
 | .rt i a=>match f i with|some _=>.jD|none=>.rt i a
 | .ob i=>match f i with|some q=>q|none=>.ob i
 | .fn g cs=>.fn g (zp f cs)
 | .agg xs=>.agg (zp f xs)
 | .Iv xs=>.Iv (zp f xs)
 | .fns xs=>.fns (zp f xs)
 | .fp xs k=>.fp (zp f xs) k
 | .ra i=>match f i with|some _=>.jD|none=>.ra i
 | .rs i a=>match f i with|some _=>.jD|none=>.rs i a
 |p=>p
def zp(f:Nat->Option DV):List DV->List DV
 |[]=>[]
 |p::ps=>p.sub f::zp f ps
end
theorem aar(f):∀ps,zp f ps=ps.map (·.sub f)
 |[]=>rfl
 |p::ps=>by simp only[zp,aar f ps,bI]
theorem ami(f)(ps):(zp f ps).length=ps.length:=by rw[aar];simp
structure Sub(f:Nat->Option DV)(E E':Env):Prop where
 FK:lE E.U E'.U E.w E'.w
 bx:∀i,live E.pb i->live E'.pb i/\E'.B i=E.B i
 keep:∀j e t l,f j=none->E.rw[j]?=some (.own e t l)->∃l',E'.rw[j]?=some (.own e t l')/\l'.length=l.length/\E'.A j=E.A j
 aas:∀j d,f j=none->E.rw[j]?=some (.obj d)->(∃d',E'.rw[j]?=some (.obj d')/\d'.po=d.po)/\E'.A j=E.A j
 to:∀j q e t l,f j=some q->E.rw[j]?=some (.own e t l)->q.h E' (.slice (E.A j).1 l.length (E.A j).2)
 toI:∀j q d ad,f j=some q->E.rw[j]?=some (.obj d)->(E.A j).1=some ad->q.h E' (d.at ad)
mutual
theorem DV.amj{E E'}{f:Nat->Option DV}(s:Sub f E E'):(p:DV)->{v:Value}->p.h E v->(p.sub f).h E' v
 | .int _ _,_,h=>by simpa only[DV.sub,DV.h]using h
 | .bool _,_,h=>by simpa only[DV.sub,DV.h]using h
 | .lit _,_,h=>by simpa only[DV.sub,DV.h]using h
 | .str _,_,h=>by simpa only[DV.sub,DV.h]using h
 | .v _,_,h=>by simpa only[DV.sub,DV.h]using h
 | .On,_,h=>by simpa only[DV.sub,DV.h]using h
 | .sl t l,_,h=>by simp only[DV.sub,DV.h]at h ⊢;exact(DT.slc t).mono s.FK h
 | .cs t l,_,h=>by simp only[DV.sub,DV.h]at h ⊢;exact⟨(DT.slc t).mono s.FK h.1,h.2⟩
 | .set ks,_,h=>by simp only[DV.sub,DV.h]at h ⊢;exact DT.set.mono s.FK h
 | .row j,v,h=>by
  simp only[DV.h]at h;obtain⟨e,t,l,F,rfl⟩:=h;unfold DV.sub;cases G:f j with
  |none=>have⟨l',C,y,H⟩:=s.keep j e t l G F;exact⟨e,t,l',C,by rw[y,H]⟩
  |some q=>exact s.to j q e t l G F
 | .el t x off,v,h=>by simp only[DV.sub,DV.h]at h ⊢;obtain⟨ad,us,rfl,C,y⟩:=h;exact⟨ad,us,rfl,t.mono s.FK C,y.mono s.FK⟩
 | .re j i off,v,h=>by
  simp only[DV.h]at h;obtain⟨e,t,l,ad,F,hi,J,rfl⟩:=h;unfold DV.sub;cases G:f j with
  |none=>have⟨l',C,y,H⟩:=s.keep j e t l G F;exact⟨e,t,l',ad,C,by rw[y];exact hi,by rw[H];exact J,rfl⟩
  |some q=>simp only[DV.h]
 | .rt j i,v,h=>by
  simp only[DV.h]at h;obtain⟨e,t,l,F,hi,rfl⟩:=h;unfold DV.sub;cases G:f j with
  |none=>have⟨l',C,y,H⟩:=s.keep j e t l G F;exact⟨e,t,l',C,by rw[y];exact hi,by rw[y,H]⟩
  |some q=>simp only[DV.h]
 | .ob j,v,h=>by
  simp only[DV.h]at h;obtain⟨d,ad,F,J,rfl⟩:=h;unfold DV.sub;cases G:f j with
  |none=>have⟨⟨R,C,H⟩,y⟩:=s.aas j d G F;exact⟨R,ad,C,by rw[y];exact J,by simp only[OD.at,H]⟩
  |some q=>exact s.toI j q d ad G F J
 | .own i off,v,h=>by simp only[DV.sub,DV.h]at h ⊢;obtain⟨C,rfl⟩:=h;have⟨y,H⟩:=s.bx i C;exact⟨y,by rw[H]⟩
 | .fn g K,v,h=>by simp only[DV.sub,DV.h]at h ⊢;obtain⟨vs,rfl,h⟩:=h;exact⟨vs,rfl,kE s K h⟩
 | .agg xs,v,h=>by simp only[DV.sub,DV.h]at h ⊢;obtain⟨vs,rfl,h⟩:=h;exact⟨vs,rfl,kE s xs h⟩
 | .Iv xs,v,h=>by simp only[DV.sub,DV.h]at h ⊢;obtain⟨vs,rfl,h⟩:=h;exact⟨vs,rfl,kE s xs h⟩
 | .fns xs,v,h=>by simp only[DV.sub,DV.h]at h ⊢;obtain⟨ad,vs,c,rfl,h,k⟩:=h;exact⟨ad,vs,c,by rw[ami],kE s xs h,k.mono s.FK⟩
 | .fp xs n,v,h=>by simp only[DV.sub,DV.h]at h ⊢;obtain⟨ad,vs,rfl,h,k⟩:=h;exact⟨ad,vs,rfl,kE s xs h,k.mono s.FK⟩
 | .ra j,v,h=>by
  simp only[DV.h]at h;obtain⟨e,t,l,ad,F,hi,J,rfl⟩:=h;unfold DV.sub;cases G:f j with
  |none=>have⟨l',C,y,H⟩:=s.keep j e t l G F;exact⟨e,t,l',ad,C,hi,by rw[y,H];exact J,rfl⟩
  |some q=>simp only[DV.h]
 | .rs j i,v,h=>by
  simp only[DV.h]at h;obtain⟨e,t,l,ad,F,hi,J,rfl⟩:=h;unfold DV.sub;cases G:f j with
  |none=>have⟨l',C,y,H⟩:=s.keep j e t l G F;exact⟨e,t,l',ad,C,by rw[y];exact hi,by rw[H];exact J,rfl⟩
  |some q=>simp only[DV.h]
 | .jD,_,_=>by simp only[DV.sub,DV.h]
theorem kE{E E'}{f:Nat->Option DV}(s:Sub f E E'):(ps:List DV)->{vs:List Value}->hL E ps vs->hL E' (zp f ps) vs
 |[],_,h=>by simpa only[zp,hL]using h
 |p::ps,_,h=>by simp only[hL,zp]at h ⊢;obtain⟨v,j,rfl,C,y⟩:=h;exact⟨v,j,rfl,DV.amj s p C,kE s ps y⟩
end
def Iq:Nat->Option DV:=λ_=>none
mutual
theorem DV.amk:(p:DV)->p.sub Iq=p
 | .row _ | .re _ _ _ | .rt _ _ | .ob _ | .ra _ | .rs _ _=>rfl
 | .fns xs=>by simp only[DV.sub,oR]
 | .fp xs _=>by simp only[DV.sub,oR]
 | .fn g cs=>by simp only[DV.sub,oR]
 | .agg xs=>by simp only[DV.sub,oR]
 | .Iv xs=>by simp only[DV.sub,oR]
 | .int _ _ | .bool _ | .lit _ | .str _ | .v _ | .On | .sl _ _ | .cs _ _ | .set _ | .el _ _ _ | .own _ _ | .jD=>rfl
theorem oR:(ps:List DV)->zp Iq ps=ps
 |[]=>rfl
 |p::ps=>by simp only[zp,DV.amk p,oR ps]
end
mutual
theorem DV.Zc{β}(f):(p:DV)->(K:DV->Option β)->p.Mj f K=K (p.sub f)
 | .row i,K=>by unfold DV.Mj DV.sub;cases f i<;>rfl
 | .re i a b,K=>by unfold DV.Mj DV.sub;cases f i<;>rfl
 | .rt i a,K=>by unfold DV.Mj DV.sub;cases f i<;>rfl
 | .ob i,K=>by unfold DV.Mj DV.sub;cases f i<;>rfl
 | .ra i,K=>by unfold DV.Mj DV.sub;cases f i<;>rfl
 | .rs i a,K=>by unfold DV.Mj DV.sub;cases f i<;>rfl
 | .fns xs,K=>by unfold DV.Mj DV.sub;rw[my f xs]
 | .fp xs k,K=>by unfold DV.Mj DV.sub;rw[my f xs]
 | .fn g cs,K=>by unfold DV.Mj DV.sub;rw[my f cs]
 | .agg xs,K=>by unfold DV.Mj DV.sub;rw[my f xs]
 | .Iv xs,K=>by unfold DV.Mj DV.sub;rw[my f xs]
 | .int _ _,_ | .bool _,_ | .lit _,_ | .str _,_ | .v _,_ | .On,_ | .sl _ _,_ | .cs _ _,_ | .set _,_ | .el _ _ _,_ | .own _ _,_ | .jD,_=>rfl
theorem my{β}(f):(ps:List DV)->(K:List DV->Option β)->uS f ps K=K (zp f ps)
 |[],K=>rfl
 |p::ps,K=>by unfold uS;rw[DV.Zc f p,my f ps];simp only[zp]
end
def oD(f:Nat->Option DV)(pb:im):im:=pb.map λo=>o.map λb=>⟨b.ty,zp f b.cells,b.w⟩
theorem uT{β}(f):(pb:im)->(K:im->Option β)->BX f pb K=K (oD f pb)
 |[],K=>rfl
 |some ⟨t,cs,w⟩::ps,K=>by unfold BX;rw[my,uT f ps];rfl
 |none::ps,K=>by unfold BX;rw[uT f ps];rfl
theorem tQ{f}{pb}{i:Nat}{b:DB}:(oD f pb)[i]?=some (some b)↔∃j,pb[i]?=some (some j)/\b=⟨j.ty,zp f j.cells,j.w⟩:=by
 unfold oD;rw[la];constructor
 .intro h;cases y:pb[i]? with
  |none=>simp[y]at h
  |some o=>
   cases o with
   |none=>simp[y]at h
   |some j=>simp[y]at h;exact⟨j,rfl,h.symm⟩
 .rintro⟨j,h,rfl⟩;simp[h]
theorem ov{f}{pb}{i}:live (oD f pb) i↔live pb i:=by
 constructor
 .rintro⟨b,h⟩;have⟨y,j,_⟩:=tQ.1 h;exact⟨y,j⟩
 .rintro⟨b,h⟩;exact⟨_,tQ.2 ⟨b,h,rfl⟩⟩
theorem Mn(pb):oD Iq pb=pb:=by
 unfold oD;conv=>rhs;rw[<-Cz pb]
 apply sE;intro o _;cases o with
 |none=>rfl
 |some b=>simp[oR]
theorem zN{f}{pb}:(oD f pb).length=pb.length:=by simp[oD]
theorem kF{α β}:∀(xs:List α) (n:Nat) (y:α) (K:List α->Option β),yJ xs n y K=K (xs.set n y)
 |[],_,_,_=>rfl
 |_::_,0,_,_=>rfl
 |x::xs,n+1,y,K=>by simp only[yJ,Bw];exact kF xs n y _
theorem q9{α β}:∀(xs:List α) (y:α) (K:List α->Option β),uR xs y K=K (xs++[y])
 |[],_,_=>rfl
 |x::xs,y,K=>by simp only[uR,kw];exact q9 xs y _
theorem xw{β}(n:Nat)(K:Nat->Option β):F0 n K=K n:=by unfold F0;split<;>rfl
theorem Zd{β}:∀(vs xs:List DV) (off:Nat) (K:List DV->Option β),wrE xs off vs K=K (wr xs off vs)
 |[],_,_,_=>rfl
 |v::vs,xs,off,K=>by simp only[wrE,kF,wr];exact Zd vs _ _ _
theorem xX:∀{pb:im} {i:Nat} {b:DB},RD pb i=some b↔pb[i]?=some (some b)
 |[],i,b=>by simp[RD]
 |o::pb,0,b=>by simp[RD]
 |o::pb,i+1,b=>by simp only[RD,fC];exact xX
theorem gX:∀{rw:List DR} {j:Nat},Mi rw j=rw[j]?
 |[],j=>by simp[Mi]
 |r::rw,0=>rfl
 |r::rw,j+1=>by simp only[Mi,fC];exact gX
theorem wS:∀{xs:List DV} {o n:Nat} {l:List DV},G5 xs o n=some l->l=(xs.drop o).take n/\o+n<=xs.length
 |[],0,0,l,h=>by simp[G5]at h;simp[h]
 |[],0,n+1,l,h=>by simp[G5]at h
 |[],o+1,n,l,h=>by cases n<;>simp[G5]at h
 |x::xs,0,0,l,h=>by simp[G5]at h;simp[h]
 |x::xs,0,n+1,l,h=>by
  simp only[G5]at h;split at h
  .rename_i l' C;have⟨j,y⟩:=wS C;simp only[ak]at h;subst h;exact⟨by simpa using j,by simp;omega⟩
  .cases h
 |x::xs,o+1,n,l,h=>by simp only[G5]at h;have⟨j,y⟩:=wS h;exact⟨by simpa using j,by simp;omega⟩
theorem Oy{xs}{o}{x}(h:G5 xs o 1=some [x]):xs[o]?=some x:=by have:=bS (λl:List DV=>l[0]?) (wS h).1;simpa[cD,cN]using this.symm
theorem aqa{U}{w}{a b}(h:a=b)(l:List a.den){vs:List Value}(k:(DT.slc a).h U w l vs):(DT.slc b).h U w (DT.PO h l) vs:=by subst h;exact k
theorem DT.ais{E}:(t:DT)->{cs:List DV}->{x:t.den}->{r:List DV}->t.of cs=some (x,r)->{vs:List Value}->hL E cs vs->∃us us',vs=us++us'/\t.h E.U E.w x us/\hL E r us'
 | .int k,cs,x,r,h,vs,hv=>by
  simp only[DT.of]at h;split at h
  .split at h
   .rename_i F;obtain⟨rfl,rfl⟩:=h;obtain⟨v,j,rfl,rfl,y⟩:=hv;exact⟨[_],j,rfl,by rw[Tc F];rfl,y⟩
   .cases h
  .cases h
 | .bool,cs,x,r,h,vs,hv=>by
  simp only[DT.of]at h;split at h
  .obtain⟨rfl,rfl⟩:=h;obtain⟨v,j,rfl,rfl,y⟩:=hv;exact⟨[_],j,rfl,rfl,y⟩
  .obtain⟨rfl,rfl⟩:=h;obtain⟨v,j,rfl,rfl,y⟩:=hv;exact⟨[_],j,rfl,rfl,y⟩
  .cases h
 | .str,cs,x,r,h,vs,hv=>by
  simp only[DT.of]at h;split at h
  .obtain⟨rfl,rfl⟩:=h;obtain⟨v,j,rfl,rfl,y⟩:=hv;exact⟨[_],j,rfl,rfl,y⟩
  .cases h
 | .slc t,cs,x,r,h,vs,hv=>by
  simp only[DT.of]at h;split at h
  .split at h
   .rename_i hs _;obtain⟨rfl,rfl⟩:=h;obtain⟨v,j,rfl,C,y⟩:=hv;exact⟨[v],j,rfl,aqa _ _ C,y⟩
   .cases h
  .obtain⟨rfl,rfl⟩:=h;obtain⟨v,j,rfl,rfl,y⟩:=hv;exact⟨[_],j,rfl,⟨none,0,rfl,au _,br _,by simp⟩,y⟩
  .cases h
 | .set,cs,x,r,h,vs,hv=>by
  simp only[DT.of]at h;split at h
  .obtain⟨rfl,rfl⟩:=h;obtain⟨v,j,rfl,C,y⟩:=hv;exact⟨[v],j,rfl,C,y⟩
  .cases h
 | .unit,cs,x,r,h,vs,hv=>by simp only[DT.of,ak,fc]at h;obtain⟨_,rfl⟩:=h;exact⟨[],vs,rfl,rfl,hv⟩
 | .pair a b,cs,x,r,h,vs,hv=>by
  simp only[DT.of]at h;split at h
  .rename_i R W C;split at h
   .rename_i K V y;obtain⟨rfl,rfl⟩:=h;obtain⟨us,us',rfl,g1,J⟩:=a.ais C hv;obtain⟨vs,j,rfl,H,G⟩:=b.ais y J;exact⟨us++vs,j,by simp,⟨us,vs,rfl,g1,H⟩,G⟩
   .cases h
  .cases h
theorem DT.EV{E}:(t:DT)->{x:t.den}->{us:List Value}->t.h E.U E.w x us->{r:List DV}->{us':List Value}->hL E r us'->hL E (t.cells x r) (us++us')
 | .int k,x,us,h,r,us',j=>by subst h;exact⟨_,_,rfl,rfl,j⟩
 | .bool,x,us,h,r,us',j=>by subst h;exact⟨_,_,rfl,rfl,j⟩
 | .str,x,us,h,r,us',j=>by subst h;exact⟨_,_,rfl,rfl,j⟩
 | .slc t,x,us,h,r,us',j=>by have hl:=(DT.slc t).Av h;obtain⟨a,c,rfl,_⟩:=id h;exact⟨_,_,rfl,h,j⟩
 | .set,x,us,h,r,us',j=>by obtain⟨b,es,y,rfl,_⟩:=id h;exact⟨_,_,rfl,h,j⟩
 | .unit,x,us,h,r,us',j=>by subst h;simpa[DT.cells]using j
 | .pair a b,x,us,h,r,us',j=>by obtain⟨H,G,rfl,F,C⟩:=h;simp only[DT.cells,bn];exact a.EV F (b.EV C j)
def DT.hv(U:Nat->Prop)(w:World)(t:DT)(x:t.den)(v:Value):Prop:=∃us,t.h U w x us/\v=(match t.agg with|true=>.agg us.toArray|false=>us.headD undef)
theorem DT.RF{U U'}{w w'}(l:lE U U' w w'){t:DT}{x:t.den}{v:Value}(h:t.hv U w x v):t.hv U' w' x v:=let ⟨us,y,j⟩:=h;⟨us,t.mono l y,j⟩
theorem DT.awr:(t:DT)->t.agg=false->t.size=1 | .int _,_ | .bool,_ | .str,_ | .slc _,_ | .set,_=>rfl
theorem DT.Xe{E}{t:DT}{p:DV}{x:t.den}(h:t.ofV p=some x){v:Value}(hv:p.h E v):t.hv E.U E.w x v:=by
 unfold DT.ofV at h;split at h
 .rename_i F;split at h
  .rename_i cs;split at h
   .rename_i y r C;split at h
    .simp only[ak]at h;subst h;obtain⟨vs,rfl,hv⟩:=hv;have⟨us,us',e,G,j⟩:=t.ais C hv;subst j;refine⟨us,G,?_⟩;rw[F];simp only[FV];apply fY;simpa using e
    .cases h
   .cases h
  .cases h
 .rename_i F;split at h
  .rename_i y r C;split at h
   .simp only[ak]at h;subst h;have⟨us,us',e,G,j⟩:=t.ais C (E:=E) (vs:=[v]) (by simp only[hL];exact⟨v,[],rfl,hv,rfl⟩);simp only[hL]at j;subst j;simp only[bZ]at e;subst e;exact⟨[v],G,by rw[F];rfl⟩
   .cases h
  .cases h
theorem DT.κ{E}:(t:DT)->{x:t.den}->{v:Value}->t.hv E.U E.w x v->(t.val x).h E v
 | .int _,_,_,h=>by obtain⟨us,rfl,rfl⟩:=h;rfl
 | .bool,_,_,h=>by obtain⟨us,rfl,rfl⟩:=h;rfl
 | .str,_,_,h=>by obtain⟨us,rfl,rfl⟩:=h;rfl
 | .slc t,_,_,h=>by obtain⟨us,j,rfl⟩:=h;obtain⟨a,c,rfl,_⟩:=id j;exact j
 | .set,_,_,h=>by obtain⟨us,j,rfl⟩:=h;obtain⟨b,es,y,rfl,_⟩:=id j;exact j
 | .unit,_,_,h=>by obtain⟨us,rfl,rfl⟩:=h;exact⟨_,rfl,by simp[hL]⟩
 | .pair a b,_,_,h=>by obtain⟨us,⟨G,F,rfl,j,C⟩,rfl⟩:=h;refine⟨_,rfl,?_⟩;have:=a.EV (E:=E) j (b.EV C (r:=[]) (us':=[]) (by simp[hL]));simpa using this
end Go.Vc








namespace Go.Vc
open Go Go.RowKit Go.ChangeMaps
theorem ait{P}{t kt et}(Y:alx P kt)(ht:P.underlying t=some (.map kt et)){w}{b}{es}{clock}{ks}
 (hb:w.heap[b]?=some (.map es clock)) (hs:aag es clock ks) {k} (W:isU k):
 ∃X F H,(Instr.mapUpdate t (.map (some b)) k (.bool true)).run P w=.ok () (setBlock w b (.map X F))/\aag X F H/\((k∈ks/\H=ks)\/(k∉ks/\H=ks++[k])):=by
 have C:∀x,x∈ks↔∃e∈es.toList,e.key=x:=λx=>by rw[<-hs.keys,aK]
 rcases Y.find w W es.toList (λe G=>hs.kok _ ((C _).2 ⟨e,G,rfl⟩))with⟨hf,hn⟩|⟨j,e,hf,hj,G⟩
 .refine⟨es.push ⟨k,.bool true,clock⟩,clock+1,ks++[k],?_,?_,.inr ⟨λhm=>?_,rfl⟩⟩
  .simp[Instr.mapUpdate,bb ht,MapKept.run_getObj_map hb,Y.check _ w W,hf,MapKept.run_setObj_map _ hb,Result.andThen,setBlock]
  .have hkn:k∉ks:=λhm=>by have⟨e,G,J⟩:=(C _).1 hm;exact hn e G J
   refine⟨by simp[hs.keys],?_,?_,?_,?_,?_⟩
   .intro x y;rcases aQ.1 y with y|y
    .exact hs.kok x y
    .simp at y;exact y▸W
   .exact oe.2 ⟨hs.nd,by simp,λa ha b hb=>by simp at hb;subst hb;rintro rfl;exact hkn ha⟩
   .intro x y;simp only[CE,aQ,ay]at y;rcases y with y|rfl
    .exact hs.val x y
    .rfl
   .simp only[CE,cw,bI,pW];refine oe.2 ⟨hs.bnd,by simp,λa ha b hb=>?_⟩;simp at hb;subst hb;obtain⟨x,y,rfl⟩:=aK.1 ha;have:=hs.lt x y;omega
   .intro x y;simp only[CE,aQ,ay]at y;rcases y with y|rfl
    .have:=hs.lt x y;omega
    .simp
  .have⟨e,G,J⟩:=(C _).1 hm;exact hn e G J
 .have K:es[j]?=some e:=by rw[<-du];exact hj
  have V:=ir hj;refine⟨es.modify j λx=>{ x with key:=k,val:=.bool true },clock,ks,?_,?_,.inl ⟨(C _).2 ⟨e,V,G⟩,rfl⟩⟩
  .simp[Instr.mapUpdate,bb ht,MapKept.run_getObj_map hb,Y.check _ w W,hf,K,G,Y.stays w W,MapKept.run_setObj_map _ hb,Result.andThen,setBlock]
  .have R:∀i,(es.modify j λx=>{ x with key:=k,val:=.bool true })[i]?=es[i]?:=λi=>by
    rw[qI];split
    .rename_i hi;subst hi;rw[K];have:=hs.val e V;cases e;simp_all
    .rfl
   have heq:(es.modify j λx=>{ x with key:=k,val:=.bool true })=es:=by apply Array.ext_getElem?;exact R
   rw[heq];exact hs
theorem Oz{α β}{f:α->β}:∀{l:List α},(l.map f).Nodup->∀{x y:α},x∈l->y∈l->f x=f y->x=y
 |[],_,_,_,C,_,_=>by simp at C
 |a::l,h,x,y,C,j,e=>by
  simp only[bI,dK]at h;rcases aB.1 C with C|C
  .rcases aB.1 j with j|j
   .rw[C,j]
   .exact absurd (aK.2 ⟨y,j,by rw[<-e,C]⟩) h.1
  .rcases aB.1 j with j|j
   .exact absurd (aK.2 ⟨x,C,by rw[e,j]⟩) h.1
   .exact Oz h.2 C j e
theorem TK{w}{b c}{o}(h:c≠b):(setBlock w b o).heap[c]?=w.heap[c]?:=by unfold setBlock;exact vX (λe=>h e.symm)
theorem adz{w}{b}{o}(h:b<w.heap.size):(setBlock w b o).heap[b]?=some o:=by unfold setBlock;simp[h]
structure Walk(U:Nat->Prop)(w:World)(ks dn:List KU)(o:Obj)(bm:Nat)(es:Array MapEntry)(clock since:Nat)(seen:Array Nat)(ds:List MapEntry):Prop where
 ho:o=.mapIter (some bm) since seen clock
 nu:¬U bm
 low:bm<w.heap.size
 axQ:w.heap[bm]?=some (.map es clock)
 VB:aag es clock (ks.map kV)
 old:∀e∈es.toList,e.born<since
 sc:since<=clock
 Mo:seen.toList=ds.map (·.born)
 hdn:ds.map (·.key)=dn.map kV
 BE:∀e∈ds,e∈es.toList
 nd:(ds.map (·.born)).Nodup
def OD.h(U:Nat->Prop)(w:World):OD->Obj->Prop
 | .IZ s p,o=>o=.stringIter s p.toNat
 | .set ks,o=>∃es j,o=.map es j/\aag es j (ks.map kV)
 | .walk ks G,o=>∃bm es j y C F,Walk U w ks G o bm es j y C F
theorem OD.mono{U U'}{w w'}(l:lE U U' w w'){d:OD}{o:Obj}(h:d.h U w o):d.h U' w' o:=by
 cases d with
 |IZ s p=>exact h
 |set ks=>exact h
 |walk ks J=>have⟨bm,es,y,j,C,G,H⟩:=h;exact⟨bm,es,y,j,C,G,H.ho,λF=>H.nu (l.sub _ H.low F),eW H.low l.size,(l.same _ H.low H.nu).trans H.axQ,H.VB,H.old,H.sc,H.Mo,H.hdn,H.BE,H.nd⟩
theorem OKd.axR{k:OKd}{d:OD}{z:k.T.den}(h:k.of d=some z):(k.od z).po=d.po/\∀U w o,d.h U w o->(k.od z).h U w o:=by
 cases k with
 |IZ=>cases d with
  |IZ s p=>have h:=cK h;subst h;exact⟨rfl,λ_ _ _ h=>h⟩
  |_=>cases h
 |set=>cases d with
  |set ks=>have h:=cK h;subst h;exact⟨rfl,λ_ _ _ h=>h⟩
  |_=>cases h
 |walk=>cases d with
  |walk ks j=>have h:=cK h;subst h;exact⟨rfl,λ_ _ _ h=>h⟩
  |_=>cases h
theorem Walk.next{P}{ty}{U}{w}{ks dn}{r bm}{es:Array MapEntry}{C F:Nat}{j:Array Nat}{ds:List MapEntry}{o:Obj}
 (H:Walk U w ks dn o bm es C F j ds) (hr:w.heap[r]?=some o) (_:r≠bm):
 ((Instr.next (.pointer (some ⟨r,0,none⟩)) false ty).run P w=.ok (.tuple #[.bool false]) w/\PR ks dn=[])\/
 ∃k w1 o',k∈PR ks dn/\(Instr.next (.pointer (some ⟨r,0,none⟩)) false ty).run P w=.ok (.tuple #[.bool true,kV k,.bool true]) (setBlock w1 r o')/\(w1.heap=w.heap/\w1.os=w.os/\w1.tape=w.tape/\w1.output=w.output)/\∀U' (w':World),¬U' bm->bm<w'.heap.size->w'.heap[bm]?=w.heap[bm]?->∃bm es C F j ds,Walk U' w' ks (dn++[k]) o' bm es C F j ds:=by
 obtain⟨rfl,nu,low,hwb,J,W,hsc,Mo,hdn,BE,hnd⟩:=H;have inj:∀{x y:MapEntry},x∈es.toList->y∈es.toList->x.born=y.born->x=y:=λG hy e=>Oz J.bnd G hy e
 have axS:∀{x y:MapEntry},x∈es.toList->y∈es.toList->x.key=y.key->x=y:=λG hy e=>Oz (by rw[J.keys];exact J.nd) G hy e
 rcases run_next_at (P:=P) w ty r bm F C j es C hr hwb W hsc with⟨h0,K⟩|⟨e,he,w1,hal,K⟩
 .refine .inl ⟨K,?_⟩;unfold PR;refine vC.2 λk hk=>?_
  have hk2:kV k∈es.toList.map (·.key):=by rw[J.keys];exact Tq.2 hk
  have⟨e,he,hek⟩:=aK.1 hk2;have hc:j.contains e.born=true:=by have Y:=Array.eq_empty_of_size_eq_zero h0;unfold leftOf at Y;rw[Array.filter_eq_empty_iff]at Y;have:=Y e (rz.1 he);simpa using this
  have hm:e.born∈j.toList:=by rw[rz];exact vJ.1 hc
  rw[Mo]at hm;have⟨d,hd,hdb⟩:=aK.1 hm;have hed:=inj (BE d hd) he hdb;subst hed;have:kV k∈dn.map kV:=by rw[<-hdn,<-hek];exact aK.2 ⟨d,hd,rfl⟩
  simp[uQ.2 (Tq.1 this)]
 .have⟨V,R⟩:=mem_left he;have hkm:e.key∈ks.map kV:=by rw[<-J.keys];exact aK.2 ⟨e,V,rfl⟩
  have⟨k,hk,X⟩:=aK.1 hkm
  have hnk:k∉dn:=λG=>by
   have G:=Tq.2 G;rw[<-hdn,X]at G;have⟨d,hd,hdk⟩:=aK.1 G;have:=axS (BE d hd) V hdk;subst this;have hm:d.born∈j.toList:=by rw[Mo];exact aK.2 ⟨d,hd,rfl⟩
   rw[rz]at hm;rw[vJ.2 hm]at R;cases R
  have hw1:w1.heap=w.heap/\w1.os=w.os/\w1.tape=w.tape/\w1.output=w.output:=by rcases hal with rfl|rfl<;>exact⟨rfl,rfl,rfl,rfl⟩
  refine .inr ⟨k,w1,.mapIter (some bm) F (j.push e.born) C,aI.2 ⟨hk,?_⟩,?_,hw1,λU' w' h1 h2 h3=>⟨bm,es,C,F,j.push e.born,ds++[e],rfl,h1,h2,h3.trans hwb,J,W,hsc,by simp[Mo],by simp[hdn,X],λx G=>?_,?_⟩⟩
  .cases hm:N1 k dn with
   |true=>exact absurd (uQ.1 hm) hnk
   |false=>rfl
  .rw[J.val e V,<-X]at K;exact K
  .rcases aQ.1 G with G|G
   .exact BE x G
   .simp at G;exact G▸V
  .simp only[cw,bI,pW];refine oe.2 ⟨hnd,by simp,λa ha c hc=>?_⟩;simp at hc;subst hc;rintro rfl;have hm:e.born∈j.toList:=by rw[Mo];exact ha
   rw[rz]at hm;rw[vJ.2 hm]at R;cases R
theorem Walk.entry{P}{U}{w}{ks V}{k}{r bm}{es:Array MapEntry}{y j:Nat}{C:Array Nat}{ds:List MapEntry}{o:Obj}
 (H:Walk U w ks V o bm es y j C ds) (hk:V[V.length-1]?=some k) (hr:w.heap[r]?=some o):(Instr.entry (.pointer (some ⟨r,0,none⟩))).run P w=.ok (.tuple #[kV k,.bool true]) w:=by
 obtain⟨rfl,nu,low,X,G,hold,hsc,Mo,hdn,BE,hnd⟩:=H
 obtain⟨R,rfl⟩:∃R,V=R++[k]:=by
  rcases wo V with h|⟨d,x,h⟩
  .subst h;simp at hk
  .subst h;simp at hk;exact⟨d,by rw[hk];simp⟩
 obtain⟨W,e,rfl⟩:∃W e,ds=W++[e]:=by
  rcases wo ds with h|⟨W,e,h⟩
  .subst h;simp at hdn
  .exact⟨W,e,by simpa using h⟩
 simp only[cw,bI,pW]at hdn Mo;have J:=(List.append_inj' hdn rfl).2;simp only[fj,pj]at J;have Y:C=(W.map (·.born)).toArray.push e.born:=by apply fY;rw[Mo];simp
 rw[Y]at hr;have K:=BE e (by simp);have F:=run_entry_at (P:=P) w r bm j _ es y e hr X K G.bnd;rw[G.val e K,J]at F;exact F
abbrev yH:=Nat->Option Addr×Nat
def iN(B:Nat->Nat)(A:yH)(pb:im)(rw:List DR):Bool->Nat->Nat->Prop
 |false,i,b=>live pb i/\B i=b
 |true,j,b=>∃r ad,rw[j]?=some r/\r≠.dead/\(A j).1=some ad/\ad.block=b
def Us(U0:Nat->Prop)(B:Nat->Nat)(A:yH)(pb:im)(rw:List DR):Nat->Prop:=λb=>U0 b\/∃k i,iN B A pb rw k i b
def env(U0:Nat->Prop)(B:Nat->Nat)(A:yH)(pb:im)(rw:List DR)(w:World):Env:=⟨Us U0 B A pb rw,w,B,A,pb,rw⟩
structure Mem(V:World)(U0 L:Nat->Prop)(B:Nat->Nat)(A:yH)(pb:im)(rw:List DR)(w:World):Prop where
 os:w.os=V.os
 tape:w.tape=V.tape
 output:w.output=V.output
 size:V.heap.size<=w.heap.size
 same:∀b,b<V.heap.size->¬L b->w.heap[b]?=V.heap[b]?
 u0:∀b,U0 b->b<V.heap.size/\¬L b
 low:∀k i b,iN B A pb rw k i b->b<w.heap.size/\(V.heap.size<=b\/L b)
 inj:∀k i k' i' b,iN B A pb rw k i b->iN B A pb rw k' i' b->k=k'/\i=i'
 box:∀i b,pb[i]?=some (some b)->∃cs,w.heap[B i]?=some (.cells cs.toArray b.ty (0,0))/\hL (env U0 B A pb rw w) b.cells cs/\(b.w=false->B i<V.heap.size/\w.heap[B i]?=V.heap[B i]?)
 row:∀j e t l,rw[j]?=some (.own e t l)->∃xs,w.ownsRow 0 e t.size (.slice (A j).1 l.length (A j).2) l.length xs/\t.hs (Us U0 B A pb rw) w l xs
 IZ:∀j d,rw[j]?=some (.obj d)->∃b o,(A j).1=some ⟨b,0,none⟩/\w.heap[b]?=some o/\d.h (Us U0 B A pb rw) w o
def Wr(al:Nat->Bool)(B:Nat->Nat)(A:yH)(pb:im)(rw:List DR):Nat->Prop:=λb=>(∃i,al i=true/\iN B A pb rw false i b)\/∃j,iN B A pb rw true j b
structure Ext(al:Nat->Bool)(B:Nat->Nat)(A:yH)(pb:im)(rw:List DR)(w:World)(B':Nat->Nat)(A':yH)(pb':im)(rw':List DR)(w':World):Prop where
 bx:∀i,live pb i->live pb' i/\B' i=B i
 fr:∀b,b<w.heap.size->¬Wr al B A pb rw b->w'.heap[b]?=w.heap[b]?
 fresh:∀b,Wr al B' A' pb' rw' b->Wr al B A pb rw b\/w.heap.size<=b
 size:w.heap.size<=w'.heap.size
theorem Ext.trans{al:Nat->Bool}{B K J:Nat->Nat}{A W R:yH}{pb F C:im}{rw y j:List DR}{w w1 G:World}(h:Ext al B A pb rw w K W F y w1)(k:Ext al K W F y w1 J R C j G):Ext al B A pb rw w J R C j G:=by
 refine⟨λi hl=>?_,λb hb H=>?_,λb hb=>?_,cn h.size k.size⟩
 .have⟨g1,g2⟩:=h.bx i hl;have⟨g3,Y⟩:=k.bx i g1;exact⟨g3,Y.trans g2⟩
 .rw[k.fr b (eW hb h.size) λX=>?_,h.fr b hb H];rcases h.fresh b X with g|g
  .exact H g
  .omega
 .rcases k.fresh b hb with g|g
  .exact h.fresh b g
  .exact .inr (cn h.size g)
theorem aiu{w w':World}{base:Nat}{e:TypeId}{size:Nat}{a:Option Addr}{n c:Nat}{xs:List Value}(h:w.ownsRow base e size (.slice a n c) n xs)(C:∀x,a=some x->w'.heap[x.block]?=w.heap[x.block]?):w'.ownsRow base e size (.slice a n c) n xs:=by
 refine⟨h.1,?_⟩;rcases h.2 with G|⟨g,cap,y,j,hb,F,rest⟩
 .exact .inl G
 .obtain⟨rfl,_,rfl⟩:=j;exact .inr ⟨g,c,y,rfl,hb,(C _ rfl).trans F,rest⟩
section
variable {V : World} {U0 L : Nat -> Prop} {B B' : Nat -> Nat} {A A' : yH} {pb pb' : im} {rw rw' : List DR} {w w' : World}
theorem Mem.asz{al:Nat->Bool}(f:Nat->Option DV)(m:Mem V U0 L B A pb rw w)
 (hr:w'.os=w.os/\w'.tape=w.tape/\w'.output=w.output/\w.heap.size<=w'.heap.size)
 (hk:∀b,b<w.heap.size->¬Wr al B A pb rw b->w'.heap[b]?=w.heap[b]?)
 (hwr:∀b,Wr al B' A' pb' rw' b->Wr al B A pb rw b\/w.heap.size<=b)
 (hb:∀k i b,iN B' A' pb' rw' k i b->(∃C F,iN B A pb rw C F b)\/(w.heap.size<=b/\b<w'.heap.size))
 (hj:∀k i C F b,iN B' A' pb' rw' k i b->iN B' A' pb' rw' C F b->k=C/\i=F)
 (bx:∀i,live pb i->live pb' i/\B' i=B i)
 (keep:∀j e t l,f j=none->rw[j]?=some (.own e t l)->∃l',rw'[j]?=some (.own e t l')/\l'.length=l.length/\A' j=A j)
 (aas:∀j d,f j=none->rw[j]?=some (.obj d)->(∃d',rw'[j]?=some (.obj d')/\d'.po=d.po)/\A' j=A j)
 (to:lE (Us U0 B A pb rw) (Us U0 B' A' pb' rw') w w'->∀j q e t l,f j=some q->rw[j]?=some (.own e t l)->q.h (env U0 B' A' pb' rw' w') (.slice (A j).1 l.length (A j).2))
 (toI:lE (Us U0 B A pb rw) (Us U0 B' A' pb' rw') w w'->∀j q d ad,f j=some q->rw[j]?=some (.obj d)->(A j).1=some ad->q.h (env U0 B' A' pb' rw' w') (d.at ad))
 (axT:Sub f (env U0 B A pb rw w) (env U0 B' A' pb' rw' w')->∀i G,pb'[i]?=some (some G)->(∃b,pb[i]?=some (some b)/\G.ty=b.ty/\G.cells=zp f b.cells/\(G.w=false->b.w=false)/\w'.heap[B i]?=w.heap[B i]?)\/∃cs,w'.heap[B' i]?=some (.cells cs.toArray G.ty (0,0))/\hL (env U0 B' A' pb' rw' w') G.cells cs/\G.w=true)
 (W:lE (Us U0 B A pb rw) (Us U0 B' A' pb' rw') w w'->∀j e t l,rw'[j]?=some (.own e t l)->(rw[j]?=some (.own e t l)/\A' j=A j/\∀ad,(A j).1=some ad->w'.heap[ad.block]?=w.heap[ad.block]?)\/∃xs,w'.ownsRow 0 e t.size (.slice (A' j).1 l.length (A' j).2) l.length xs/\t.hs (Us U0 B' A' pb' rw') w' l xs)
 (Y:lE (Us U0 B A pb rw) (Us U0 B' A' pb' rw') w w'->∀j d,rw'[j]?=some (.obj d)->(rw[j]?=some (.obj d)/\A' j=A j/\∀ad,(A j).1=some ad->w'.heap[ad.block]?=w.heap[ad.block]?)\/∃b o,(A' j).1=some ⟨b,0,none⟩/\w'.heap[b]?=some o/\d.h (Us U0 B' A' pb' rw') w' o):
 Mem V U0 L B' A' pb' rw' w'/\Sub f (env U0 B A pb rw w) (env U0 B' A' pb' rw' w')/\Ext al B A pb rw w B' A' pb' rw' w':=by
 have⟨h1,h2,h3,h4⟩:=hr
 have l:lE (Us U0 B A pb rw) (Us U0 B' A' pb' rw') w w':=⟨λb y hn=>hk b y λh=>hn (.inr (h.elim (λ⟨i,_,h⟩=>⟨_,i,h⟩) λ⟨i,h⟩=>⟨_,i,h⟩)),h4,λb y H=>by
  rcases H with H|⟨k,i,H⟩
  .exact .inl H
  .rcases hb k i b H with⟨C,F,h⟩|⟨h,_⟩
   .exact .inr ⟨C,F,h⟩
   .omega⟩
 have s:Sub f (env U0 B A pb rw w) (env U0 B' A' pb' rw' w'):=⟨l,bx,keep,aas,to l,toI l⟩;refine⟨⟨h1.trans m.os,h2.trans m.tape,h3.trans m.output,cn m.size h4,λb y hL=>?_,m.u0,λk i b hbb=>?_,hj,λi G hi=>?_,λj e t l' J=>?_,λj d J=>?_⟩,s,bx,hk,hwr,h4⟩
 .have hb2:=eW y m.size
  have X:∀k i,¬iN B A pb rw k i b:=λk i H=>by
   rcases(m.low k i b H).2 with h|h
   .omega
   .exact hL h
  rw[hk b hb2 λh=>h.elim (λ⟨i,_,h⟩=>X _ i h) λ⟨i,h⟩=>X _ i h,m.same b y hL]
 .rcases hb k i b hbb with⟨C,F,h⟩|⟨h,h'⟩
  .exact⟨eW (m.low C F b h).1 h4,(m.low C F b h).2⟩
  .exact⟨h',.inl (cn m.size h)⟩
 .rcases axT s i G hi with⟨b,g1,g2,g3,R,K⟩|⟨cs,g1,g2,g3⟩
  .have⟨cs,g6,g7,g8⟩:=m.box i b g1;have e:=(bx i ⟨b,g1⟩).2;refine⟨cs,by rw[e,K,g2];exact g6,by rw[g3];exact kE s _ g7,λhw=>?_⟩;have⟨g9,g10⟩:=g8 (R hw);exact⟨by rw[e];exact g9,by rw[e,K];exact g10⟩
  .exact⟨cs,g1,g2,λh=>by rw[g3]at h;cases h⟩
 .rcases W l j e t l' J with⟨g1,g2,g3⟩|h
  .have⟨xs,R,K⟩:=m.row j e t l' g1;exact⟨xs,by rw[g2];exact aiu R g3,DT.lR l K⟩
  .exact h
 .rcases Y l j d J with⟨g1,g2,g3⟩|h
  .have⟨b,o,R,K,g6⟩:=m.IZ j d g1;exact⟨b,o,by rw[g2];exact R,(g3 _ R).trans K,OD.mono l g6⟩
  .exact h
theorem Mem.step{al}(f:Nat->Option DV)(m:Mem V U0 L B A pb rw w)
 (R:w'.os=w.os/\w'.tape=w.tape/\w'.output=w.output/\w.heap.size<=w'.heap.size)
 (W:∀b,b<w.heap.size->¬Wr al B A pb rw b->w'.heap[b]?=w.heap[b]?)
 (hb:∀k i b,iN B' A' pb' rw' k i b->iN B A pb rw k i b\/(w.heap.size<=b/\b<w'.heap.size))
 (X:∀k i H J b,iN B' A' pb' rw' k i b->iN B' A' pb' rw' H J b->k=H/\i=J)
 (bx:∀i,live pb i->live pb' i/\B' i=B i)
 (keep:∀j e t l,f j=none->rw[j]?=some (.own e t l)->∃l',rw'[j]?=some (.own e t l')/\l'.length=l.length/\A' j=A j)
 (aas:∀j d,f j=none->rw[j]?=some (.obj d)->(∃K,rw'[j]?=some (.obj K)/\K.po=d.po)/\A' j=A j)
 (to:lE (Us U0 B A pb rw) (Us U0 B' A' pb' rw') w w'->∀j q e t l,f j=some q->rw[j]?=some (.own e t l)->q.h (env U0 B' A' pb' rw' w') (.slice (A j).1 l.length (A j).2))
 (toI:lE (Us U0 B A pb rw) (Us U0 B' A' pb' rw') w w'->∀j q d ad,f j=some q->rw[j]?=some (.obj d)->(A j).1=some ad->q.h (env U0 B' A' pb' rw' w') (d.at ad))
 (G:Sub f (env U0 B A pb rw w) (env U0 B' A' pb' rw' w')->∀i y,pb'[i]?=some (some y)->(∃b,pb[i]?=some (some b)/\y.ty=b.ty/\y.cells=zp f b.cells/\(y.w=false->b.w=false)/\w'.heap[B i]?=w.heap[B i]?)\/∃cs,w'.heap[B' i]?=some (.cells cs.toArray y.ty (0,0))/\hL (env U0 B' A' pb' rw' w') y.cells cs/\y.w=true)
 (C:lE (Us U0 B A pb rw) (Us U0 B' A' pb' rw') w w'->∀j e t l,rw'[j]?=some (.own e t l)->(rw[j]?=some (.own e t l)/\A' j=A j/\∀ad,(A j).1=some ad->w'.heap[ad.block]?=w.heap[ad.block]?)\/∃xs,w'.ownsRow 0 e t.size (.slice (A' j).1 l.length (A' j).2) l.length xs/\t.hs (Us U0 B' A' pb' rw') w' l xs)
 (F:lE (Us U0 B A pb rw) (Us U0 B' A' pb' rw') w w'->∀j d,rw'[j]?=some (.obj d)->(rw[j]?=some (.obj d)/\A' j=A j/\∀ad,(A j).1=some ad->w'.heap[ad.block]?=w.heap[ad.block]?)\/∃b o,(A' j).1=some ⟨b,0,none⟩/\w'.heap[b]?=some o/\d.h (Us U0 B' A' pb' rw') w' o):
 Mem V U0 L B' A' pb' rw' w'/\Sub f (env U0 B A pb rw w) (env U0 B' A' pb' rw' w')/\Ext al B A pb rw w B' A' pb' rw' w':=
 m.asz f R W (λ_ h=>h.elim (λ⟨i,Y,h⟩=>(hb _ _ _ h).imp (λh=>.inl ⟨i,Y,h⟩) (·.1)) λ⟨i,h⟩=>(hb _ _ _ h).imp (λh=>.inr ⟨i,h⟩) (·.1)) (λk i b h=>(hb k i b h).imp (λh=>⟨k,i,h⟩) id) X bx keep aas to toI G C F
end
def Eo{α:Type}(f:Nat->α)(n:Nat)(y:α):Nat->α:=λi=>if i=n then y else f i
theorem nC{α}(f)(n:Nat)(y:α):Eo f n y n=y:=by simp[Eo]
theorem yK{α}(f){n i:Nat}(y:α)(h:i≠n):Eo f n y i=f i:=by simp[Eo,h]
section
variable {V : World} {U0 L : Nat -> Prop} {B : Nat -> Nat} {A : yH} {pb : im} {rw : List DR} {w w' : World}
theorem Mem.world{al}(m:Mem V U0 L B A pb rw w)(F:w'.os=w.os/\w'.tape=w.tape/\w'.output=w.output/\w.heap.size<=w'.heap.size)(C:∀b,b<w.heap.size->w'.heap[b]?=w.heap[b]?):
 Mem V U0 L B A pb rw w'/\Sub Iq (env U0 B A pb rw w) (env U0 B A pb rw w')/\Ext al B A pb rw w B A pb rw w':=by
 have hl:∀k i b,iN B A pb rw k i b->w'.heap[b]?=w.heap[b]?:=λk i b h=>C b (m.low k i b h).1
 refine m.step Iq F (λb hb _=>C b hb) (λk i b h=>.inl h) m.inj (λi h=>⟨h,rfl⟩) (λj e t l _ h=>⟨l,h,rfl,rfl⟩) (λj d _ h=>⟨⟨d,h,rfl⟩,rfl⟩) (λ_ j q e t l h=>by cases h) (λ_ j q d ad h=>by cases h) (λs i G h=>.inl ⟨G,h,rfl,by rw[oR],id,hl false i _ ⟨⟨_,h⟩,rfl⟩⟩) (λ_ j e t l h=>.inl ⟨h,rfl,λad y=>hl true j _ ⟨_,ad,h,by simp,y,rfl⟩⟩) λ_ j d h=>.inl ⟨h,rfl,λad y=>hl true j _ ⟨_,ad,h,by simp,y,rfl⟩⟩
theorem Mem.aud{al}(m:Mem V U0 L B A pb rw w){pb':im}{i:Nat}{ty:TypeId}{cells:List DV}{cs:List Value}(hi:pb'[i]?=some (some ⟨ty,cells,true⟩))(R:∀j,j≠i->pb'[j]?=pb[j]?)(X:¬live pb i)
 (Y:hL (env U0 B A pb rw w) cells cs):
 Mem V U0 L (Eo B i w.heap.size) A pb' rw (w.alloc (.cells cs.toArray ty))/\Sub Iq (env U0 B A pb rw w) (env U0 (Eo B i w.heap.size) A pb' rw (w.alloc (.cells cs.toArray ty)))/\Ext al B A pb rw w (Eo B i w.heap.size) A pb' rw (w.alloc (.cells cs.toArray ty)):=by
 have K:∀b,b<w.heap.size->(w.alloc (.cells cs.toArray ty)).heap[b]?=w.heap[b]?:=λb hb=>mQ w _ hb
 have hl:∀k i b,iN B A pb rw k i b->(w.alloc (.cells cs.toArray ty)).heap[b]?=w.heap[b]?:=λk i b h=>K b (m.low k i b h).1
 have C:∀j,j≠i->(live pb' j↔live pb j):=λj y=>by simp only[live,R j y]
 have hb:∀k j b,iN (Eo B i w.heap.size) A pb' rw k j b->(iN B A pb rw k j b\/(k=false/\j=i/\b=w.heap.size)):=by
  intro k j b h;cases k with
  |true=>exact .inl h
  |false=>
   have⟨h1,F⟩:=h;by_cases y:j=i
   .subst y;rw[nC]at F;exact .inr ⟨rfl,rfl,F.symm⟩
   .rw[yK _ _ y]at F;exact .inl ⟨(C j y).1 h1,F⟩
 refine m.step Iq ⟨rfl,rfl,rfl,by simp⟩ (λb hb _=>K b hb) (λk j b h=>(hb k j b h).imp id λ⟨_,_,h⟩=>by subst h;simp) (λk j G H b h W=>?_) (λj h=>?_) (λj e t l _ h=>⟨l,h,rfl,rfl⟩) (λj d _ h=>⟨⟨d,h,rfl⟩,rfl⟩) (λ_ j q e t l h=>by cases h) (λ_ j q d ad h=>by cases h) (λs j b' h=>?_) (λ_ j e t l h=>.inl ⟨h,rfl,λad J=>hl true j _ ⟨_,ad,h,by simp,J,rfl⟩⟩) λ_ j d h=>.inl ⟨h,rfl,λad J=>hl true j _ ⟨_,ad,h,by simp,J,rfl⟩⟩
 .rcases hb k j b h with g|⟨rfl,rfl,e⟩
  .rcases hb G H b W with g'|⟨rfl,rfl,e⟩
   .exact m.inj _ _ _ _ _ g g'
   .have:=(m.low k j b g).1;omega
  .rcases hb G H b W with g|⟨rfl,rfl,_⟩
   .have:=(m.low G H b g).1;omega
   .exact⟨rfl,rfl⟩
 .have y:j≠i:=by rintro rfl;exact X h
  exact⟨(C j y).2 h,yK _ _ y⟩
 .by_cases y:j=i
  .subst y;rw[hi]at h;simp only[ak]at h;subst h;refine .inr ⟨cs,by rw[nC];exact kQ w _,?_,rfl⟩;have:=kE s cells Y
   rwa [oR]at this
  .rw[R j y]at h;exact .inl ⟨b',h,rfl,by rw[oR],id,hl false j _ ⟨⟨_,h⟩,rfl⟩⟩
theorem Mem.aue{al}(m:Mem V U0 L B A pb rw w){i:Nat}{F:DB}{cells:List DV}{cs:List Value}(R:al i=true)(hi:pb[i]?=some (some F))(hc:hL (env U0 B A pb rw w) cells cs)
 (hr:w'.os=w.os/\w'.tape=w.tape/\w'.output=w.output/\w.heap.size<=w'.heap.size) (X:∀b,b<w.heap.size->b≠B i->w'.heap[b]?=w.heap[b]?) (Y:w'.heap[B i]?=some (.cells cs.toArray F.ty (0,0))):
 Mem V U0 L B A (pb.set i (some ⟨F.ty,cells,true⟩)) rw w'/\Sub Iq (env U0 B A pb rw w) (env U0 B A (pb.set i (some ⟨F.ty,cells,true⟩)) rw w')/\Ext al B A pb rw w B A (pb.set i (some ⟨F.ty,cells,true⟩)) rw w':=by
 have G:iN B A pb rw false i (B i):=⟨⟨_,hi⟩,rfl⟩;have hlt:=(aC.1 hi).1
 have y:∀j,live (pb.set i (some ⟨F.ty,cells,true⟩)) j↔live pb j:=λj=>by
  simp only[live,bh];split
  .rename_i h;subst h;exact⟨λ_=>⟨_,hi⟩,λ_=>⟨_,rfl⟩⟩
  .rfl
 have hb:∀k j b,iN B A (pb.set i (some ⟨F.ty,cells,true⟩)) rw k j b->iN B A pb rw k j b:=by
  intro k j b h;cases k with
  |true=>exact h
  |false=>exact⟨(y j).1 h.1,h.2⟩
 have hl:∀k j b,iN B A pb rw k j b->(k=true\/j≠i)->w'.heap[b]?=w.heap[b]?:=λk j b h J=>X b (m.low k j b h).1 (by
  rintro rfl;have⟨h1,h2⟩:=m.inj _ _ _ _ _ h G;rcases J with H|H
  .subst h1;cases H
  .exact H h2)
 refine m.step Iq hr (λb K hn=>X b K (by rintro rfl;exact hn (.inl ⟨i,R,G⟩))) (λk j b h=>.inl (hb k j b h)) (λk j k' j' b h H=>m.inj _ _ _ _ _ (hb _ _ _ h) (hb _ _ _ H)) (λj h=>⟨(y j).2 h,rfl⟩) (λj e t l _ h=>⟨l,h,rfl,rfl⟩) (λj d _ h=>⟨⟨d,h,rfl⟩,rfl⟩) (λ_ j q e t l h=>by cases h) (λ_ j q d ad h=>by cases h) (λs j b' h=>?_) (λ_ j e t l h=>.inl ⟨h,rfl,λad W=>hl true j _ ⟨_,ad,h,by simp,W,rfl⟩ (.inl rfl)⟩) λ_ j d h=>.inl ⟨h,rfl,λad W=>hl true j _ ⟨_,ad,h,by simp,W,rfl⟩ (.inl rfl)⟩
 rw[bh]at h;split at h
 .rename_i C;subst C;simp only[ak]at h;subst h;refine .inr ⟨cs,Y,?_,rfl⟩;have:=kE s cells hc
  rwa [oR]at this
 .rename_i C;exact .inl ⟨b',h,rfl,by rw[oR],id,hl false j _ ⟨⟨_,h⟩,rfl⟩ (.inr (hZ C))⟩
theorem Mem.putRow{al:Nat->Bool}(m:Mem V U0 L B A pb rw w){j:Nat}{f:Nat->Option DV}{rw':List DR}{e:TypeId}{t:DT}{l:List t.den}{a:Option Addr}{c:Nat}(hj:rw'[j]?=some (.own e t l))(hi:∀i,i≠j->rw'[i]?=rw[i]?)
 (Y:∀i p,f i=some p->i=j/\p=.jD) (J:f j=none->∀e t l,rw[j]?=some (.own e t l)->∃l',rw'[j]?=some (.own e t l')/\l'.length=l.length/\(a,c)=A j) (F:f j=none->∀d,rw[j]?≠some (.obj d))
 (hr:w'.os=w.os/\w'.tape=w.tape/\w'.output=w.output/\w.heap.size<=w'.heap.size) (hk:∀b,b<w.heap.size->¬iN B A pb rw true j b->w'.heap[b]?=w.heap[b]?)
 (ha:∀x,a=some x->iN B A pb rw true j x.block\/(w.heap.size<=x.block/\x.block<w'.heap.size))
 (hw:∀U',lE (Us U0 B A pb rw) U' w w'->∃xs,w'.ownsRow 0 e t.size (.slice a l.length c) l.length xs/\t.hs U' w' l xs):
 Mem V U0 L B (Eo A j (a,c)) (oD f pb) rw' w'/\Sub f (env U0 B A pb rw w) (env U0 B (Eo A j (a,c)) (oD f pb) rw' w')/\Ext al B A pb rw w B (Eo A j (a,c)) (oD f pb) rw' w':=by
 have hb:∀k i b,iN B (Eo A j (a,c)) (oD f pb) rw' k i b->(¬(k=true/\i=j)/\iN B A pb rw k i b)\/(k=true/\i=j/\∃x,a=some x/\x.block=b):=by
  intro k i b h;cases k with
  |false=>exact .inl ⟨by simp,ov.1 h.1,h.2⟩
  |true=>
   have⟨r,ad,C,W,X,h4⟩:=h;by_cases y:i=j
   .subst y;rw[nC]at X;exact .inr ⟨rfl,rfl,ad,X,h4⟩
   .rw[yK _ _ y]at X;rw[hi i y]at C;exact .inl ⟨by simp[y],r,ad,C,W,X,h4⟩
 have hl:∀k i b,iN B A pb rw k i b->¬(k=true/\i=j)->w'.heap[b]?=w.heap[b]?:=λk i b h hne=>hk b (m.low k i b h).1 λhj'=>by have⟨C,W⟩:=m.inj _ _ _ _ _ h hj';exact hne ⟨C,W⟩
 refine m.step f hr (λb hb1 H=>hk b hb1 λh=>H (.inr ⟨j,h⟩)) (λk i b h=>?_) (λk i k' i' b h h'=>?_) (λi h=>⟨ov.2 h,rfl⟩) (λi e' t' l' K h=>?_) (λi d K h=>?_) (λ_ i q e' t' l' h _=>by obtain⟨_,rfl⟩:=Y i q h;simp only[DV.h]) (λ_ i q d ad h _ _=>by obtain⟨_,rfl⟩:=Y i q h;simp only[DV.h]) (λs i b' h=>?_) (λlt i e' t' l' h=>?_) λ_ i d h=>?_
 .rcases hb k i b h with⟨_,h⟩|⟨rfl,rfl,x,G,rfl⟩
  .exact .inl h
  .exact ha x G
 .have one:∀k i b,¬(k=true/\i=j)->iN B A pb rw k i b->∀x,a=some x->x.block=b->False:=λk i b H g x G e=>by
   rcases ha x G with C|⟨C,_⟩
   .rw[e]at C;exact H (m.inj _ _ _ _ _ g C)
   .have:=(m.low k i b g).1;omega
  rcases hb k i b h with⟨H,g⟩|⟨rfl,rfl,x,G,e⟩
  .rcases hb k' i' b h' with⟨_,g'⟩|⟨rfl,rfl,x,G,e⟩
   .exact m.inj _ _ _ _ _ g g'
   .exact(one _ _ _ H g x G e).elim
  .rcases hb k' i' _ h' with⟨H,g⟩|⟨rfl,rfl,_⟩
   .exact(one _ _ _ H g x G e).elim
   .exact⟨rfl,rfl⟩
 .by_cases y:i=j
  .subst y;have⟨l2,C,W,X⟩:=J K e' t' l' h;exact⟨l2,C,W,by rw[nC,X]⟩
  .exact⟨l',by rw[hi i y];exact h,rfl,yK _ _ y⟩
 .by_cases y:i=j
  .subst y;exact absurd h (F K d)
  .exact⟨⟨d,by rw[hi i y];exact h,rfl⟩,yK _ _ y⟩
 .obtain⟨b0,h0,rfl⟩:=tQ.1 h;exact .inl ⟨b0,h0,rfl,rfl,id,hl false i _ ⟨⟨_,h0⟩,rfl⟩ (by simp)⟩
 .by_cases y:i=j
  .subst y;rw[hj]at h;simp only[ak,DR.own.injEq]at h;obtain⟨rfl,rfl,h⟩:=h;cases h;have⟨xs,C,W⟩:=hw _ lt;exact .inr ⟨xs,by rw[nC];exact C,W⟩
  .rw[hi i y]at h;exact .inl ⟨h,yK _ _ y,λad R=>hl true i _ ⟨_,ad,h,by simp,R,rfl⟩ (by simp[y])⟩
 .have y:i≠j:=by rintro rfl;rw[hj]at h;cases h
  rw[hi i y]at h;exact .inl ⟨h,yK _ _ y,λad R=>hl true i _ ⟨_,ad,h,by simp,R,rfl⟩ (by simp[y])⟩
theorem aqb{U}{e}{k}{a}{n c}{xs}(h:w.ownsRow 0 e k (.slice a n c) n xs)(H:∀x,a=some x->¬U x.block):At U w a 0 xs:=by
 intro j u y;rcases h.2 with⟨_,rfl⟩|⟨g,cap,F,C,hb,G,h1,R,K,J⟩
 .have:=h.1;simp at this;subst this;simp at y
 .obtain⟨rfl,_,rfl⟩:=C;refine⟨_,rfl,H _ rfl,(cy.1 G).1,?_⟩;rw[<-J,cD]at y;split at y
  .rw[cq,tg,cq];have:=CB w g j F e (0,0) G;rw[this];simpa using y
  .cases y
theorem TL{e}{k}{a}{n c}{xs}(h:w.ownsRow 0 e k (.slice a n c) n xs):n<=c/\c<=maxLen:=by
 rcases h.2 with⟨h1,rfl⟩|⟨g,cap,C,j,hb,F,h1,y,H,G⟩
 .obtain⟨_,_,rfl⟩:=h1;exact⟨au _,br _⟩
 .obtain⟨_,_,rfl⟩:=j;exact⟨h1,y⟩
theorem Mem.afT(m:Mem V U0 L B A pb rw w){j:Nat}{e:TypeId}{t:DT}{l:List t.den}(y:rw[j]?=some (.own e t l)){U':Nat->Prop}(hs:∀b,U' b->Us U0 B A pb rw b)(J:∀b,U' b->¬iN B A pb rw true j b):
 (DT.slc t).h U' w l [.slice (A j).1 l.length (A j).2]:=by
 have⟨xs,F,K⟩:=m.row j e t l y;have C:=TL F;refine DT.atX (DT.lR ⟨λ_ _ _=>rfl,au _,λb _ h=>hs b h⟩ K) C.1 C.2 (aqb F λx G H=>J _ H ⟨_,x,y,by simp,G,rfl⟩)
theorem Mem.freeze{al:Nat->Bool}(m:Mem V U0 L B A pb rw w){j:Nat}{e:TypeId}{t:DT}{l:List t.den}(W:rw[j]?=some (.own e t l)):
 Mem V U0 L B A (oD (kc j (.sl t l)) pb) (rw.set j .dead) w/\Sub (kc j (.sl t l)) (env U0 B A pb rw w) (env U0 B A (oD (kc j (.sl t l)) pb) (rw.set j .dead) w)/\Ext al B A pb rw w B A (oD (kc j (.sl t l)) pb) (rw.set j .dead) w:=by
 have C:∀i,i≠j->(rw.set j DR.dead)[i]?=rw[i]?:=λi h=>by rw[bh,ag (hZ h)]
 have H:(rw.set j DR.dead)[j]?=some .dead:=by rw[bh,ah rfl,ah (aC.1 W).1]
 have hb:∀k i b,iN B A (oD (kc j (.sl t l)) pb) (rw.set j .dead) k i b->iN B A pb rw k i b/\¬(k=true/\i=j):=by
  intro k i b h;cases k with
  |false=>exact⟨⟨ov.1 h.1,h.2⟩,by simp⟩
  |true=>
   have⟨r,ad,F,R,h3,h4⟩:=h;have y:i≠j:=by rintro rfl;rw[H]at F;simp at F;exact R F.symm
   rw[C i y]at F;exact⟨⟨r,ad,F,R,h3,h4⟩,by simp[y]⟩
 have F:∀i,kc j (.sl t l) i=none->i≠j:=by rintro i h rfl;simp[kc]at h
 have R:∀i q,kc j (.sl t l) i=some q->i=j/\q=.sl t l:=by
  intro i q h;unfold kc at h;split at h
  .rename_i hb;simp at h;exact⟨aF hb,h.symm⟩
  .cases h
 refine m.step _ ⟨rfl,rfl,rfl,au _⟩ (λ_ _ _=>rfl) (λk i b h=>.inl (hb k i b h).1) (λk i k' X b h h'=>m.inj _ _ _ _ _ (hb k i b h).1 (hb k' X b h').1) (λi h=>⟨ov.2 h,rfl⟩) (λi e' Y l' J h=>⟨l',(C i (F i J)).trans h,rfl,rfl⟩) (λi d J h=>⟨⟨d,(C i (F i J)).trans h,rfl⟩,rfl⟩) (λlt i q e' Y l' J h=>?_) (λ_ i q d ad J h _=>by obtain⟨rfl,_⟩:=R i q J;rw[W]at h;cases h) (λs i b' h=>?_) (λ_ i e' Y l' h=>?_) λ_ i d h=>?_
 .obtain⟨rfl,rfl⟩:=R i q J;rw[W]at h;simp only[ak,DR.own.injEq]at h;obtain⟨rfl,rfl,h⟩:=h;cases h;refine m.afT W (λb G=>?_) λb G K=>?_
  .exact G.imp id λ⟨k,i,h⟩=>⟨k,i,(hb k i b h).1⟩
  .rcases G with G|⟨k,X,G⟩
   .have:=m.u0 b G;rcases(m.low _ _ _ K).2 with h|h
    .omega
    .exact this.2 h
   .have⟨g1,g2⟩:=hb k X b G;exact g2 (m.inj _ _ _ _ _ g1 K)
 .obtain⟨b0,h0,rfl⟩:=tQ.1 h;exact .inl ⟨b0,h0,rfl,rfl,id,rfl⟩
 .have y:i≠j:=by rintro rfl;rw[H]at h;cases h
  exact .inl ⟨(C i y).symm.trans h,rfl,λ_ _=>rfl⟩
 .have y:i≠j:=by rintro rfl;rw[H]at h;cases h
  exact .inl ⟨(C i y).symm.trans h,rfl,λ_ _=>rfl⟩
theorem Mem.afU(m:Mem V U0 L B A pb rw w){j:Nat}{ks:List KU}{ad:Addr}(G:rw[j]?=some (.obj (.set ks)))(H:(A j).1=some ad){U':Nat->Prop}(K:∀b,U' b->¬iN B A pb rw true j b):
 DT.set.h U' w ks [(OD.set ks).at ad]:=by
 obtain⟨b,o,F,W,es,y,rfl,R⟩:=m.IZ j _ G;rw[H]at F;simp only[ak]at F;subst F;have C:iN B A pb rw true j b:=⟨_,_,G,by simp,H,rfl⟩;exact⟨b,es,y,rfl,λJ=>K b J C,(m.low _ _ _ C).1,W,R⟩
theorem Mem.aiv{al:Nat->Bool}(m:Mem V U0 L B A pb rw w){j:Nat}{ks:List KU}(W:rw[j]?=some (.obj (.set ks))):
 Mem V U0 L B A (oD (kc j (.set ks)) pb) (rw.set j .dead) w/\Sub (kc j (.set ks)) (env U0 B A pb rw w) (env U0 B A (oD (kc j (.set ks)) pb) (rw.set j .dead) w)/\Ext al B A pb rw w B A (oD (kc j (.set ks)) pb) (rw.set j .dead) w:=by
 have C:∀i,i≠j->(rw.set j DR.dead)[i]?=rw[i]?:=λi h=>by rw[bh,ag (hZ h)]
 have G:(rw.set j DR.dead)[j]?=some .dead:=by rw[bh,ah rfl,ah (aC.1 W).1]
 have hb:∀k i b,iN B A (oD (kc j (.set ks)) pb) (rw.set j .dead) k i b->iN B A pb rw k i b/\¬(k=true/\i=j):=by
  intro k i b h;cases k with
  |false=>exact⟨⟨ov.1 h.1,h.2⟩,by simp⟩
  |true=>
   have⟨r,ad,F,R,h3,h4⟩:=h;have y:i≠j:=by rintro rfl;rw[G]at F;simp at F;exact R F.symm
   rw[C i y]at F;exact⟨⟨r,ad,F,R,h3,h4⟩,by simp[y]⟩
 have F:∀i,kc j (.set ks) i=none->i≠j:=by rintro i h rfl;simp[kc]at h
 have R:∀i q,kc j (.set ks) i=some q->i=j/\q=.set ks:=by
  intro i q h;unfold kc at h;split at h
  .rename_i hb;simp at h;exact⟨aF hb,h.symm⟩
  .cases h
 refine m.step _ ⟨rfl,rfl,rfl,au _⟩ (λ_ _ _=>rfl) (λk i b h=>.inl (hb k i b h).1) (λk i k' X b h h'=>m.inj _ _ _ _ _ (hb k i b h).1 (hb k' X b h').1) (λi h=>⟨ov.2 h,rfl⟩) (λi e' Y l' H h=>⟨l',(C i (F i H)).trans h,rfl,rfl⟩) (λi d H h=>⟨⟨d,(C i (F i H)).trans h,rfl⟩,rfl⟩) (λ_ i q e' Y l' H h=>by obtain⟨rfl,_⟩:=R i q H;rw[W]at h;cases h) (λlt i q d ad H h ha=>?_) (λs i b' h=>?_) (λ_ i e' Y l' h=>?_) λ_ i d h=>?_
 .obtain⟨rfl,rfl⟩:=R i q H;rw[W]at h;simp only[ak,DR.obj.injEq]at h;subst h;refine m.afU W ha λb J K=>?_
  rcases J with J|⟨k,X,J⟩
  .have:=m.u0 b J;rcases(m.low _ _ _ K).2 with h|h
   .omega
   .exact this.2 h
  .have⟨g1,g2⟩:=hb k X b J;exact g2 (m.inj _ _ _ _ _ g1 K)
 .obtain⟨b0,h0,rfl⟩:=tQ.1 h;exact .inl ⟨b0,h0,rfl,rfl,id,rfl⟩
 .have y:i≠j:=by rintro rfl;rw[G]at h;cases h
  exact .inl ⟨(C i y).symm.trans h,rfl,λ_ _=>rfl⟩
 .have y:i≠j:=by rintro rfl;rw[G]at h;cases h
  exact .inl ⟨(C i y).symm.trans h,rfl,λ_ _=>rfl⟩
end
section
variable {β : Type} {q : β}
theorem wT{α}{o:Option α}{K:α->Option β}(h:o1 o K=some q):∃x,o=some x/\K x=some q:=by
 cases o with
 |none=>cases h
 |some x=>exact⟨x,rfl,h⟩
theorem xV{c}{K N}(h:(bif c then K else N)=some q):(c=true/\K=some q)\/(c=false/\N=some q):=by cases c<;>simp_all
theorem axU{b}{K}(h:aj.wg b K=some q):b≠0/\K=some q:=by
 change nzF b K=_ at h;unfold nzF at h;rcases xV h with⟨_,h⟩|⟨h1,h⟩
 .cases h
 .exact⟨by simpa using h1,h⟩
theorem aqc{b}{K}(h:aj.jb b K=some q):0<=b/\K=some q:=by
 change nnF b K=_ at h;unfold nnF at h;rcases xV h with⟨h1,h⟩|⟨_,h⟩
 .exact⟨by simpa using h1,h⟩
 .cases h
theorem aws{n}{K}(h:aj.adt n K=some q):n<=9223372036854775807/\K=some q:=by
 change atV n K=_ at h;unfold atV at h;rcases xV h with⟨h1,h⟩|⟨_,h⟩
 .exact⟨by simpa using h1,h⟩
 .cases h
theorem aml{i}{n}{K}(h:aj.j5 i n K=some q):0<=i/\i<=(n:Int)/\K i.toNat=some q:=by
 change ads i n K=_ at h;unfold ads at h;rcases xV h with⟨h1,h⟩|⟨_,h⟩
 .simp at h1;exact⟨h1.1,h1.2,h⟩
 .cases h
theorem as0{α}{l}{i:Int}{K:α->Option β}(h:aj.aH l i K=some q):0<=i/\∃x,l[i.toNat]?=some x/\K x=some q:=by
 change aah l i K=_ at h;unfold aah at h;split at h
 .rename_i x j;rcases xV h with⟨h1,h⟩|⟨_,h⟩
  .exact⟨by simpa using h1,x,j,h⟩
  .cases h
 .cases h
theorem as1{α}{l}{i:Nat}{K:α->Option β}(h:aj.cr l i K=some q):∃x,l[i]?=some x/\K x=some q:=by
 change alI l i K=_ at h;unfold alI at h;split at h
 .rename_i x j;exact⟨x,j,h⟩
 .cases h
theorem TM{n b}{K}(h:aj.bc n b K=some q):n<=281474976710656/\n*b<=140737488355328/\K=some q:=by
 change aai n b K=_ at h;unfold aai at h;rcases xV h with⟨h1,h⟩|⟨_,h⟩
 .simp at h1;exact⟨h1.1,h1.2,h⟩
 .cases h
theorem amm{c}{a b}(h:aj.af c a b=some q):(c=true/\a=some q)\/(c=false/\b=some q):=xV h
theorem ad0{α}{a:Option α}{K:α->Option β}(h:aj.ae a K=some q):∃x,a=some x/\K x=some q:=Option.bind_eq_some_iff.1 h
theorem JW[qT β]{a b}(h:aj.gP a b=some q):a=some q/\b=some q:=by
 change FF a b=_ at h;unfold FF at h;split at h
 .rcases xV h with⟨h1,j⟩|⟨_,j⟩
  .rw[(qT.iff _ _).1 h1]at j ⊢;exact⟨j,j⟩
  .cases j
 .cases h
end
section
variable {P : Program} {T : List TI} {E : Env} {ts : List DV} {a : Act} {β : Type} {q : β}
theorem Mp:∀{ts:List DV} {vs:List Value} {t:Nat} {p:DV},gtV ts t=some p->hL E ts vs->p.h E ((vs[t]?).getD undef)
 |[],vs,t,p,h,hv=>by simp only[hL]at hv;subst hv;simp[gtV]at h;subst h;simp[DV.h]
 |x::ts,vs,0,p,h,hv=>by
  simp only[hL]at hv;obtain⟨v,j,rfl,C,_⟩:=hv;simp only[gtV]at h;split at h
  .cases h
  .simp only[ak]at h;subst h;simpa using C
 |x::ts,vs,t+1,p,h,hv=>by simp only[hL]at hv;obtain⟨v,j,rfl,_,y⟩:=hv;simp only[gtV]at h;simpa using Mp h y
theorem Xf(c):(RC c).h E c:=by unfold RC;split<;>simp only[DV.h]
theorem gH{o}{p}(h:vS ts o=some p)(hv:hL E ts a.tmps.toList):p.h E (a.eval o):=by
 cases o with
 |tmp t=>have:=Mp h hv;simpa[Act.eval]using this
 |const c=>simp only[vS,ak]at h;subst h;exact Xf c
 |global g=>simp only[vS,ak]at h;subst h;rfl
 |func f=>
  simp only[vS]at h;split at h
  .cases h
  .rename_i hb;simp only[ak]at h;subst h;exact⟨#[],by unfold fnV;rw[hb];rfl,by simp[hL]⟩
theorem OA:∀{os:List Operand} {ps:List DV},opsV ts os=some ps->hL E ts a.tmps.toList->hL E ps (os.map a.eval)
 |[],ps,h,_=>by simp[opsV]at h;subst h;simp[hL]
 |o::os,ps,h,hv=>by
  simp only[opsV]at h;split at h
  .rename_i x y;split at h
   .rename_i xs j;simp only[ak]at h;subst h;exact⟨_,_,rfl,gH y hv,OA j hv⟩
   .cases h
  .cases h
theorem amn:∀{T:List TI} {t:Nat} {j:TI},Mk T t=some j->T[t]?=some j/\j.ok=true
 |[],t,j,h=>by simp[Mk]at h
 |x::T,0,j,h=>by
  simp only[Mk]at h;split at h
  .rename_i ho;simp only[ak]at h;subst h;exact⟨rfl,ho⟩
  .cases h
 |x::T,t+1,j,h=>by simp only[Mk]at h;simpa using amn h
theorem sk(y:dL P T){t}{j}(h:Mk T t=some j):ou P t j:=let ⟨F,C⟩:=amn h;y.facts F C
theorem awt(C:dL P T){t k e}(h:BY T t=some (.map k e)):afF P k e:=by
 unfold BY at h;split at h
 .rename_i y j;have⟨G,F⟩:=amn j;exact C.keys y (ir G) F k e (cK h)
 .cases h
theorem pw(C:dL P T){t}{td}(h:BY T t=some td):∃j,ou P t j/\j.td=td:=by
 unfold BY at h;split at h
 .rename_i j y;simp only[ak]at h;exact⟨j,sk C y,h⟩
 .cases h
theorem Ze:∀{j:List (Nat×Nat×Nat)} {i:Nat} {f:Nat×Nat×Nat},aal j i=some f->j[i]?=some f/\f.2.2≠0
 |[],i,f,h=>by simp[aal]at h
 |(off,ty,y)::j,0,f,h=>by
  simp only[aal]at h;split at h
  .cases h
  .simp only[ak]at h;subst h;exact⟨rfl,by simp⟩
 |_::j,i+1,f,h=>by simp only[aal]at h;simpa using Ze h
theorem amo:∀{C:List (Nat×Nat×Nat)},apO C=true->∀f∈C,f.2.2≠0
 |[],_=>by simp
 |(x,y,F)::C,h=>by
  simp only[apO]at h;split at h
  .cases h
  .intro f j;rcases aB.1 j with rfl|j
   .simp
   .exact amo h f j
theorem afV{p}(h:afJ p=true){v}(hv:p.h E v):v.cells = #[v]/\Tn v=true:=by
 cases p<;>simp only[afJ]at h<;>try (cases h;done)
 all_goals simp only[DV.h]at hv
 case v y=>subst hv;cases v<;>simp_all [Tn,Value.cells]
 case sl t l=>have⟨a,c,e,_⟩:=hv;simp at e;subst e;exact⟨rfl,rfl⟩
 case set ks=>have⟨b,es,C,e,_⟩:=hv;simp at e;subst e;exact⟨rfl,rfl⟩
 case fn f cs=>obtain⟨vs,rfl,_⟩:=hv;unfold fnV;cases Nat.ble 1000000 f<;>exact⟨rfl,rfl⟩
 case row j=>obtain⟨_,_,_,_,rfl⟩:=hv;exact⟨rfl,rfl⟩
 case el t x off=>obtain⟨_,_,rfl,_⟩:=hv;exact⟨rfl,rfl⟩
 case re j i off=>obtain⟨_,_,_,_,_,_,_,rfl⟩:=hv;exact⟨rfl,rfl⟩
 case rt j i=>obtain⟨_,_,_,_,_,rfl⟩:=hv;exact⟨rfl,rfl⟩
 case ob j=>obtain⟨d,_,_,_,rfl⟩:=hv;cases d<;>exact⟨rfl,rfl⟩
 case own i off=>obtain⟨_,rfl⟩:=hv;exact⟨rfl,rfl⟩
 case fns xs=>obtain⟨_,_,_,rfl,_⟩:=hv;exact⟨rfl,rfl⟩
 case fp xs k=>obtain⟨_,_,rfl,_⟩:=hv;exact⟨rfl,rfl⟩
 case ra j=>obtain⟨_,_,_,_,_,_,_,rfl⟩:=hv;exact⟨rfl,rfl⟩
 case rs j i=>obtain⟨_,_,_,_,_,_,_,rfl⟩:=hv;exact⟨rfl,rfl⟩
 case cs t l=>obtain⟨_,_,rfl⟩:=hv;exact⟨rfl,rfl⟩
 all_goals (subst hv;exact⟨rfl,rfl⟩)
theorem TN{p}{cs}(h:Tu p=some cs){v}(hv:p.h E v):hL E cs v.cells.toList:=by
 unfold Tu at h;split at h
 .simp only[ak]at h;subst h;obtain⟨vs,rfl,hv⟩:=hv;exact hv
 .split at h
  .rename_i j;simp only[ak]at h;subst h;rw[(afV j hv).1];exact⟨v,[],rfl,hv,rfl⟩
  .cases h
theorem Zh:∀{ps:List DV} {vs:List Value},afK ps=true->hL E ps vs->∀v∈vs,Tn v=true
 |[],vs,_,hv=>by simp only[hL]at hv;subst hv;simp
 |p::ps,vs,h,hv=>by
  simp only[afK]at h;split at h
  .rename_i G;obtain⟨v,y,rfl,F,C⟩:=hv;intro u j;rcases aB.1 j with rfl|j
   .exact(afV G F).2
   .exact Zh h C u j
  .cases h
theorem G8:∀(xs:List Value),hL E (CT xs) xs
 |[]=>by simp[CT,hL]
 |x::xs=>by simp only[CT,hL];exact⟨x,xs,rfl,Xf x,G8 xs⟩
theorem TO:∀{ps:List (Nat×Operand)} {xs:List (Nat×DV)},Oq ts ps=some xs->hL E ts a.tmps.toList->hL E (xs.map (·.2)) (ps.map λp=>a.eval p.2)/\xs.map (·.1)=ps.map (·.1)
 |[],xs,h,_=>by simp[Oq]at h;subst h;simp[hL]
 |(i,o)::ps,xs,h,hv=>by
  simp only[Oq]at h;split at h
  .rename_i x y;split at h
   .rename_i G j;simp only[ak]at h;subst h;have⟨F,C⟩:=TO j hv;refine⟨?_,by simp[C]⟩;exact⟨_,_,rfl,gH y hv,F⟩
   .cases h
  .cases h
theorem amp{o}{x}(h:alK ts o=some x)(hv:hL E ts a.tmps.toList):(o=none/\x=none)\/∃j p,o=some j/\x=some p/\p.h E (a.eval j):=by
 cases o with
 |none=>simp[alK]at h;exact .inl ⟨rfl,h.symm⟩
 |some o=>
  simp only[alK]at h;split at h
  .rename_i p y;simp only[ak]at h;subst h;exact .inr ⟨o,p,rfl,rfl,gH y hv⟩
  .cases h
theorem TP{x}{d n}{K}(h:adu aj x d n K=some q):∃m,K m=some q/\((x=none/\m=d)\/∃k i,x=some (.int k i)/\0<=i/\i<=(n:Int)/\m=i.toNat):=by
 unfold adu at h;split at h
 .exact⟨d,h,.inl ⟨rfl,rfl⟩⟩
 .have⟨C,y,j⟩:=aml h;exact⟨_,j,.inr ⟨_,_,rfl,C,y,rfl⟩⟩
 .cases h
theorem afW{l}{x y}{r}(h:afM l x y=some r){u v}(C:x.h E u)(hv:y.h E v):∀ls xs j,ul (l::ls) (u::xs) (v::j)=(ul ls xs j).map (r&&·):=by
 unfold afM at h;split at h
 .split at h
  .rename_i F;have:=Tc F;subst this;simp only[ak]at h;subst h;subst C;subst hv;intro ls xs j;simp[ul]
  .cases h
 all_goals first
  |cases h;done
  |(simp only[ak]at h;subst h;subst C;subst hv;intro ls xs j;simp[ul])
theorem afX:∀{ls:List LK} {xs C:List DV} {r:Bool},W9 ls xs C=some r->∀{us vs:List Value},hL E xs us->hL E C vs->ul ls us vs=some r:=by
 intro ls;induction ls with
 |nil=>intro xs C r h;simp[W9]at h
 |cons l ls R=>
  intro xs C r h us vs j hv;unfold W9 at h;split at h
  .rename_i y;injection y with y K;subst y;subst K;obtain⟨u,_,rfl,j,rfl⟩:=j;obtain⟨v,_,rfl,hv,rfl⟩:=hv;rw[afW h j hv];simp[ul]
  .rename_i y;injection y with y K;subst y;subst K;split at h
   .rename_i W J;split at h
    .rename_i V H;simp only[ak]at h;subst h;obtain⟨u,us,rfl,j,G⟩:=j;obtain⟨v,vs,rfl,hv,F⟩:=hv;rw[afW J j hv,R H G F];simp
    .cases h
   .cases h
  .cases h
theorem aat (X : dL P T) {neg} {t} {p1 p2 r} (h : apP T neg t p1 p2 = some r) {u v} (C : p1.h E u) (hv : p2.h E v) (x y) :
    ∃ z, r.h E z /\ ∀ w : World, (do eqGuard (if neg then .neq else .eql) t x y u v; binOp (if neg then .neq else .eql) t u v).run P w = .ok z w := by
  unfold apP at h
  split at h
  case h_1 =>
    simp only [ak] at h; subst h
    simp only [DV.h] at C hv ⊢; subst C; subst hv
    exact ⟨_, rfl, λw => adq neg x y _ _ w⟩
  case h_2 =>
    split at h
    · rename_i Y R
      have F := sk X R
      split at h
      · rename_i ls fs K j
        split at h
        · rename_i r0 J
          simp only [ak] at h; subst h
          simp only [DV.h] at C hv ⊢
          obtain ⟨us, rfl, C⟩ := C
          obtain ⟨vs, rfl, hv⟩ := hv
          have W := afX J C hv
          obtain ⟨d, i, hd, hi, h1, h2, h3, h4, h5, G⟩ := F.ex
          refine ⟨_, rfl, λw => ?_⟩
          rw [K] at G
          split at G
          · cases G
          · rename_i V
            obtain ⟨fl, H, _⟩ := Iu F j
            have := Oj (P := P) 8 t ls G.symm 10000 (by omega) _ _ _ W w
            simp only [yZ, H] at this
            simp only [aR, run_eqGuard_agg (hm := by simpa using V), bq]
            cases neg
            · simp only [fv, pn, run_eql_struct, this, bq, cX]
            · simp only [sd, run_neq_struct, this, bq, cX]
        · cases h
      · rename_i ls n e K j
        split at h
        · rename_i r0 J
          simp only [ak] at h; subst h
          simp only [DV.h] at C hv ⊢
          obtain ⟨us, rfl, C⟩ := C
          obtain ⟨vs, rfl, hv⟩ := hv
          have W := afX J C hv
          obtain ⟨d, i, hd, hi, h1, h2, h3, h4, h5, G⟩ := F.ex
          refine ⟨_, rfl, λw => ?_⟩
          rw [K] at G
          split at G
          · cases G
          · rename_i V
            have H := aaf F j
            have := Oj (P := P) 8 t ls G.symm 10000 (by omega) _ _ _ W w
            simp only [yZ, H] at this
            simp only [aR, run_eqGuard_agg (hm := by simpa using V), bq]
            cases neg
            · simp only [fv, pn, run_eql_struct, this, bq, cX]
            · simp only [sd, run_neq_struct, this, bq, cX]
        · cases h
      · cases h
    · cases h
  all_goals first
    | (cases h; done)
    | (split at h
       · rename_i j
         obtain ⟨Y, F, j⟩ := pw X j
         simp only [ak] at h; subst h
         simp only [DV.h] at C hv ⊢
         first
           | (subst C; subst hv; exact ⟨_, rfl, λw => aae neg x y _ _ w (apK F j)⟩)
           | (subst C; subst hv; exact ⟨_, rfl, λw => Tm neg x y none 0 0 w (q8 F j)⟩)
           | (subst C; subst hv; exact ⟨_, rfl, λw => by cases neg <;> first | exact ET false x y none w (Y4 F j) | exact ET true x y none w (Y4 F j)⟩)
           | (obtain ⟨_, rfl⟩ := C; subst hv; exact ⟨_, rfl, λw => by cases neg <;> first | exact ET false x y (some _) w (Y4 F j) | exact ET true x y (some _) w (Y4 F j)⟩)
       · cases h)
theorem amq(H:dL P T){op}{t}{p1 p2}{ret}(h:atY aj T op t p1 p2 ret=some q){u v}(j:p1.h E u)(hv:p2.h E v)(x y):
 ∃r z,ret r=some q/\r.h E z/\∀w:World,(do eqGuard op t x y u v;binOp op t u v).run P w=.ok z w:=by
 unfold atY at h;split at h
 .have⟨C,h⟩:=aqc h;subst j;subst hv;exact⟨_,_,h,by simp only[DV.h];rfl,λw=>by simp[Bx,binOp_shl,Op.shift,Int.not_lt.2 C]⟩
 .have⟨C,h⟩:=aqc h;subst j;subst hv;exact⟨_,_,h,by simp only[DV.h];rfl,λw=>by simp[Bx,binOp_shr,Op.shift,Int.not_lt.2 C]⟩
 .split at h
  .rename_i J;have:=Tc J;subst this;subst j;subst hv;unfold afL at h;split at h
   all_goals first
    |(cases h;done)
    |exact⟨_,_,h,by simp only[DV.h];rfl,λw=>by simp[Bx,binOp,Op.intArith,Op.intBits,Op.intCmp,bits]⟩
    |(have⟨C,h⟩:=axU h;exact⟨_,_,h,by simp only[DV.h];rfl,λw=>by simp[Bx,binOp,Op.intDiv,C]⟩)
  .cases h
 .have⟨C,h⟩:=aws h;subst j;subst hv;refine⟨_,_,h,by simp only[DV.h];rfl,λw=>?_⟩;simp[eqGuard_at_string,binOp,Op.stringOp];omega
 .split at h
  .rename_i r F;have⟨z,C,G⟩:=aat H F j hv x y;exact⟨r,z,h,C,G⟩
  .cases h
 .split at h
  .rename_i r F;have⟨z,C,G⟩:=aat H F j hv x y;exact⟨r,z,h,C,G⟩
  .cases h
 .cases h
end
end Go.Vc