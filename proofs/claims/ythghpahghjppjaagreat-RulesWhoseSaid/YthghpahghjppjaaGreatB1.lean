import Derived.WalkKit
import Derived.OrdersHeld
import Derived.WalkSpells
import Derived.Deep.LoopGhost
import Derived.ChangeKeysEq
import Derived.Laws.AppendOwn
import Derived.Maps.RangeRun
import Derived.MapKept
namespace Go
abbrev ag:=@if_neg
abbrev ah:=@if_pos
abbrev ak:=@Option.some.injEq
abbrev an:=@decide_eq_false
abbrev ap:=@List.length_append
abbrev aq:=@decide_eq_true
abbrev au:=@Nat.le_refl
abbrev aw:=@List.getElem?_eq_getElem
abbrev ax:=@List.take_succ_eq_append_getElem
abbrev ay:=@List.getElem?_eq_some_iff
abbrev aB:=@Bool.and_eq_true
abbrev aC:=@List.mem_singleton
abbrev aE:=@Nat.eq_of_beq_eq_true
abbrev aF:=@List.mem_cons
abbrev aG:=@List.getElem_mem
abbrev aJ:=@List.length_cons
abbrev aM:=@List.mem_filter
abbrev aN:=@List.mem_map
abbrev aP:=@Go.Sem.run_bind
abbrev aT:=@List.mem_append
abbrev aU:=@Int.toNat_natCast
abbrev aX:=@List.length_take
abbrev bb:=@decide_eq_true_eq
abbrev bc:=@List.getElem?_set
abbrev bh:=@List.length_map
abbrev bj:=@Go.run_underlying
abbrev bn:=@Go.Result.andThen_ok
abbrev bq:=@List.append_assoc
abbrev br:=@List.take_length
abbrev bu:=@List.filter_cons
abbrev bA:=@congrArg
abbrev bB:=@List.getElem?_append_left
abbrev bD:=@List.pairwise_cons
abbrev bE:=@Nat.zero_le
abbrev bG:=@Go.Sem.run_pure
abbrev bH:=@List.getElem?_eq_none
abbrev bI:=@Go.IntWalk.i64_in
abbrev bK:=@List.map_cons
abbrev bM:=@of_decide_eq_true
abbrev bN:=@List.pairwise_iff_getElem
abbrev bQ:=@Nat.le_of_ble_eq_true
abbrev bT:=@List.mem_of_find?_eq_some
abbrev bV:=@Prod.mk.injEq
abbrev bW:=@Go.IntKind.wrap_u64
abbrev cg:=@Nat.zero_add
abbrev ck:=@List.drop_eq_getElem_cons
abbrev cp:=@Nat.le_trans
abbrev cq:=@Array.getElem?_eq_some_iff
abbrev ct:=@List.getElem?_take
abbrev cw:=@List.flatMap_cons
abbrev cy:=@List.append_nil
abbrev cz:=@List.map_append
abbrev cF:=@List.getElem?_drop
abbrev cJ:=@Option.some.inj
abbrev cP:=@List.mem_cons_of_mem
abbrev cQ:=@Classical.byContradiction
abbrev cS:=@Int.eq_ofNat_of_zero_le
abbrev cV:=@Go.World.cell?_setCells_out
abbrev cW:=@List.length_filter_le
abbrev dh:=@Go.Value.slice.injEq
abbrev dk:=@List.length_drop
abbrev dp:=@List.mem_map_of_mem
abbrev dt:=@Array.getElem?_toList
abbrev dx:=@List.getElem?_take_of_lt
abbrev dz:=@List.getElem?_append_right
abbrev dA:=@List.nil_append
abbrev dJ:=@List.mem_iff_getElem
abbrev dK:=@List.length_eq_zero_iff
abbrev dL:=@Nat.mul_le_mul_right
abbrev dM:=@List.pairwise_append
abbrev dN:=@List.Pairwise.sublist
abbrev dO:=@List.cons.injEq
abbrev dS:=@Nat.lt_or_ge
abbrev dV:=@List.not_mem_nil
abbrev dW:=@Go.IntKind.wrap_i64
abbrev eF:=@decide_eq_decide
abbrev eG:=@List.mem_flatMap
abbrev eH:=@List.mem_cons_self
abbrev eJ:=@List.length_nil
abbrev eK:=@Option.map_eq_some_iff
abbrev eM:=@List.findIdx?_eq_some_iff_getElem
abbrev eO:=@Int.fdiv_eq_ediv_of_nonneg
abbrev eQ:=@List.getD_eq_getElem?_getD
abbrev eY:=@List.ext_getElem?
abbrev e8:=@Nat.lt_of_lt_of_le
abbrev fb:=@Bool.false_eq_true
abbrev fh:=@List.mem_of_mem_take
abbrev fk:=@List.size_toArray
abbrev fu:=@List.filter_append
abbrev fv:=@Nat.eq_zero_or_pos
abbrev fw:=@List.setIfInBounds_toArray
abbrev fx:=@List.eq_nil_of_length_eq_zero
abbrev fy:=@List.getElem?_cons_succ
abbrev fC:=@Array.length_toList
abbrev fG:=@List.length_set
abbrev fH:=@List.drop_length
abbrev fI:=@Bool.or_eq_true
abbrev fJ:=@Int.ediv_nonneg
abbrev fK:=@Option.map_some
abbrev fP:=@beq_iff_eq
abbrev fQ:=@Array.ext'
abbrev fZ:=@List.filter_sublist
abbrev ga:=@List.length_pos_iff
abbrev gb:=@List.nodup_cons
abbrev gq:=@Go.World.cell?_setCells_in
abbrev gy:=@Int.mul_le_mul_of_nonneg_left
abbrev gz:=@List.findIdx?_eq_none_iff
abbrev gC:=@Int.emod_lt_of_pos
abbrev gM:=@Option.getD_some
abbrev gN:=@List.sum_cons
abbrev gQ:=@Go.run_callFunc_extern
abbrev gS:=@Nat.ble_eq_true_of_le
abbrev gY:=@Nat.add_zero
abbrev hJ:=@List.map_map
abbrev hZ:=@Int.le_of_lt
abbrev ie:=@List.getElem?_cons_zero
abbrev im:=@Nat.add_mul
abbrev iq:=@Go.run_sliceBound
abbrev iE:=@Int.mul_comm
abbrev iF:=@Int.mul_le_mul_of_nonneg_right
abbrev iW:=@Array.size_append
abbrev iX:=@Int.ediv_lt_of_lt_mul
abbrev jc:=@Int.mul_nonneg
abbrev jd:=@Prod.ext
abbrev jf:=@Ne.symm
abbrev jg:=@Int.emod_nonneg
abbrev jr:=@List.any_eq_true
abbrev jt:=@List.mem_of_mem_drop
abbrev jF:=@Bool.not_eq_true'
abbrev jG:=@Int.ediv_eq_zero_of_lt
abbrev jK:=@List.flatMap_append
abbrev jL:=@List.getElem_of_mem
abbrev jP:=@List.find?_some
abbrev jQ:=@Nat.min_eq_left
abbrev jU:=@List.takeWhile_append_dropWhile
abbrev kg:=@Nat.mod_eq_of_lt
abbrev kh:=@List.cons_append
abbrev kB:=@Nat.mul_comm
abbrev kL:=@List.take_append_of_le_length
abbrev kM:=@Go.heap_alloc_new
abbrev kN:=@List.mem_of_getElem?
abbrev kS:=@List.any_eq_false
abbrev kU:=@List.getElem?_map
abbrev kW:=@List.getElem_take
abbrev kX:=@Nat.le_mul_of_pos_right
abbrev lq:=@List.foldl_cons
abbrev lr:=@Option.map_none
abbrev lN:=@List.filter_eq_self
abbrev lO:=@or_false
abbrev lP:=@Nat.mul_le_mul_left
abbrev lZ:=@List.take_of_length_le
abbrev l5:=@Nat.succ_mul
abbrev l6:=@getElem!_pos
abbrev mD:=@List.all_eq_true
abbrev na:=@List.drop_drop
abbrev nb:=@BitVec.toNat_ofInt
abbrev nc:=@Go.heap_alloc_old
abbrev nf:=@Array.getElem?_append_left
abbrev nh:=@List.find?_eq_none
abbrev nj:=@Nat.div_lt_iff_lt_mul
abbrev nk:=@List.take_append_drop
abbrev nE:=@List.getElem_append_right
abbrev nH:=@Int.natCast_mul
abbrev nJ:=@List.sum_append
abbrev oz:=@Int.le_refl
abbrev oA:=@and_true
abbrev oB:=@Bool.or_eq_false_iff
abbrev oC:=@Int.add_mul
abbrev oD:=@Int.emod_eq_of_lt
abbrev oE:=@Nat.zero_mul
abbrev oF:=@List.map_nil
abbrev oG:=@if_false
abbrev oH:=@Go.Addr.add_add
abbrev pj:=@List.take_succ_cons
abbrev pk:=@List.replicate_succ
abbrev pn:=@List.takeWhile_cons
abbrev pQ:=@decide_eq_false_iff_not
abbrev pR:=@List.getElem_map
abbrev qc:=@Nat.sub_mul
abbrev qx:=@Go.World.frozen?_setCells
abbrev qy:=@Go.grownCap_le_maxLen
abbrev qz:=@Option.isSome_none
abbrev qN:=@List.filter_nil
abbrev q6:=@List.getElem_set_self
abbrev q7:=@List.set_append_right
abbrev rb:=@Int.mul_ediv_add_emod
abbrev rc:=@List.mem_iff_getElem?
abbrev rf:=@List.length_singleton
abbrev rh:=@Array.getElem?_modify
abbrev ru:=@List.pairwise_map
abbrev rv:=@List.nodup_append
abbrev se:=@Int.tdiv_eq_ediv_of_nonneg
abbrev sf:=@Int.tmod_eq_emod_of_nonneg
abbrev si:=@Go.World.cell?_alloc_at
abbrev sj:=@List.drop_zero
abbrev sk:=@Array.mem_toList_iff
abbrev sP:=@Int.zero_add
abbrev sQ:=@Go.Addr.add_lit
abbrev sR:=@if_true
abbrev sS:=@Go.wp_mono
abbrev sX:=@List.mem_or_eq_of_mem_set
abbrev sY:=@Array.getElem?_eq_getElem
abbrev sZ:=@List.extract_eq_take_drop
abbrev tc:=@Int.toNat_of_nonneg
abbrev tg:=@List.map_congr_left
abbrev th:=@Go.run_firstCells_some
abbrev tm:=@List.drop_succ_cons
abbrev tK:=@Int.mul_assoc
abbrev tL:=@List.getElem_append_left
abbrev tM:=@List.Perm.eq_of_pairwise
abbrev tW:=@Bool.eq_iff_iff
abbrev tX:=@List.length_zip
abbrev uo:=@BitVec.toNat_ofNat
abbrev uN:=@Nat.pow_add
abbrev wB:=@Int.mul_le_mul
abbrev wC:=@Int.ne_of_gt
abbrev wD:=@List.filter_eq_nil_iff
abbrev wE:=@List.Pairwise.imp
abbrev wF:=@List.drop_eq_nil_of_le
abbrev wG:=@List.flatten_cons
abbrev wH:=@Array.contains_iff_mem
abbrev wI:=@Function.comp_def
abbrev wJ:=@Go.World.ownsRow_nil
abbrev wK:=@List.getElem_cons_succ
abbrev wL:=@Nat.mul_succ
abbrev wT:=@Array.getElem?_setIfInBounds_ne
abbrev xe:=@List.eq_nil_or_concat
abbrev xf:=@List.length_replicate
abbrev xT:=@Bool.not_eq_true
abbrev xU:=@Int.ediv_le_self
abbrev xV:=@List.Sublist.map
abbrev xW:=@List.isEmpty_iff
abbrev xX:=@List.range'_succ
abbrev xY:=@List.find?_eq_some_iff_getElem
abbrev xZ:=@BitVec.toNat_not
abbrev yp:=@Bool.true_and
abbrev zk:=@Nat.pow_le_pow_right
abbrev zm:=@Int.mul_add
abbrev zn:=@List.getLast?_eq_some_getLast
abbrev zo:=@Go.run_storeCells_cells
abbrev zp:=@Go.World.cell?_of_block
abbrev zq:=@Array.toList_extract
abbrev zJ:=@Nat.two_pow_pos
abbrev zK:=@Nat.div_add_mod
abbrev zT:=@List.take_set_of_le
abbrev zU:=@List.drop_set_of_lt
abbrev zV:=@Array.getElem?_push
abbrev zW:=@List.dropWhile_cons
abbrev As:=@Int.zero_sub
abbrev Au:=@Decidable.em
abbrev Av:=@Nat.sub_self
abbrev Aw:=@dif_pos
abbrev Cf:=@List.take_take
abbrev Cg:=@List.mem_range
abbrev Ch:=@Nat.mod_lt
abbrev Ci:=@Nat.lt_or_gt_of_ne
abbrev Cj:=@List.set_cons_succ
abbrev Ck:=@Go.eqGuard_at_int
abbrev Cm:=@List.zip_cons_cons
abbrev Db:=@List.drop_sublist
abbrev Dc:=@Nat.one_mul
abbrev Dd:=@List.map_id
abbrev De:=@List.getElem_drop
abbrev Df:=@Go.cell_of_row
abbrev Dg:=@Go.grownCap_ge
abbrev Dh:=@Decidable.not_not
abbrev Di:=@Array.toList_push
abbrev Dj:=@List.foldl_append
abbrev DQ:=@Bool.false_or
abbrev DU:=@Nat.mul_assoc
abbrev DW:=@Nat.add_assoc
abbrev Fh:=@List.ext_getElem
abbrev Fi:=@List.getElem_set
abbrev Fj:=@List.drop_append
abbrev F0:=@Int.emod_def
abbrev F1:=@Int.lt_trans
abbrev F2:=@Nat.le_of_eq
abbrev F3:=@Nat.sub_zero
abbrev F4:=@Classical.em
abbrev F5:=@List.sum_nil
abbrev Gs:=@List.any_append
abbrev Gt:=@Go.Value.agg.injEq
abbrev Gu:=@Int.natCast_add
abbrev H7:=@Int.mul_neg
abbrev H8:=@Nat.min_def
abbrev H9:=@Nat.mul_one
abbrev IY:=@Iff.rfl
end Go
namespace Go.Vc
open Go
inductive LK where|int(k:IntKind)|bool|str
inductive TD where
 |struct (fs:List (Nat×Nat×Nat))
 |slice (e:TypeId)
 |array (n:Nat) (e:TypeId)
 |int (k:IntKind)
 |bool
 |string
 |ptr (e:TypeId)
 |map (k e:TypeId)
 |other
structure TI where
 ok:Bool
 td:TD
 size:Nat
 bytes:Nat
 agg:Bool
 zero:List Value
 leaves:Option (List LK)
def Hg(lv:TypeId->Option (List LK))(sz:TypeId->Nat):List Field->Nat->Option (List LK)
 |[],_=>some []
 |f::fs,off=>
  if f.name== "_" || f.offset != off then none else
  match lv f.type with
  |none=>none
  |some l=>if l.length != sz f.type||l.length==0 then none else
   match Hg lv sz fs (off+l.length) with
   |none=>none
   |some r=>some (l++r)
def mM(P:Program):Nat->TypeId->Option (List LK)
 |0,_=>none
 |d+1,t=>
  match P.underlying t with
  |some (.int k)=>some [.int k]
  |some .bool=>some [.bool]
  |some .string=>some [.str]
  |some (.struct fs)=>if P.stoodInHeld t then none else Hg (mM P d) P.cellsOf fs.toList 0
  |some (.array n e)=>match mM P d e with
   |some [l]=>if P.cellsOf e=1/\n<=8 then some (List.replicate n l)else none
   |_=>none
  |_=>none
def TD.of(P:Program):TypeDesc->TD
 | .struct fs=>.struct (fs.toList.map λf=>(f.offset,f.type,P.cellsOf f.type))
 | .slice e=>.slice e
 | .array n e=>.array n e
 | .int k=>.int k
 | .bool=>.bool
 | .string=>.string
 | .pointer e=>.ptr e
 | .map k e=>.map k e
 |_=>.other
def FC:TypeDesc->Bool
 | .struct _=>true
 | .array _ _=>true
 |_=>false
def rowOf(P:Program)(t:TypeId):TI:=
  match P.underlying t,P.info? t with
  |some d,some i=>
    { ok:=true,td:=.of P d,size:=i.size,bytes:=i.bytes,agg:=FC d
      zero:=(match i.zero with|some z=>z.cells.toList|none=>[])
      leaves:=if P.eqGuardType P.depth t then none else mM P 8 t }
  |_,_=>{ ok:=false,td:=.other,size:=0,bytes:=0,agg:=false,zero:=[],leaves:=none }
def uV(a b:Int):Value:=.agg #[.int .i64 a,.int .i64 b]
def isU(v:Value):Prop:=∃a b:Int,v=uV a b
structure anh(P:Program)(kt:TypeId):Prop where
 check:∀(e:Bool) (w:World) {v:Value},isU v->(Instr.checkKey e 10000 kt v).run P w=.ok () w
 find:∀(w:World) {x:Value},isU x->∀es:List MapEntry,(∀e∈es,isU e.key)->((Instr.findKey kt x es).run P w=.ok none w/\∀e∈es,e.key≠x)\/∃j e,(Instr.findKey kt x es).run P w=.ok (some (j,e.val)) w/\es[j]?=some e/\e.key=x
 stays:∀(w:World) {v:Value},isU v->(Instr.keyThatStays v v).run P w=.ok v w
structure ahH(P:Program)(kt et:TypeId):Prop where
 key:anh P kt
 zero:∀w:World,(zeroValue et).run P w=.ok (.bool false) w
structure dP(P:Program)(T:List TI):Prop where
 rows:∀(t:TypeId) (ti:TI),T[t]?=some ti->ti.ok=true->ti=rowOf P t
 keys:∀ti∈T,ti.ok=true->∀k e,ti.td=.map k e->ahH P k e
def J':List TI->List (TypeId×TypeId)
 |[]=>[]
 |ti::T=>match ti.ok,ti.td with
  |true,.map k e=>(k,e)::J' T
  |_,_=>J' T
theorem acp{k e}:∀{T:List TI} {ti:TI},ti∈T->ti.ok=true->ti.td=.map k e->(k,e)∈J' T
 |x::T,ti,h,h1,h2=>by
  unfold J';rcases aF.1 h with rfl|h
  .rw[h1,h2];simp
  .have:=acp h h1 h2;split
   .exact cP _ this
   .exact this
def Hh(P:Program):Nat->List TI->List TI
 |_,[]=>[]
 |n,ti::T=>(match ti.ok with|true=>rowOf P n|false=>ti)::Hh P (n+1) T
theorem ar6{P}{T}(h:Hh P 0 T=T):∀(t:TypeId) (ti:TI),T[t]?=some ti->ti.ok=true->ti=rowOf P t:=by
 have key:∀(T:List TI) (n:Nat),Hh P n T=T->∀(t:TypeId) (ti:TI),T[t]?=some ti->ti.ok=true->ti=rowOf P (n+t):=by
  intro T;induction T with
  |nil=>intro n _ t ti ht;simp at ht
  |cons x T ih=>
   intro n h t ti ht ho;simp only[Hh,dO]at h;cases t with
   |zero=>simp at ht;subst ht;rw[ho]at h;simpa using h.1.symm
   |succ t=>
    have:=ih (n+1) h.2 t ti (by simpa using ht) ho
    rwa [show n+(t+1)=n+1+t by omega]
 intro t ti ht ho;simpa using key T 0 h t ti ht ho
theorem afq{P}{T}(h:Hh P 0 T=T)(hk:∀p∈J' T,ahH P p.1 p.2):dP P T:=⟨ar6 h,λ_ h1 h2 k e h3=>hk (k,e) (acp h1 h2 h3)⟩
structure oQ(P:Program)(t:TypeId)(ti:TI):Prop where ex:∃d i,P.underlying t=some d/\P.info? t=some i/\ti.td=.of P d/\ti.size=i.size/\ti.bytes=i.bytes/\ti.agg=FC d/\ti.zero=(match i.zero with|some z=>z.cells.toList|none=>[])/\ti.leaves=if P.eqGuardType P.depth t then none else mM P 8 t
theorem dP.facts{P}{T}(h:dP P T){t}{ti}(ht:T[t]?=some ti)(hs:ti.ok=true):oQ P t ti:=by
  have hr:=h.rows t ti ht hs
  unfold rowOf at hr
  split at hr
  · rename_i d i hd hi
    subst hr
    exact⟨d,i,hd,hi,rfl,rfl,rfl,rfl,rfl,rfl⟩
  · subst hr;simp at hs
theorem run_typeInfo{P}{t}{i}(h:P.info? t=some i)(w):(typeInfo t).run P w=.ok i w:=by simp[typeInfo,aP,run_program,h]
theorem ux{P}{t}{i}(h:P.info? t=some i)(w):(sizeOf t).run P w=.ok i.size w:=by simp[sizeOf,run_typeInfo h]
theorem xy{P}{t}{d}(h:P.underlying t=some d)(w):
 (isAgg t).run P w=.ok (FC d) w:=by
 simp only[isAgg,aP,bj h,bn];cases d<;>simp[FC]
theorem vD{P}{t}{i}{z}(h:P.info? t=some i)(hz:i.zero=some z)(w):(zeroValue t).run P w=.ok z w:=by simp[zeroValue,aP,run_typeInfo h,hz]
def uW:List LK->List Value->List Value->Option Bool
 |[],[],[]=>some true
 | .int _::ls,.int k1 a::xs,.int k2 b::ys=>if k1=k2 then(uW ls xs ys).map ((a==b)&&·)else none
 | .bool::ls,.bool a::xs,.bool b::ys=>(uW ls xs ys).map ((a==b)&&·)
 | .str::ls,.string a::xs,.string b::ys=>(uW ls xs ys).map ((a.toList==b.toList)&&·)
 |_,_,_=>none
theorem PX{l r}{xs ys}{b}(h:uW (l++r) xs ys=some b):
 ∃b1 b2,uW l (xs.take l.length) (ys.take l.length)=some b1/\uW r (xs.drop l.length) (ys.drop l.length)=some b2/\b=(b1&&b2)/\l.length<=xs.length/\l.length<=ys.length:=by
 induction l generalizing xs ys b with
 |nil=>exact⟨true,b,by simp[uW],by simpa using h,by simp,by simp,by simp⟩
 |cons k l ih=>
  simp only[kh]at h;unfold uW at h;split at h
  .simp_all
  .rename_i ls k1 a xs k2 b' ys heq;injection heq with h1 h2;subst h2;split at h
   .rename_i hk;simp only[eK]at h;obtain⟨c,hc,rfl⟩:=h;obtain⟨b1,b2,h3,h4,rfl,h5,h6⟩:=ih hc;subst h1;refine⟨(a==b')&&b1,b2,?_,by simpa using h4,?_,by simpa using h5,by simpa using h6⟩
    .simp only[aJ,pj,uW,ah hk,h3,fK]
    .simp[Bool.and_assoc]
   .cases h
  .rename_i ls a xs b' ys heq;injection heq with h1 h2;subst h2;simp only[eK]at h;obtain⟨c,hc,rfl⟩:=h;obtain⟨b1,b2,h3,h4,rfl,h5,h6⟩:=ih hc;subst h1;exact⟨(a==b')&&b1,b2,by simp only[aJ,pj,uW,h3,fK],by simpa using h4,by simp[Bool.and_assoc],by simpa using h5,by simpa using h6⟩
  .rename_i ls a xs b' ys heq;injection heq with h1 h2;subst h2;simp only[eK]at h;obtain⟨c,hc,rfl⟩:=h;obtain⟨b1,b2,h3,h4,rfl,h5,h6⟩:=ih hc;subst h1;exact⟨(a.toList==b'.toList)&&b1,b2,by simp only[aJ,pj,uW,h3,fK],by simpa using h4,by simp[Bool.and_assoc],by simpa using h5,by simpa using h6⟩
  .cases h
def zN(P:Program)(t:TypeId)(xs:List Value):Value:=
 match P.underlying t with
 |some (.struct _)=>.agg xs.toArray
 |some (.array _ _)=>.agg xs.toArray
 |_=>xs.getD 0 undef
theorem MC{P}{t}{xs}{off}{i}{l}{d}(hl:mM P d t=some l)(hi:P.info? t=some i)(hsz:l.length=i.size)(hx:off+l.length<=xs.size)(w):
 (part t xs off).run P w=.ok (zN P t ((xs.toList.drop off).take l.length)) w:=by
 cases d with
 |zero=>simp[mM]at hl
 |succ d=>
  unfold mM at hl;unfold zN;have one:∀k:LK,l=[k]->off<xs.size:=by rintro k rfl;simp at hx;omega
  split at hl
  .rename_i k hu;simp only[ak]at hl;have:=one _ hl.symm;subst hl;simp[part,aP,xy hu,FC,hu,this,List.getD]
  .rename_i hu;simp only[ak]at hl;have:=one _ hl.symm;subst hl;simp[part,aP,xy hu,FC,hu,this,List.getD]
  .rename_i hu;simp only[ak]at hl;have:=one _ hl.symm;subst hl;simp[part,aP,xy hu,FC,hu,this,List.getD]
  .rename_i fs hu;simp only[part,aP,xy hu,FC,bn,sR,ux hi,hu,bG];congr 2;apply fQ;simp[hsz,zq,sZ]
  .rename_i n e hu;simp only[part,aP,xy hu,FC,bn,sR,ux hi,hu,bG];congr 2;apply fQ;simp[hsz,zq,sZ]
  .cases hl
theorem anx{P:Program}{d:Nat}{e:TypeId}{l0:LK}{i:TypeInfo}(he:mM P d e=some [l0])(hi:P.info? e=some i)(h1:i.size=1)(hc:P.cellsOf e=1)
 (ih:∀(t:TypeId) (l:List LK),mM P d t=some l->∀(D:Nat),d<=D->∀(xs ys:List Value) (r:Bool),uW l xs ys=some r->∀w,(Op.equalIn D t (zN P t xs) (zN P t ys)).run P w=.ok r w) (D:Nat) (hD:d<=D) (xs ys:Array Value):
 ∀(m k:Nat) (r:Bool),uW (List.replicate m l0) (xs.toList.drop k) (ys.toList.drop k)=some r->∀w,(Op.eqItems D e (P.cellsOf e) xs ys (List.range' k m)).run P w=.ok r w:=by
 intro m;induction m with
 |zero=>intro k r hr w;simp only[List.replicate_zero]at hr;unfold uW at hr;split at hr<;>simp_all [Op.eqItems]
 |succ m ihm=>
  intro k r hr w;rw[pk,<-List.singleton_append]at hr;obtain⟨b1,b2,g1,g2,rfl,g3,g4⟩:=PX hr;simp only[rf]at g1 g2 g3 g4;have hx:k+[l0].length<=xs.size:=by simp at g3 ⊢;omega
  have hy:k+[l0].length<=ys.size:=by simp at g4 ⊢;omega
  simp only[xX,Op.eqItems,aP,hc,H9,MC he hi (by rw[h1];rfl) hx,MC he hi (by rw[h1];rfl) hy,bn,rf,ih e [l0] he D hD _ _ b1 g1,Sem.run_ite,bG];cases b1
  .simp
  .simp only[Bool.not_true,fb,oG,yp];have:=ihm (k+1) b2 (by simpa[na]using g2) w
   rwa [hc]at this
theorem ako{P:Program}{d:Nat}(hsz:∀t,P.cellsOf t≠0->∃i,P.info? t=some i/\i.size=P.cellsOf t)
 (ih:∀(t:TypeId) (l:List LK),mM P d t=some l->∀(D:Nat),d<=D->∀(xs ys:List Value) (r:Bool),uW l xs ys=some r->∀w,(Op.equalIn D t (zN P t xs) (zN P t ys)).run P w=.ok r w):
 ∀(fs:List Field) (off:Nat) (l:List LK),Hg (mM P d) P.cellsOf fs off=some l->∀(D:Nat),d<=D->∀(xs ys:Array Value) (r:Bool),uW l (xs.toList.drop off) (ys.toList.drop off)=some r->∀w,(Op.eqFields D xs ys fs).run P w=.ok r w:=by
 intro fs;induction fs with
 |nil=>intro off l hl D hD xs ys r hr w;simp only[Hg,ak]at hl;subst hl;unfold uW at hr;split at hr<;>simp_all [Op.eqFields]
 |cons f fs ihf=>
  intro off l hl D hD xs ys r hr w;unfold Hg at hl;split at hl
  .cases hl
  .rename_i hnm;simp only[fI,fP,bne_iff_ne,not_or,Dh]at hnm;obtain⟨hn,ar7⟩:=hnm;subst ar7;split at hl
   .cases hl
   .rename_i lf hlf;split at hl
    .cases hl
    .rename_i hlen;simp only[fI,fP,bne_iff_ne,not_or,ne_eq,Dh]at hlen;obtain⟨hlen,hne⟩:=hlen;split at hl
     .cases hl
     .rename_i rest anz;simp only[ak]at hl;subst hl;obtain⟨b1,b2,h1,h2,rfl,h3,h4⟩:=PX hr;have zu:lf≠[]:=by intro h0;subst h0;simp at hne
      obtain⟨i,hi,ar8⟩:=hsz f.type (by rw[<-hlen];simpa using zu)
      have hx:f.offset+lf.length<=xs.size:=by
       have:lf.length<=xs.toList.length-f.offset:=by simpa using h3
       have:=ga.2 zu;simp at *;omega
      have hy:f.offset+lf.length<=ys.size:=by
       have:lf.length<=ys.toList.length-f.offset:=by simpa using h4
       have:=ga.2 zu;simp at *;omega
      simp only[Op.eqFields,ne_eq,hn,not_false_eq_true,sR,aP,MC hlf hi (by omega) hx,MC hlf hi (by omega) hy,bn,ih f.type lf hlf D hD _ _ b1 h1,Sem.run_ite,bG];cases b1
      .simp
      .simp only[Bool.not_true,fb,oG,yp];exact ihf (f.offset+lf.length) rest anz D hD xs ys b2 (by simpa[na]using h2) w
theorem tw{P:Program}(t:TypeId)(h:P.cellsOf t≠0):∃i,P.info? t=some i/\i.size=P.cellsOf t:=by
 unfold Program.cellsOf at *;cases hi:P.info? t with
 |none=>simp[hi]at h
 |some i=>exact⟨i,rfl,by simp⟩
theorem OG{P:Program}:∀(d:Nat) (t:TypeId) (l:List LK),mM P d t=some l->∀(D:Nat),d<=D->∀(xs ys:List Value) (r:Bool),uW l xs ys=some r->∀w,
 (Op.equalIn D t (zN P t xs) (zN P t ys)).run P w=.ok r w:=by
 intro d;induction d with
 |zero=>intro t l hl;simp[mM]at hl
 |succ d ih=>
  intro t l hl D hD xs ys r hr w;obtain⟨D,rfl⟩:∃D',D=D'+1:=⟨D-1,by omega⟩;unfold mM at hl;split at hl
  .rename_i k hu;simp only[ak]at hl;subst hl;unfold uW at hr;split at hr<;>try (simp_all;done)
   rename_i h1;injection h1 with h1 h2;subst h2;split at hr
   .rename_i hk;subst hk;simp only[eK]at hr;obtain⟨c,hc,rfl⟩:=hr;unfold uW at hc;split at hc<;>simp_all [zN,List.getD,run_equalIn_int];all_goals rw [run_equalIn_int (h:=hu)]
   .cases hr
  .rename_i hu;simp only[ak]at hl;subst hl;unfold uW at hr;split at hr<;>try (simp_all;done)
   rename_i h1;injection h1 with h1 h2;subst h2;simp only[eK]at hr;obtain⟨c,hc,rfl⟩:=hr;unfold uW at hc;split at hc<;>simp_all [zN,List.getD];all_goals rw [run_equalIn_bool' (h:=hu)]
  .rename_i hu;simp only[ak]at hl;subst hl;unfold uW at hr;split at hr<;>try (simp_all;done)
   rename_i h1;injection h1 with h1 h2;subst h2;simp only[eK]at hr;obtain⟨c,hc,rfl⟩:=hr;unfold uW at hc;split at hc<;>simp_all [zN,List.getD];all_goals rw [run_equalIn_string (h:=hu)]
  .rename_i fs hu;split at hl
   .cases hl
   .rename_i NY;have hf:P.fieldsOf t=fs:=by simp[Program.fieldsOf,hu]
    simp only[zN,hu];rw[run_equalIn_struct w D t _ _ (by rw[hf];exact hu) (by simpa using NY),hf];exact ako tw ih fs.toList 0 l hl D (by omega) _ _ r (by simpa using hr) w
  .rename_i n e hu;split at hl
   .rename_i l0 he;split at hl
    .rename_i hc;simp only[ak]at hl;subst hl;obtain⟨i,hi,his⟩:=tw (P:=P) e (by rw[hc.1];decide);simp only[zN,hu];rw[run_equalIn_array w D _ _ hu hi,List.range_eq_range'];exact anx he hi (his.trans hc.1) hc.1 ih D (by omega) _ _ n 0 r (by simpa using hr) w
    .cases hl
   .cases hl
  .cases hl
def ikn:IntKind->Nat | .i8=>0 | .i16=>1 | .i32=>2 | .i64=>3 | .u8=>4 | .u16=>5 | .u32=>6 | .u64=>7
def eqk(a b:IntKind):Bool:=Nat.beq (ikn a) (ikn b)
theorem Td{a b}(h:eqk a b=true):a=b:=by cases a<;>cases b<;>first|rfl|(simp[eqk,ikn]at h)
def dq(neg b:Bool):Bool:=match neg with|true=>!b|false=>b
theorem Am{P}{neg:Bool}{t:TypeId}{x y:Operand}{a b v:Value}{w:World}(hg:eqGuard (if neg then .neq else .eql) t x y a b=pure ())
 (hb:(binOp (if neg then .neq else .eql) t a b).run P w=.ok v w):
 (do eqGuard (if neg then .neq else .eql) t x y a b;binOp (if neg then .neq else .eql) t a b).run P w=.ok v w:=by
 rw[hg,aP];simp[hb]
theorem acq{P}(neg:Bool){t:TypeId}(x y:Operand)(a b:Bool)(w:World)(h:P.underlying t=some .bool):
 (do eqGuard (if neg then .neq else .eql) t x y (.bool a) (.bool b);binOp (if neg then .neq else .eql) t (.bool a) (.bool b)).run P w=.ok (.bool (dq neg (a==b))) w:=by
 refine Am (by cases neg<;>rfl) ?_;cases neg
 .exact run_eql_bool w t a b h
 .exact run_neq_bool w t a b h
theorem FD{P}(neg:Bool){t e:TypeId}(x y:Operand)(p:Option Addr)(w:World)(h:P.underlying t=some (.pointer e)):
 (do eqGuard (if neg then .neq else .eql) t x y (.pointer p) (.pointer none);binOp (if neg then .neq else .eql) t (.pointer p) (.pointer none)).run P w=.ok (.bool (dq neg p.isNone)) w:=by
 have h':P.underlying t=some (.pointer (P.pointee t)):=by simp[Program.pointee,h]
 refine Am (by cases neg<;>rfl) ?_;cases neg
 .exact run_eql_pointer_nil w t p h'
 .exact run_neq_pointer_nil w t p h'
theorem Tq{P}(neg:Bool){t e:TypeId}(x y:Operand)(p:Option Addr)(l c:Nat)(w:World)(h:P.underlying t=some (.slice e)):
 (do eqGuard (if neg then .neq else .eql) t x y (.slice p l c) (.slice none 0 0);binOp (if neg then .neq else .eql) t (.slice p l c) (.slice none 0 0)).run P w=.ok (.bool (dq neg p.isNone)) w:=by
 refine Am (by cases neg<;>rfl) ?_;cases neg
 .simp[binOp,Op.equal,Op.maxDepth,Lib.run_equalIn_slice_nil w 9999 t e p l c 0 0 h,dq]
 .simp[binOp,Op.equal,Op.maxDepth,Lib.run_equalIn_slice_nil w 9999 t e p l c 0 0 h,dq]
theorem afv{P}(neg:Bool){t:TypeId}(x y:Operand)(a b:ByteArray)(w:World):
 (do eqGuard (if neg then .neq else .eql) t x y (.string a) (.string b);binOp (if neg then .neq else .eql) t (.string a) (.string b)).run P w=.ok (.bool (dq neg (a.toList==b.toList))) w:=by
 refine Am (by cases neg<;>rfl) ?_;cases neg<;>rfl
theorem ar9{P}{t}{ti:TI}(hf:oQ P t ti)(h:ti.td=.bool):P.underlying t=some .bool:=by obtain⟨d,i,hd,hi,h1,_⟩:=hf.ex;rw[h]at h1;cases d<;>simp[TD.of]at h1;exact hd
theorem Zj{P}{t e}{ti:TI}(hf:oQ P t ti)(h:ti.td=.ptr e):P.underlying t=some (.pointer e):=by obtain⟨d,i,hd,hi,h1,_⟩:=hf.ex;rw[h]at h1;cases d<;>simp[TD.of]at h1;subst h1;exact hd
theorem rK{P}{t e}{ti:TI}(hf:oQ P t ti)(h:ti.td=.slice e):P.underlying t=some (.slice e):=by obtain⟨d,i,hd,hi,h1,_⟩:=hf.ex;rw[h]at h1;cases d<;>simp[TD.of]at h1;subst h1;exact hd
theorem an0{P}{t k e}{ti:TI}(hf:oQ P t ti)(h:ti.td=.map k e):P.underlying t=some (.map k e):=by obtain⟨d,i,hd,hi,h1,_⟩:=hf.ex;rw[h]at h1;cases d<;>simp[TD.of]at h1;obtain⟨rfl,rfl⟩:=h1;exact hd
theorem Ex{P}{t}{ti:TI}(hf:oQ P t ti)(h:ti.td=.string):P.underlying t=some .string:=by obtain⟨d,i,hd,hi,h1,_⟩:=hf.ex;rw[h]at h1;cases d<;>simp[TD.of]at h1;exact hd
theorem avK{P}{t}{ti:TI}{k:IntKind}(hf:oQ P t ti)(h:ti.td=.int k):P.underlying t=some (.int k):=by obtain⟨d,i,hd,hi,h1,_⟩:=hf.ex;rw[h]at h1;cases d<;>simp[TD.of]at h1;subst h1;exact hd
theorem IB{P}{t}{ti:TI}{fs:List (Nat×Nat×Nat)}(hf:oQ P t ti)(h:ti.td=.struct fs):
 ∃fl:Array Field,P.underlying t=some (.struct fl)/\fs=fl.toList.map λf=>(f.offset,f.type,P.cellsOf f.type):=by
 obtain⟨d,i,hd,hi,h1,_⟩:=hf.ex;rw[h]at h1;cases d<;>simp[TD.of]at h1;exact⟨_,hd,h1⟩
theorem acr{P}{t e}{n:Nat}{ti:TI}(hf:oQ P t ti)(h:ti.td=.array n e):P.underlying t=some (.array n e):=by obtain⟨d,i,hd,hi,h1,_⟩:=hf.ex;rw[h]at h1;cases d<;>simp[TD.of]at h1;obtain⟨rfl,rfl⟩:=h1;exact hd
def Ts:Value->Bool
 | .agg _=>false
 | .tuple _=>false
 |_=>true
def wr{α:Type}:List α->Nat->List α->List α
 |xs,_,[]=>xs
 |xs,off,v::vs=>wr (xs.set off v) (off+1) vs
theorem Eo{α}(xs)(off:Nat)(vs:List α):(wr xs off vs).length=xs.length:=by
 induction vs generalizing xs off with
 |nil=>rfl
 |cons v vs ih=>simp[wr,ih]
def setCells(w:World)(a:Addr):Nat->List Value->World
 |_,[]=>w
 |i,v::vs=>setCells (w.setCell (a.add i) v) a (i+1) vs
theorem QU(w:World)(a:Addr)(v:Value)(b:Nat)(h:b≠a.block):(w.setCell a v).heap[b]?=w.heap[b]?:=RowKit.Below.heap_setCell w a v b h
theorem QV{w:World}{b o:Nat}{arr:Array Value}{t:TypeId}{fr:Nat×Nat}(v:Value)(h:w.heap[b]?=some (.cells arr t fr)):
 (w.setCell ⟨b,o,none⟩ v).heap[b]?=some (.cells (arr.setIfInBounds o v) t fr):=by
 simp[World.setCell,rh,h]
theorem jH(a:Addr)(n:Nat):(a.add n).block=a.block:=by unfold Addr.add;split<;>rfl
theorem tQ(b o n):(⟨b,o,none⟩:Addr).add n=⟨b,o+n,none⟩:=by unfold Addr.add;split<;>simp_all
theorem yM(a:Addr)(b:Nat)(h:b≠a.block):∀(vs:List Value) (i:Nat) (w:World),(setCells w a i vs).heap[b]?=w.heap[b]?
 |[],_,_=>rfl
 |v::vs,i,w=>by simp only[setCells];rw[yM a b h vs,QU _ _ _ _ (by rw[jH];exact h)]
theorem Hb(b o:Nat){t:TypeId}{fr:Nat×Nat}:∀(vs:List Value) (i:Nat) (w:World) (xs:List Value),w.heap[b]?=some (.cells xs.toArray t fr)->
 (setCells w ⟨b,o,none⟩ i vs).heap[b]?=some (.cells (wr xs (o+i) vs).toArray t fr)
 |[],_,w,xs,h=>by simpa[setCells,wr]using h
 |v::vs,i,w,xs,h=>by simp only[setCells,wr,tQ];have h1:=QV (o:=o+i) v h;simp only[fw]at h1;have:=Hb b o vs (i+1) _ _ h1;rw[show o+i+1=o+(i+1)by omega];exact this
theorem Dt(a):∀(vs:List Value) (i:Nat) (w:World),(setCells w a i vs).os=w.os/\(setCells w a i vs).tape=w.tape/\(setCells w a i vs).output=w.output/\(setCells w a i vs).heap.size=w.heap.size/\(setCells w a i vs).drawn=w.drawn
 |[],_,_=>⟨rfl,rfl,rfl,rfl,rfl⟩
 |v::vs,i,w=>by have:=Dt a vs (i+1) (w.setCell (a.add i) v);simp only[setCells];refine⟨this.1,this.2.1,this.2.2.1,?_,this.2.2.2.2⟩;rw[this.2.2.2.1];simp
theorem Tt{w:World}{a b:Addr}(v:Value)(h:(w.cell? b).isSome=true):((w.setCell a v).cell? b).isSome=true:=by
 by_cases hab:a=b
 .subst hab;obtain⟨u,hu⟩:=Option.isSome_iff_exists.1 h;rw[World.cell?_setCell_same w a v hu];rfl
 .rw[World.cell?_setCell_other w a b v hab];exact h
theorem afw{P}(w)(a)(v)(hv:Ts v=true)(hc:(w.cell? a).isSome=true)(hf:w.frozen? a=false):
 (store a v).run P w=.ok () (w.setCell a v):=by
 obtain⟨u,hu⟩:=Option.isSome_iff_exists.1 hc;unfold store;cases v<;>simp_all [Sem.run,Ts]
theorem Hi{P}(a):∀(vs:List Value) (i:Nat) (w:World),(∀v∈vs,Ts v=true)->(∀j,j<vs.length->(w.cell? (a.add (i+j))).isSome=true/\w.frozen? (a.add (i+j))=false)->
 (storeCells a vs i).run P w=.ok () (setCells w a i vs)
 |[],_,_,_,_=>by simp[storeCells,setCells]
 |v::vs,i,w,hv,hc=>by
  have h0:=hc 0 (by simp);simp only[gY]at h0;simp only[storeCells,aP,afw w _ v (hv v (by simp)) h0.1 h0.2,bn,setCells];refine Hi a vs (i+1) _ (λu hu=>hv u (by simp[hu])) λj hj=>?_
  have:=hc (j+1) (by simp;omega);rw[show i+1+j=i+(j+1)by omega];exact⟨Tt v this.1,by rw[World.frozen?_setCell];exact this.2⟩
theorem cell_of_block{w:World}{b:Nat}{xs:List Value}{t:TypeId}{fr:Nat×Nat}(h:w.heap[b]?=some (.cells xs.toArray t fr))(o:Nat):w.cell? ⟨b,o,none⟩=xs[o]?:=by simp[World.cell?,h]
theorem Gg{w:World}{b:Nat}{xs:List Value}{t:TypeId}(h:w.heap[b]?=some (.cells xs.toArray t (0,0)))(o:Nat):w.frozen? ⟨b,o,none⟩=false:=by simp[World.frozen?,h]
def qj(P:Program)(f:FuncId):Prop:=∃fn,P.funcs[f]?=some fn/\(fn.name== "runtime.NumGoroutine")=false/\fn.body.isNone=false
structure nz(P:Program)(f:FuncId)(args:Array Value)(w:World)(R:Value->World->Prop):Prop where ex:(qj P f/\Calls P f args w λe w'=>∃v,e=.returned v/\R v w')\/(∃v w',(callFunc f args).run P w=.ok (.value v) w'/\R v w')
theorem nz.mono{P}{f}{args}{w:World}{R R':Value->World->Prop}(h:nz P f args w R)(hr:∀v w',R v w'->R' v w'):nz P f args w R':=by
 rcases h.ex with⟨hb,hc⟩|⟨v,w',h1,h2⟩
 .exact⟨.inl ⟨hb,hc.mono λ_ _ ⟨v,he,hv⟩=>⟨v,he,hr _ _ hv⟩⟩⟩
 .exact⟨.inr ⟨v,w',h1,hr _ _ h2⟩⟩
theorem qj.run{P}{f}(h:qj P f)(args:Array Value)(w:World):(callFunc f args).run P w=.ok (.enter f args) w:=by obtain⟨fn,h1,h2,h3⟩:=h;simp only[callFunc,aP,run_program,bn,h1,h2,h3,fb,oG,bG]
theorem nz.calls{P}{f}{args}{w:World}{R:Value->World->Prop}(h:nz P f args w R)(hb:qj P f):Calls P f args w λe w'=>∃v,e=.returned v/\R v w':=by
 rcases h.ex with⟨_,hc⟩|⟨v,w',h1,h2⟩
 .exact hc
 .rw[hb.run]at h1;simp at h1
structure an1(P:Program)(s:Sem Value)(w:World)(R:Value->World->Prop):Prop where ex:∃v w',s.run P w=.ok v w'/\R v w'
theorem an1.mono{P}{s}{w:World}{R R':Value->World->Prop}(h:an1 P s w R)(hr:∀v w',R v w'->R' v w'):an1 P s w R':=⟨let ⟨v,w',h1,h2⟩:=h.ex;⟨v,w',h1,hr _ _ h2⟩⟩
def Bp:Nat->List Nat->Bool
 |_,[]=>false
 |i,j::js=>match Nat.beq i j with|true=>true|false=>Bp i js
section
variable {P : Program} {a : Act} {o : Oper} {w : World}
theorem MD{t}{ti:TI}(hf:oQ P t ti):∃i,P.info? t=some i/\ti.size=i.size/\ti.zero=(match i.zero with|some z=>z.cells.toList|none=>[]):=by obtain⟨d,i,hd,hi,h1,h2,h3,h4,h5,h6⟩:=hf.ex;exact⟨i,hi,h2,h5⟩
theorem Zk{t}{ti}(hf:oQ P t ti)(w:World):(isAgg t).run P w=.ok ti.agg w:=by obtain⟨d,i,hd,hi,h1,h2,h3,h4,h5,h6⟩:=hf.ex;rw[xy hd,h4]
theorem sx{t}{ti}(hf:oQ P t ti)(w:World):(sizeOf t).run P w=.ok ti.size w:=by obtain⟨i,hi,h2,_⟩:=MD hf;rw[ux hi,h2]
theorem Tu{t}{x}(ho:o.op=.load t x):(execOp a.eval o).run P w=((Instr.loadAt t (a.eval x)).run P w).andThen λv w'=>.ok (.value v) w':=by simp only[execOp,ho,aP,bG]
theorem akp{t}{x y}(ho:o.op=.store t x y):(execOp a.eval o).run P w=((Instr.storeAt t (a.eval x) (a.eval y)).run P w).andThen λ_ w'=>.ok .skip w':=by simp only[execOp,ho,aP,bG]
end
theorem vE(i)(ids):Bp i ids=true↔i∈ids:=by
 induction ids with
 |nil=>simp[Bp]
 |cons j js ih=>
  unfold Bp;split
  .rename_i h;simp[aE h]
  .rename_i h;simp[ih,Nat.ne_of_beq_eq_false h]
theorem an2(cs):∀(xs:Array Value) (off k:Nat),(cs.zipIdx k).foldl (λacc (p:Value×Nat)=>acc.setIfInBounds (off+p.2) p.1) xs=(wr xs.toList (off+k) cs).toArray:=by
 induction cs with
 |nil=>intro xs off k;simp[wr]
 |cons c cs ih=>intro xs off k;simp only[List.zipIdx_cons,lq,ih,wr];rw[show off+(k+1)=off+k+1 by omega];simp
open Go.RowKit
section
abbrev KU:=Int×Int×Unit
def kV(x:KU):Value:=uV x.1 x.2.1
theorem avL{x y}(h:kV x=kV y):x=y:=by obtain⟨a,b,⟨⟩⟩:=x;obtain⟨c,d,⟨⟩⟩:=y;simp only[kV,uV,Gt,Array.mk.injEq,dO,Value.int.injEq,true_and,oA]at h;exact jd h.1 (jd h.2 rfl)
theorem Tv{x}{l:List KU}:kV x∈l.map kV↔x∈l:=⟨λh=>let ⟨_,hy,e⟩:=aN.1 h;avL e▸hy,λh=>aN.2 ⟨x,h,rfl⟩⟩
structure acs(es:Array MapEntry)(clock:Nat)(ks:List Value):Prop where
 keys:es.toList.map (·.key)=ks
 kok:∀k∈ks,isU k
 nd:ks.Nodup
 val:∀e∈es.toList,e.val=.bool true
 bnd:(es.toList.map (·.born)).Nodup
 lt:∀e∈es.toList,e.born<clock
inductive DT where
 |int (k:IntKind)
 |bool
 |str
 |slc (t:DT)
 |unit
 |pair (a b:DT)
 |set
@[reducible] def DT.den:DT->Type
 | .int _=>Int
 | .bool=>Bool
 | .str=>ByteArray
 | .slc t=>List t.den
 | .unit=>Unit
 | .pair a b=>a.den×b.den
 | .set=>List KU
def DT.size:DT->Nat
 | .int _=>1
 | .bool=>1
 | .str=>1
 | .slc _=>1
 | .unit=>0
 | .pair a b=>a.size+b.size
 | .set=>1
def DT.agg:DT->Bool
 | .unit=>true
 | .pair _ _=>true
 |_=>false
def DT.same:(a b:DT)->Option (PLift (a=b))
 | .int k,.int k'=>if h:eqk k k'=true then some ⟨by rw[Td h]⟩else none
 | .bool,.bool=>some ⟨rfl⟩
 | .str,.str=>some ⟨rfl⟩
 | .unit,.unit=>some ⟨rfl⟩
 | .set,.set=>some ⟨rfl⟩
 | .slc a,.slc b=>match a.same b with
  |some ⟨h⟩=>some ⟨by rw[h]⟩
  |none=>none
 | .pair a b,.pair a' b'=>match a.same a',b.same b' with
  |some ⟨h⟩,some ⟨h'⟩=>some ⟨by rw[h,h']⟩
  |_,_=>none
 |_,_=>none
def DT.PY{a b:DT}(h:a=b)(l:List a.den):List b.den:=h▸l
variable {β : Type}
def acu{α:Type}(l:List α)(i:Int)(K:α->Option β):Option β:=
 match l[i.toNat]? with
 |some x=>bif decide (0<=i)then K x else none
 |none=>none
def an3{α:Type}(l:List α)(i:Nat)(K:α->Option β):Option β:=
 match l[i]? with
 |some x=>K x
 |none=>none
def afx(i:Int)(n:Nat)(K:Nat->Option β):Option β:=bif decide (0<=i)&&decide (i<=(n:Int))then K i.toNat else none
def nzF(b:Int)(K:Option β):Option β:=bif decide (b=0)then none else K
def nnF(b:Int)(K:Option β):Option β:=bif decide (0<=b)then K else none
def acv(n b:Nat)(K:Option β):Option β:=bif decide (n<=281474976710656)&&decide (n*b<=140737488355328)then K else none
def avM(n:Int)(K:Option β):Option β:=bif decide (n<=9223372036854775807)then K else none
def ahm(s:ByteArray)(i:Int)(K:Int->Option β):Option β:=bif decide (0<=i)then(match s[i.toNat]? with|some b=>K (b.toNat:Int)|none=>none)else none
def aaZ(s:ByteArray)(p:Int)(K:Int->Int->Option β)(N:Option β):Option β:=bif decide (p.toNat<s.size)then K ((Utf8.decode s p.toNat).1:Int) ((p.toNat+(Utf8.decode s p.toNat).2:Nat):Int)else N
def at7{X:Type}(k:X->Option β)(f:(X->Option β)->Option β):Option β:=f k
def yO{X:Type}:Nat->(X->(X->Option β)->Option β)->X->Option β
 |0,_,_=>none
 |n+1,f,z=>f z (yO n f)
class rB (β:Type) where
 eq:β->β->Bool
 iff:∀x y,eq x y=true↔x=y
def eqI:Int->Int->Bool
 | .ofNat a,.ofNat b=>Nat.beq a b
 | .negSucc a,.negSucc b=>Nat.beq a b
 |_,_=>false
theorem ahK:∀x y,eqI x y=true↔x=y
 | .ofNat a,.ofNat b=>by simp only[eqI,Nat.beq_eq];exact⟨λh=>by rw[h],λh=>by injection h⟩
 | .negSucc a,.negSucc b=>by simp[eqI]
 | .ofNat a,.negSucc b=>by simp[eqI]
 | .negSucc a,.ofNat b=>by simp[eqI]
def acw{α:Type}(f:α->α->Bool):List α->List α->Bool
 |[],[]=>true
 |x::xs,y::ys=>f x y&&acw f xs ys
 |_,_=>false
theorem Tw{α:Type}{f:α->α->Bool}(h:∀x y,f x y=true↔x=y):∀xs ys,acw f xs ys=true↔xs=ys
 |[],[]=>by simp[acw]
 |[],y::ys=>by simp[acw]
 |x::xs,[]=>by simp[acw]
 |x::xs,y::ys=>by simp[acw,h,Tw h xs ys]
def Zl(a b:ByteArray):Bool:=acw (λx y:UInt8=>Nat.beq x.toNat y.toNat) a.data.toList b.data.toList
theorem acx(a b:ByteArray):Zl a b=true↔a=b:=by
 unfold Zl;rw[Tw λx y=>by rw[Nat.beq_eq,UInt8.toNat_inj]];constructor
 .intro h;cases a;cases b;simpa using h
 .rintro rfl;rfl
instance:rB Int:=⟨eqI,ahK⟩
instance:rB Bool:=⟨λa b=>bif a then b else !b,λa b=>by cases a<;>cases b<;>simp⟩
instance:rB Unit:=⟨λ_ _=>true,λ_ _=>by simp⟩
instance:rB ByteArray:=⟨Zl,acx⟩
instance {α:Type} [rB α]:rB (List α):=⟨acw rB.eq,Tw rB.iff⟩
instance {α β:Type} [rB α] [rB β]:rB (α×β):=⟨λx y=>rB.eq x.1 y.1&&rB.eq x.2 y.2,λx y=>by simp[rB.iff,Prod.ext_iff]⟩
@[reducible] def DT.eqb:(t:DT)->rB t.den
 | .int _=>inferInstanceAs (rB Int)
 | .bool=>inferInstanceAs (rB Bool)
 | .str=>inferInstanceAs (rB ByteArray)
 | .slc t=>have:=t.eqb;inferInstanceAs (rB (List t.den))
 | .unit=>inferInstanceAs (rB Unit)
 | .pair a b=>have:=a.eqb;have:=b.eqb;inferInstanceAs (rB (a.den×b.den))
 | .set=>inferInstanceAs (rB (List KU))
def Gh[rB β](a b:Option β):Option β:=match a,b with
 |some x,some y=>bif rB.eq x y then some x else none
 |_,_=>none
def akq[rB β](e:Bool)(f:Bool->Option β):Option β:=bif e then Gh (f true) (f false)else f false
@[irreducible] def FU:Nat:=18446744073709551616
theorem PZ:FU=18446744073709551616:=by unfold FU;rfl
def eqU(a b:KU):Bool:=eqI a.1 b.1&&eqI a.2.1 b.2.1
def Tx(x:KU):List KU->Bool
 |[]=>false
 |y::l=>eqU x y||Tx x l
def QW(ks:List KU)(x:KU):List KU:=bif Tx x ks then ks else ks++[x]
def P0(ks dn:List KU):List KU:=ks.filter λk=>!Tx k dn
def an4[rB β](l:List KU)(K:KU->Option β)(N:Option β):Option β:=
 match l with
 |[]=>N
 |x::l=>l.foldl (λr y=>Gh r (K y)) (K x)
def orF(a b:Option β):Option β:=match a with
 |some x=>some x
 |none=>b
structure Wd:Type 1 where
 af:{β:Type}->Bool->Option β->Option β->Option β
 aI:{α β:Type}->List α->Int->(α->Option β)->Option β
 cr:{α β:Type}->List α->Nat->(α->Option β)->Option β
 kY:{β:Type}->Int->Nat->(Nat->Option β)->Option β
 Ey:{β:Type}->Int->Option β->Option β
 i7:{β:Type}->Int->Option β->Option β
 bi:{β:Type}->Nat->Nat->Option β->Option β
 afy:{β:Type}->Int->Option β->Option β
 aH:{X β:Type}->(X->Option β)->((X->Option β)->Option β)->Option β
 aY:{X β:Type}->(X->(X->Option β)->Option β)->X->Option β
 gJ:{β:Type}->[rB β]->Option β->Option β->Option β
 ae:{α β:Type}->Option α->(α->Option β)->Option β
 rj:{β:Type}->[rB β]->Bool->(Bool->Option β)->Option β
 L8:{β:Type}->ByteArray->Int->(Int->Option β)->Option β
 zZ:{β:Type}->ByteArray->Int->(Int->Int->Option β)->Option β->Option β
 ME:{β:Type}->[rB β]->List KU->(KU->Option β)->Option β->Option β
 auv:{β:Type}->Option β->Option β->Option β
@[reducible] def aj:Wd where
 af:=λc a b=>bif c then a else b
 aI:=acu
 cr:=an3
 kY:=afx
 Ey:=nzF
 i7:=nnF
 bi:=acv
 afy:=avM
 aH:=at7
 aY:=yO FU
 gJ:=Gh
 ae:=Option.bind
 rj:=akq
 L8:=ahm
 zZ:=aaZ
 ME:=an4
 auv:=orF
theorem arA{a b}:eqU a b=true↔a=b:=by obtain⟨a1,a2,⟨⟩⟩:=a;obtain⟨b1,b2,⟨⟩⟩:=b;simp[eqU,ahK]
theorem vF{x}:∀{l:List KU},Tx x l=true↔x∈l
 |[]=>by simp[Tx]
 |y::l=>by simp[Tx,arA,vF (l:=l)]
@[reducible] def Wd.two(W:Wd){β:Type}[rB β](a:Option β):Option β:=W.gJ a a
abbrev U3{A0 A1 A2 R T:Type}(e:A0×A1×A2×R)(t:T):A0×A1×A2×T:=(e.1,e.2.1,e.2.2.1,t)
abbrev U4{A0 A1 A2 A3 R T:Type}(e:A0×A1×A2×A3×R)(t:T):A0×A1×A2×A3×T:=(e.1,e.2.1,e.2.2.1,e.2.2.2.1,t)
abbrev U5{A0 A1 A2 A3 A4 R T:Type}(e:A0×A1×A2×A3×A4×R)(t:T):A0×A1×A2×A3×A4×T:=(e.1,e.2.1,e.2.2.1,e.2.2.2.1,e.2.2.2.2.1,t)
abbrev U6{A0 A1 A2 A3 A4 A5 R T:Type}(e:A0×A1×A2×A3×A4×A5×R)(t:T):A0×A1×A2×A3×A4×A5×T:=(e.1,e.2.1,e.2.2.1,e.2.2.2.1,e.2.2.2.2.1,e.2.2.2.2.2.1,t)
abbrev U7{A0 A1 A2 A3 A4 A5 A6 R T:Type}(e:A0×A1×A2×A3×A4×A5×A6×R)(t:T):A0×A1×A2×A3×A4×A5×A6×T:=(e.1,e.2.1,e.2.2.1,e.2.2.2.1,e.2.2.2.2.1,e.2.2.2.2.2.1,e.2.2.2.2.2.2.1,t)
abbrev U8{A0 A1 A2 A3 A4 A5 A6 A7 R T:Type}(e:A0×A1×A2×A3×A4×A5×A6×A7×R)(t:T):A0×A1×A2×A3×A4×A5×A6×A7×T:=(e.1,e.2.1,e.2.2.1,e.2.2.2.1,e.2.2.2.2.1,e.2.2.2.2.2.1,e.2.2.2.2.2.2.1,e.2.2.2.2.2.2.2.1,t)
abbrev U9{A0 A1 A2 A3 A4 A5 A6 A7 A8 R T:Type}(e:A0×A1×A2×A3×A4×A5×A6×A7×A8×R)(t:T):A0×A1×A2×A3×A4×A5×A6×A7×A8×T:=(e.1,e.2.1,e.2.2.1,e.2.2.2.1,e.2.2.2.2.1,e.2.2.2.2.2.1,e.2.2.2.2.2.2.1,e.2.2.2.2.2.2.2.1,e.2.2.2.2.2.2.2.2.1,t)
abbrev U10{A0 A1 A2 A3 A4 A5 A6 A7 A8 A9 R T:Type}(e:A0×A1×A2×A3×A4×A5×A6×A7×A8×A9×R)(t:T):A0×A1×A2×A3×A4×A5×A6×A7×A8×A9×T:=(e.1,e.2.1,e.2.2.1,e.2.2.2.1,e.2.2.2.2.1,e.2.2.2.2.2.1,e.2.2.2.2.2.2.1,e.2.2.2.2.2.2.2.1,e.2.2.2.2.2.2.2.2.1,e.2.2.2.2.2.2.2.2.2.1,t)
abbrev U11{A0 A1 A2 A3 A4 A5 A6 A7 A8 A9 Gf R T:Type}(e:A0×A1×A2×A3×A4×A5×A6×A7×A8×A9×Gf×R)(t:T):A0×A1×A2×A3×A4×A5×A6×A7×A8×A9×Gf×T:=(e.1,e.2.1,e.2.2.1,e.2.2.2.1,e.2.2.2.2.1,e.2.2.2.2.2.1,e.2.2.2.2.2.2.1,e.2.2.2.2.2.2.2.1,e.2.2.2.2.2.2.2.2.1,e.2.2.2.2.2.2.2.2.2.1,e.2.2.2.2.2.2.2.2.2.2.1,t)
abbrev yb{A0 A1 A2 A3 A4 A5 A6 A7 A8 A9 Gf He R T:Type}(e:A0×A1×A2×A3×A4×A5×A6×A7×A8×A9×Gf×He×R)(t:T):A0×A1×A2×A3×A4×A5×A6×A7×A8×A9×Gf×He×T:=(e.1,e.2.1,e.2.2.1,e.2.2.2.1,e.2.2.2.2.1,e.2.2.2.2.2.1,e.2.2.2.2.2.2.1,e.2.2.2.2.2.2.2.1,e.2.2.2.2.2.2.2.2.1,e.2.2.2.2.2.2.2.2.2.1,e.2.2.2.2.2.2.2.2.2.2.1,e.2.2.2.2.2.2.2.2.2.2.2.1,t)
abbrev U13{A0 A1 A2 A3 A4 A5 A6 A7 A8 A9 Gf He Jv R T:Type}(e:A0×A1×A2×A3×A4×A5×A6×A7×A8×A9×Gf×He×Jv×R)(t:T):A0×A1×A2×A3×A4×A5×A6×A7×A8×A9×Gf×He×Jv×T:=(e.1,e.2.1,e.2.2.1,e.2.2.2.1,e.2.2.2.2.1,e.2.2.2.2.2.1,e.2.2.2.2.2.2.1,e.2.2.2.2.2.2.2.1,e.2.2.2.2.2.2.2.2.1,e.2.2.2.2.2.2.2.2.2.1,e.2.2.2.2.2.2.2.2.2.2.1,e.2.2.2.2.2.2.2.2.2.2.2.1,e.2.2.2.2.2.2.2.2.2.2.2.2.1,t)
abbrev U14{A0 A1 A2 A3 A4 A5 A6 A7 A8 A9 Gf He Jv MB R T:Type}(e:A0×A1×A2×A3×A4×A5×A6×A7×A8×A9×Gf×He×Jv×MB×R)(t:T):A0×A1×A2×A3×A4×A5×A6×A7×A8×A9×Gf×He×Jv×MB×T:=(e.1,e.2.1,e.2.2.1,e.2.2.2.1,e.2.2.2.2.1,e.2.2.2.2.2.1,e.2.2.2.2.2.2.1,e.2.2.2.2.2.2.2.1,e.2.2.2.2.2.2.2.2.1,e.2.2.2.2.2.2.2.2.2.1,e.2.2.2.2.2.2.2.2.2.2.1,e.2.2.2.2.2.2.2.2.2.2.2.1,e.2.2.2.2.2.2.2.2.2.2.2.2.1,e.2.2.2.2.2.2.2.2.2.2.2.2.2.1,t)
abbrev U15{A0 A1 A2 A3 A4 A5 A6 A7 A8 A9 Gf He Jv MB PW R T:Type}(e:A0×A1×A2×A3×A4×A5×A6×A7×A8×A9×Gf×He×Jv×MB×PW×R)(t:T):A0×A1×A2×A3×A4×A5×A6×A7×A8×A9×Gf×He×Jv×MB×PW×T:=(e.1,e.2.1,e.2.2.1,e.2.2.2.1,e.2.2.2.2.1,e.2.2.2.2.2.1,e.2.2.2.2.2.2.1,e.2.2.2.2.2.2.2.1,e.2.2.2.2.2.2.2.2.1,e.2.2.2.2.2.2.2.2.2.1,e.2.2.2.2.2.2.2.2.2.2.1,e.2.2.2.2.2.2.2.2.2.2.2.1,e.2.2.2.2.2.2.2.2.2.2.2.2.1,e.2.2.2.2.2.2.2.2.2.2.2.2.2.1,e.2.2.2.2.2.2.2.2.2.2.2.2.2.2.1,t)
abbrev U16{A0 A1 A2 A3 A4 A5 A6 A7 A8 A9 Gf He Jv MB PW To R T:Type}(e:A0×A1×A2×A3×A4×A5×A6×A7×A8×A9×Gf×He×Jv×MB×PW×To×R)(t:T):A0×A1×A2×A3×A4×A5×A6×A7×A8×A9×Gf×He×Jv×MB×PW×To×T:=(e.1,e.2.1,e.2.2.1,e.2.2.2.1,e.2.2.2.2.1,e.2.2.2.2.2.1,e.2.2.2.2.2.2.1,e.2.2.2.2.2.2.2.1,e.2.2.2.2.2.2.2.2.1,e.2.2.2.2.2.2.2.2.2.1,e.2.2.2.2.2.2.2.2.2.2.1,e.2.2.2.2.2.2.2.2.2.2.2.1,e.2.2.2.2.2.2.2.2.2.2.2.2.1,e.2.2.2.2.2.2.2.2.2.2.2.2.2.1,e.2.2.2.2.2.2.2.2.2.2.2.2.2.2.1,e.2.2.2.2.2.2.2.2.2.2.2.2.2.2.2.1,t)
theorem arB[rB β]{a b}{q:β}(h:Gh a b=some q):a=some q/\b=some q:=by
 unfold Gh at h;split at h
 .rename_i x y;cases hb:rB.eq x y with
  |true=>rw[hb]at h;have:=(rB.iff x y).1 hb;subst this;exact⟨h,h⟩
  |false=>rw[hb]at h;cases h
 .cases h
theorem Xm[rB β]{K:KU->Option β}{q:β}:∀{l:List KU} {r:Option β},l.foldl (λr y=>Gh r (K y)) r=some q->r=some q/\∀y∈l,K y=some q
 |[],r,h=>⟨h,by simp⟩
 |x::l,r,h=>by obtain⟨h1,h2⟩:=Xm (l:=l) h;obtain⟨h3,h4⟩:=arB h1;exact⟨h3,λy hy=>(aF.1 hy).elim (λe=>e▸h4) (h2 y)⟩
theorem arC[rB β]{l}{K:KU->Option β}{N:Option β}{q:β}(h:an4 l K N=some q):(l=[]->N=some q)/\∀y∈l,K y=some q:=by
 cases l with
 |nil=>exact⟨λ_=>h,by simp⟩
 |cons x l=>obtain⟨h1,h2⟩:=Xm (l:=l) h;exact⟨λh=>(by cases h),λy hy=>(aF.1 hy).elim (λe=>e▸h1) (h2 y)⟩
structure lD(U U':Nat->Prop)(w w':World):Prop where
 same:∀b,b<w.heap.size->¬U b->w'.heap[b]?=w.heap[b]?
 size:w.heap.size<=w'.heap.size
 sub:∀b,b<w.heap.size->U' b->U b
theorem lD.refl(U)(w):lD U U w w:=⟨λ_ _ _=>rfl,au _,λ_ _ h=>h⟩
theorem lD.cell{U U'}{w w'}(l:lD U U' w w'){x:Addr}(hn:¬U x.block)(hl:x.block<w.heap.size)(j:Nat):w'.cell? (x.add j)=w.cell? (x.add j):=zp (by rw[jH];exact l.same _ hl hn)
def At(U:Nat->Prop)(w:World)(a:Option Addr)(off:Nat)(us:List Value):Prop:=∀j u,us[j]?=some u->∃x,a=some x/\¬U x.block/\x.block<w.heap.size/\w.cell? (x.add (off+j))=some u
theorem At.mono{U U'}{w w':World}(l:lD U U' w w'){a:Option Addr}{off:Nat}{us:List Value}(h:At U w a off us):At U' w' a off us:=λj u hj=>
 let ⟨x,e,hn,hl,hc⟩:=h j u hj
 ⟨x,e,λhb=>hn (l.sub _ hl hb),e8 hl l.size,(l.cell hn hl _).trans hc⟩
def DT.h(U:Nat->Prop)(w:World):(t:DT)->t.den->List Value->Prop
 | .int k,n,vs=>vs=[.int k n]
 | .bool,b,vs=>vs=[.bool b]
 | .str,s,vs=>vs=[.string s]
 | .slc t,l,vs=>∃a c,vs=[.slice a l.length c]/\l.length<=c/\c<=maxLen/\∀i x,l[i]?=some x->∃us,t.h U w x us/\At U w a (i*t.size) us
 | .unit,_,vs=>vs=[]
 | .pair a b,x,vs=>∃us us',vs=us++us'/\a.h U w x.1 us/\b.h U w x.2 us'
 | .set,ks,vs=>∃b es clock,vs=[.map (some b)]/\¬U b/\b<w.heap.size/\w.heap[b]?=some (.map es clock)/\acs es clock (ks.map kV)
theorem DT.mono{U U':Nat->Prop}{w w':World}(l:lD U U' w w'):(t:DT)->{x:t.den}->{vs:List Value}->t.h U w x vs->t.h U' w' x vs
 | .int _,_,_,h=>h
 | .bool,_,_,h=>h
 | .str,_,_,h=>h
 | .slc t,_,_,h=>by obtain⟨a,c,e,h1,h2,h3⟩:=h;exact⟨a,c,e,h1,h2,λi x hi=>let ⟨us,g1,g2⟩:=h3 i x hi;⟨us,t.mono l g1,g2.mono l⟩⟩
 | .unit,_,_,h=>h
 | .pair a b,_,_,h=>by obtain⟨us,us',e,h1,h2⟩:=h;exact⟨us,us',e,a.mono l h1,b.mono l h2⟩
 | .set,_,_,h=>by obtain⟨b,es,clock,e,h1,h2,h3,h4⟩:=h;exact⟨b,es,clock,e,λhu=>h1 (l.sub _ h2 hu),e8 h2 l.size,(l.same _ h2 h1).trans h3,h4⟩
def DT.free:DT->Bool
 | .slc _=>false
 | .set=>false
 | .pair a b=>a.free&&b.free
 |_=>true
theorem DT.Zm{U U'}{w w'}:(t:DT)->{x:t.den}->{vs:List Value}->t.free=true->t.h U w x vs->t.h U' w' x vs
 | .int _,_,_,_,h=>h
 | .bool,_,_,_,h=>h
 | .str,_,_,_,h=>h
 | .slc t,_,_,f,_=>by cases f
 | .unit,_,_,_,h=>h
 | .pair a b,_,_,f,h=>by obtain⟨us,us',e,h1,h2⟩:=h;simp only[DT.free,aB]at f;exact⟨us,us',e,a.Zm f.1 h1,b.Zm f.2 h2⟩
 | .set,_,_,f,_=>by cases f
theorem DT.Bn{U}{w}:(t:DT)->{x:t.den}->{vs:List Value}->t.h U w x vs->vs.length=t.size
 | .int _,_,_,h=>by subst h;rfl
 | .bool,_,_,h=>by subst h;rfl
 | .str,_,_,h=>by subst h;rfl
 | .slc t,_,_,h=>by obtain⟨a,c,rfl,_⟩:=h;rfl
 | .unit,_,_,h=>by subst h;rfl
 | .pair a b,_,_,h=>by obtain⟨us,us',rfl,h1,h2⟩:=h;simp[DT.size,a.Bn h1,b.Bn h2]
 | .set,_,_,h=>by obtain⟨b,es,clock,rfl,_⟩:=h;rfl
def vA:Value->Bool
 | .int _ _=>true
 | .bool _=>true
 | .string _=>true
 | .slice _ _ _=>true
 | .map _=>true
 |_=>false
theorem DT.Xf{U}{w}:(t:DT)->{x:t.den}->{vs:List Value}->t.h U w x vs->∀u∈vs,vA u=true
 | .int _,_,_,h=>by subst h;simp[vA]
 | .bool,_,_,h=>by subst h;simp[vA]
 | .str,_,_,h=>by subst h;simp[vA]
 | .slc t,_,_,h=>by obtain⟨a,c,rfl,_⟩:=h;simp[vA]
 | .unit,_,_,h=>by subst h;simp
 | .pair a b,_,_,h=>by obtain⟨us,us',rfl,h1,h2⟩:=h;intro u hu;exact(aT.1 hu).elim (a.Xf h1 u) (b.Xf h2 u)
 | .set,_,_,h=>by obtain⟨b,es,clock,rfl,_⟩:=h;simp[vA]
theorem rJ{v}(h:vA v=true):Ts v=true/\v.oneCell'=true:=by cases v<;>simp_all [vA,Ts,Value.oneCell']
def DT.hs(U:Nat->Prop)(w:World)(t:DT)(l:List t.den)(vs:List Value):Prop:=vs.length=l.length*t.size/\∀i x,l[i]?=some x->t.h U w x ((vs.drop (i*t.size)).take t.size)
theorem DT.kw{U U'}{w w':World}(l:lD U U' w w'){t:DT}{xs:List t.den}{vs:List Value}(h:t.hs U w xs vs):t.hs U' w' xs vs:=⟨h.1,λi x hi=>t.mono l (h.2 i x hi)⟩
theorem xz{i n k:Nat}(h:i<n):i*k+k<=n*k:=by have:=dL k h;rwa [l5]at this
theorem DT.Du{U}{w}{t:DT}{xs ys:List t.den}{us vs:List Value}(h:t.hs U w xs us)(k:t.hs U w ys vs):t.hs U w (xs++ys) (us++vs):=by
 refine⟨by simp[h.1,k.1,im],λi x hi=>?_⟩;rcases dS i xs.length with hl|hl
 .rw[bB hl]at hi;have:=xz (k:=t.size) hl;have h2:=h.2 i x hi;rw[List.drop_append_of_le_length (by rw[h.1];omega),kL (by rw[dk,h.1];omega)];exact h2
 .rw[dz hl]at hi;have h2:=k.2 _ x hi;have e:i*t.size=us.length+(i-xs.length)*t.size:=by rw[h.1,<-im];congr 1;omega
  rw[e,Fj,wF (by omega),dA,Nat.add_sub_cancel_left];exact h2
theorem DT.FB{U}{w:World}{t:DT}:t.hs U w [] []:=⟨by simp,by simp⟩
theorem DT.Y5{U}{w}{t:DT}{x:t.den}{us:List Value}(h:t.h U w x us):t.hs U w [x] us:=by
 refine⟨by simp[t.Bn h],λi y hi=>?_⟩;cases i with
 |zero=>simp at hi;subst hi;simpa[lZ (F2 (t.Bn h))]using h
 |succ i=>simp at hi
theorem DT.Ep {U} {w} {t : DT} {xs : List t.den} {vs : List Value} (h : t.hs U w xs vs) : ∀ u ∈ vs, vA u = true := by
  intro u hu
  obtain ⟨n, hn⟩ := rc.1 hu
  have hlt := (ay.1 hn).1
  rw [h.1] at hlt
  have hk : 0 < t.size := by rcases fv t.size with h0 | h0; · simp [h0] at hlt
                             · exact h0
  have hi := Nat.div_lt_of_lt_mul (by rwa [kB])
  refine t.Xf (h.2 (n / t.size) _ (aw hi)) u (rc.2 ⟨n % t.size, ?_⟩)
  rw [ct, ah (Ch _ hk), cF]
  rw [show n / t.size * t.size + n % t.size = n by rw [kB]; exact zK n _]
  exact hn
theorem tx{α}{vs:List α}{o n j:Nat}{u:α}:((vs.drop o).take n)[j]?=some u↔j<n/\vs[o+j]?=some u:=by
 rw[ct];split
 .rename_i h;simp[h,cF]
 .rename_i h;simp[h]
theorem DT.Mv{U}{w:World}{t:DT}{xs:List t.den}{vs:List Value}(h:t.hs U w xs vs){n:Nat}(hn:n<=xs.length):t.hs U w (xs.take n) (vs.take (n*t.size)):=by
 have hm:=dL t.size hn;refine⟨by simp[h.1,jQ hm,jQ hn],λi x hi=>?_⟩;rw[ct]at hi;split at hi
 .rename_i hl;have h2:=h.2 i x hi;have:=xz (k:=t.size) hl
  have e:((vs.take (n*t.size)).drop (i*t.size)).take t.size=(vs.drop (i*t.size)).take t.size:=by
   apply eY;intro j;simp only[ct,cF];split
   .rw[ah (by omega)]
   .rfl
  rwa [e]
 .cases hi
theorem KA{α}:∀(vs xs:List α) (off j:Nat),off+vs.length<=xs.length->(wr xs off vs)[j]?=if off<=j/\j<off+vs.length then vs[j-off]? else xs[j]?
 |[],xs,off,j,h=>by simp only[wr,eJ];rw[ag (by omega)]
 |v::vs,xs,off,j,h=>by
  simp only[aJ]at h;rw[wr,KA vs _ _ _ (by simp;omega)];rcases Nat.lt_trichotomy j off with hj|rfl|hj
  .rw[ag (by omega),ag (by omega),bc,ag (by omega)]
  .rw[ag (by omega),ah (by simp),bc,ah rfl];simp;omega
  .have e:j-off=(j-(off+1))+1:=by omega
   simp only[aJ];by_cases hl:j<off+1+vs.length
   .rw[ah (by omega),ah (by omega),e,fy]
   .rw[ag (by omega),ag (by omega),bc,ag (by omega)]
theorem DT.avN{U}{w:World}{t:DT}{xs:List t.den}{vs us:List Value}{i:Nat}{y:t.den}(h:t.hs U w xs vs)(hi:i<xs.length)(hy:t.h U w y us):t.hs U w (xs.set i y) (wr vs (i*t.size) us):=by
 have hu:=t.Bn hy;have hb:=xz (k:=t.size) hi;refine⟨by rw[Eo];simp[h.1],λj x hj=>?_⟩;rw[bc]at hj;split at hj
 .rename_i hij;subst hij;simp[]at hj;subst hj
  have e:((wr vs (i*t.size) us).drop (i*t.size)).take t.size=us:=by
   apply eY;intro k;rw[ct];split
   .rename_i hk;rw[cF,KA _ _ _ _ (by rw[h.1,hu];exact hb),ah (by omega)];congr 1;omega
   .rename_i hk;rw[bH (by omega)]
  rwa [e]
 .rename_i hij;have h2:=h.2 j x hj;have LY:=(ay.1 hj).1;have hbj:=xz (k:=t.size) LY
  have e:((wr vs (i*t.size) us).drop (j*t.size)).take t.size=(vs.drop (j*t.size)).take t.size:=by
   apply eY;intro k;simp only[ct];split
   .rename_i hk;rw[cF,cF,KA _ _ _ _ (by rw[h.1,hu];exact hb),ag];rintro⟨h3,h4⟩;rcases Ci hij with h5|h5
    .have:=xz (k:=t.size) h5;omega
    .have:=xz (k:=t.size) h5;omega
   .rfl
  rwa [e]
theorem DT.Zn{U}{w}{t:DT}{x:t.den}{us:List Value}(h:t.h U w x us):∀n,t.hs U w (List.replicate n x) (List.replicate n us).flatten
 |0=>DT.FB
 |n+1=>by simp only[pk,wG];exact DT.Du (DT.Y5 h) (DT.Zn h n)
theorem DT.avO{U}{w}{t:DT}{xs:List t.den}{vs:List Value}{a:Option Addr}{c:Nat}(h:t.hs U w xs vs)(hc:xs.length<=c)(hm:c<=maxLen)
 (hat:At U w a 0 vs):(DT.slc t).h U w xs [.slice a xs.length c]:=
 ⟨a,c,rfl,hc,hm,λi x hi=>⟨_,h.2 i x hi,λj u hj=>by
  obtain⟨_,hj⟩:=tx.1 hj;have:=hat _ u hj
  rwa [cg]at this⟩⟩
end
end Go.Vc
namespace Go.Vc
open Go Go.RowKit
inductive DV:Type where
 |int (k:IntKind) (n:Int)
 |bool (b:Bool)
 |lit (b:Bool)
 |str (s:ByteArray)
 |v (y:Value)
 |OJ
 |sl (t:DT) (l:List t.den)
 |cs (t:DT) (l:List t.den)
 |set (ks:List KU)
 |row (j:Nat)
 |el (t:DT) (x:t.den) (off:Nat)
 |re (j i off:Nat)
 |rt (j i:Nat)
 |ob (j:Nat)
 |own (i off:Nat)
 |fn (f:FuncId) (An:List DV)
 |agg (xs:List DV)
 |IC (xs:List DV)
 |fns (xs:List DV)
 |fp (xs:List DV) (k:Nat)
 |ra (j:Nat)
 |rs (j i:Nat)
 |jz
structure DB where
 ty:TypeId
 cells:List DV
 w:Bool
abbrev ij:=List (Option DB)
inductive OD where
 |I9 (s:ByteArray) (p:Int)
 |set (ks:List KU)
 |walk (ks dn:List KU)
def OD.rz:OD->Bool
 | .set _=>true
 |_=>false
inductive OKd where
 |I9
 |set
 |walk
@[reducible] def tKU:DT:=.pair (.int .i64) (.pair (.int .i64) .unit)
@[reducible] def OKd.T:OKd->DT
 | .I9=>.pair .str (.pair (.int .i64) .unit)
 | .set=>.slc tKU
 | .walk=>.pair (.slc tKU) (.pair (.slc tKU) .unit)
def OKd.od:(k:OKd)->k.T.den->OD
 | .I9,z=>.I9 z.1 z.2.1
 | .set,z=>.set z
 | .walk,z=>.walk z.1 z.2.1
def OKd.of:(k:OKd)->OD->Option k.T.den
 | .I9,d=>match d with | .I9 s p=>some (s,p,())|_=>none
 | .set,d=>match d with | .set ks=>some ks|_=>none
 | .walk,d=>match d with | .walk ks dn=>some (ks,dn,())|_=>none
inductive DR where
 |own (e:TypeId) (t:DT) (l:List t.den)
 |obj (d:OD)
 |dead
def RR:Value->DV
 | .bool b=>.lit b
 | .int k n=>.int k n
 | .string s=>.str s
 |x=>.v x
def DT.cells:(t:DT)->t.den->List DV->List DV
 | .int k,n,r=>.int k n::r
 | .bool,b,r=>.bool b::r
 | .str,s,r=>.str s::r
 | .slc t,l,r=>.sl t l::r
 | .unit,_,r=>r
 | .pair a b,x,r=>a.cells x.1 (b.cells x.2 r)
 | .set,ks,r=>.set ks::r
def DT.val:(t:DT)->t.den->DV
 | .int k,n=>.int k n
 | .bool,b=>.bool b
 | .str,s=>.str s
 | .slc t,l=>.sl t l
 | .unit,_=>.agg []
 | .pair a b,x=>.agg (a.cells x.1 (b.cells x.2 []))
 | .set,ks=>.set ks
def DT.of:(t:DT)->List DV->Option (t.den×List DV)
 | .int k,cs=>match cs with
  | .int k' n::r=>match eqk k k' with|true=>some (n,r)|false=>none
  |_=>none
 | .bool,cs=>match cs with
  | .bool b::r=>some (b,r)
  | .lit b::r=>some (b,r)
  |_=>none
 | .str,cs=>match cs with
  | .str s::r=>some (s,r)
  |_=>none
 | .slc t,cs=>match cs with
  | .sl t' l::r=>match t'.same t with|some ⟨h⟩=>some (DT.PY h l,r)|none=>none
  | .v (.slice none 0 0)::r=>some ([],r)
  |_=>none
 | .unit,cs=>some ((),cs)
 | .set,cs=>match cs with
  | .set ks::r=>some (ks,r)
  |_=>none
 | .pair a b,cs=>match a.of cs with
  |some (x,r)=>match b.of r with
   |some (y,r)=>some ((x,y),r)
   |none=>none
  |none=>none
def DT.ofV(t:DT)(v:DV):Option t.den:=
 match t.agg with
 |true=>match v with
  | .agg cs=>match t.of cs with|some (x,r)=>(match r with|[]=>some x|_=>none)|none=>none
  |_=>none
 |false=>match t.of [v]with|some (x,r)=>(match r with|[]=>some x|_=>none)|none=>none
variable {β : Type}
abbrev DK(β:Type):=List DV->ij->List DR->Option β
def gtV:List DV->Nat->Option DV
 |[],_=>some .OJ
 |p::_,0=>match p with
  | .jz=>none
  |p=>some p
 |_::ps,n+1=>gtV ps n
def zy{α:Type}:List α->Nat->α->(List α->Option β)->Option β
 |[],_,_,K=>K []
 |_::ps,0,y,K=>K (y::ps)
 |p::ps,n+1,y,K=>zy ps n y λl=>K (p::l)
def wO(ts:List DV)(o:Operand):Option DV:=
 match o with
 | .tmp t=>gtV ts t
 | .const c=>some (RR c)
 | .global g=>some (.v (.pointer (some ⟨g,0,none⟩)))
 | .func f=>match Nat.ble 1000000 f with|true=>none|false=>some (.fn f [])
def opsV(ts:List DV):List Operand->Option (List DV)
 |[]=>some []
 |o::os=>match wO ts o with
  |some x=>match opsV ts os with|some xs=>some (x::xs)|none=>none
  |none=>none
def Hj:List DV->Nat->Nat->Option (List DV)
 |_::xs,o+1,n=>Hj xs o n
 |_,0,0=>some []
 |x::xs,0,n+1=>match Hj xs 0 n with|some l=>some (x::l)|none=>none
 |[],_,_=>none
def wrE:List DV->Nat->List DV->(List DV->Option β)->Option β
 |xs,_,[],K=>K xs
 |xs,off,v::vs,K=>zy xs off v λl=>wrE l (off+1) vs K
def RS:ij->Nat->Option DB
 |[],_=>none
 |o::_,0=>o
 |_::xs,n+1=>RS xs n
def ID:ij->Nat->Bool
 |[],_=>false
 |o::_,0=>match o with|some _=>false|none=>true
 |_::xs,n+1=>ID xs n
def MF:List DR->Nat->Option DR
 |[],_=>none
 |r::_,0=>some r
 |_::rs,n+1=>MF rs n
def Gz(n:Nat)(K:Nat->Option β):Option β:=
 match n with
 |0=>K 0
 |1=>K 1
 |2=>K 2
 |3=>K 3
 |4=>K 4
 |5=>K 5
 |6=>K 6
 |7=>K 7
 |8=>K 8
 |9=>K 9
 |10=>K 10
 |11=>K 11
 |n=>K n
def vG{α:Type}:List α->α->(List α->Option β)->Option β
 |[],y,K=>K [y]
 |x::xs,y,K=>vG xs y λl=>K (x::l)
mutual
def DV.MG(f:Nat->Option DV):DV->(DV->Option β)->Option β
 | .row i,K=>match f i with|some p=>K p|none=>K (.row i)
 | .re i a b,K=>match f i with|some _=>K .jz|none=>K (.re i a b)
 | .rt i a,K=>match f i with|some _=>K .jz|none=>K (.rt i a)
 | .ob i,K=>match f i with|some p=>K p|none=>K (.ob i)
 | .ra i,K=>match f i with|some _=>K .jz|none=>K (.ra i)
 | .rs i a,K=>match f i with|some _=>K .jz|none=>K (.rs i a)
 | .fns xs,K=>vH f xs λxs=>K (.fns xs)
 | .fp xs k,K=>vH f xs λxs=>K (.fp xs k)
 | .fn g cs,K=>vH f cs λcs=>K (.fn g cs)
 | .agg xs,K=>vH f xs λxs=>K (.agg xs)
 | .IC xs,K=>vH f xs λxs=>K (.IC xs)
 | .int k n,K=>K (.int k n)
 | .bool b,K=>K (.bool b)
 | .lit b,K=>K (.lit b)
 | .str s,K=>K (.str s)
 | .v y,K=>K (.v y)
 | .OJ,K=>K .OJ
 | .sl t l,K=>K (.sl t l)
 | .cs t l,K=>K (.cs t l)
 | .set ks,K=>K (.set ks)
 | .el t x o,K=>K (.el t x o)
 | .own i o,K=>K (.own i o)
 | .jz,K=>K .jz
def vH(f:Nat->Option DV):List DV->(List DV->Option β)->Option β
 |[],K=>K []
 |p::ps,K=>p.MG f λp=>vH f ps λps=>K (p::ps)
end
def CP(f:Nat->Option DV):ij->(ij->Option β)->Option β
 |[],K=>K []
 |some ⟨t,cs,w⟩::ps,K=>vH f cs λcs=>CP f ps λps=>K (some ⟨t,cs,w⟩::ps)
 |none::ps,K=>CP f ps λps=>K (none::ps)
def j6(j:Nat)(p:DV):Nat->Option DV:=λi=>match Nat.beq i j with|true=>some p|false=>none
def OK:Nat->Option DV:=λ_=>some .jz
def P4(js:List Nat):Nat->Option DV:=λj=>match Bp j js with|true=>some .jz|false=>none
def OL(ts:List DV):List (Nat×Operand)->Option (List (Nat×DV))
 |[]=>some []
 |(i,o)::ps=>match wO ts o with
  |some x=>match OL ts ps with|some xs=>some ((i,x)::xs)|none=>none
  |none=>none
def ahL(p:DV):Bool:=
 match p with
 | .v y=>Ts y
 | .agg _=>false
 | .IC _=>false
 | .OJ=>false
 | .jz=>false
 |_=>true
def Ty(x:DV):Option (List DV):=
 match x with
 | .agg xs=>some xs
 |x=>match ahL x with|true=>some [x]|false=>none
def ahM:List DV->Bool
 |[]=>true
 |p::ps=>match ahL p with|true=>ahM ps|false=>false
def MH:List TI->Nat->Option TI
 |[],_=>none
 |ti::_,0=>match ti.ok with|true=>some ti|false=>none
 |_::T,n+1=>MH T n
def acy:List (Nat×Nat×Nat)->Nat->Option (Nat×Nat×Nat)
 |[],_=>none
 |(off,ty,sz)::_,0=>match sz with|0=>none|n+1=>some (off,ty,n+1)
 |_::fs,i+1=>acy fs i
def arD:List (Nat×Nat×Nat)->Bool
 |[]=>true
 |(_,_,sz)::fs=>match sz with|0=>false|_+1=>arD fs
def acz(fs:List (Nat×Nat×Nat)):List DV->List (Nat×DV)->(List DV->Option β)->Option β
 |cells,[],K=>K cells
 |cells,(i,x)::ps,K=>match acy fs i with
  |some (off,_,sz)=>match Ty x with
   |some cs=>match Nat.beq cs.length sz,Hj cells off sz with
    |true,some _=>wrE cells off cs λcells=>acz fs cells ps K
    |_,_=>none
   |none=>none
  |none=>none
def Xn(e:TypeId)(sz:Nat):Nat->Nat->List (Nat×Nat×Nat)
 |0,_=>[]
 |n+1,i=>(i*sz,e,sz)::Xn e sz n (i+1)
def Dv:List Value->List DV
 |[]=>[]
 |x::xs=>RR x::Dv xs
def an5(ts:List DV)(o:Option Operand):Option (Option DV):=
 match o with
 |none=>some none
 |some o=>match wO ts o with|some x=>some (some x)|none=>none
def afz(W:Wd)(o:Option DV)(a0t ahN:Nat)(K:Nat->Option β):Option β:=
 match o with
 |none=>K a0t
 |some (.int _ i)=>W.kY i ahN K
 |_=>none
def ahO(W:Wd)(op:BinOp)(k:IntKind)(a b:Int)(ret:DV->Option β):Option β:=
 match op with
 | .add=>ret (.int k (k.wrap (a+b)))
 | .sub=>ret (.int k (k.wrap (a-b)))
 | .mul=>ret (.int k (k.wrap (a*b)))
 | .quo=>W.Ey b (ret (.int k (k.wrap (a.tdiv b))))
 | .rem=>W.Ey b (ret (.int k (a.tmod b)))
 | .and=>ret (.int k (bits .and k a b))
 | .or=>ret (.int k (bits .or k a b))
 | .xor=>ret (.int k (bits .xor k a b))
 | .eql=>ret (.bool (a==b))
 | .neq=>ret (.bool (a != b))
 | .lss=>ret (.bool (decide (a<b)))
 | .leq=>ret (.bool (decide (a<=b)))
 | .gtr=>ret (.bool (decide (b<a)))
 | .geq=>ret (.bool (decide (b<=a)))
 |_=>none
def ahP(l:LK)(x y:DV):Option Bool:=
 match l,x,y with
 | .int _,.int k a,.int k' b=>match eqk k k' with|true=>some (a==b)|false=>none
 | .bool,.bool a,.bool b=>some (a==b)
 | .bool,.lit a,.bool b=>some (a==b)
 | .bool,.bool a,.lit b=>some (a==b)
 | .bool,.lit a,.lit b=>some (a==b)
 | .str,.str a,.str b=>some (a.toList==b.toList)
 |_,_,_=>none
def Xo:List LK->List DV->List DV->Option Bool
 |[l],[x],[y]=>ahP l x y
 |l::ls,x::xs,y::ys=>match ahP l x y with
  |some r=>match Xo ls xs ys with|some r'=>some (r&&r')|none=>none
  |none=>none
 |_,_,_=>none
def CQ(T:List TI)(t:TypeId):Option TD:=match MH T t with|some ti=>some ti.td|none=>none
def arE(T:List TI)(neg:Bool)(t:TypeId)(a b:DV):Option DV:=
 match a,b with
 | .str s,.str u=>some (.bool (dq neg (s.toList==u.toList)))
 | .agg xs,.agg ys=>match MH T t with
  |some ti=>match ti.leaves,ti.td with
   |some ls,.struct _=>match Xo ls xs ys with|some r=>some (.bool (dq neg r))|none=>none
   |some ls,.array _ _=>match Xo ls xs ys with|some r=>some (.bool (dq neg r))|none=>none
   |_,_=>none
  |none=>none
 | .bool x,.bool y=>match CQ T t with|some .bool=>some (.bool (dq neg (x==y)))|_=>none
 | .bool x,.lit y=>match CQ T t with|some .bool=>some (.bool (dq neg (x==y)))|_=>none
 | .lit x,.bool y=>match CQ T t with|some .bool=>some (.bool (dq neg (x==y)))|_=>none
 | .lit x,.lit y=>match CQ T t with|some .bool=>some (.bool (dq neg (x==y)))|_=>none
 | .v (.pointer none),.v (.pointer none)=>match CQ T t with|some (.ptr _)=>some (.lit (!neg))|_=>none
 | .own _ _,.v (.pointer none)=>match CQ T t with|some (.ptr _)=>some (.lit neg)|_=>none
 | .v (.slice none 0 0),.v (.slice none 0 0)=>match CQ T t with|some (.slice _)=>some (.bool (dq neg true))|_=>none
 |_,_=>none
def avP(W:Wd)(T:List TI)(op:BinOp)(t:TypeId)(a b:DV)(ret:DV->Option β):Option β:=
 match op,a,b with
 | .shl,.int k x,.int _ y=>W.i7 y (ret (.int k (k.wrap (x*2 ^ (min y.toNat k.bits)))))
 | .shr,.int k x,.int _ y=>W.i7 y (ret (.int k (x.fdiv (2 ^ (min y.toNat k.bits)))))
 |op,.int k x,.int k' y=>match eqk k k' with|true=>ahO W op k x y ret|false=>none
 | .add,.str s,.str u=>W.afy ((s.size:Int)+u.size) (ret (.str (s++u)))
 | .eql,a,b=>match arE T false t a b with|some y=>ret y|none=>none
 | .neq,a,b=>match arE T true t a b with|some y=>ret y|none=>none
 |_,_,_=>none
def af0(T:List TI)(ats:Array TypeId):Option TD:=
 match ats.toList with
 |[t]=>CQ T t
 |_=>none
def ayp(xs:List DV)(rw:List DR):Option Nat:=
 match xs with
 |[.sl _ l]=>some l.length
 |[.row j]=>match MF rw j with|some (.own _ _ l)=>some l.length|_=>none
 |[.v (.slice none 0 0)]=>some 0
 |[.fns l]=>some l.length
 |_=>none
def MJ(T:List TI)(b:Builtin)(ats:Array TypeId)(xs:List DV)(rw:List DR)(ret:DV->Option β):Option β:=
 match b with
 | .len=>match af0 T ats with
  |some (.slice _)=>match ayp xs rw with|some n=>ret (.int .i64 (n:Nat))|none=>none
  |some .string=>match xs with|[.str s]=>ret (.int .i64 s.size)|_=>none
  |_=>none
 | .max=>match xs with|[.int k x,.int _ y]=>ret (.int k (if y>x then y else x))|_=>none
 | .min=>match xs with|[.int k x,.int _ y]=>ret (.int k (if y<x then y else x))|_=>none
 |_=>none
def an6(g:Bool)(a b:DV):Option DV:=
 match a,b with
 | .lit true,.bool y=>some (.bool (g||y))
 | .bool x,.lit false=>some (.bool (g&&x))
 | .lit true,.lit y=>some (.bool (g||y))
 | .lit false,.lit y=>some (.bool (!g&&y))
 | .bool x,.lit y=>some (.bool (bif g then x else y))
 | .lit x,.bool y=>some (.bool (bif g then x else y))
 | .bool x,.bool y=>some (.bool (bif g then x else y))
 |_,_=>none
def unV(op:UnOp)(a:DV):Option DV:=
 match op,a with
 | .not,.bool b=>some (.bool (!b))
 | .not,.lit b=>some (.lit (!b))
 | .neg,.int k n=>some (.int k (k.wrap (0-n)))
 | .xor,.int k n=>some (.int k (bits .xor k (if k.signed then -1 else k.max) n))
 |_,_=>none
def o1{α:Type}(o:Option α)(K:α->Option β):Option β:=match o with|some x=>K x|none=>none
def an7(a:DV)(off:Nat):Option DV:=
 match a with
 | .own i o'=>some (.own i (o'+off))
 | .el t x o'=>some (.el t x (o'+off))
 | .re j i o'=>some (.re j i (o'+off))
 |_=>none
def an8(T:List TI)(ty:TypeId)(sz:Nat)(xs:List DV)(off:Nat):Option DV:=
 match MH T ty with
 |some tf=>match tf.agg with
  |true=>match Hj xs off sz with|some l=>some (.agg l)|none=>none
  |false=>match Hj xs off 1 with|some [x]=>some x|_=>none
 |none=>none
def wP(W:Wd)(T:List TI)(op:Op)(ts:List DV)(rw:List DR)(ret:DV->Option β):Option β:=
 match op with
 | .move x=>o1 (wO ts x) ret
 | .assign x=>o1 (wO ts x) ret
 | .pick c a b=>o1 (wO ts c) λc=>match c with
  | .lit true=>o1 (wO ts a) ret
  | .lit false=>o1 (wO ts b) ret
  | .bool g=>o1 (wO ts a) λa=>o1 (wO ts b) λb=>o1 (an6 g a b) ret
  |_=>none
 | .nilCheck x=>o1 (wO ts x) λp=>match p with
  | .own i o=>ret (.own i o)
  | .el t x o=>ret (.el t x o)
  | .re j i o=>ret (.re j i o)
  | .fn f cs=>ret (.fn f cs)
  |_=>none
 | .binOp op t x y _=>o1 (wO ts x) λa=>o1 (wO ts y) λb=>avP W T op t a b ret
 | .unOp op _ x=>o1 (wO ts x) λa=>o1 (unV op a) ret
 | .convert src dst x=>o1 (wO ts x) λa=>match MH T src,CQ T dst,a with
  |some _,some (.int k),.int _ n=>ret (.int k (k.wrap n))
  |some _,some .string,.str s=>ret (.str s)
  |_,_,_=>none
 | .fieldAddr s x f=>o1 (wO ts x) λa=>match CQ T s with
  |some (.struct fs)=>o1 (acy fs f) λq=>o1 (an7 a q.1) ret
  |_=>none
 | .field s x f=>o1 (wO ts x) λa=>match CQ T s,a with
  |some (.struct fs),.agg xs=>o1 (acy fs f) λq=>o1 (an8 T q.2.1 q.2.2 xs q.1) ret
  |_,_=>none
 | .indexAddr t x ix=>o1 (wO ts x) λa=>o1 (wO ts ix) λi=>match CQ T t,a,i with
  |some (.slice e),.sl t' l,.int _ i=>match MH T e with
   |some te=>match Nat.beq te.size t'.size,Nat.blt 0 t'.size with
    |true,true=>W.aI l i λx=>ret (.el t' x 0)
    |_,_=>none
   |none=>none
  |some (.slice e),.row j,.int _ i=>match MH T e,MF rw j with
   |some te,some (.own _ t' l)=>match Nat.beq te.size t'.size,Nat.blt 0 t'.size with
    |true,true=>W.aI l i λ_=>ret (.re j i.toNat 0)
    |_,_=>none
   |_,_=>none
  |some (.slice e),.fns l,.int _ (.ofNat k)=>match MH T e with
   |some te=>match Nat.beq te.size 1,Nat.blt k l.length with
    |true,true=>ret (.fp l k)
    |_,_=>none
   |none=>none
  |_,_,_=>none
 | .extract t i=>o1 (wO ts t) λa=>match a with
  | .IC xs=>match Hj xs i 1 with|some [x]=>ret x|_=>none
  |_=>none
 | .slice t x lo hi mx=>o1 (wO ts x) λa=>match an5 ts lo,an5 ts hi with
  |some lo,some hi=>match CQ T t,a,mx with
   |some (.slice e),.sl t' l,none=>match MH T e with
    |some te=>match Nat.beq te.size t'.size with
     |true=>match lo with
      |none=>afz W hi l.length l.length λh=>ret (.sl t' (l.take h))
      |some lo=>afz W hi l.length l.length λh=>afz W (some lo) 0 h λk=>ret (.sl t' ((l.take h).drop k))
     |false=>none
    |none=>none
   |some .string,.str s,none=>afz W hi s.size s.size λh=>afz W lo 0 h λl=>ret (.str (s.extract l h))
   |some (.slice e),.sl t' l,some m=>match lo,hi,wO ts m,MH T e with
    |none,some (.int _ n),some (.int _ k),some te=>match Nat.beq te.size t'.size with
     |true=>W.af (n==(l.length:Int)&&k==(l.length:Int)) (ret (.cs t' l)) none
     |false=>none
    |_,_,_,_=>none
   |_,_,_=>none
  |_,_=>none
 | .build t parts=>match OL ts parts.toList with
  |some ps=>match MH T t with
   |some ti=>match ti.td,ti.zero with
    | .struct fs,z::zs=>match arD fs with
     |true=>acz fs (Dv (z::zs)) ps λcells=>ret (.agg cells)
     |false=>none
    | .array n e,z::zs=>match MH T e with
     |some te=>match Nat.blt 0 te.size with
      |true=>acz (Xn e te.size n 0) (Dv (z::zs)) ps λcells=>ret (.agg cells)
      |false=>none
     |none=>none
    |_,_=>none
   |none=>none
  |none=>none
 | .makeFunc fn first An=>match fn,first.toList,An.toList with
  | .func f,[],cs=>match Nat.ble 1000000 f,opsV ts cs with|false,some cs=>ret (.fn f cs)|_,_=>none
  | .func f,fs,[]=>match opsV ts fs with|some cs=>ret (.fn (f+1000000) cs)|none=>none
  |_,_,_=>none
 | .call c=>match c.callee with
  | .builtin b=>match opsV ts c.args.toList with|some xs=>MJ T b c.argTypes xs rw ret|none=>none
  |_=>none
 |_=>none
def Xp(ti:TI)(cs:List DV)(off:Nat)(ret:DV->Option β):Option β:=
 match ti.agg,ti.size with
 |true,n+1=>match Hj cs off (n+1)with|some l=>ret (.agg l)|none=>none
 |false,_=>match Hj cs off 1 with|some [x]=>ret x|_=>none
 |_,_=>none
def P5(W:Wd)(T:List TI)(t:TypeId)(A:DV)(pb:ij)(rw:List DR)(ret:DV->Option β):Option β:=
 match MH T t with
 |some ti=>match A with
  | .own i off=>match RS pb i with
   |some b=>Xp ti b.cells off ret
   |none=>none
  | .el t' x off=>Xp ti (t'.cells x []) off ret
  | .fp l k=>Xp ti l k ret
  | .re j i off=>match MF rw j with
   |some (.own _ t' l)=>W.cr l i λx=>Xp ti (t'.cells x []) off ret
   |_=>none
  |_=>none
 |none=>none
def an9(t:DT):List (Nat×DV)->Nat->Option (List t.den)
 |[],_=>some []
 |(i,p)::ps,n=>match Nat.beq i n,t.ofV p with
  |true,some x=>match an9 t ps (n+1)with|some l=>some (x::l)|none=>none
  |_,_=>none
mutual
def DV.rows:DV->List Nat->List Nat
 | .row j,acc=>j::acc
 | .ob j,acc=>j::acc
 | .fn _ cs,acc=>Bu cs acc
 | .agg cs,acc=>Bu cs acc
 | .IC cs,acc=>Bu cs acc
 | .fns cs,acc=>Bu cs acc
 | .fp cs _,acc=>Bu cs acc
 |_,acc=>acc
def Bu:List DV->List Nat->List Nat
 |[],acc=>acc
 |p::ps,acc=>p.rows (Bu ps acc)
end
def KB:List Nat->List DV->ij->List DR->List DV->(List DV->ij->List DR->List DV->Option β)->Option β
 |[],ts,pb,rw,ps,K=>K ts pb rw ps
 |j::js,ts,pb,rw,ps,K=>match MF rw j with
  |some (.own _ t l)=>vH (j6 j (.sl t l)) ts λts=>CP (j6 j (.sl t l)) pb λpb=>vH (j6 j (.sl t l)) ps λps=>zy rw j .dead λrw=>KB js ts pb rw ps K
  |some (.obj (.set ks))=>vH (j6 j (.set ks)) ts λts=>CP (j6 j (.set ks)) pb λpb=>vH (j6 j (.set ks)) ps λps=>zy rw j .dead λrw=>KB js ts pb rw ps K
  |_=>KB js ts pb rw ps K
def jw(dst:Option Tmp)(x:DV)(ts:List DV)(pb:ij)(rw:List DR)(K:DK β):Option β:=
 match dst with
 |none=>K ts pb rw
 |some d=>zy ts d x λl=>K l pb rw
inductive NK where
 |ptr
 |slc
 |fn
def NK.val:NK->Value
 | .ptr=>.pointer none
 | .slc=>.slice none 0 0
 | .fn=>.nilFunc
def NK.is:NK->Value->Bool
 | .ptr,.pointer none=>true
 | .slc,.slice none 0 0=>true
 | .fn,.nilFunc=>true
 |_,_=>false
inductive QT where
 |v (t:DT)
 |own (e:TypeId) (t:DT)
 |ptr (k:Nat)
 |nil (k:NK)
 |unit
 |pair (a b:QT)
@[reducible] def QT.den:QT->Type
 | .v t=>t.den
 | .own _ t=>List t.den
 | .ptr _=>Unit
 | .nil _=>Unit
 | .unit=>Unit
 | .pair a b=>a.den×b.den
structure ES where
 P:DT
 Q:QT
 fn:P.den->Option Q.den
inductive PK where
 |v (t:DT)
 |row (e:TypeId) (t:DT)
 |ptr (k:Nat)
 |fn (g:Nat) (l:List PK)
 |agg (l:List PK)
 |fns (l:List PK)
 |nil (k:NK)
structure BK where
 ty:TypeId
 cells:List PK
mutual
@[reducible] def PK.T:PK->DT->DT
 | .v t,r=>.pair t r
 | .row _ t,r=>.pair (.slc t) r
 | .ptr _,r=>r
 | .fn _ l,r=>Jt l r
 | .agg l,r=>Jt l r
 | .fns l,r=>Jt l r
 | .nil _,r=>r
@[reducible] def Jt:List PK->DT->DT
 |[],r=>r
 |p::l,r=>p.T (Jt l r)
end
@[reducible] def Ge:List BK->DT->DT
 |[],r=>r
 |B::l,r=>Jt B.cells (Ge l r)
structure LS where
 B:List BK
 P:List PK
 E:List BK
 Q:QT
 fn:(Ge B (Jt P .unit)).den->Option (Q.den×(Ge E .unit).den)
structure MU where
 e:TypeId
 t:DT
 P:List PK
 fn:List t.den->(Jt P .unit).den->Option (List t.den)
inductive EC where
 |es (s:ES)
 |ls (s:LS)
 |mu (s:MU)
abbrev GK:=List (Nat×EC)
def a0u:PK->DV->Bool
 | .fn g _,.fn g' _=>Nat.beq g g'
 | .nil n,.v y=>n.is y
 | .nil _,_=>false
 | .ptr _,.v _=>false
 |_,_=>true
def anA:List PK->List DV->Bool
 |p::l,v::vs=>a0u p v&&anA l vs
 |_,_=>true
def a0v:EC->List DV->Bool
 | .ls s,xs=>anA s.P xs
 | .es _,_=>true
 | .mu s,xs=>anA s.P xs.tail
def esL:GK->Nat->List DV->List EC
 |[],_,_=>[]
 |(n,s)::ss,f,xs=>match Nat.beq n f&&a0v s xs with|true=>s::esL ss f xs|false=>esL ss f xs
def ofA:(P:DT)->List DV->Option P.den
 | .unit,vs=>match vs with|[]=>some ()|_=>none
 | .pair a b,vs=>match vs with
  |v::vs=>match a.ofV v,ofA b vs with|some x,some y=>some (x,y)|_,_=>none
  |_=>none
 |_,_=>none
def zO:(P:DT)->P.den->List DV
 | .pair a b,x=>a.val x.1::zO b x.2
 |_,_=>[]
def Gi:List (Nat×Nat)->Nat->Option Nat
 |[],_=>none
 |(k,i)::l,n=>match Nat.beq k n with|true=>some i|false=>Gi l n
mutual
def PK.ids:PK->DV->List (Nat×Nat)->List (Nat×Nat)
 | .ptr k,.own i _,am=>match Gi am k with|some _=>am|none=>(k,i)::am
 | .fn _ l,.fn _ cs,am=>akr l cs am
 | .agg l,.agg cs,am=>akr l cs am
 | .fns l,.fns cs,am=>akr l cs am
 |_,_,am=>am
def akr:List PK->List DV->List (Nat×Nat)->List (Nat×Nat)
 |p::l,v::vs,am=>akr l vs (p.ids v am)
 |_,_,am=>am
end
def arF:List BK->Nat->ij->List (Nat×Nat)->List (Nat×Nat)
 |[],_,_,am=>am
 |B::l,n,pb,am=>match Gi am n with
  |some i=>match RS pb i with
   |some b=>arF l (n+1) pb (akr B.cells b.cells am)
   |none=>am
  |none=>am
def Hk:List Nat->Bool
 |[]=>true
 |n::l=>!Bp n l&&Hk l
def QX:List (Nat×Nat)->List Nat
 |[]=>[]
 |p::l=>p.2::QX l
mutual
def PK.frz:PK->DV->List Nat->List Nat
 | .v _,p,acc=>p.rows acc
 | .fn _ l,.fn _ cs,acc=>Zo l cs acc
 | .agg l,.agg cs,acc=>Zo l cs acc
 | .fns l,.fns cs,acc=>Zo l cs acc
 |_,_,acc=>acc
def Zo:List PK->List DV->List Nat->List Nat
 |p::l,v::vs,acc=>p.frz v (Zo l vs acc)
 |_,_,acc=>acc
end
def arG(am:List (Nat×Nat)):List BK->Nat->ij->List Nat->List Nat
 |[],_,_,acc=>acc
 |B::l,n,pb,acc=>match Gi am n with
  |some i=>match RS pb i with
   |some b=>Zo B.cells b.cells (arG am l (n+1) pb acc)
   |none=>acc
  |none=>acc
structure MS where
 rs:List (Option Nat)
 rw:List DR
mutual
def PK.x(am:List (Nat×Nat)):(p:PK)->(r:DT)->DV->MS->(MS->Option (r.den×MS))->Option ((p.T r).den×MS)
 | .v t,_,u,m,k=>match t.ofV u,k m with
  |some x,some (y,m)=>some ((x,y),m)
  |_,_=>none
 | .row e t,_,u,m,k=>match u with
  | .row j=>match MF m.rw j with
   |some (.own e' t' xs)=>match Nat.beq e' e,t'.same t,k ⟨m.rs++[some j],m.rw.set j .dead⟩with
    |true,some ⟨h⟩,some (y,m)=>some ((DT.PY h xs,y),m)
    |_,_,_=>none
   |_=>none
  | .v (.slice none 0 0)=>match k ⟨m.rs++[none],m.rw⟩with
   |some (y,m)=>some (([],y),m)
   |none=>none
  |_=>none
 | .ptr n,_,u,m,k=>match u with
  | .own i o=>match o,Gi am n with
   |0,some i'=>match Nat.beq i i' with|true=>k m|false=>none
   |_,_=>none
  |_=>none
 | .fn g l,r,u,m,k=>match u with
  | .fn g' cs=>match Nat.beq g' g with|true=>pkX am l r cs m k|false=>none
  |_=>none
 | .agg l,r,u,m,k=>match u with
  | .agg cs=>pkX am l r cs m k
  |_=>none
 | .fns l,r,u,m,k=>match u with
  | .fns cs=>pkX am l r cs m k
  |_=>none
 | .nil n,_,u,m,k=>match u with
  | .v y=>match n.is y with|true=>k m|false=>none
  |_=>none
def pkX(am:List (Nat×Nat)):(l:List PK)->(r:DT)->List DV->MS->(MS->Option (r.den×MS))->Option ((Jt l r).den×MS)
 |[],_,vs,m,k=>match vs with|[]=>k m|_=>none
 |p::l,r,vs,m,k=>match vs with
  |v::vs=>p.x am (Jt l r) v m λm=>pkX am l r vs m k
  |_=>none
end
def bkX(am:List (Nat×Nat))(pb:ij):(l:List BK)->Nat->(r:DT)->MS->(MS->Option (r.den×MS))->Option ((Ge l r).den×MS)
 |[],_,_,m,k=>k m
 |B::l,n,r,m,k=>match Gi am n with
  |some i=>match RS pb i with
   |some b=>match Nat.beq b.ty B.ty with
    |true=>pkX am B.cells (Ge l r) b.cells m λm=>bkX am pb l (n+1) r m k
    |false=>none
   |none=>none
  |none=>none
mutual
def PK.mk:(p:PK)->(r:DT)->(p.T r).den->List DR->DV×r.den×List DR
 | .v t,_,z,rw=>(t.val z.1,z.2,rw)
 | .row e t,_,z,rw=>(.row rw.length,z.2,rw++[.own e t z.1])
 | .ptr k,_,z,rw=>(.own k 0,z,rw)
 | .fn g l,r,z,rw=>match Hl l r z rw with|(vs,y,rw)=>(.fn g vs,y,rw)
 | .agg l,r,z,rw=>match Hl l r z rw with|(vs,y,rw)=>(.agg vs,y,rw)
 | .fns l,r,z,rw=>match Hl l r z rw with|(vs,y,rw)=>(.fns vs,y,rw)
 | .nil n,_,z,rw=>(.v n.val,z,rw)
def Hl:(l:List PK)->(r:DT)->(Jt l r).den->List DR->List DV×r.den×List DR
 |[],_,z,rw=>([],z,rw)
 |p::l,r,z,rw=>match p.mk (Jt l r) z rw with|(v,y,rw)=>match Hl l r y rw with|(vs,y,rw)=>(v::vs,y,rw)
end
def zP:(l:List BK)->(r:DT)->(Ge l r).den->List DR->ij×r.den×List DR
 |[],_,z,rw=>([],z,rw)
 |B::l,r,z,rw=>match Hl B.cells (Ge l r) z rw with|(vs,y,rw)=>match zP l r y rw with|(bs,y,rw)=>(some ⟨B.ty,vs,true⟩::bs,y,rw)
mutual
def QT.mk:(Q:QT)->Q.den->List DR->DV×List DR
 | .v t,x,rw=>(t.val x,rw)
 | .own e t,l,rw=>(.row rw.length,rw++[.own e t l])
 | .ptr k,_,rw=>(.own k 0,rw)
 | .nil n,_,rw=>(.v n.val,rw)
 | .unit,_,rw=>(.IC [],rw)
 | .pair a b,q,rw=>match a.mk q.1 rw with|(u,rw)=>match b.mks q.2 rw with|(vs,rw)=>(.IC (u::vs),rw)
def QT.mks:(Q:QT)->Q.den->List DR->List DV×List DR
 | .pair a b,q,rw=>match a.mk q.1 rw with|(u,rw)=>match b.mks q.2 rw with|(vs,rw)=>(u::vs,rw)
 |_,_,rw=>([],rw)
end
def arH(ρ:List (Option Nat))(e:TypeId)(t:DT)(l:List t.den)(rw:List DR)(K:DV->List (Option Nat)->List DR->Option β):Option β:=
 match ρ with
 |some j::ρ=>zy rw j (.own e t l) λrw=>K (.row j) ρ rw
 |none::ρ=>vG rw (.own e t l) λrw'=>Gz rw.length λn=>K (.row n) ρ rw'
 |[]=>vG rw (.own e t l) λrw'=>Gz rw.length λn=>K (.row n) [] rw'
mutual
def PK.o(σ:Nat->Option Nat):(p:PK)->(r:DT)->(p.T r).den->List (Option Nat)->List DR->(DV->r.den->List (Option Nat)->List DR->Option β)->Option β
 | .v t,_,z,ρ,rw,K=>K (t.val z.1) z.2 ρ rw
 | .row e t,_,z,ρ,rw,K=>arH ρ e t z.1 rw λv ρ rw=>K v z.2 ρ rw
 | .ptr k,_,z,ρ,rw,K=>match σ k with|some i=>K (.own i 0) z ρ rw|none=>none
 | .fn g l,r,z,ρ,rw,K=>pkO σ l r z ρ rw λvs y ρ rw=>K (.fn g vs) y ρ rw
 | .agg l,r,z,ρ,rw,K=>pkO σ l r z ρ rw λvs y ρ rw=>K (.agg vs) y ρ rw
 | .fns l,r,z,ρ,rw,K=>pkO σ l r z ρ rw λvs y ρ rw=>K (.fns vs) y ρ rw
 | .nil n,_,z,ρ,rw,K=>K (.v n.val) z ρ rw
def pkO(σ:Nat->Option Nat):(l:List PK)->(r:DT)->(Jt l r).den->List (Option Nat)->List DR->(List DV->r.den->List (Option Nat)->List DR->Option β)->Option β
 |[],_,z,ρ,rw,K=>K [] z ρ rw
 |p::l,r,z,ρ,rw,K=>p.o σ (Jt l r) z ρ rw λv y ρ rw=>pkO σ l r y ρ rw λvs y ρ rw=>K (v::vs) y ρ rw
end
def bkO(σ:Nat->Option Nat)(m:Nat):(l:List BK)->Nat->(r:DT)->(Ge l r).den->List (Option Nat)->ij->List DR->(r.den->List (Option Nat)->ij->List DR->Option β)->Option β
 |[],_,_,z,ρ,pb,rw,K=>K z ρ pb rw
 |B::l,n,r,z,ρ,pb,rw,K=>pkO σ B.cells (Ge l r) z ρ rw λvs y ρ rw=>match Nat.blt n m with
  |true=>match σ n with
   |some i=>zy pb i (some ⟨B.ty,vs,true⟩) λpb=>bkO σ m l (n+1) r y ρ pb rw K
   |none=>none
  |false=>vG pb (some ⟨B.ty,vs,true⟩) λpb=>bkO σ m l (n+1) r y ρ pb rw K
mutual
def QT.o(σ:Nat->Option Nat):(Q:QT)->Q.den->List (Option Nat)->List DR->(DV->List (Option Nat)->List DR->Option β)->Option β
 | .v t,x,ρ,rw,K=>K (t.val x) ρ rw
 | .own e t,l,ρ,rw,K=>arH ρ e t l rw K
 | .ptr k,_,ρ,rw,K=>match σ k with|some i=>K (.own i 0) ρ rw|none=>none
 | .nil n,_,ρ,rw,K=>K (.v n.val) ρ rw
 | .unit,_,ρ,rw,K=>K (.IC []) ρ rw
 | .pair a b,q,ρ,rw,K=>a.o σ q.1 ρ rw λv ρ rw=>b.os σ q.2 ρ rw λvs ρ rw=>K (.IC (v::vs)) ρ rw
def QT.os(σ:Nat->Option Nat):(Q:QT)->Q.den->List (Option Nat)->List DR->(List DV->List (Option Nat)->List DR->Option β)->Option β
 | .pair a b,q,ρ,rw,K=>a.o σ q.1 ρ rw λv ρ rw=>b.os σ q.2 ρ rw λvs ρ rw=>K (v::vs) ρ rw
 |_,_,ρ,rw,K=>K [] ρ rw
end
def QT.free:QT->Bool
 | .v t=>t.free
 | .own _ t=>t.free
 | .ptr _=>true
 | .nil _=>true
 | .unit=>true
 | .pair a b=>a.free&&b.free
mutual
def PK.free:PK->Bool
 | .v t=>t.free
 | .row _ t=>t.free
 | .ptr _=>true
 | .fn _ l=>OM l
 | .agg l=>OM l
 | .fns _=>false
 | .nil _=>true
def OM:List PK->Bool
 |[]=>true
 |p::l=>p.free&&OM l
end
def Tz:List BK->Bool
 |[]=>true
 |B::l=>OM B.cells&&Tz l
def tz(rw:List DR):Nat->Option DV:=λj=>match MF rw j with|some (.own _ t l)=>some (.sl t l)|some (.obj (.set ks))=>some (.set ks)|_=>none
mutual
def PK.view(rw:List DR):PK->DV->(DV->Option β)->Option β
 | .v _,p,K=>p.MG (tz rw) K
 | .fn _ l,.fn g cs,K=>MK rw l cs λcs=>K (.fn g cs)
 | .agg l,.agg cs,K=>MK rw l cs λcs=>K (.agg cs)
 | .fns l,.fns cs,K=>MK rw l cs λcs=>K (.fns cs)
 |_,p,K=>K p
def MK(rw:List DR):List PK->List DV->(List DV->Option β)->Option β
 |p::l,v::vs,K=>p.view rw v λv=>MK rw l vs λvs=>K (v::vs)
 |_,vs,K=>K vs
end
def Gj:List (Option Nat)->List Nat
 |[]=>[]
 |some j::l=>j::Gj l
 |none::l=>Gj l
def Zp(al:Nat->Bool):List Nat->Bool
 |[]=>true
 |i::l=>al i&&Zp al l
def anB:List BK->List BK->Bool
 |[],_=>true
 |B::l,l'=>match l' with|E::l'=>Nat.beq B.ty E.ty&&anB l l'|[]=>false
def anC(am:List (Nat×Nat))(m n:Nat):Nat->Option Nat:=λk=>match Nat.blt k m with|true=>Gi am k|false=>some (n+(k-m))
def ON:List (Nat×Nat)->Nat->Bool
 |[],_=>true
 |(k,_)::l,n=>Nat.blt k n&&ON l n
def arI:List Nat->List Nat->Bool
 |[],_=>true
 |n::l,js=>!Bp n js&&arI l js
def ahQ(W:Wd)(s:LS)(al:Nat->Bool)(am:List (Nat×Nat))(vw:List Nat)(xs ts:List DV)(pb:ij)(rw:List DR)(K:DV->DK β):Option β:=
 match Hk (QX am)&&Zp al (QX am)&&anB s.B s.E&&ON am s.B.length,bkX am pb s.B 0 (Jt s.P .unit) ⟨[],rw⟩ (λm=>pkX am s.P .unit xs m λm=>some ((),m))with
 |true,some (z,m)=>match arI vw (Gj m.rs)with
  |true=>vH (P4 (Gj m.rs)) ts λts=>CP (P4 (Gj m.rs)) pb λpb=>W.ae (s.fn z) λo=>bkO (anC am s.B.length pb.length) s.B.length s.E 0 .unit o.2 m.rs pb m.rw λ_ ρ P6 rw=>s.Q.o (anC am s.B.length pb.length) o.1 ρ rw λv _ rw=>K v ts P6 rw
  |false=>none
 |_,_=>none
def esF(W:Wd)(s:ES)(xs ts:List DV)(pb:ij)(rw:List DR)(K:DV->DK β):Option β:=
 match ofA s.P xs with
 |some x=>W.ae (s.fn x) λq=>s.Q.o (λ_=>none) q [] rw λv _ rw=>K v ts pb rw
 |none=>none
def anD(W:Wd)(s:MU)(xs ts:List DV)(pb:ij)(rw:List DR)(K:DV->DK β):Option β:=
 match xs with
 | .row j::ys=>match MF rw j with
  |some (.own e t l)=>match Nat.beq e s.e&&s.t.free,t.same s.t,pkX [] s.P .unit ys ⟨[],rw⟩ (λm=>some ((),m))with
   |true,some ⟨h⟩,some (z,m)=>match m.rs with
    |[]=>W.ae (s.fn (DT.PY h l) z) λl'=>zy rw j (.own s.e s.t l') λrw=>K (.IC []) ts pb rw
    |_=>none
   |_,_,_=>none
  |_=>none
 |_=>none
def ac0(W:Wd)(c:EC)(al:Nat->Bool)(xs ts:List DV)(pb:ij)(rw:List DR)(K:DV->DK β):Option β:=
 match c with
 | .mu s=>anD W s xs ts pb rw K
 | .es s=>match s.Q.free with
  |true=>vH (tz rw) xs λxs=>esF W s xs ts pb rw K
  |false=>KB (Bu xs []) ts pb rw xs λts pb rw xs=>esF W s xs ts pb rw K
 | .ls s=>match arF s.B 0 pb (akr s.P xs [])with
  |am=>match s.Q.free&&Tz s.E with
   |true=>KB (arG am s.B 0 pb []) ts pb rw xs λts pb rw xs=>MK rw s.P xs λys=>ahQ W s al am (Zo s.P xs []) ys ts pb rw K
   |false=>KB (arG am s.B 0 pb (Zo s.P xs [])) ts pb rw xs λts pb rw xs=>ahQ W s al am [] xs ts pb rw K
def ac1(W:Wd)(al:Nat->Bool)(xs ts:List DV)(pb:ij)(rw:List DR)(K:DV->DK β):List EC->Option β
 |[]=>none
 |c::l=>match l with
  |[]=>ac0 W c al xs ts pb rw K
  |_::_=>W.auv (ac0 W c al xs ts pb rw K) (ac1 W al xs ts pb rw K l)
def anE(W:Wd)(C:GK)(al:Nat->Bool)(g:Nat)(xs ts:List DV)(pb:ij)(rw:List DR)(K:DV->DK β):Option β:=ac1 W al xs ts pb rw K (esL C g xs)
end Go.Vc




namespace Go.Vc
open Go Go.RowKit
variable {β : Type}
def strOf(ns:List Int):ByteArray:=ns.foldl (λr n=>r.push (UInt8.ofNat n.toNat)) ByteArray.empty
def avV:List (Nat×Nat)->Nat->Option Nat
 |[],_=>none
 |(d,i)::l,n=>match Nat.beq d n with|true=>some i|false=>avV l n
def ahR(av:List (Nat×Nat))(dst:Option Tmp)(ty:TypeId)(cs ts:List DV)(pb:ij)(rw:List DR)(K:DK β):Option β:=
 match dst with
 |none=>none
 |some d=>match avV av d with
  |some i=>match ID pb i with
   |true=>zy pb i (some ⟨ty,cs,true⟩) λpb'=>jw (some d) (.own i 0) ts pb' rw K
   |false=>none
  |none=>vG pb (some ⟨ty,cs,true⟩) λpb'=>Gz pb.length λn=>jw (some d) (.own n 0) ts pb' rw K
def Xq:List (Nat×DV)->List DV
 |[]=>[]
 |(_,p)::ps=>p::Xq ps
def TA:List (Nat×DV)->List DV->List (Nat×DV)
 |(i,_)::ps,q::qs=>(i,q)::TA ps qs
 |_,_=>[]
def auw(f:TypeId->Option DT):List (Nat×Nat×Nat)->Option DT
 |[]=>some .unit
 |(_,ty,_)::fs=>match f ty,auw f fs with
  |some a,some b=>some (.pair a b)
  |_,_=>none
def ayq(a:DT):Nat->DT
 |0=>.unit
 |n+1=>.pair a (ayq a n)
def anF(T:List TI):Nat->TypeId->Option DT
 |0,_=>none
 |n+1,t=>match CQ T t with
  |some (.int k)=>some (.int k)
  |some .bool=>some .bool
  |some .string=>some .str
  |some (.slice e)=>match anF T n e with|some a=>some (.slc a)|none=>none
  |some (.struct fs)=>auw (anF T n) fs
  |some (.array m e)=>match anF T n e with|some a=>some (ayq a m)|none=>none
  |_=>none
def a0w(T:List TI)(o:Oper)(ts:List DV):Option ByteArray:=
 match o.op with
 | .convert src dst x=>match wO ts x with
  |some (.sl (.int .u8) l)=>match CQ T src,CQ T dst with
   |some (.slice e),some .string=>match CQ T e with|some (.int .u8)=>some (strOf l)|_=>none
   |_,_=>none
  |_=>none
 |_=>none
def a1n(T:List TI)(src dst:TypeId)(x:Option DV):Option ByteArray:=
 match x,CQ T src,CQ T dst with
 |some (.str s),some .string,some (.slice e)=>match CQ T e with|some (.int .u8)=>some s|_=>none
 |_,_,_=>none
def ayr:Operand->Bool
 | .const (.int _ (.ofNat 0))=>true
 |_=>false
def ays(k:IntKind):List Value->Option (List Int)
 |[]=>some []
 |v::vs=>match v with
  | .int k' n=>match eqk k' k,ays k vs with
   |true,some l=>some (n::l)
   |_,_=>none
  |_=>none
def ayt(k:IntKind):List DV->Option (List Int)
 |[]=>some []
 |v::vs=>match v with
  | .int k' n=>match eqk k' k,ayt k vs with
   |true,some l=>some (n::l)
   |_,_=>none
  |_=>none
def a0x(T:List TI)(t:TypeId)(x:Option DV)(lo hi mx:Option Operand)(rw:List DR):Option DV:=
 match lo,hi,mx,CQ T t with
 |none,none,none,some (.array n e)=>match CQ T e,x with
  |some (.int _),some (.ra j)=>match MF rw j with
   |some (.own _ _ l)=>match Nat.beq l.length n&&Nat.blt 0 n with|true=>some (.row j)|false=>none
   |_=>none
  |some (.int _),some (.re j i o)=>match MF rw j with
   |some (.own _ t' _)=>match Nat.beq t'.size n&&(Nat.beq o 0&&Nat.blt 0 n)with|true=>some (.rs j i)|false=>none
   |_=>none
  |_,_=>none
 |_,_,_,_=>none
def anG:List (Nat×DV)->Nat->Bool
 |[],_=>true
 |(i,p)::ps,n=>Nat.beq i n&&(match p with | .fn _ _=>anG ps (n+1)|_=>false)
def avQ(T:List TI)(t:TypeId)(len:Nat)(ps:List (Nat×DV)):Option (List DV):=
 match CQ T t with
 |some (.slice e)=>match MH T e with
  |some te=>match Nat.beq te.size 1&&(Nat.beq te.zero.length 1&&!te.agg),Nat.beq len ps.length&&(Nat.blt 0 len&&(Nat.ble len 16777216&&anG ps 0))with
   |true,true=>some (Xq ps)
   |_,_=>none
  |none=>none
 |_=>none
def a1o(T:List TI)(xs:List DV)(tys:List TypeId)(rw:List DR):Option (Nat×TypeId×List Int×ByteArray×Nat):=
 match xs,tys with
 |[.row j,.str s],[t,t']=>match CQ T t,CQ T t',MF rw j with
  |some (.slice e),some .string,some (.own e2 (.int .u8) l)=>match CQ T e,MH T e with
   |some (.int .u8),some te=>match Nat.beq e e2&&(Nat.beq te.zero.length te.size&&Nat.beq te.size 1)with
    |true=>some (j,e,l,s,te.bytes)
    |false=>none
   |_,_=>none
  |_,_,_=>none
 |_,_=>none
def a1p(T:List TI)(xs:List DV)(tys:List TypeId):Option (TypeId×ByteArray×Nat):=
 match xs,tys with
 |[.v (.slice none 0 0),.str s],[t,t']=>match CQ T t,CQ T t' with
  |some (.slice e),some .string=>match CQ T e,MH T e with
   |some (.int .u8),some te=>match Nat.beq te.zero.length te.size&&Nat.beq te.size 1 with
    |true=>some (e,s,te.bytes)
    |false=>none
   |_,_=>none
  |_,_=>none
 |_,_=>none
def anH:GK->Bool
 |[]=>false
 |(g,_)::C=>match Nat.beq g 2000000 with|true=>true|false=>anH C
def ayu(C:GK)(x:Option DV)(lo hi mx:Option Operand)(ts:List DV):Option (Nat×Int):=
 match anH C with
 |true=>match x,lo,hi,mx with
  |some (.row j),none,some h,none=>match wO ts h with|some (.int _ n)=>some (j,n)|_=>none
  |_,_,_,_=>none
 |false=>none
def qV(W:Wd)(T:List TI)(C:GK)(al:Nat->Bool)(av:List (Nat×Nat))(o:Oper)(ts:List DV)(pb:ij)(rw:List DR)(K:DK β):Option β:=
 match o.op with
 | .alloc t=>match MH T t with
  |some ti=>match ti.zero with
   |z::zs=>ahR av o.dst t (Dv (z::zs)) ts pb rw K
   |[]=>none
  |none=>none
 | .box t x=>match wO ts x with
  |some a=>match Ty a with|some cs=>ahR av o.dst t cs ts pb rw K|none=>none
  |none=>none
 | .load t a=>match wO ts a with
  |some A=>P5 W T t A pb rw λx=>jw o.dst x ts pb rw K
  |none=>none
 | .store t a x=>match wO ts a,wO ts x,MH T t with
  |some a,some x,some ti=>match Ty x with
   |some cs=>match Nat.beq cs.length ti.size,ahM cs,a with
    |true,true,.own i off=>match al i,RS pb i with
     |true,some y=>match Hj y.cells off ti.size with
      |some _=>wrE y.cells off cs λcells=>zy pb i (some ⟨y.ty,cells,true⟩) λpb'=>jw o.dst .OJ ts pb' rw K
      |none=>none
     |_,_=>none
    |true,true,.re j i off=>KB (Bu cs []) ts pb rw (.re j i off::cs) λts pb rw ps=>match ps with
     | .re j i off::cs=>match MF rw j with
      |some (.own e t' l)=>match Nat.ble (off+cs.length) t'.size with
       |true=>W.cr l i λy=>wrE (t'.cells y []) off cs λcells=>match t'.of cells with
        |some (y',[])=>zy rw j (.own e t' (l.set i y')) λrw=>jw o.dst .OJ ts pb rw K
        |_=>none
       |false=>none
      |_=>none
     |_=>none
    |_,_,_=>none
   |none=>none
  |_,_,_=>none
 | .call c=>match c.callee with
  | .value f=>match wO ts f,opsV ts c.args.toList with
   |some (.fn g An),some xs=>match Nat.ble 1000000 g with
    |true=>anE W C al (g-1000000) (An++xs) ts pb rw λr ts pb rw=>jw o.dst r ts pb rw K
    |false=>anE W C al g (xs++An) ts pb rw λr ts pb rw=>jw o.dst r ts pb rw K
   |_,_=>none
  | .builtin b=>match opsV ts c.args.toList with
   |some xs=>match b with
    | .append=>match xs with
     |[a,b]=>KB (b.rows []) ts pb rw [a,b] λts pb rw xs=>match xs,c.argTypes.toList with
      |[a,b],[t,t']=>match CQ T t with
       |some (.slice e)=>match MH T e with
        |some te=>match Nat.beq t t',Nat.beq te.zero.length te.size,b with
         |true,true,.sl t2 news=>match Nat.blt 0 t2.size,a with
          |true,.row j=>match MF rw j with
           |some (.own e2 t1 l)=>match Nat.beq e e2,Nat.beq t1.size te.size,t2.same t1 with
            |true,true,some ⟨h⟩=>W.bi (l.length+news.length) te.bytes (vH (j6 j .jz) ts λts=>CP (j6 j .jz) pb λpb=>zy rw j (.own e t1 (l++DT.PY h news)) λrw=>jw o.dst (.row j) ts pb rw K)
            |_,_,_=>none
           |_=>none
          |true,.v (.slice none 0 0)=>match Nat.beq t2.size te.size with
           |true=>W.bi news.length te.bytes (vG rw (.own e t2 news) λrw'=>Gz rw.length λn=>jw o.dst (.row n) ts pb rw' K)
           |false=>none
          |true,.cs t1 l=>match Nat.beq t1.size te.size,t2.same t1,news with
           |true,some ⟨h⟩,y::ys=>W.bi (l.length+(y::ys).length) te.bytes (vG rw (.own e t1 (l++DT.PY h (y::ys))) λrw'=>Gz rw.length λn=>jw o.dst (.row n) ts pb rw' K)
           |_,_,_=>none
          |_,_=>none
         |_,_,_=>none
        |none=>none
       |_=>none
      |_,_=>none
     |_=>none
    | .clear=>match xs,c.argTypes.toList with
     |[.rt j i],[t]=>match CQ T t with
      |some (.slice e)=>match MH T e,MF rw j with
       |some te,some (.own e2 t' l)=>match Nat.beq e e2,Nat.beq t'.size te.size,Nat.beq te.zero.length te.size,Nat.ble 1 te.size,t'.of (Dv te.zero)with
        |true,true,true,true,some (z,[])=>W.kY (.ofNat i) l.length λn=>zy rw j (.own e2 t' (l.take n++List.replicate (l.length-n) z)) λrw=>jw o.dst .jz ts pb rw K
        |_,_,_,_,_=>none
       |_,_=>none
      |_=>none
     |_,_=>none
    |b=>MJ T b c.argTypes xs rw λx=>jw o.dst x ts pb rw K
   |none=>none
  |_=>none
 | .buildSlice t len parts=>match OL ts parts.toList with
  |some ps=>match avQ T t len ps with
   |some l=>jw o.dst (.fns l) ts pb rw K
   |none=>KB (Bu (Xq ps) []) ts pb rw (Xq ps) λts pb rw qs=>match CQ T t with
    |some (.slice e)=>match MH T e,anF T 9 e with
     |some te,some te'=>match an9 te' (TA ps qs) 0 with
      |some l=>match Nat.beq te'.size te.size,Nat.beq len l.length,Nat.ble 1 te.size,Nat.ble (len*te.size) 16777216,Nat.beq te.zero.length te.size with
       |true,true,true,true,true=>vG rw (.own e te' l) λrw'=>Gz rw.length λn=>jw o.dst (.row n) ts pb rw' K
       |_,_,_,_,_=>none
      |none=>none
     |_,_=>none
    |_=>none
  |none=>none
 | .slice t x lo hi mx=>match ayu C (wO ts x) lo hi mx ts with
  |some (j,n)=>match CQ T t,MF rw j with
   |some (.slice e),some (.own e2 t' l)=>match MH T e with
    |some te=>match Nat.beq e e2,Nat.beq te.size t'.size with
     |true,true=>W.kY n l.length λh=>vH (j6 j .jz) ts λts=>CP (j6 j .jz) pb λpb=>zy rw j (.own e2 t' (l.take h)) λrw=>jw o.dst (.row j) ts pb rw K
     |_,_=>none
    |none=>none
   |_,_=>none
  |none=>match wO ts x with
   |some a=>KB (a.rows []) ts pb rw [] λts pb rw _=>wP W T (.slice t x lo hi mx) ts rw λy=>jw o.dst y ts pb rw K
   |none=>none
 | .makeSlice t l c=>match wO ts l,wO ts c,CQ T t with
  |some (.int _ n),some (.int _ c),some (.slice e)=>match MH T e,anF T 9 e with
   |some te,some te'=>match Nat.beq te'.size te.size,Nat.ble 1 te.size,Nat.beq te.zero.length te.size,te'.of (Dv te.zero)with
    |true,true,true,some (z,[])=>match ayr l with
     |true=>match n with
      | .ofNat 0=>W.i7 c (W.bi c.toNat te.bytes (vG rw (.own e te' []) λrw'=>Gz rw.length λn=>jw o.dst (.row n) ts pb rw' K))
      |_=>none
     |false=>W.i7 c (W.bi c.toNat te.bytes (W.kY n c.toNat λn=>vG rw (.own e te' (List.replicate n z)) λrw'=>Gz rw.length λn=>jw o.dst (.row n) ts pb rw' K))
    |_,_,_,_=>none
   |_,_=>none
  |_,_,_=>none
 | .index t x ix=>match wO ts x,wO ts ix,CQ T t with
  |some (.str s),some (.int _ i),some .string=>W.L8 s i λb=>jw o.dst (.int .u8 b) ts pb rw K
  |_,_,_=>none
 | .range t x=>match wO ts x,CQ T t with
  |some (.str s),some .string=>vG rw (.obj (.I9 s 0)) λrw'=>Gz rw.length λn=>jw o.dst (.ob n) ts pb rw' K
  |some (.ob j),some (.map _ _)=>match MF rw j with
   |some (.obj (.set ks))=>vH (j6 j .jz) ts λts=>CP (j6 j .jz) pb λpb=>zy rw j .dead λrw=>vG rw (.obj (.walk ks [])) λrw'=>Gz rw.length λn=>jw o.dst (.ob n) ts pb rw' K
   |_=>none
  |_,_=>none
 | .next it b=>match wO ts it,b with
  |some (.ob j),true=>match MF rw j with
   |some (.obj (.I9 s p))=>W.zZ s p (λc q=>zy rw j (.obj (.I9 s q)) λrw'=>jw o.dst (.IC [.lit true,.int .i64 (p.toNat:Int),.int .i32 c]) ts pb rw' K) (jw o.dst (.IC [.lit false]) ts pb rw K)
   |_=>none
  |_,_=>none
 | .makeMap t r=>match r,CQ T t with
  |none,some (.map _ _)=>vG rw (.obj (.set [])) λrw'=>Gz rw.length λn=>jw o.dst (.ob n) ts pb rw' K
  |_,_=>none
 | .mapUpdate t m k x=>match CQ T t,wO ts m,wO ts k,wO ts x with
  |some (.map _ _),some (.ob j),some k,some (.lit true)=>match MF rw j,tKU.ofV k with
   |some (.obj (.set ks)),some k=>zy rw j (.obj (.set (QW ks k))) λrw=>jw o.dst .OJ ts pb rw K
   |_,_=>none
  |_,_,_,_=>none
 | .entry it=>match wO ts it with
  |some (.ob j)=>match MF rw j with
   |some (.obj (.walk _ dn))=>W.aI dn ((dn.length:Int)-1) λk=>jw o.dst (.IC [tKU.val k,.lit true]) ts pb rw K
   |_=>none
  |_=>none
 |op=>wP W T op ts rw λx=>jw o.dst x ts pb rw K
def ayv(T:List TI)(o:Oper)(ts:List DV)(rw:List DR):Option (Bool×Bool):=
 match o.op with
 | .binOp op t x y _=>match CQ T t,wO ts x,wO ts y with
  |some (.slice _),some (.sl d l),some (.v (.slice none 0 0))=>match Nat.blt 0 d.size with
   |true=>match op with
    | .eql=>some (List.isEmpty l,false)
    | .neq=>some (List.isEmpty l,true)
    |_=>none
   |false=>none
  |some (.slice _),some (.row j),some (.v (.slice none 0 0))=>match MF rw j with
   |some (.own _ _ l)=>match op with
    | .eql=>some (List.isEmpty l,false)
    | .neq=>some (List.isEmpty l,true)
    |_=>none
   |_=>none
  |_,_,_=>none
 |_=>none
def anI(o:Oper)(ts:List DV)(rw:List DR):Option (Nat×List KU×List KU):=
 match o.op with
 | .next it false=>match wO ts it with
  |some (.ob j)=>match MF rw j with
   |some (.obj (.walk ks dn))=>some (j,ks,dn)
   |_=>none
  |_=>none
 |_=>none
def TB[rB β](W:Wd)(T:List TI)(C:GK)(al:Nat->Bool)(av:List (Nat×Nat))(o:Oper)(ts:List DV)(pb:ij)(rw:List DR)(K:DK β):Option β:=
 match ayv T o ts rw with
 |some (e,neg)=>W.rj e λg=>jw o.dst (.bool (dq neg g)) ts pb rw K
 |none=>match anI o ts rw with
  |some (j,ks,dn)=>W.ME (P0 ks dn) (λk=>zy rw j (.obj (.walk ks (dn++[k]))) λrw'=>jw o.dst (.IC [.lit true,tKU.val k,.lit true]) ts pb rw' K) (jw o.dst (.IC [.lit false]) ts pb rw K)
  |none=>qV W T C al av o ts pb rw K
def arJ:List Oper->Bool
 |o::_=>match o.op with
  | .call c=>match c.callee with | .builtin .clear=>true|_=>false
  |_=>false
 |[]=>false
def auy(T:List TI)(o:Oper)(rest:List Oper)(ts:List DV)(rw:List DR):Option (Nat×Int×Nat):=
 match arJ rest with
 |true=>match o.op with
  | .slice t x (some lo) none none=>match CQ T t,wO ts x,wO ts lo with
   |some (.slice e),some (.row j),some (.int _ i)=>match MH T e,MF rw j with
    |some te,some (.own _ t' l)=>match Nat.beq t'.size te.size with|true=>some (j,i,l.length)|false=>none
    |_,_=>none
   |_,_,_=>none
  |_=>none
 |false=>none
def anJ[rB β](W:Wd)(T:List TI)(C:GK)(al:Nat->Bool)(av:List (Nat×Nat))(o:Oper)(rest:List Oper)(ts:List DV)(pb:ij)(rw:List DR)(K:DK β):Option β:=
 match auy T o rest ts rw with
 |some (j,i,n)=>W.kY i n λm=>jw o.dst (.rt j m) ts pb rw K
 |none=>TB W T C al av o ts pb rw K
inductive OT where
 |nil
 |rd (i:Nat) (t:OT)
 |er (i:Nat) (D:List Nat) (t:OT)
 |op (i:Nat) (t:OT)
 |two (i j:Nat) (ti tj:OT)
 |three (i j k:Nat) (ti tj tk:OT)
 |four (i j k l:Nat) (ti tj tk tl:OT)
def TC(o:Oper):Bool:=match o.op with | .load _ _=>true|_=>false
def arK(ops:Array Oper)(D:List Nat)(i d:Nat):Bool:=match Nat.beq d i with
 |true=>true
 |false=>match ops[d]? with
  |some o=>o.after.any λe=>Region.binds .any e&&Bp e.on D
  |none=>false
def arL(L:Array Bool):List Nat->Bool
 |[]=>true
 |d::D=>!L.getD d true&&arL L D
def Zq(ops:Array Oper)(L:Array Bool)(i:Nat)(D:List Nat):Bool:=Bp i D&&arL L D&&D.all (arK ops D i)&&(List.range ops.size).all λj=>Bp j D||L.getD j true||(match ops[j]? with|some o=>TC o|none=>true)
def uS(ops:Array Oper):Nat->OT->Array Bool->Bool
 |_,.nil,L=>(Region.ready .any ops L).isEmpty
 |n+1,.rd i t,L=>Region.free .any ops L i&&(Region.ready .any ops L).contains i&&uS ops n t (L.setIfInBounds i true)
 |n+1,.er i D t,L=>Region.free .any ops L i&&(Region.ready .any ops L).contains i&&Zq ops L i D&&uS ops n t (L.setIfInBounds i true)
 |n+1,.op i t,L=>(Region.ready .any ops L==[i])&&uS ops n t (L.setIfInBounds i true)
 |n+1,.two i j ti tj,L=>(Region.ready .any ops L==[i,j])&&uS ops n ti (L.setIfInBounds i true)&&uS ops n tj (L.setIfInBounds j true)
 |n+1,.three i j k ti tj tk,L=>(Region.ready .any ops L==[i,j,k])&&uS ops n ti (L.setIfInBounds i true)&&uS ops n tj (L.setIfInBounds j true)&&uS ops n tk (L.setIfInBounds k true)
 |n+1,.four i j k l ti tj tk tl,L=>(Region.ready .any ops L==[i,j,k,l])&&uS ops n ti (L.setIfInBounds i true)&&uS ops n tj (L.setIfInBounds j true)&&uS ops n tk (L.setIfInBounds k true)&&uS ops n tl (L.setIfInBounds l true)
 |0,_,_=>false
def Bv:List Bool->Nat->(List Bool->Bool)->Bool
 |[],_,K=>K []
 |_::l,0,K=>K (true::l)
 |b::l,n+1,K=>Bv l n λl=>K (b::l)
def OO(ops:Array Oper):Nat->OT->List Bool->Bool
 |_,.nil,L=>(Region.ready .any ops L.toArray).isEmpty
 |n+1,.rd i t,L=>Region.free .any ops L.toArray i&&(Region.ready .any ops L.toArray).contains i&&Bv L i λL=>OO ops n t L
 |n+1,.er i D t,L=>Region.free .any ops L.toArray i&&(Region.ready .any ops L.toArray).contains i&&Zq ops L.toArray i D&&Bv L i λL=>OO ops n t L
 |n+1,.op i t,L=>(Region.ready .any ops L.toArray==[i])&&Bv L i λL=>OO ops n t L
 |n+1,.two i j ti tj,L=>(Region.ready .any ops L.toArray==[i,j])&&(Bv L i λL=>OO ops n ti L)&&(Bv L j λL=>OO ops n tj L)
 |n+1,.three i j k ti tj tk,L=>(Region.ready .any ops L.toArray==[i,j,k])&&(Bv L i λL=>OO ops n ti L)&&(Bv L j λL=>OO ops n tj L)&&(Bv L k λL=>OO ops n tk L)
 |n+1,.four i j k l ti tj tk tl,L=>(Region.ready .any ops L.toArray==[i,j,k,l])&&(Bv L i λL=>OO ops n ti L)&&(Bv L j λL=>OO ops n tj L)&&(Bv L k λL=>OO ops n tk L)&&(Bv L l λL=>OO ops n tl L)
 |0,_,_=>false
def Zr:List Oper->Nat->Option Nat
 |[],_=>none
 |o::_,0=>o.dst
 |_::os,n+1=>Zr os n
def arM(Ia:List Nat)(n i:Nat):Bool:=match Bp i Ia with|true=>true|false=>Nat.ble n i
def avR(Ia:List Nat)(has:Nat->Bool)(i:Nat):Bool:=match Bp i Ia with|true=>false|false=>has i
def anK(o:Oper):List Nat:=match o.dst with|some d=>[d]|none=>[]
def QY:List Oper->List Nat
 |[]=>[]
 |o::os=>anK o++QY os
def a0y(xs ys:List Nat):Bool:=xs.all λx=>ys.contains x
def IE:Code->Nat
 | .region id _ _=>id
 | .seq a _=>IE a
 | .block _ b=>IE b
 | .loop b=>IE b
 | .scope b=>IE b
 | .cond c _ _=>match c with
  | .tmp t=>t+500000
  |_=>0
 |_=>0
def writes:Code->List Nat
 | .region _ ops _=>QY ops.toList
 | .seq a b=>writes a++writes b
 | .cond _ a b=>writes a++writes b
 | .block _ b=>writes b
 | .loop b=>writes b
 | .scope b=>writes b
 |_=>[]
def TE(W:Wd)(ops:List Oper)(ts:List DV)(j:Nat)(want:Bool)(yes no:List DV->Option β):Option β:=
 match Zr ops j with
 |none=>none
 |some d=>match gtV ts d with
  |some (.lit true)=>match want with|true=>yes ts|false=>no ts
  |some (.lit false)=>match want with|true=>no ts|false=>yes ts
  |some (.bool b)=>W.af b
   (zy ts d (.lit true) λts=>match want with|true=>yes ts|false=>no ts)
   (zy ts d (.lit false) λts=>match want with|true=>no ts|false=>yes ts)
  |some (.OJ)=>no ts
  |_=>none
def KE[rB β](W:Wd)(T:List TI)(C:GK)(al:Nat->Bool)(av:List (Nat×Nat))(ops:List Oper):List Oper->List DV->ij->List DR->DK β->Option β
 |[],ts,pb,rw,K=>K ts pb rw
 |o::rest,ts,pb,rw,K=>match o.guard with
  |none=>anJ W T C al av o rest ts pb rw λts pb rw=>KE W T C al av ops rest ts pb rw K
  |some (j,want)=>TE W ops ts j want
   (λts=>TB W T C al av o ts pb rw λts pb rw=>KE W T C al av ops rest ts pb rw K)
   (λts=>jw o.dst (.OJ) ts pb rw λts pb rw=>KE W T C al av ops rest ts pb rw K)
def Gk[rB β](W:Wd)(T:List TI)(C:GK)(al:Nat->Bool)(av:List (Nat×Nat))(ops:List Oper)(o:Oper)(ts:List DV)(pb:ij)(rw:List DR)(K:DK β):Option β:=
 match o.guard with
 |none=>TB W T C al av o ts pb rw K
 |some (j,want)=>TE W ops ts j want (λts=>TB W T C al av o ts pb rw K) (λts=>jw o.dst (.OJ) ts pb rw K)
def ahS(Ia:List Nat):DV->Bool
 | .own i _=>match Bp i Ia with|false=>true|true=>false
 | .el _ _ _=>true
 |_=>false
def ahT(sn:Nat->Bool):DV->Bool
 | .own i _=>sn i
 |_=>false
def rdE(W:Wd)(T:List TI)(Ia:List Nat)(sn:Nat->Bool)(ph:Bool)(o:Oper)(ts:List DV)(pb:ij)(rw:List DR)(ret:DV->Option β):Option β:=
 match o.op with
 | .load t a=>match ph with
  |false=>o1 (wO ts a) λA=>match ahS Ia A with|true=>P5 W T t A pb rw ret|false=>none
  |true=>o1 (wO ts a) λA=>match ahT sn A with|true=>P5 W T t A pb rw ret|false=>none
 |op=>wP W T op ts rw ret
def Ja:List Oper->Nat->Option Oper
 |[],_=>none
 |o::_,0=>some o
 |_::os,n+1=>Ja os n
def QZ[rB β](W:Wd)(T:List TI)(C:GK)(al:Nat->Bool)(av:List (Nat×Nat))(Ia:List Nat)(sn:Nat->Bool)(ops:List Oper):Bool->OT->List DV->ij->List DR->DK β->Option β
 |_,.nil,ts,pb,rw,K=>K ts pb rw
 |ph,.rd i t,ts,pb,rw,K=>match Ja ops i with
  |some o=>match o.guard with
   |none=>rdE W T Ia sn ph o ts pb rw λx=>jw o.dst x ts pb rw λts pb rw=>QZ W T C al av Ia sn ops ph t ts pb rw K
   |some (j,want)=>TE W ops ts j want
    (λts=>rdE W T Ia sn ph o ts pb rw λx=>jw o.dst x ts pb rw λts pb rw=>QZ W T C al av Ia sn ops ph t ts pb rw K)
    (λts=>jw o.dst (.OJ) ts pb rw λts pb rw=>QZ W T C al av Ia sn ops ph t ts pb rw K)
  |none=>none
 |ph,.er i _ t,ts,pb,rw,K=>match ph,Ja ops i with
  |false,some o=>match o.guard,o.op with
   |none,.load ty a=>o1 (wO ts a) λA=>P5 W T ty A pb rw λx=>jw o.dst x ts pb rw λts pb rw=>QZ W T C al av Ia sn ops false t ts pb rw K
   |_,_=>none
  |_,_=>none
 |_,.op i t,ts,pb,rw,K=>match Ja ops i with
  |some o=>Gk W T C al av ops o ts pb rw λts pb rw=>QZ W T C al av Ia sn ops true t ts pb rw K
  |none=>none
 |_,.two i j ti tj,ts,pb,rw,K=>match Ja ops i,Ja ops j with
  |some o,some o'=>W.gJ (Gk W T C al av ops o ts pb rw λts pb rw=>QZ W T C al av Ia sn ops true ti ts pb rw K) (Gk W T C al av ops o' ts pb rw λts pb rw=>QZ W T C al av Ia sn ops true tj ts pb rw K)
  |_,_=>none
 |_,.three i j k ti tj tk,ts,pb,rw,K=>match Ja ops i,Ja ops j,Ja ops k with
  |some o,some o',some o2=>W.gJ (Gk W T C al av ops o ts pb rw λts pb rw=>QZ W T C al av Ia sn ops true ti ts pb rw K) (W.gJ (Gk W T C al av ops o' ts pb rw λts pb rw=>QZ W T C al av Ia sn ops true tj ts pb rw K) (Gk W T C al av ops o2 ts pb rw λts pb rw=>QZ W T C al av Ia sn ops true tk ts pb rw K))
  |_,_,_=>none
 |_,.four i j k l ti tj tk tl,ts,pb,rw,K=>match Ja ops i,Ja ops j,Ja ops k,Ja ops l with
  |some o,some o',some o2,some o3=>W.gJ (Gk W T C al av ops o ts pb rw λts pb rw=>QZ W T C al av Ia sn ops true ti ts pb rw K) (W.gJ (Gk W T C al av ops o' ts pb rw λts pb rw=>QZ W T C al av Ia sn ops true tj ts pb rw K) (W.gJ (Gk W T C al av ops o2 ts pb rw λts pb rw=>QZ W T C al av Ia sn ops true tk ts pb rw K) (Gk W T C al av ops o3 ts pb rw λts pb rw=>QZ W T C al av Ia sn ops true tl ts pb rw K)))
  |_,_,_,_=>none
def FE:List Oper->ij->Nat->(List (Nat×Nat)->ij->Option β)->Option β
 |[],pb,_,K=>K [] pb
 |o::os,pb,n,K=>match o.op,o.dst with
  | .alloc _,some d=>vG pb none λpb=>FE os pb (n+1) λav pb=>Gz n λm=>K ((d,m)::av) pb
  | .box _ _,some d=>vG pb none λpb=>FE os pb (n+1) λav pb=>Gz n λm=>K ((d,m)::av) pb
  |_,_=>FE os pb n K
abbrev DTs:=List (Nat×List Nat×OT)
def auz:DTs->Nat->Option (List Nat×OT)
 |[],_=>none
 |(k,o)::os,n=>match Nat.beq k n with|true=>some o|false=>auz os n
def af1:ij->Nat->Bool
 |[],_=>false
 |o::_,0=>match o with|some _=>true|none=>false
 |_::pb,n+1=>af1 pb n
def anL[rB β](W:Wd)(T:List TI)(C:GK)(O:DTs)(id:Nat)(ops:Array Oper)(ts:List DV)(pb:ij)(rw:List DR)(K:DK β):Option β:=
 match auz O id with
 |some (Ia,t)=>match Region.noSelect ops&&OO ops ops.size t (ops.toList.map λ_=>false)with
  |true=>Gz pb.length λn=>FE ops.toList pb n λav pb'=>QZ W T C (arM Ia n) av Ia (avR Ia (af1 pb)) ops.toList false t ts pb' rw K
  |false=>none
 |none=>none
inductive RKd where
 |dead
 |own (e:TypeId) (t:DT)
 |obj (k:OKd)
inductive DS where
 |t (t:DT)
 |row (j:Nat)
 |ob (j:Nat)
 |own (i off:Nat)
 |nil
 |fn (f:FuncId) (cs:List (Nat×Nat))
def arN:List (Nat×Nat)->List DV
 |[]=>[]
 |(i,o)::cs=>.own i o::arN cs
structure DJ where
 sl:List (Nat×DS)
 bo:List (Nat×List DS)
 ro:List RKd
def dsS:List (Nat×DS)->List DS
 |[]=>[]
 |(_,d)::l=>d::dsS l
def dsN:List (Nat×DS)->List Nat
 |[]=>[]
 |(n,_)::l=>n::dsN l
def boN:List (Nat×List DS)->List Nat
 |[]=>[]
 |(n,_)::l=>n::boN l
def vsT:List DS->DT->DT
 |[],r=>r
 |d::l,r=>match d with
  | .t t=>.pair t (vsT l r)
  |_=>vsT l r
def boT:List (Nat×List DS)->DT->DT
 |[],r=>r
 |(_,cs)::l,r=>vsT cs (boT l r)
def roT:List RKd->DT
 |[]=>.unit
 | .own _ t::l=>.pair (.slc t) (roT l)
 | .obj k::l=>.pair k.T (roT l)
 | .dead::l=>roT l
@[reducible] def DJ.T(j:DJ):DT:=vsT (dsS j.sl) (boT j.bo (roT j.ro))
def vsV:(l:List DS)->(r:DT)->(vsT l r).den->List DV×r.den
 |[],_,z=>([],z)
 | .t t::l,r,z=>match vsV l r z.2 with|(vs,y)=>(t.val z.1::vs,y)
 | .row j::l,r,z=>match vsV l r z with|(vs,y)=>(.row j::vs,y)
 | .ob j::l,r,z=>match vsV l r z with|(vs,y)=>(.ob j::vs,y)
 | .own i o::l,r,z=>match vsV l r z with|(vs,y)=>(.own i o::vs,y)
 | .nil::l,r,z=>match vsV l r z with|(vs,y)=>(.v (.slice none 0 0)::vs,y)
 | .fn f cs::l,r,z=>match vsV l r z with|(vs,y)=>(.fn f (arN cs)::vs,y)
def boV:(l:List (Nat×List DS))->(r:DT)->(boT l r).den->List (List DV)×r.den
 |[],_,z=>([],z)
 |(_,cs)::l,r,z=>match vsV cs (boT l r) z with|(vs,y)=>match boV l r y with|(vss,y)=>(vs::vss,y)
def TF:(l:List RKd)->(roT l).den->List DR
 |[],_=>[]
 | .own e t::l,z=>.own e t z.1::TF l z.2
 | .obj k::l,z=>.obj (k.od z.1)::TF l z.2
 | .dead::l,z=>.dead::TF l z
def roN:List RKd->Nat->Bool
 |[],_=>false
 |o::_,0=>match o with | .own _ _=>true|_=>false
 |_::l,n+1=>roN l n
def roI:List RKd->Nat->Bool
 |[],_=>false
 |o::_,0=>match o with | .obj _=>true|_=>false
 |_::l,n+1=>roI l n
def anM(ro:List RKd)(rw:List DR)(j:Nat)(v:DV):Bool:=
 roI ro j&&match v with
 | .ob j'=>match Nat.beq j j',MF rw j with|true,some (.obj _)=>true|_,_=>false
 |_=>false
def af2(ro:List RKd)(rw:List DR)(j:Nat)(v:DV):Bool:=
 roN ro j&&match v with
 | .row j'=>match Nat.beq j j',MF rw j with|true,some (.own _ _ _)=>true|_,_=>false
 | .v (.slice none 0 0)=>match MF rw j with|some (.own _ _ _)=>false|_=>true
 |_=>false
def TG(i o:Nat)(v:DV):Bool:=
 match v with
 | .own i' o'=>Nat.beq i i'&&Nat.beq o o'
 |_=>false
def anN(v:DV):Bool:=
 match v with
 | .v (.slice none 0 0)=>true
 |_=>false
def IF:List (Nat×Nat)->List DV->Bool
 |[],[]=>true
 |(i,o)::cs,v::vs=>TG i o v&&IF cs vs
 |_,_=>false
def au0(f:FuncId)(cs:List (Nat×Nat))(v:DV):Bool:=
 match v with
 | .fn f' An=>Nat.beq f f'&&IF cs An
 |_=>false
def vsX(ro:List RKd)(rw:List DR):(l:List DS)->(r:DT)->List DV->r.den->Option (vsT l r).den
 |[],_,vs,y=>match vs with|[]=>some y|_=>none
 | .t t::l,r,vs,y=>match vs with
  |v::vs=>match t.ofV v,vsX ro rw l r vs y with
   |some x,some z=>some (x,z)
   |_,_=>none
  |_=>none
 | .row j::l,r,vs,y=>match vs with
  |v::vs=>match af2 ro rw j v with
   |true=>vsX ro rw l r vs y
   |false=>none
  |_=>none
 | .ob j::l,r,vs,y=>match vs with
  |v::vs=>match anM ro rw j v with
   |true=>vsX ro rw l r vs y
   |false=>none
  |_=>none
 | .own i o::l,r,vs,y=>match vs with
  |v::vs=>match TG i o v with
   |true=>vsX ro rw l r vs y
   |false=>none
  |_=>none
 | .nil::l,r,vs,y=>match vs with
  |v::vs=>match anN v with
   |true=>vsX ro rw l r vs y
   |false=>none
  |_=>none
 | .fn f cs::l,r,vs,y=>match vs with
  |v::vs=>match au0 f cs v with
   |true=>vsX ro rw l r vs y
   |false=>none
  |_=>none
def boX(ro:List RKd)(pb:ij)(rw:List DR):(l:List (Nat×List DS))->(r:DT)->r.den->Option (boT l r).den
 |[],_,y=>some y
 |(i,cs)::l,r,y=>match RS pb i,boX ro pb rw l r y with
  |some b,some z=>vsX ro rw cs (boT l r) b.cells z
  |_,_=>none
def roX:(l:List RKd)->List DR->Option (roT l).den
 |[],_=>some ()
 | .own e t::l,rw=>match rw with
  | .own e' t' xs::rw=>match Nat.beq e e',t'.same t,roX l rw with
   |true,some ⟨h⟩,some y=>some (DT.PY h xs,y)
   |_,_,_=>none
  | .obj _::_=>none
  | .dead::rw=>match roX l rw with|some y=>some ([],y)|none=>none
  |[]=>match roX l []with|some y=>some ([],y)|none=>none
 | .obj k::l,rw=>match rw with
  | .obj d::rw=>match k.of d,roX l rw with
   |some x,some y=>some (x,y)
   |_,_=>none
  |_=>none
 | .dead::l,rw=>roX l rw.tail
def Xr:List RKd->List DR->Nat->List Nat
 |ro,rw,n=>match rw with
  |[]=>[]
  | .own _ _ _::rw=>match ro with
   | .own _ _::ro=>Xr ro rw (n+1)
   |_::ro=>n::Xr ro rw (n+1)
   |[]=>n::Xr [] rw (n+1)
  | .obj _::rw=>Xr ro.tail rw (n+1)
  | .dead::rw=>Xr ro.tail rw (n+1)
def anO(ts:List DV):List Nat->Option (List DV)
 |[]=>some []
 |n::ns=>match gtV ts n,anO ts ns with
  |some v,some vs=>some (v::vs)
  |_,_=>none
def TH(pb:ij):List (Nat×Nat)->Bool
 |[]=>true
 |(i,_)::cs=>(RS pb i).isSome&&TH pb cs
def P7(pb:ij):List DS->Bool
 |[]=>true
 |d::l=>(match d with | .own i _=>(RS pb i).isSome | .fn _ cs=>TH pb cs|_=>true)&&P7 pb l
def TJ(pb:ij):List (Nat×List DS)->Bool
 |[]=>true
 |(i,cs)::l=>(RS pb i).isSome&&P7 pb cs&&TJ pb l
def OP(ws:List Nat):Nat->Nat->List Bool
 |0,_=>[]
 |n+1,i=>Bp i ws::OP ws n (i+1)
def okJ(j:DJ)(x:Code)(ts:List DV)(pb:ij):Bool:=a0y (writes x) (List.range ts.length)&&P7 pb (dsS j.sl)&&TJ pb j.bo&&Hk (dsN j.sl)&&Hk (boN j.bo)
def s8(l:List Nat):Nat->ij->ij->Bool
 |_,[],_=>true
 |n,o::pb,pb'=>match o,pb' with
  |none,[]=>false
  |none,_::pb'=>s8 l (n+1) pb pb'
  |some b,some b'::pb'=>Nat.beq b.ty b'.ty&&(Bp n l||!b'.w)&&s8 l (n+1) pb pb'
  |some _,_=>false
def TK(j:DJ)(pb0:ij)(ts:List DV)(pb:ij)(rw:List DR)(k:j.T.den->Option β):Option β:=
 match s8 (boN j.bo) 0 pb0 pb with
 |true=>KB (Xr j.ro rw 0) ts pb rw [] λts pb rw _=>match anO ts (dsN j.sl),roX j.ro rw with
  |some vs,some y=>match boX j.ro pb rw j.bo (roT j.ro) y with
   |some y=>match vsX j.ro rw (dsS j.sl) (boT j.bo (roT j.ro)) vs y with
    |some z=>k z
    |none=>none
   |none=>none
  |_,_=>none
 |false=>none
def TL:List DV->List Bool->(List DV->Option β)->Option β
 |[],[],K=>K []
 |x::xs,b::bs,K=>match b with
  |true=>TL xs bs λl=>K (.jz::l)
  |false=>TL xs bs λl=>K (x::l)
 |_,_,_=>none
def Xs:List DV->List Nat->List DV->(List DV->Option β)->Option β
 |ts,[],[],K=>K ts
 |ts,s::ss,v::vs,K=>zy ts s v λts=>Xs ts ss vs K
 |_,_,_,_=>none
def P8:ij->List Nat->List (List DV)->(ij->Option β)->Option β
 |pb,[],[],K=>K pb
 |pb,i::is,c::cs,K=>match RS pb i with
  |some b=>zy pb i (some ⟨b.ty,c,true⟩) λpb=>P8 pb is cs K
  |none=>none
 |_,_,_,_=>none
def headD(j:DJ)(x:Code)(ts:List DV)(pb:ij)(z:j.T.den)(K:DK β):Option β:=
 match vsV (dsS j.sl) (boT j.bo (roT j.ro)) z with
 |(vs,y)=>match boV j.bo (roT j.ro) y with|(vss,y)=>vH OK ts λpe=>TL pe (OP (writes x) ts.length 0) λts=>Xs ts (dsN j.sl) vs λts=>CP OK pb λpb=>P8 pb (boN j.bo) vss λpb=>K ts pb (TF j.ro y)
def qW:ij->ij
 |[]=>[]
 |some b::pb=>some ⟨b.ty,b.cells,false⟩::qW pb
 |none::pb=>none::qW pb
def Vt:ij->ij->ij
 |_,[]=>[]
 |ps,none::pb=>none::Vt ps.tail pb
 |ps,some b::pb=>some ⟨b.ty,b.cells,b.w||(match ps with|some a::_=>a.w|_=>true)⟩::Vt ps.tail pb
def djV:List (Nat×DJ)->Nat->Option DJ
 |[],_=>none
 |(k,j)::l,n=>match Nat.beq k n with|true=>some j|false=>djV l n
def ayw(d:DS)(v:DV):Bool:=
 match d,v with
 | .row k,.row k'=>Nat.beq k k'
 | .ob k,.ob k'=>Nat.beq k k'
 |_,_=>true
def ayx(ts:List DV):List (Nat×DS)->Bool
 |[]=>true
 |(n,d)::l=>(match gtV ts n with|some v=>ayw d v|none=>true)&&ayx ts l
def ayy:List DS->List DV->Bool
 |d::l,v::vs=>ayw d v&&ayy l vs
 |_,_=>true
def ayz(pb:ij):List (Nat×List DS)->Bool
 |[]=>true
 |(i,cs)::l=>(match RS pb i with|some b=>ayy cs b.cells|none=>true)&&ayz pb l
def djF:List (Nat×DJ)->Nat->List DV->ij->Option DJ
 |[],_,_,_=>none
 |(k,j)::l,n,ts,pb=>match Nat.beq k n&&(ayx ts j.sl&&ayz pb j.bo)with|true=>some j|false=>djF l n ts pb
def djW(J:List (Nat×DJ))(n:Nat)(ts:List DV)(pb:ij):Option DJ:=
 match djV J n with
 |none=>none
 |some j=>match djF J n ts pb with|some j=>some j|none=>some j
def ay0(J:List (Nat×DJ))(k:Nat):Bool:=match J with
 |[]=>false
 |(n,_)::J=>match Nat.beq n k with|true=>true|false=>ay0 J k
def ac2(J:List (Nat×DJ))(n:Nat):Nat->GK->GK
 |_,[]=>[]
 |i,c::C=>match ay0 J (2251799813685248+n*1024+i)with|true=>ac2 J n (i+1) C|false=>c::ac2 J n (i+1) C
def avS(J:List (Nat×DJ)):Bool:=match J with
 |[]=>false
 |(k,_)::_=>Nat.ble 1125899906842624 k
def anP(J:List (Nat×DJ)):Nat:=match J with
 |[]=>0
 |(k,_)::_=>k-1125899906842624
def au1(J:List (Nat×DJ))(n:Nat):List (Nat×DJ):=match avS J with
 |true=>(1125899906842624+n,⟨[],[],[]⟩)::J
 |false=>J
def ahU(J:List (Nat×DJ))(C:GK):GK:=match avS J with
 |true=>ac2 J (anP J) 0 C
 |false=>C
def djX(J:List (Nat×DJ))(n:Nat)(ts:List DV)(pb:ij):Option DJ:=match avS J with
 |true=>djW J (n+4294967296*(anP J+1)) ts pb
 |false=>djW J n ts pb
def unr(f:Nat->DK β->DK β):Nat->DK β
 |0=>λ_ _ _=>none
 |n+1=>f n (unr f n)
def ev[rB β](W:Wd)(T:List TI)(C:GK)(O:DTs)(JC JL:List (Nat×DJ)):Code->(Exit->DK β)->List DV->ij->List DR->Option β
 | .skip,Q,ts,pb,rw=>Q .normal ts pb rw
 | .label _,Q,ts,pb,rw=>Q .normal ts pb rw
 | .exit id,Q,ts,pb,rw=>Q (.exit id) ts pb rw
 | .ret,Q,ts,pb,rw=>Q .ret ts pb rw
 | .seq x y,Q,ts,pb,rw=>match djX JC (IE y) ts pb with
  |none=>ev W T C O JC JL x (λe ts pb rw=>match e with
   | .normal=>ev W T C O JC JL y Q ts pb rw
   | .exit i=>Q (.exit i) ts pb rw
   | .ret=>Q .ret ts pb rw
   |_=>none) ts pb rw
  |some j=>match okJ j x ts pb with
   |true=>W.aH (X:=j.T.den) (λz=>headD j x ts pb z λHm iy ju=>ev W T C O JC JL y Q Hm iy ju) λk=>
    ev W T C O JC JL x (λe pe pb' rw'=>match e with
     | .normal=>TK j pb pe pb' rw' k
     | .exit i=>Q (.exit i) pe (Vt pb pb') rw'
     | .ret=>Q .ret pe (Vt pb pb') rw'
     |_=>none) ts (qW pb) rw
   |false=>none
 | .cond c x y,Q,ts,pb,rw=>match wO ts c with
  |some (.lit true)=>ev W T C O JC JL x Q ts pb rw
  |some (.lit false)=>ev W T C O JC JL y Q ts pb rw
  |some (.bool b)=>W.af b (ev W T C O JC JL x Q ts pb rw) (ev W T C O JC JL y Q ts pb rw)
  |_=>none
 | .block id x,Q,ts,pb,rw=>ev W T C O JC JL x (λe ts pb rw=>match e with
  | .normal=>Q .normal ts pb rw
  | .exit i=>match Nat.beq i id with|true=>Q .normal ts pb rw|false=>Q (.exit i) ts pb rw
  | .ret=>Q .ret ts pb rw
  |_=>none) ts pb rw
 | .scope x,Q,ts,pb,rw=>ev W T C O JC JL x Q ts pb rw
 | .region id ops draw,Q,ts,pb,rw=>match draw with
  |false=>KE W T (ahU JC C) (λ_=>true) [] ops.toList ops.toList ts pb rw (Q .normal)
  |true=>anL W T (ahU JC C) O id ops ts pb rw (Q .normal)
 | .loop x,Q,ts,pb,rw=>match djW JL (IE x) ts pb with
  |none=>unr (λn again ts pb rw=>ev W T C O (au1 JC n) JL x (λe ts pb rw=>match e with
   | .normal=>again ts pb rw
   | .exit i=>Q (.exit i) ts pb rw
   | .ret=>Q .ret ts pb rw
   |_=>none) ts pb rw) 5 ts pb rw
  |some j=>match okJ j x ts pb with
   |true=>TK j pb ts (qW pb) rw λz0=>W.aY (X:=j.T.den) (λz again=>headD j x ts (qW pb) z λHm iy ju=>
    ev W T C O JC JL x (λe pe pb' rw'=>match e with
     | .normal=>TK j pb pe pb' rw' again
     | .exit i=>Q (.exit i) pe (Vt pb pb') rw'
     | .ret=>Q .ret pe (Vt pb pb') rw'
     |_=>none) Hm iy ju) z0
   |false=>none
 |_,_,_,_,_=>none
def Q0(W:Wd)(T:List TI):List ResultVar->List DV->ij->List DR->(List DV->Option β)->Option β
 |[],_,_,_,K=>K []
 | .tmp t::rs,ts,pb,rw,K=>match gtV ts t with
  |some x=>Q0 W T rs ts pb rw λxs=>K (x::xs)
  |none=>none
 | .cell c t::rs,ts,pb,rw,K=>match gtV ts c with
  |some A=>P5 W T t A pb rw λx=>Q0 W T rs ts pb rw λxs=>K (x::xs)
  |none=>none
def Q'(xs:List DV):DV:=match xs with|[x]=>x|xs=>.IC xs
mutual
def QT.ids:QT->DV->List (Nat×Nat)->List (Nat×Nat)
 | .ptr k,.own i _,am=>match Gi am k with|some _=>am|none=>(k,i)::am
 | .pair a b,.IC (p::ps),am=>b.ay1 ps (a.ids p am)
 |_,_,am=>am
def QT.ay1:QT->List DV->List (Nat×Nat)->List (Nat×Nat)
 | .pair a b,p::ps,am=>b.ay1 ps (a.ids p am)
 |_,_,am=>am
end
mutual
def QT.frz:QT->DV->List Nat->List Nat
 | .v _,p,acc=>p.rows acc
 | .pair a b,.IC (p::ps),acc=>a.frz p (b.ay2 ps acc)
 |_,_,acc=>acc
def QT.ay2:QT->List DV->List Nat->List Nat
 | .pair a b,p::ps,acc=>a.frz p (b.ay2 ps acc)
 |_,_,acc=>acc
end
mutual
def QT.x(am:List (Nat×Nat)):(Q:QT)->DV->MS->Option (Q.den×MS)
 | .v t,p,m=>match t.ofV p with|some x=>some (x,m)|none=>none
 | .own e t,p,m=>match p with
  | .row j=>match MF m.rw j with
   |some (.own e' t' l)=>match Nat.beq e' e,t'.same t with
    |true,some ⟨h⟩=>some (DT.PY h l,⟨m.rs++[some j],m.rw.set j .dead⟩)
    |_,_=>none
   |_=>none
  | .v (.slice none 0 0)=>some ([],⟨m.rs++[none],m.rw⟩)
  |_=>none
 | .ptr n,p,m=>match p with
  | .own i o=>match o,Gi am n with
   |0,some i'=>match Nat.beq i i' with|true=>some ((),m)|false=>none
   |_,_=>none
  |_=>none
 | .nil n,p,m=>match p with
  | .v y=>match n.is y with|true=>some ((),m)|false=>none
  |_=>none
 | .unit,p,m=>match p with | .IC []=>some ((),m)|_=>none
 | .pair a b,p,m=>match p with
  | .IC (p::ps)=>match a.x am p m with
   |some (x,m)=>match b.xs am ps m with
    |some (y,m)=>some ((x,y),m)
    |none=>none
   |none=>none
  |_=>none
def QT.xs(am:List (Nat×Nat)):(Q:QT)->List DV->MS->Option (Q.den×MS)
 | .unit,ps,m=>match ps with|[]=>some ((),m)|_=>none
 | .pair a b,ps,m=>match ps with
  |p::ps=>match a.x am p m with
   |some (x,m)=>match b.xs am ps m with
    |some (y,m)=>some ((x,y),m)
    |none=>none
   |none=>none
  |_=>none
 |_,_,_=>none
end
def idA:Nat->List (Nat×Nat)
 |0=>[]
 |n+1=>(n,n)::idA n
def ahV(am:List (Nat×Nat)):Nat->Bool
 |0=>true
 |n+1=>(match Gi am n with|some i=>Nat.beq i n|none=>false)&&ahV am n
def arO(s:LS)(ts:List DV)(pb:ij)(rw:List DR)(p:DV):Option (s.Q.den×(Ge s.E .unit).den):=
 match arF s.E 0 pb (s.Q.ids p (idA s.B.length))with
 |am=>KB (arG am s.E 0 pb (s.Q.frz p [])) ts pb rw [p] λ_ pb rw ps=>match ps with
  |[p]=>match Hk (QX am)&&ON am s.E.length&&ahV am s.B.length,bkX am pb s.E 0 .unit ⟨[],rw⟩ (λm=>some ((),m))with
   |true,some (e,m)=>match s.Q.x am p m with|some (q,_)=>some (q,e)|none=>none
   |_,_=>none
  |_=>none
def ay3(W:Wd)(T:List TI)(rs:List ResultVar)(s:LS)(e:Exit)(ts:List DV)(pb:ij)(rw:List DR):Option (s.Q.den×(Ge s.E .unit).den):=
 match e with
 | .normal=>Q0 W T rs ts pb rw λxs=>arO s ts pb rw (Q' xs)
 | .ret=>Q0 W T rs ts pb rw λxs=>arO s ts pb rw (Q' xs)
 |_=>none
def arP(Q:QT)(ts:List DV)(pb:ij)(rw:List DR)(p:DV):Option Q.den:=
 KB (Q.frz p []) ts pb rw [p] λ_ _ rw ps=>match ps with
  |[p]=>match Q.x [] p ⟨[],rw⟩with|some (q,_)=>some q|none=>none
  |_=>none
def ay4(W:Wd)(T:List TI)(rs:List ResultVar)(Q:QT)(e:Exit)(ts:List DV)(pb:ij)(rw:List DR):Option Q.den:=
 match e with
 | .normal=>Q0 W T rs ts pb rw λxs=>arP Q ts pb rw (Q' xs)
 | .ret=>Q0 W T rs ts pb rw λxs=>arP Q ts pb rw (Q' xs)
 |_=>none
def TM:List DV->Nat->(List DV->Option β)->Option β
 |[],n,K=>K (List.replicate n .OJ)
 |x::xs,n+1,K=>TM xs n λl=>K (x::l)
 |_::_,0,_=>none
@[reducible] def QT.eqb:(Q:QT)->rB Q.den
 | .v t=>t.eqb
 | .own _ t=>have:=t.eqb;inferInstanceAs (rB (List t.den))
 | .ptr _=>inferInstanceAs (rB Unit)
 | .nil _=>inferInstanceAs (rB Unit)
 | .unit=>inferInstanceAs (rB Unit)
 | .pair a b=>have:=a.eqb;have:=b.eqb;inferInstanceAs (rB (a.den×b.den))
def evF(W:Wd)(T:List TI)(C:GK)(O:DTs)(JC JL:List (Nat×DJ))(fn:Func)(P:DT)(Q:QT)(x:P.den):Option Q.den:=
 match fn.body with
 |some c=>have:=Q.eqb;TM (zO P x) fn.ntmps λts=>ev W T C O JC JL c (ay4 W T fn.results.toList Q) ts [] []
 |none=>none
def arv(W:Wd)(T:List TI)(C:GK)(O:DTs)(JC JL:List (Nat×DJ))(fn:Func)(s:LS)(z:(Ge s.B (Jt s.P .unit)).den):Option (s.Q.den×(Ge s.E .unit).den):=
 match fn.body with
 |some c=>match zP s.B (Jt s.P .unit) z []with|(pb,y,rw)=>match Hl s.P .unit y rw with|(vs,_,rw)=>have:=s.Q.eqb;have:=(Ge s.E .unit).eqb;TM vs fn.ntmps λts=>ev W T C O JC JL c (ay3 W T fn.results.toList s) ts pb rw
 |none=>none
end Go.Vc




namespace Go.Vc
open Go Go.RowKit
structure Env where
 U:Nat->Prop
 w:World
 B:Nat->Nat
 A:Nat->Option Addr×Nat
 pb:ij
 rw:List DR
def live(pb:ij)(i:Nat):Prop:=∃b,pb[i]?=some (some b)
def OD.at(d:OD)(ad:Addr):Value:=bif d.rz then .map (some ad.block)else .pointer (some ad)
def fnV(f:Nat)(vs:Array Value):Value:=bif Nat.ble 1000000 f then .func (.func (f-1000000)) vs #[]else .func (.func f) #[] vs
mutual
def DV.h(E:Env):DV->Value->Prop
 | .int k n,v=>v=.int k n
 | .bool b,v=>v=.bool b
 | .lit b,v=>v=.bool b
 | .str s,v=>v=.string s
 | .v y,v=>v=y
 | .OJ,v=>v=undef
 | .sl t l,v=>(DT.slc t).h E.U E.w l [v]
 | .cs t l,v=>(DT.slc t).h E.U E.w l [v]/\∃a,v=.slice a l.length l.length
 | .set ks,v=>DT.set.h E.U E.w ks [v]
 | .row j,v=>∃e t l,E.rw[j]?=some (.own e t l)/\v=.slice (E.A j).1 l.length (E.A j).2
 | .el t x off,v=>∃ad us,v=.pointer (some (ad.add off))/\t.h E.U E.w x us/\At E.U E.w (some ad) 0 us
 | .re j i off,v=>∃e t l ad,E.rw[j]?=some (.own e t l)/\i<l.length/\(E.A j).1=some ad/\v=.pointer (some (ad.add (i*t.size+off)))
 | .rt j i,v=>∃e t l,E.rw[j]?=some (.own e t l)/\i<=l.length/\v=.slice (if(E.A j).2=i then(E.A j).1 else(E.A j).1.map (·.add (i*t.size))) (l.length-i) ((E.A j).2-i)
 | .ob j,v=>∃d ad,E.rw[j]?=some (.obj d)/\(E.A j).1=some ad/\v=d.at ad
 | .own i off,v=>live E.pb i/\v=.pointer (some ⟨E.B i,off,none⟩)
 | .fn f An,v=>∃vs,v=fnV f vs/\hL E An vs.toList
 | .agg xs,v=>∃vs,v=.agg vs/\hL E xs vs.toList
 | .IC xs,v=>∃vs,v=.tuple vs/\hL E xs vs.toList
 | .fns xs,v=>∃ad vs c,v=.slice (some ad) xs.length c/\hL E xs vs/\At E.U E.w (some ad) 0 vs
 | .fp xs k,v=>∃ad vs,v=.pointer (some (ad.add k))/\hL E xs vs/\At E.U E.w (some ad) 0 vs
 | .ra j,v=>∃e t l ad,E.rw[j]?=some (.own e t l)/\t.size=1/\E.A j=(some ad,l.length)/\v=.pointer (some ad)
 | .rs j i,v=>∃e t l ad,E.rw[j]?=some (.own e t l)/\i<l.length/\(E.A j).1=some ad/\v=.slice (some (ad.add (i*t.size))) t.size t.size
 | .jz,_=>True
def hL(E:Env):List DV->List Value->Prop
 |[],vs=>vs=[]
 |p::ps,vs=>∃v Cz,vs=v::Cz/\DV.h E p v/\hL E ps Cz
end
section
variable {E E' : Env}
theorem ql:∀{ps:List DV} {vs:List Value},hL E ps vs->vs.length=ps.length
 |[],_,h=>by simp only[hL]at h;subst h;rfl
 |p::ps,_,h=>by simp only[hL]at h;obtain⟨v,Cz,rfl,_,h2⟩:=h;simp[ql h2]
theorem KG:∀{ps:List DV} {vs:List Value},hL E ps vs->∀(i:Nat) (p:DV),ps[i]?=some p->∃v,vs[i]?=some v/\p.h E v
 |[],_,_,i,p,hp=>by simp at hp
 |q::ps,_,h,i,p,hp=>by
  simp only[hL]at h;obtain⟨v,Cz,rfl,h1,h2⟩:=h;cases i with
  |zero=>simp at hp;subst hp;exact⟨v,rfl,h1⟩
  |succ i=>simpa using KG h2 i p (by simpa using hp)
theorem anQ:∀{ps:List DV} {vs:List Value},vs.length=ps.length->(∀(i:Nat) (p:DV) (v:Value),ps[i]?=some p->vs[i]?=some v->p.h E v)->hL E ps vs
 |[],vs,hl,_=>by simp only[hL];exact dK.1 (by simpa using hl)
 |p::ps,[],hl,_=>by simp at hl
 |p::ps,v::vs,hl,h=>by simp only[hL];exact⟨v,vs,rfl,h 0 p v rfl rfl,anQ (by simpa using hl) λi p v hp hv=>h (i+1) p v (by simpa using hp) (by simpa using hv)⟩
theorem af3{ps qs}{vs us}(h:hL E ps vs)(k:hL E qs us):hL E (ps++qs) (vs++us):=by
 induction ps generalizing vs with
 |nil=>simp only[hL]at h;subst h;simpa using k
 |cons p ps ih=>simp only[hL]at h;obtain⟨v,Cz,rfl,h1,h2⟩:=h;simp only[kh,hL];exact⟨v,_,rfl,h1,ih h2⟩
theorem Zs{ps}{vs}(h:hL E ps vs)(i){p}{v}(hp:p.h E v):hL E (ps.set i p) (vs.set i v):=by
 refine anQ (by simp[ql h]) λj q u hq hu=>?_
 rw[bc]at hq hu;split at hq
 .rename_i hij;subst hij;split at hq
  .rw[ah rfl,ah (by rw[ql h];assumption)]at hu;simp at hq hu;subst hq;subst hu;exact hp
  .cases hq
 .rename_i hij;rw[ag hij]at hu;obtain⟨u',h1,h2⟩:=KG h j q hq;rw[hu]at h1;simp at h1;subst h1;exact h2
theorem anR{ps qs}{vs us}(off)(h:hL E ps vs)(k:hL E qs us):hL E (wr ps off qs) (wr vs off us):=by
 induction qs generalizing ps vs us off with
 |nil=>simp only[hL]at k;subst k;simpa[wr]using h
 |cons q qs ih=>simp only[hL]at k;obtain⟨u,us',rfl,h1,h2⟩:=k;simp only[wr];exact ih _ (Zs h off h1) h2
theorem anS{ps}{vs}(h:hL E ps vs)(o n):hL E ((ps.drop o).take n) ((vs.drop o).take n):=by
 refine anQ (by simp[ql h]) λj q u hq hu=>?_
 obtain⟨h1,h2⟩:=tx.1 hq;obtain⟨_,h3⟩:=tx.1 hu;obtain⟨u',h4,h5⟩:=KG h _ q h2;rw[h3]at h4;simp at h4;subst h4;exact h5
end
mutual
def DV.sub(f:Nat->Option DV):DV->DV
 | .row i=>match f i with|some p=>p|none=>.row i
 | .re i a b=>match f i with|some _=>.jz|none=>.re i a b
 | .rt i a=>match f i with|some _=>.jz|none=>.rt i a
 | .ob i=>match f i with|some q=>q|none=>.ob i
 | .fn g cs=>.fn g (Ao f cs)
 | .agg xs=>.agg (Ao f xs)
 | .IC xs=>.IC (Ao f xs)
 | .fns xs=>.fns (Ao f xs)
 | .fp xs k=>.fp (Ao f xs) k
 | .ra i=>match f i with|some _=>.jz|none=>.ra i
 | .rs i a=>match f i with|some _=>.jz|none=>.rs i a
 |p=>p
def Ao(f:Nat->Option DV):List DV->List DV
 |[]=>[]
 |p::ps=>p.sub f::Ao f ps
end
theorem ac3(f):∀ps,Ao f ps=ps.map (·.sub f)
 |[]=>rfl
 |p::ps=>by simp only[Ao,ac3 f ps,bK]
theorem anT(f)(ps):(Ao f ps).length=ps.length:=by rw[ac3];simp
structure Sub(f:Nat->Option DV)(E E':Env):Prop where
 Gl:lD E.U E'.U E.w E'.w
 bx:∀i,live E.pb i->live E'.pb i/\E'.B i=E.B i
 keep:∀j e t l,f j=none->E.rw[j]?=some (.own e t l)->∃l',E'.rw[j]?=some (.own e t l')/\l'.length=l.length/\E'.A j=E.A j
 ac4:∀j d,f j=none->E.rw[j]?=some (.obj d)->(∃d',E'.rw[j]?=some (.obj d')/\d'.rz=d.rz)/\E'.A j=E.A j
 to:∀j q e t l,f j=some q->E.rw[j]?=some (.own e t l)->q.h E' (.slice (E.A j).1 l.length (E.A j).2)
 toI:∀j q d ad,f j=some q->E.rw[j]?=some (.obj d)->(E.A j).1=some ad->q.h E' (d.at ad)
mutual
theorem DV.anU{E E'}{f:Nat->Option DV}(s:Sub f E E'):(p:DV)->{v:Value}->p.h E v->(p.sub f).h E' v
 | .int _ _,_,h=>by simpa only[DV.sub,DV.h]using h
 | .bool _,_,h=>by simpa only[DV.sub,DV.h]using h
 | .lit _,_,h=>by simpa only[DV.sub,DV.h]using h
 | .str _,_,h=>by simpa only[DV.sub,DV.h]using h
 | .v _,_,h=>by simpa only[DV.sub,DV.h]using h
 | .OJ,_,h=>by simpa only[DV.sub,DV.h]using h
 | .sl t l,_,h=>by simp only[DV.sub,DV.h]at h ⊢;exact(DT.slc t).mono s.Gl h
 | .cs t l,_,h=>by simp only[DV.sub,DV.h]at h ⊢;exact⟨(DT.slc t).mono s.Gl h.1,h.2⟩
 | .set ks,_,h=>by simp only[DV.sub,DV.h]at h ⊢;exact DT.set.mono s.Gl h
 | .row j,v,h=>by
  simp only[DV.h]at h;obtain⟨e,t,l,hj,rfl⟩:=h;unfold DV.sub;cases hf:f j with
  |none=>obtain⟨l',h1,h2,h3⟩:=s.keep j e t l hf hj;simp only[DV.h];exact⟨e,t,l',h1,by rw[h2,h3]⟩
  |some q=>exact s.to j q e t l hf hj
 | .el t x off,v,h=>by simp only[DV.sub,DV.h]at h ⊢;obtain⟨ad,us,rfl,h1,h2⟩:=h;exact⟨ad,us,rfl,t.mono s.Gl h1,h2.mono s.Gl⟩
 | .re j i off,v,h=>by
  simp only[DV.h]at h;obtain⟨e,t,l,ad,hj,hi,ha,rfl⟩:=h;unfold DV.sub;cases hf:f j with
  |none=>obtain⟨l',h1,h2,h3⟩:=s.keep j e t l hf hj;simp only[DV.h];exact⟨e,t,l',ad,h1,by rw[h2];exact hi,by rw[h3];exact ha,rfl⟩
  |some q=>simp only[DV.h]
 | .rt j i,v,h=>by
  simp only[DV.h]at h;obtain⟨e,t,l,hj,hi,rfl⟩:=h;unfold DV.sub;cases hf:f j with
  |none=>obtain⟨l',h1,h2,h3⟩:=s.keep j e t l hf hj;simp only[DV.h];exact⟨e,t,l',h1,by rw[h2];exact hi,by rw[h2,h3]⟩
  |some q=>simp only[DV.h]
 | .ob j,v,h=>by
  simp only[DV.h]at h;obtain⟨d,ad,hj,ha,rfl⟩:=h;unfold DV.sub;cases hf:f j with
  |none=>obtain⟨⟨d',h1,h3⟩,h2⟩:=s.ac4 j d hf hj;simp only[DV.h];exact⟨d',ad,h1,by rw[h2];exact ha,by simp only[OD.at,h3]⟩
  |some q=>exact s.toI j q d ad hf hj ha
 | .own i off,v,h=>by simp only[DV.sub,DV.h]at h ⊢;obtain⟨h1,rfl⟩:=h;obtain⟨h2,h3⟩:=s.bx i h1;exact⟨h2,by rw[h3]⟩
 | .fn g An,v,h=>by simp only[DV.sub,DV.h]at h ⊢;obtain⟨vs,rfl,h⟩:=h;exact⟨vs,rfl,ky s An h⟩
 | .agg xs,v,h=>by simp only[DV.sub,DV.h]at h ⊢;obtain⟨vs,rfl,h⟩:=h;exact⟨vs,rfl,ky s xs h⟩
 | .IC xs,v,h=>by simp only[DV.sub,DV.h]at h ⊢;obtain⟨vs,rfl,h⟩:=h;exact⟨vs,rfl,ky s xs h⟩
 | .fns xs,v,h=>by simp only[DV.sub,DV.h]at h ⊢;obtain⟨ad,vs,c,rfl,h,k⟩:=h;exact⟨ad,vs,c,by rw[anT],ky s xs h,k.mono s.Gl⟩
 | .fp xs n,v,h=>by simp only[DV.sub,DV.h]at h ⊢;obtain⟨ad,vs,rfl,h,k⟩:=h;exact⟨ad,vs,rfl,ky s xs h,k.mono s.Gl⟩
 | .ra j,v,h=>by
  simp only[DV.h]at h;obtain⟨e,t,l,ad,hj,hi,ha,rfl⟩:=h;unfold DV.sub;cases hf:f j with
  |none=>obtain⟨l',h1,h2,h3⟩:=s.keep j e t l hf hj;simp only[DV.h];exact⟨e,t,l',ad,h1,hi,by rw[h2,h3];exact ha,rfl⟩
  |some q=>simp only[DV.h]
 | .rs j i,v,h=>by
  simp only[DV.h]at h;obtain⟨e,t,l,ad,hj,hi,ha,rfl⟩:=h;unfold DV.sub;cases hf:f j with
  |none=>obtain⟨l',h1,h2,h3⟩:=s.keep j e t l hf hj;simp only[DV.h];exact⟨e,t,l',ad,h1,by rw[h2];exact hi,by rw[h3];exact ha,rfl⟩
  |some q=>simp only[DV.h]
 | .jz,_,_=>by simp only[DV.sub,DV.h]
theorem ky{E E'}{f:Nat->Option DV}(s:Sub f E E'):(ps:List DV)->{vs:List Value}->hL E ps vs->hL E' (Ao f ps) vs
 |[],_,h=>by simpa only[Ao,hL]using h
 |p::ps,_,h=>by simp only[hL,Ao]at h ⊢;obtain⟨v,Cz,rfl,h1,h2⟩:=h;exact⟨v,Cz,rfl,DV.anU s p h1,ky s ps h2⟩
end
def Ix:Nat->Option DV:=λ_=>none
mutual
theorem DV.anV:(p:DV)->p.sub Ix=p
 | .row _ | .re _ _ _ | .rt _ _ | .ob _ | .ra _ | .rs _ _=>rfl
 | .fns xs=>by simp only[DV.sub,pg]
 | .fp xs _=>by simp only[DV.sub,pg]
 | .fn g cs=>by simp only[DV.sub,pg]
 | .agg xs=>by simp only[DV.sub,pg]
 | .IC xs=>by simp only[DV.sub,pg]
 | .int _ _ | .bool _ | .lit _ | .str _ | .v _ | .OJ | .sl _ _ | .cs _ _ | .set _ | .el _ _ _ | .own _ _ | .jz=>rfl
theorem pg:(ps:List DV)->Ao Ix ps=ps
 |[]=>rfl
 |p::ps=>by simp only[Ao,DV.anV p,pg ps]
end
mutual
theorem DV.Zt{β}(f):(p:DV)->(K:DV->Option β)->p.MG f K=K (p.sub f)
 | .row i,K=>by unfold DV.MG DV.sub;cases f i<;>rfl
 | .re i a b,K=>by unfold DV.MG DV.sub;cases f i<;>rfl
 | .rt i a,K=>by unfold DV.MG DV.sub;cases f i<;>rfl
 | .ob i,K=>by unfold DV.MG DV.sub;cases f i<;>rfl
 | .ra i,K=>by unfold DV.MG DV.sub;cases f i<;>rfl
 | .rs i a,K=>by unfold DV.MG DV.sub;cases f i<;>rfl
 | .fns xs,K=>by unfold DV.MG DV.sub;rw[mN f xs]
 | .fp xs k,K=>by unfold DV.MG DV.sub;rw[mN f xs]
 | .fn g cs,K=>by unfold DV.MG DV.sub;rw[mN f cs]
 | .agg xs,K=>by unfold DV.MG DV.sub;rw[mN f xs]
 | .IC xs,K=>by unfold DV.MG DV.sub;rw[mN f xs]
 | .int _ _,_ | .bool _,_ | .lit _,_ | .str _,_ | .v _,_ | .OJ,_ | .sl _ _,_ | .cs _ _,_ | .set _,_ | .el _ _ _,_ | .own _ _,_ | .jz,_=>rfl
theorem mN{β}(f):(ps:List DV)->(K:List DV->Option β)->vH f ps K=K (Ao f ps)
 |[],K=>rfl
 |p::ps,K=>by unfold vH;rw[DV.Zt f p,mN f ps];simp only[Ao]
end
def oY(f:Nat->Option DV)(pb:ij):ij:=pb.map λo=>o.map λb=>⟨b.ty,Ao f b.cells,b.w⟩
theorem vJ{β}(f):(pb:ij)->(K:ij->Option β)->CP f pb K=K (oY f pb)
 |[],K=>rfl
 |some ⟨t,cs,w⟩::ps,K=>by unfold CP;rw[mN,vJ f ps];rfl
 |none::ps,K=>by unfold CP;rw[vJ f ps];rfl
theorem uy{f}{pb}{i:Nat}{b:DB}:(oY f pb)[i]?=some (some b)↔∃b0,pb[i]?=some (some b0)/\b=⟨b0.ty,Ao f b0.cells,b0.w⟩:=by
 unfold oY;rw[kU];constructor
 .intro h;cases hp:pb[i]? with
  |none=>simp[hp]at h
  |some o=>
   cases o with
   |none=>simp[hp]at h
   |some b0=>simp[hp]at h;exact⟨b0,rfl,h.symm⟩
 .rintro⟨b0,h,rfl⟩;simp[h]
theorem oR{f}{pb}{i}:live (oY f pb) i↔live pb i:=by
 constructor
 .rintro⟨b,h⟩;obtain⟨b0,h0,_⟩:=uy.1 h;exact⟨b0,h0⟩
 .rintro⟨b,h⟩;exact⟨_,uy.2 ⟨b,h,rfl⟩⟩
theorem ML(pb):oY Ix pb=pb:=by
 unfold oY;conv=>rhs;rw[<-Dd pb]
 apply tg;intro o _;cases o with
 |none=>rfl
 |some b=>simp[pg]
theorem AI{f}{pb}:(oY f pb).length=pb.length:=by simp[oY]
theorem kz{α β}:∀(xs:List α) (n:Nat) (y:α) (K:List α->Option β),zy xs n y K=K (xs.set n y)
 |[],_,_,_=>rfl
 |_::_,0,_,_=>rfl
 |x::xs,n+1,y,K=>by simp only[zy,Cj];exact kz xs n y _
theorem rL{α β}:∀(xs:List α) (y:α) (K:List α->Option β),vG xs y K=K (xs++[y])
 |[],_,_=>rfl
 |x::xs,y,K=>by simp only[vG,kh];exact rL xs y _
theorem yi{β}(n:Nat)(K:Nat->Option β):Gz n K=K n:=by unfold Gz;split<;>rfl
theorem Zu{β}:∀(vs xs:List DV) (off:Nat) (K:List DV->Option β),wrE xs off vs K=K (wr xs off vs)
 |[],_,_,_=>rfl
 |v::vs,xs,off,K=>by simp only[wrE,kz,wr];exact Zu vs _ _ _
theorem yP:∀{pb:ij} {i:Nat} {b:DB},RS pb i=some b↔pb[i]?=some (some b)
 |[],i,b=>by simp[RS]
 |o::pb,0,b=>by simp[RS]
 |o::pb,i+1,b=>by simp only[RS,fy];exact yP
theorem gU:∀{rw:List DR} {j:Nat},MF rw j=rw[j]?
 |[],j=>by simp[MF]
 |r::rw,0=>rfl
 |r::rw,j+1=>by simp only[MF,fy];exact gU
theorem xA:∀{xs:List DV} {o n:Nat} {l:List DV},Hj xs o n=some l->l=(xs.drop o).take n/\o+n<=xs.length
 |[],0,0,l,h=>by simp[Hj]at h;simp[h]
 |[],0,n+1,l,h=>by simp[Hj]at h
 |[],o+1,n,l,h=>by cases n<;>simp[Hj]at h
 |x::xs,0,0,l,h=>by simp[Hj]at h;simp[h]
 |x::xs,0,n+1,l,h=>by
  simp only[Hj]at h;split at h
  .rename_i l' h';obtain⟨h1,h2⟩:=xA h';simp only[ak]at h;subst h;exact⟨by simpa using h1,by simp;omega⟩
  .cases h
 |x::xs,o+1,n,l,h=>by simp only[Hj]at h;obtain⟨h1,h2⟩:=xA h;exact⟨by simpa using h1,by simp;omega⟩
theorem OQ{xs}{o}{x}(h:Hj xs o 1=some [x]):xs[o]?=some x:=by have:=bA (λl:List DV=>l[0]?) (xA h).1;simpa[ct,cF]using this.symm
theorem arQ{U}{w}{a b}(h:a=b)(l:List a.den){vs:List Value}(k:(DT.slc a).h U w l vs):(DT.slc b).h U w (DT.PY h l) vs:=by subst h;exact k
theorem DT.aks{E}:(t:DT)->{cs:List DV}->{x:t.den}->{r:List DV}->t.of cs=some (x,r)->{vs:List Value}->hL E cs vs->∃us us',vs=us++us'/\t.h E.U E.w x us/\hL E r us'
 | .int k,cs,x,r,h,vs,hv=>by
  simp only[DT.of]at h;split at h
  .split at h
   .rename_i hk;simp only[ak,bV]at h;obtain⟨rfl,rfl⟩:=h;simp only[hL,DV.h]at hv;obtain⟨v,Cz,rfl,rfl,h2⟩:=hv;exact⟨[_],Cz,rfl,by rw[Td hk];rfl,h2⟩
   .cases h
  .cases h
 | .bool,cs,x,r,h,vs,hv=>by
  simp only[DT.of]at h;split at h
  .simp only[ak,bV]at h;obtain⟨rfl,rfl⟩:=h;simp only[hL,DV.h]at hv;obtain⟨v,Cz,rfl,rfl,h2⟩:=hv;exact⟨[_],Cz,rfl,rfl,h2⟩
  .simp only[ak,bV]at h;obtain⟨rfl,rfl⟩:=h;simp only[hL,DV.h]at hv;obtain⟨v,Cz,rfl,rfl,h2⟩:=hv;exact⟨[_],Cz,rfl,rfl,h2⟩
  .cases h
 | .str,cs,x,r,h,vs,hv=>by
  simp only[DT.of]at h;split at h
  .simp only[ak,bV]at h;obtain⟨rfl,rfl⟩:=h;simp only[hL,DV.h]at hv;obtain⟨v,Cz,rfl,rfl,h2⟩:=hv;exact⟨[_],Cz,rfl,rfl,h2⟩
  .cases h
 | .slc t,cs,x,r,h,vs,hv=>by
  simp only[DT.of]at h;split at h
  .split at h
   .rename_i hs _;simp only[ak,bV]at h;obtain⟨rfl,rfl⟩:=h;simp only[hL,DV.h]at hv;obtain⟨v,Cz,rfl,h1,h2⟩:=hv;exact⟨[v],Cz,rfl,arQ _ _ h1,h2⟩
   .cases h
  .simp only[ak,bV]at h;obtain⟨rfl,rfl⟩:=h;simp only[hL,DV.h]at hv;obtain⟨v,Cz,rfl,rfl,h2⟩:=hv;exact⟨[_],Cz,rfl,⟨none,0,rfl,au _,bE _,by simp⟩,h2⟩
  .cases h
 | .set,cs,x,r,h,vs,hv=>by
  simp only[DT.of]at h;split at h
  .simp only[ak,bV]at h;obtain⟨rfl,rfl⟩:=h;simp only[hL,DV.h]at hv;obtain⟨v,Cz,rfl,h1,h2⟩:=hv;exact⟨[v],Cz,rfl,h1,h2⟩
  .cases h
 | .unit,cs,x,r,h,vs,hv=>by simp only[DT.of,ak,bV]at h;obtain⟨_,rfl⟩:=h;exact⟨[],vs,rfl,rfl,hv⟩
 | .pair a b,cs,x,r,h,vs,hv=>by
  simp only[DT.of]at h;split at h
  .rename_i x1 r1 h1;split at h
   .rename_i x2 r2 h2;simp only[ak,bV]at h;obtain⟨rfl,rfl⟩:=h;obtain⟨us,us',rfl,g1,g2⟩:=a.aks h1 hv;obtain⟨vs,Cz,rfl,g3,g4⟩:=b.aks h2 g2;exact⟨us++vs,Cz,by simp,⟨us,vs,rfl,g1,g3⟩,g4⟩
   .cases h
  .cases h
theorem DT.FF{E}:(t:DT)->{x:t.den}->{us:List Value}->t.h E.U E.w x us->{r:List DV}->{us':List Value}->hL E r us'->hL E (t.cells x r) (us++us')
 | .int k,x,us,h,r,us',hr=>by subst h;simp only[DT.cells,hL,DV.h];exact⟨_,_,rfl,rfl,hr⟩
 | .bool,x,us,h,r,us',hr=>by subst h;simp only[DT.cells,hL,DV.h];exact⟨_,_,rfl,rfl,hr⟩
 | .str,x,us,h,r,us',hr=>by subst h;simp only[DT.cells,hL,DV.h];exact⟨_,_,rfl,rfl,hr⟩
 | .slc t,x,us,h,r,us',hr=>by have hl:=(DT.slc t).Bn h;obtain⟨a,c,rfl,_⟩:=id h;simp only[DT.cells,hL,DV.h];exact⟨_,_,rfl,h,hr⟩
 | .set,x,us,h,r,us',hr=>by obtain⟨b,es,clock,rfl,_⟩:=id h;simp only[DT.cells,hL,DV.h];exact⟨_,_,rfl,h,hr⟩
 | .unit,x,us,h,r,us',hr=>by subst h;simpa[DT.cells]using hr
 | .pair a b,x,us,h,r,us',hr=>by obtain⟨u1,u2,rfl,h1,h2⟩:=h;simp only[DT.cells,bq];exact a.FF h1 (b.FF h2 hr)
def DT.hv(U:Nat->Prop)(w:World)(t:DT)(x:t.den)(v:Value):Prop:=∃us,t.h U w x us/\v=(match t.agg with|true=>.agg us.toArray|false=>us.headD undef)
theorem DT.RT{U U'}{w w'}(l:lD U U' w w'){t:DT}{x:t.den}{v:Value}(h:t.hv U w x v):t.hv U' w' x v:=let ⟨us,h1,h2⟩:=h;⟨us,t.mono l h1,h2⟩
theorem DT.ay5:(t:DT)->t.agg=false->t.size=1 | .int _,_ | .bool,_ | .str,_ | .slc _,_ | .set,_=>rfl
theorem DT.Xt{E}{t:DT}{p:DV}{x:t.den}(h:t.ofV p=some x){v:Value}(hv:p.h E v):t.hv E.U E.w x v:=by
 unfold DT.ofV at h;split at h
 .rename_i ha;split at h
  .rename_i cs;split at h
   .rename_i y r hy;split at h
    .simp only[ak]at h;subst h;simp only[DV.h]at hv;obtain⟨vs,rfl,hv⟩:=hv;obtain⟨us,us',e,h1,h2⟩:=t.aks hy hv;simp only[hL]at h2;subst h2;refine⟨us,h1,?_⟩;rw[ha];simp only[Gt];apply fQ;simpa using e
    .cases h
   .cases h
  .cases h
 .rename_i ha;split at h
  .rename_i y r hy;split at h
   .simp only[ak]at h;subst h;obtain⟨us,us',e,h1,h2⟩:=t.aks hy (E:=E) (vs:=[v]) (by simp only[hL];exact⟨v,[],rfl,hv,rfl⟩);simp only[hL]at h2;subst h2;simp only[cy]at e;subst e;exact⟨[v],h1,by rw[ha];rfl⟩
   .cases h
  .cases h
theorem DT.acb{E}:(t:DT)->{x:t.den}->{v:Value}->t.hv E.U E.w x v->(t.val x).h E v
 | .int _,_,_,h=>by obtain⟨us,rfl,rfl⟩:=h;simp only[DT.val,DV.h];rfl
 | .bool,_,_,h=>by obtain⟨us,rfl,rfl⟩:=h;simp only[DT.val,DV.h];rfl
 | .str,_,_,h=>by obtain⟨us,rfl,rfl⟩:=h;simp only[DT.val,DV.h];rfl
 | .slc t,_,_,h=>by obtain⟨us,h1,rfl⟩:=h;obtain⟨a,c,rfl,_⟩:=id h1;simp only[DT.val,DV.h];exact h1
 | .set,_,_,h=>by obtain⟨us,h1,rfl⟩:=h;obtain⟨b,es,clock,rfl,_⟩:=id h1;simp only[DT.val,DV.h];exact h1
 | .unit,_,_,h=>by obtain⟨us,rfl,rfl⟩:=h;simp only[DT.val,DV.h];exact⟨_,rfl,by simp[hL]⟩
 | .pair a b,_,_,h=>by obtain⟨us,⟨u1,u2,rfl,h1,h2⟩,rfl⟩:=h;simp only[DT.val,DV.h];refine⟨_,rfl,?_⟩;have:=a.FF (E:=E) h1 (b.FF h2 (r:=[]) (us':=[]) (by simp[hL]));simpa using this
end Go.Vc




namespace Go.Vc
open Go Go.RowKit Go.ChangeMaps
theorem akt{P}{t kt et}(hk:anh P kt)(ht:P.underlying t=some (.map kt et)){w}{b}{es}{clock}{ks}
 (hb:w.heap[b]?=some (.map es clock)) (hs:acs es clock ks) {k} (hK:isU k):
 ∃es' TN ks',(Instr.mapUpdate t (.map (some b)) k (.bool true)).run P w=.ok () (setBlock w b (.map es' TN))/\acs es' TN ks'/\((k∈ks/\ks'=ks)\/(k∉ks/\ks'=ks++[k])):=by
 have KI:∀x,x∈ks↔∃e∈es.toList,e.key=x:=λx=>by rw[<-hs.keys,aN]
 rcases hk.find w hK es.toList (λe he=>hs.kok _ ((KI _).2 ⟨e,he,rfl⟩))with⟨hf,hn⟩|⟨j,e,hf,hj,he⟩
 .refine⟨es.push ⟨k,.bool true,clock⟩,clock+1,ks++[k],?_,?_,.inr ⟨λhm=>?_,rfl⟩⟩
  .simp[Instr.mapUpdate,bj ht,MapKept.run_getObj_map hb,hk.check _ w hK,hf,MapKept.run_setObj_map _ hb,Result.andThen,setBlock]
  .have hkn:k∉ks:=λhm=>by obtain⟨e,he,Jb⟩:=(KI _).1 hm;exact hn e he Jb
   refine⟨by simp[hs.keys],?_,?_,?_,?_,?_⟩
   .intro x hx;rcases aT.1 hx with hx|hx
    .exact hs.kok x hx
    .simp at hx;exact hx▸hK
   .exact rv.2 ⟨hs.nd,by simp,λa ha b hb=>by simp at hb;subst hb;rintro rfl;exact hkn ha⟩
   .intro x hx;simp only[Di,aT,aC]at hx;rcases hx with hx|rfl
    .exact hs.val x hx
    .rfl
   .simp only[Di,cz,bK,oF];refine rv.2 ⟨hs.bnd,by simp,λa ha b hb=>?_⟩;simp at hb;subst hb;obtain⟨x,hx,rfl⟩:=aN.1 ha;have:=hs.lt x hx;omega
   .intro x hx;simp only[Di,aT,aC]at hx;rcases hx with hx|rfl
    .have:=hs.lt x hx;omega
    .simp
  .obtain⟨e,he,Jb⟩:=(KI _).1 hm;exact hn e he Jb
 .have hj':es[j]?=some e:=by rw[<-dt];exact hj
  have hem:=kN hj;refine⟨es.modify j λx=>{ x with key:=k,val:=.bool true },clock,ks,?_,?_,.inl ⟨(KI _).2 ⟨e,hem,he⟩,rfl⟩⟩
  .simp[Instr.mapUpdate,bj ht,MapKept.run_getObj_map hb,hk.check _ w hK,hf,hj',he,hk.stays w hK,MapKept.run_setObj_map _ hb,Result.andThen,setBlock]
  .have hget:∀i,(es.modify j λx=>{ x with key:=k,val:=.bool true })[i]?=es[i]?:=λi=>by
    rw[rh];split
    .rename_i hi;subst hi;rw[hj'];have:=hs.val e hem;cases e;simp_all
    .rfl
   have heq:(es.modify j λx=>{ x with key:=k,val:=.bool true })=es:=by apply Array.ext_getElem?;exact hget
   rw[heq];exact hs
theorem OR{α β}{f:α->β}:∀{l:List α},(l.map f).Nodup->∀{x y:α},x∈l->y∈l->f x=f y->x=y
 |[],_,_,_,hx,_,_=>by simp at hx
 |a::l,h,x,y,hx,hy,e=>by
  simp only[bK,gb]at h;rcases aF.1 hx with hx|hx
  .rcases aF.1 hy with hy|hy
   .rw[hx,hy]
   .exact absurd (aN.2 ⟨y,hy,by rw[<-e,hx]⟩) h.1
  .rcases aF.1 hy with hy|hy
   .exact absurd (aN.2 ⟨x,hx,by rw[e,hy]⟩) h.1
   .exact OR h.2 hx hy e
theorem TO{w}{b c}{o}(h:c≠b):(setBlock w b o).heap[c]?=w.heap[c]?:=by unfold setBlock;exact wT (λe=>h e.symm)
theorem af4{w}{b}{o}(h:b<w.heap.size):(setBlock w b o).heap[b]?=some o:=by unfold setBlock;simp[h]
structure Walk(U:Nat->Prop)(w:World)(ks dn:List KU)(o:Obj)(bm:Nat)(es:Array MapEntry)(clock since:Nat)(seen:Array Nat)(ds:List MapEntry):Prop where
 ho:o=.mapIter (some bm) since seen clock
 nu:¬U bm
 low:bm<w.heap.size
 a0z:w.heap[bm]?=some (.map es clock)
 VN:acs es clock (ks.map kV)
 old:∀e∈es.toList,e.born<since
 sc:since<=clock
 MM:seen.toList=ds.map (·.born)
 hdn:ds.map (·.key)=dn.map kV
 CA:∀e∈ds,e∈es.toList
 nd:(ds.map (·.born)).Nodup
def OD.h(U:Nat->Prop)(w:World):OD->Obj->Prop
 | .I9 s p,o=>o=.stringIter s p.toNat
 | .set ks,o=>∃es clock,o=.map es clock/\acs es clock (ks.map kV)
 | .walk ks dn,o=>∃bm es clock since seen ds,Walk U w ks dn o bm es clock since seen ds
theorem OD.mono{U U'}{w w'}(l:lD U U' w w'){d:OD}{o:Obj}(h:d.h U w o):d.h U' w' o:=by
 cases d with
 |I9 s p=>exact h
 |set ks=>exact h
 |walk ks dn=>obtain⟨bm,es,clock,since,seen,ds,H⟩:=h;exact⟨bm,es,clock,since,seen,ds,H.ho,λhu=>H.nu (l.sub _ H.low hu),e8 H.low l.size,(l.same _ H.low H.nu).trans H.a0z,H.VN,H.old,H.sc,H.MM,H.hdn,H.CA,H.nd⟩
theorem OKd.a00{k:OKd}{d:OD}{z:k.T.den}(h:k.of d=some z):(k.od z).rz=d.rz/\∀U w o,d.h U w o->(k.od z).h U w o:=by
 cases k with
 |I9=>cases d with
  |I9 s p=>have h:=cJ h;subst h;exact⟨rfl,λ_ _ _ h=>h⟩
  |_=>cases h
 |set=>cases d with
  |set ks=>have h:=cJ h;subst h;exact⟨rfl,λ_ _ _ h=>h⟩
  |_=>cases h
 |walk=>cases d with
  |walk ks dn=>have h:=cJ h;subst h;exact⟨rfl,λ_ _ _ h=>h⟩
  |_=>cases h
theorem Walk.next{P}{ty}{U}{w}{ks dn}{r bm}{es:Array MapEntry}{clock since:Nat}{seen:Array Nat}{ds:List MapEntry}{o:Obj}
 (H:Walk U w ks dn o bm es clock since seen ds) (hr:w.heap[r]?=some o) (_:r≠bm):
 ((Instr.next (.pointer (some ⟨r,0,none⟩)) false ty).run P w=.ok (.tuple #[.bool false]) w/\P0 ks dn=[])\/
 ∃k w1 o',k∈P0 ks dn/\(Instr.next (.pointer (some ⟨r,0,none⟩)) false ty).run P w=.ok (.tuple #[.bool true,kV k,.bool true]) (setBlock w1 r o')/\(w1.heap=w.heap/\w1.os=w.os/\w1.tape=w.tape/\w1.output=w.output)/\∀U' (w':World),¬U' bm->bm<w'.heap.size->w'.heap[bm]?=w.heap[bm]?->∃bm es clock since seen ds,Walk U' w' ks (dn++[k]) o' bm es clock since seen ds:=by
 obtain⟨rfl,nu,low,Xu,zB,hold,hsc,MM,hdn,CA,hnd⟩:=H;have inj:∀{x y:MapEntry},x∈es.toList->y∈es.toList->x.born=y.born->x=y:=λhx hy e=>OR zB.bnd hx hy e
 have a01:∀{x y:MapEntry},x∈es.toList->y∈es.toList->x.key=y.key->x=y:=λhx hy e=>OR (by rw[zB.keys];exact zB.nd) hx hy e
 rcases run_next_at (P:=P) w ty r bm since clock seen es clock hr Xu hold hsc with⟨h0,hrun⟩|⟨e,he,w1,wX,hrun⟩
 .refine .inl ⟨hrun,?_⟩;unfold P0;refine wD.2 λk hk=>?_
  have yd:kV k∈es.toList.map (·.key):=by rw[zB.keys];exact Tv.2 hk
  obtain⟨e,he,Jb⟩:=aN.1 yd;have hc:seen.contains e.born=true:=by have he0:=Array.eq_empty_of_size_eq_zero h0;unfold leftOf at he0;rw[Array.filter_eq_empty_iff]at he0;have:=he0 e (sk.1 he);simpa using this
  have hm:e.born∈seen.toList:=by rw[sk];exact wH.1 hc
  rw[MM]at hm;obtain⟨d,hd,hdb⟩:=aN.1 hm;have hed:=inj (CA d hd) he hdb;subst hed;have:kV k∈dn.map kV:=by rw[<-hdn,<-Jb];exact aN.2 ⟨d,hd,rfl⟩
  simp[vF.2 (Tv.1 this)]
 .obtain⟨hem,hes⟩:=mem_left he;have hkm:e.key∈ks.map kV:=by rw[<-zB.keys];exact aN.2 ⟨e,hem,rfl⟩
  obtain⟨k,hk,hke⟩:=aN.1 hkm
  have hnk:k∉dn:=λhx=>by
   have hx:=Tv.2 hx;rw[<-hdn,hke]at hx;obtain⟨d,hd,hdk⟩:=aN.1 hx;have:=a01 (CA d hd) hem hdk;subst this;have hm:d.born∈seen.toList:=by rw[MM];exact aN.2 ⟨d,hd,rfl⟩
   rw[sk]at hm;rw[wH.2 hm]at hes;cases hes
  have hw1:w1.heap=w.heap/\w1.os=w.os/\w1.tape=w.tape/\w1.output=w.output:=by rcases wX with rfl|rfl<;>exact⟨rfl,rfl,rfl,rfl⟩
  refine .inr ⟨k,w1,.mapIter (some bm) since (seen.push e.born) clock,aM.2 ⟨hk,?_⟩,?_,hw1,λU' w' h1 h2 h3=>⟨bm,es,clock,since,seen.push e.born,ds++[e],rfl,h1,h2,h3.trans Xu,zB,hold,hsc,by simp[MM],by simp[hdn,hke],λx hx=>?_,?_⟩⟩
  .cases hm:Tx k dn with
   |true=>exact absurd (vF.1 hm) hnk
   |false=>rfl
  .rw[zB.val e hem,<-hke]at hrun;exact hrun
  .rcases aT.1 hx with hx|hx
   .exact CA x hx
   .simp at hx;exact hx▸hem
  .simp only[cz,bK,oF];refine rv.2 ⟨hnd,by simp,λa ha c hc=>?_⟩;simp at hc;subst hc;rintro rfl;have hm:e.born∈seen.toList:=by rw[MM];exact ha
   rw[sk]at hm;rw[wH.2 hm]at hes;cases hes
theorem Walk.entry{P}{U}{w}{ks dn}{k}{r bm}{es:Array MapEntry}{clock since:Nat}{seen:Array Nat}{ds:List MapEntry}{o:Obj}
 (H:Walk U w ks dn o bm es clock since seen ds) (hk:dn[dn.length-1]?=some k) (hr:w.heap[r]?=some o):(Instr.entry (.pointer (some ⟨r,0,none⟩))).run P w=.ok (.tuple #[kV k,.bool true]) w:=by
 obtain⟨rfl,nu,low,Xu,zB,hold,hsc,MM,hdn,CA,hnd⟩:=H
 obtain⟨dn',rfl⟩:∃dn',dn=dn'++[k]:=by
  rcases xe dn with h|⟨d,x,h⟩
  .subst h;simp at hk
  .subst h;simp at hk;exact⟨d,by rw[hk];simp⟩
 obtain⟨d1,e,rfl⟩:∃d1 e,ds=d1++[e]:=by
  rcases xe ds with h|⟨d1,e,h⟩
  .subst h;simp at hdn
  .exact⟨d1,e,by simpa using h⟩
 simp only[cz,bK,oF]at hdn MM;have hke:=(List.append_inj' hdn rfl).2;simp only[dO,oA]at hke;have RU:seen=(d1.map (·.born)).toArray.push e.born:=by apply fQ;rw[MM];simp
 rw[RU]at hr;have hem:=CA e (by simp);have hrun:=run_entry_at (P:=P) w r bm since _ es clock e hr Xu hem zB.bnd;rw[zB.val e hem,hke]at hrun;exact hrun
abbrev zx:=Nat->Option Addr×Nat
def iK(B:Nat->Nat)(A:zx)(pb:ij)(rw:List DR):Bool->Nat->Nat->Prop
 |false,i,b=>live pb i/\B i=b
 |true,j,b=>∃r ad,rw[j]?=some r/\r≠.dead/\(A j).1=some ad/\ad.block=b
def Us(U0:Nat->Prop)(B:Nat->Nat)(A:zx)(pb:ij)(rw:List DR):Nat->Prop:=λb=>U0 b\/∃k i,iK B A pb rw k i b
def env(U0:Nat->Prop)(B:Nat->Nat)(A:zx)(pb:ij)(rw:List DR)(w:World):Env:=⟨Us U0 B A pb rw,w,B,A,pb,rw⟩
structure Mem(V:World)(U0 L:Nat->Prop)(B:Nat->Nat)(A:zx)(pb:ij)(rw:List DR)(w:World):Prop where
 os:w.os=V.os
 tape:w.tape=V.tape
 output:w.output=V.output
 size:V.heap.size<=w.heap.size
 same:∀b,b<V.heap.size->¬L b->w.heap[b]?=V.heap[b]?
 u0:∀b,U0 b->b<V.heap.size/\¬L b
 low:∀k i b,iK B A pb rw k i b->b<w.heap.size/\(V.heap.size<=b\/L b)
 inj:∀k i k' i' b,iK B A pb rw k i b->iK B A pb rw k' i' b->k=k'/\i=i'
 box:∀i b,pb[i]?=some (some b)->∃cs,w.heap[B i]?=some (.cells cs.toArray b.ty (0,0))/\hL (env U0 B A pb rw w) b.cells cs/\(b.w=false->B i<V.heap.size/\w.heap[B i]?=V.heap[B i]?)
 row:∀j e t l,rw[j]?=some (.own e t l)->∃xs,w.ownsRow 0 e t.size (.slice (A j).1 l.length (A j).2) l.length xs/\t.hs (Us U0 B A pb rw) w l xs
 I9:∀j d,rw[j]?=some (.obj d)->∃b o,(A j).1=some ⟨b,0,none⟩/\w.heap[b]?=some o/\d.h (Us U0 B A pb rw) w o
def Wr(al:Nat->Bool)(B:Nat->Nat)(A:zx)(pb:ij)(rw:List DR):Nat->Prop:=λb=>(∃i,al i=true/\iK B A pb rw false i b)\/∃j,iK B A pb rw true j b
structure Ext(al:Nat->Bool)(B:Nat->Nat)(A:zx)(pb:ij)(rw:List DR)(w:World)(B':Nat->Nat)(A':zx)(pb':ij)(rw':List DR)(w':World):Prop where
 bx:∀i,live pb i->live pb' i/\B' i=B i
 fr:∀b,b<w.heap.size->¬Wr al B A pb rw b->w'.heap[b]?=w.heap[b]?
 fresh:∀b,Wr al B' A' pb' rw' b->Wr al B A pb rw b\/w.heap.size<=b
 size:w.heap.size<=w'.heap.size
theorem Ext.trans{al:Nat->Bool}{B B1 B2:Nat->Nat}{A A1 A2:zx}{pb iy P6:ij}{rw ju uX:List DR}{w w1 w2:World}(h:Ext al B A pb rw w B1 A1 iy ju w1)(k:Ext al B1 A1 iy ju w1 B2 A2 P6 uX w2):Ext al B A pb rw w B2 A2 P6 uX w2:=by
 refine⟨λi hl=>?_,λb hb hn=>?_,λb hb=>?_,cp h.size k.size⟩
 .obtain⟨g1,g2⟩:=h.bx i hl;obtain⟨g3,g4⟩:=k.bx i g1;exact⟨g3,g4.trans g2⟩
 .rw[k.fr b (e8 hb h.size) λhw=>?_,h.fr b hb hn];rcases h.fresh b hw with g|g
  .exact hn g
  .omega
 .rcases k.fresh b hb with g|g
  .exact h.fresh b g
  .exact .inr (cp h.size g)
theorem aku{w w':World}{base:Nat}{e:TypeId}{size:Nat}{a:Option Addr}{n c:Nat}{xs:List Value}(h:w.ownsRow base e size (.slice a n c) n xs)(hk:∀x,a=some x->w'.heap[x.block]?=w.heap[x.block]?):w'.ownsRow base e size (.slice a n c) n xs:=by
 refine⟨h.1,?_⟩;rcases h.2 with h2|⟨g,cap,cur,heq,hb,hg,rest⟩
 .exact .inl h2
 .simp only[dh]at heq;obtain⟨rfl,_,rfl⟩:=heq;exact .inr ⟨g,c,cur,rfl,hb,(hk _ rfl).trans hg,rest⟩
section
variable {V : World} {U0 L : Nat -> Prop} {B B' : Nat -> Nat} {A A' : zx} {pb pb' : ij} {rw rw' : List DR} {w w' : World}
theorem Mem.au2{al:Nat->Bool}(f:Nat->Option DV)(m:Mem V U0 L B A pb rw w)
 (hr:w'.os=w.os/\w'.tape=w.tape/\w'.output=w.output/\w.heap.size<=w'.heap.size)
 (hk:∀b,b<w.heap.size->¬Wr al B A pb rw b->w'.heap[b]?=w.heap[b]?)
 (hwr:∀b,Wr al B' A' pb' rw' b->Wr al B A pb rw b\/w.heap.size<=b)
 (hb:∀k i b,iK B' A' pb' rw' k i b->(∃k' i',iK B A pb rw k' i' b)\/(w.heap.size<=b/\b<w'.heap.size))
 (hj:∀k i k' i' b,iK B' A' pb' rw' k i b->iK B' A' pb' rw' k' i' b->k=k'/\i=i')
 (bx:∀i,live pb i->live pb' i/\B' i=B i)
 (keep:∀j e t l,f j=none->rw[j]?=some (.own e t l)->∃l',rw'[j]?=some (.own e t l')/\l'.length=l.length/\A' j=A j)
 (ac4:∀j d,f j=none->rw[j]?=some (.obj d)->(∃d',rw'[j]?=some (.obj d')/\d'.rz=d.rz)/\A' j=A j)
 (to:lD (Us U0 B A pb rw) (Us U0 B' A' pb' rw') w w'->∀j q e t l,f j=some q->rw[j]?=some (.own e t l)->q.h (env U0 B' A' pb' rw' w') (.slice (A j).1 l.length (A j).2))
 (toI:lD (Us U0 B A pb rw) (Us U0 B' A' pb' rw') w w'->∀j q d ad,f j=some q->rw[j]?=some (.obj d)->(A j).1=some ad->q.h (env U0 B' A' pb' rw' w') (d.at ad))
 (avT:Sub f (env U0 B A pb rw w) (env U0 B' A' pb' rw' w')->∀i b',pb'[i]?=some (some b')->(∃b,pb[i]?=some (some b)/\b'.ty=b.ty/\b'.cells=Ao f b.cells/\(b'.w=false->b.w=false)/\w'.heap[B i]?=w.heap[B i]?)\/∃cs,w'.heap[B' i]?=some (.cells cs.toArray b'.ty (0,0))/\hL (env U0 B' A' pb' rw' w') b'.cells cs/\b'.w=true)
 (af5:lD (Us U0 B A pb rw) (Us U0 B' A' pb' rw') w w'->∀j e t l,rw'[j]?=some (.own e t l)->(rw[j]?=some (.own e t l)/\A' j=A j/\∀ad,(A j).1=some ad->w'.heap[ad.block]?=w.heap[ad.block]?)\/∃xs,w'.ownsRow 0 e t.size (.slice (A' j).1 l.length (A' j).2) l.length xs/\t.hs (Us U0 B' A' pb' rw') w' l xs)
 (avU:lD (Us U0 B A pb rw) (Us U0 B' A' pb' rw') w w'->∀j d,rw'[j]?=some (.obj d)->(rw[j]?=some (.obj d)/\A' j=A j/\∀ad,(A j).1=some ad->w'.heap[ad.block]?=w.heap[ad.block]?)\/∃b o,(A' j).1=some ⟨b,0,none⟩/\w'.heap[b]?=some o/\d.h (Us U0 B' A' pb' rw') w' o):
 Mem V U0 L B' A' pb' rw' w'/\Sub f (env U0 B A pb rw w) (env U0 B' A' pb' rw' w')/\Ext al B A pb rw w B' A' pb' rw' w':=by
 obtain⟨h1,h2,h3,h4⟩:=hr
 have l:lD (Us U0 B A pb rw) (Us U0 B' A' pb' rw') w w':=⟨λb hb1 hn=>hk b hb1 λh=>hn (.inr (h.elim (λ⟨i,_,h⟩=>⟨_,i,h⟩) λ⟨i,h⟩=>⟨_,i,h⟩)),h4,λb hb1 hu=>by
  rcases hu with hu|⟨k,i,hu⟩
  .exact .inl hu
  .rcases hb k i b hu with⟨k',i',h⟩|⟨h,_⟩
   .exact .inr ⟨k',i',h⟩
   .omega⟩
 have s:Sub f (env U0 B A pb rw w) (env U0 B' A' pb' rw' w'):=⟨l,bx,keep,ac4,to l,toI l⟩;refine⟨⟨h1.trans m.os,h2.trans m.tape,h3.trans m.output,cp m.size h4,λb hb1 hL=>?_,m.u0,λk i b hbb=>?_,hj,λi b' hi=>?_,λj e t l' hj'=>?_,λj d hj'=>?_⟩,s,bx,hk,hwr,h4⟩
 .have hb2:=e8 hb1 m.size
  have NX:∀k i,¬iK B A pb rw k i b:=λk i hu=>by
   rcases(m.low k i b hu).2 with h|h
   .omega
   .exact hL h
  rw[hk b hb2 λh=>h.elim (λ⟨i,_,h⟩=>NX _ i h) λ⟨i,h⟩=>NX _ i h,m.same b hb1 hL]
 .rcases hb k i b hbb with⟨k',i',h⟩|⟨h,h'⟩
  .exact⟨e8 (m.low k' i' b h).1 h4,(m.low k' i' b h).2⟩
  .exact⟨h',.inl (cp m.size h)⟩
 .rcases avT s i b' hi with⟨b,g1,g2,g3,g4,g5⟩|⟨cs,g1,g2,g3⟩
  .obtain⟨cs,g6,g7,g8⟩:=m.box i b g1;have e:=(bx i ⟨b,g1⟩).2;refine⟨cs,by rw[e,g5,g2];exact g6,by rw[g3];exact ky s _ g7,λhw=>?_⟩;obtain⟨g9,g10⟩:=g8 (g4 hw);exact⟨by rw[e];exact g9,by rw[e,g5];exact g10⟩
  .exact⟨cs,g1,g2,λh=>by rw[g3]at h;cases h⟩
 .rcases af5 l j e t l' hj' with⟨g1,g2,g3⟩|h
  .obtain⟨xs,g4,g5⟩:=m.row j e t l' g1;exact⟨xs,by rw[g2];exact aku g4 g3,DT.kw l g5⟩
  .exact h
 .rcases avU l j d hj' with⟨g1,g2,g3⟩|h
  .obtain⟨b,o,g4,g5,g6⟩:=m.I9 j d g1;exact⟨b,o,by rw[g2];exact g4,(g3 _ g4).trans g5,OD.mono l g6⟩
  .exact h
theorem Mem.step{al}(f:Nat->Option DV)(m:Mem V U0 L B A pb rw w)
 (hr:w'.os=w.os/\w'.tape=w.tape/\w'.output=w.output/\w.heap.size<=w'.heap.size)
 (hk:∀b,b<w.heap.size->¬Wr al B A pb rw b->w'.heap[b]?=w.heap[b]?)
 (hb:∀k i b,iK B' A' pb' rw' k i b->iK B A pb rw k i b\/(w.heap.size<=b/\b<w'.heap.size))
 (hj:∀k i k' i' b,iK B' A' pb' rw' k i b->iK B' A' pb' rw' k' i' b->k=k'/\i=i')
 (bx:∀i,live pb i->live pb' i/\B' i=B i)
 (keep:∀j e t l,f j=none->rw[j]?=some (.own e t l)->∃l',rw'[j]?=some (.own e t l')/\l'.length=l.length/\A' j=A j)
 (ac4:∀j d,f j=none->rw[j]?=some (.obj d)->(∃d',rw'[j]?=some (.obj d')/\d'.rz=d.rz)/\A' j=A j)
 (to:lD (Us U0 B A pb rw) (Us U0 B' A' pb' rw') w w'->∀j q e t l,f j=some q->rw[j]?=some (.own e t l)->q.h (env U0 B' A' pb' rw' w') (.slice (A j).1 l.length (A j).2))
 (toI:lD (Us U0 B A pb rw) (Us U0 B' A' pb' rw') w w'->∀j q d ad,f j=some q->rw[j]?=some (.obj d)->(A j).1=some ad->q.h (env U0 B' A' pb' rw' w') (d.at ad))
 (avT:Sub f (env U0 B A pb rw w) (env U0 B' A' pb' rw' w')->∀i b',pb'[i]?=some (some b')->(∃b,pb[i]?=some (some b)/\b'.ty=b.ty/\b'.cells=Ao f b.cells/\(b'.w=false->b.w=false)/\w'.heap[B i]?=w.heap[B i]?)\/∃cs,w'.heap[B' i]?=some (.cells cs.toArray b'.ty (0,0))/\hL (env U0 B' A' pb' rw' w') b'.cells cs/\b'.w=true)
 (af5:lD (Us U0 B A pb rw) (Us U0 B' A' pb' rw') w w'->∀j e t l,rw'[j]?=some (.own e t l)->(rw[j]?=some (.own e t l)/\A' j=A j/\∀ad,(A j).1=some ad->w'.heap[ad.block]?=w.heap[ad.block]?)\/∃xs,w'.ownsRow 0 e t.size (.slice (A' j).1 l.length (A' j).2) l.length xs/\t.hs (Us U0 B' A' pb' rw') w' l xs)
 (avU:lD (Us U0 B A pb rw) (Us U0 B' A' pb' rw') w w'->∀j d,rw'[j]?=some (.obj d)->(rw[j]?=some (.obj d)/\A' j=A j/\∀ad,(A j).1=some ad->w'.heap[ad.block]?=w.heap[ad.block]?)\/∃b o,(A' j).1=some ⟨b,0,none⟩/\w'.heap[b]?=some o/\d.h (Us U0 B' A' pb' rw') w' o):
 Mem V U0 L B' A' pb' rw' w'/\Sub f (env U0 B A pb rw w) (env U0 B' A' pb' rw' w')/\Ext al B A pb rw w B' A' pb' rw' w':=
 m.au2 f hr hk (λ_ h=>h.elim (λ⟨i,ha,h⟩=>(hb _ _ _ h).imp (λh=>.inl ⟨i,ha,h⟩) (·.1)) λ⟨i,h⟩=>(hb _ _ _ h).imp (λh=>.inr ⟨i,h⟩) (·.1)) (λk i b h=>(hb k i b h).imp (λh=>⟨k,i,h⟩) id) hj bx keep ac4 to toI avT af5 avU
end
def Fl{α:Type}(f:Nat->α)(n:Nat)(y:α):Nat->α:=λi=>if i=n then y else f i
theorem nQ{α}(f)(n:Nat)(y:α):Fl f n y n=y:=by simp[Fl]
theorem zC{α}(f){n i:Nat}(y:α)(h:i≠n):Fl f n y i=f i:=by simp[Fl,h]
section
variable {V : World} {U0 L : Nat -> Prop} {B : Nat -> Nat} {A : zx} {pb : ij} {rw : List DR} {w w' : World}
theorem Mem.world{al}(m:Mem V U0 L B A pb rw w)(hr:w'.os=w.os/\w'.tape=w.tape/\w'.output=w.output/\w.heap.size<=w'.heap.size)(hk:∀b,b<w.heap.size->w'.heap[b]?=w.heap[b]?):
 Mem V U0 L B A pb rw w'/\Sub Ix (env U0 B A pb rw w) (env U0 B A pb rw w')/\Ext al B A pb rw w B A pb rw w':=by
 have hl:∀k i b,iK B A pb rw k i b->w'.heap[b]?=w.heap[b]?:=λk i b h=>hk b (m.low k i b h).1
 refine m.step Ix hr (λb hb _=>hk b hb) (λk i b h=>.inl h) m.inj (λi h=>⟨h,rfl⟩) (λj e t l _ h=>⟨l,h,rfl,rfl⟩) (λj d _ h=>⟨⟨d,h,rfl⟩,rfl⟩) (λ_ j q e t l h=>by cases h) (λ_ j q d ad h=>by cases h) (λs i b' h=>.inl ⟨b',h,rfl,by rw[pg],id,hl false i _ ⟨⟨_,h⟩,rfl⟩⟩) (λ_ j e t l h=>.inl ⟨h,rfl,λad ha=>hl true j _ ⟨_,ad,h,by simp,ha,rfl⟩⟩) λ_ j d h=>.inl ⟨h,rfl,λad ha=>hl true j _ ⟨_,ad,h,by simp,ha,rfl⟩⟩
theorem Mem.avW{al}(m:Mem V U0 L B A pb rw w){pb':ij}{i:Nat}{ty:TypeId}{cells:List DV}{cs:List Value}(hi:pb'[i]?=some (some ⟨ty,cells,true⟩))(hj:∀j,j≠i->pb'[j]?=pb[j]?)(hn:¬live pb i)
 (hc:hL (env U0 B A pb rw w) cells cs):
 Mem V U0 L (Fl B i w.heap.size) A pb' rw (w.alloc (.cells cs.toArray ty))/\Sub Ix (env U0 B A pb rw w) (env U0 (Fl B i w.heap.size) A pb' rw (w.alloc (.cells cs.toArray ty)))/\Ext al B A pb rw w (Fl B i w.heap.size) A pb' rw (w.alloc (.cells cs.toArray ty)):=by
 have hk:∀b,b<w.heap.size->(w.alloc (.cells cs.toArray ty)).heap[b]?=w.heap[b]?:=λb hb=>nc w _ hb
 have hl:∀k i b,iK B A pb rw k i b->(w.alloc (.cells cs.toArray ty)).heap[b]?=w.heap[b]?:=λk i b h=>hk b (m.low k i b h).1
 have Ez:∀j,j≠i->(live pb' j↔live pb j):=λj R8=>by simp only[live,hj j R8]
 have hb:∀k j b,iK (Fl B i w.heap.size) A pb' rw k j b->(iK B A pb rw k j b\/(k=false/\j=i/\b=w.heap.size)):=by
  intro k j b h;cases k with
  |true=>exact .inl h
  |false=>
   obtain⟨h1,h2⟩:=h;by_cases R8:j=i
   .subst R8;rw[nQ]at h2;exact .inr ⟨rfl,rfl,h2.symm⟩
   .rw[zC _ _ R8]at h2;exact .inl ⟨(Ez j R8).1 h1,h2⟩
 refine m.step Ix ⟨rfl,rfl,rfl,by simp⟩ (λb hb _=>hk b hb) (λk j b h=>(hb k j b h).imp id λ⟨_,_,h⟩=>by subst h;simp) (λk j k' j' b h h'=>?_) (λj h=>?_) (λj e t l _ h=>⟨l,h,rfl,rfl⟩) (λj d _ h=>⟨⟨d,h,rfl⟩,rfl⟩) (λ_ j q e t l h=>by cases h) (λ_ j q d ad h=>by cases h) (λs j b' h=>?_) (λ_ j e t l h=>.inl ⟨h,rfl,λad ha=>hl true j _ ⟨_,ad,h,by simp,ha,rfl⟩⟩) λ_ j d h=>.inl ⟨h,rfl,λad ha=>hl true j _ ⟨_,ad,h,by simp,ha,rfl⟩⟩
 .rcases hb k j b h with g|⟨rfl,rfl,e⟩
  .rcases hb k' j' b h' with g'|⟨rfl,rfl,e⟩
   .exact m.inj _ _ _ _ _ g g'
   .have:=(m.low k j b g).1;omega
  .rcases hb k' j' b h' with g|⟨rfl,rfl,_⟩
   .have:=(m.low k' j' b g).1;omega
   .exact⟨rfl,rfl⟩
 .have R8:j≠i:=by rintro rfl;exact hn h
  exact⟨(Ez j R8).2 h,zC _ _ R8⟩
 .by_cases R8:j=i
  .subst R8;rw[hi]at h;simp only[ak]at h;subst h;refine .inr ⟨cs,by rw[nQ];exact kM w _,?_,rfl⟩;have:=ky s cells hc
   rwa [pg]at this
  .rw[hj j R8]at h;exact .inl ⟨b',h,rfl,by rw[pg],id,hl false j _ ⟨⟨_,h⟩,rfl⟩⟩
theorem Mem.avX{al}(m:Mem V U0 L B A pb rw w){i:Nat}{b0:DB}{cells:List DV}{cs:List Value}(wX:al i=true)(hi:pb[i]?=some (some b0))(hc:hL (env U0 B A pb rw w) cells cs)
 (hr:w'.os=w.os/\w'.tape=w.tape/\w'.output=w.output/\w.heap.size<=w'.heap.size) (hk:∀b,b<w.heap.size->b≠B i->w'.heap[b]?=w.heap[b]?) (hw:w'.heap[B i]?=some (.cells cs.toArray b0.ty (0,0))):
 Mem V U0 L B A (pb.set i (some ⟨b0.ty,cells,true⟩)) rw w'/\Sub Ix (env U0 B A pb rw w) (env U0 B A (pb.set i (some ⟨b0.ty,cells,true⟩)) rw w')/\Ext al B A pb rw w B A (pb.set i (some ⟨b0.ty,cells,true⟩)) rw w':=by
 have hib:iK B A pb rw false i (B i):=⟨⟨_,hi⟩,rfl⟩;have hlt:=(ay.1 hi).1
 have Ez:∀j,live (pb.set i (some ⟨b0.ty,cells,true⟩)) j↔live pb j:=λj=>by
  simp only[live,bc];split
  .rename_i h;subst h;exact⟨λ_=>⟨_,hi⟩,λ_=>⟨_,rfl⟩⟩
  .rfl
 have hb:∀k j b,iK B A (pb.set i (some ⟨b0.ty,cells,true⟩)) rw k j b->iK B A pb rw k j b:=by
  intro k j b h;cases k with
  |true=>exact h
  |false=>exact⟨(Ez j).1 h.1,h.2⟩
 have hl:∀k j b,iK B A pb rw k j b->(k=true\/j≠i)->w'.heap[b]?=w.heap[b]?:=λk j b h hne=>hk b (m.low k j b h).1 (by
  rintro rfl;obtain⟨h1,h2⟩:=m.inj _ _ _ _ _ h hib;rcases hne with h'|h'
  .subst h1;cases h'
  .exact h' h2)
 refine m.step Ix hr (λb hb1 hn=>hk b hb1 (by rintro rfl;exact hn (.inl ⟨i,wX,hib⟩))) (λk j b h=>.inl (hb k j b h)) (λk j k' j' b h h'=>m.inj _ _ _ _ _ (hb _ _ _ h) (hb _ _ _ h')) (λj h=>⟨(Ez j).2 h,rfl⟩) (λj e t l _ h=>⟨l,h,rfl,rfl⟩) (λj d _ h=>⟨⟨d,h,rfl⟩,rfl⟩) (λ_ j q e t l h=>by cases h) (λ_ j q d ad h=>by cases h) (λs j b' h=>?_) (λ_ j e t l h=>.inl ⟨h,rfl,λad ha=>hl true j _ ⟨_,ad,h,by simp,ha,rfl⟩ (.inl rfl)⟩) λ_ j d h=>.inl ⟨h,rfl,λad ha=>hl true j _ ⟨_,ad,h,by simp,ha,rfl⟩ (.inl rfl)⟩
 rw[bc]at h;split at h
 .rename_i hij;subst hij;simp only[ak]at h;subst h;refine .inr ⟨cs,hw,?_,rfl⟩;have:=ky s cells hc
  rwa [pg]at this
 .rename_i hij;exact .inl ⟨b',h,rfl,by rw[pg],id,hl false j _ ⟨⟨_,h⟩,rfl⟩ (.inr (jf hij))⟩
theorem Mem.putRow{al:Nat->Bool}(m:Mem V U0 L B A pb rw w){j:Nat}{f:Nat->Option DV}{rw':List DR}{e:TypeId}{t:DT}{l:List t.den}{a:Option Addr}{c:Nat}(hj:rw'[j]?=some (.own e t l))(hi:∀i,i≠j->rw'[i]?=rw[i]?)
 (hf0:∀i p,f i=some p->i=j/\p=.jz) (ay6:f j=none->∀e t l,rw[j]?=some (.own e t l)->∃l',rw'[j]?=some (.own e t l')/\l'.length=l.length/\(a,c)=A j) (avY:f j=none->∀d,rw[j]?≠some (.obj d))
 (hr:w'.os=w.os/\w'.tape=w.tape/\w'.output=w.output/\w.heap.size<=w'.heap.size) (hk:∀b,b<w.heap.size->¬iK B A pb rw true j b->w'.heap[b]?=w.heap[b]?)
 (ha:∀x,a=some x->iK B A pb rw true j x.block\/(w.heap.size<=x.block/\x.block<w'.heap.size))
 (hw:∀U',lD (Us U0 B A pb rw) U' w w'->∃xs,w'.ownsRow 0 e t.size (.slice a l.length c) l.length xs/\t.hs U' w' l xs):
 Mem V U0 L B (Fl A j (a,c)) (oY f pb) rw' w'/\Sub f (env U0 B A pb rw w) (env U0 B (Fl A j (a,c)) (oY f pb) rw' w')/\Ext al B A pb rw w B (Fl A j (a,c)) (oY f pb) rw' w':=by
 have hb:∀k i b,iK B (Fl A j (a,c)) (oY f pb) rw' k i b->(¬(k=true/\i=j)/\iK B A pb rw k i b)\/(k=true/\i=j/\∃x,a=some x/\x.block=b):=by
  intro k i b h;cases k with
  |false=>exact .inl ⟨by simp,oR.1 h.1,h.2⟩
  |true=>
   obtain⟨r,ad,h1,h2,h3,h4⟩:=h;by_cases hij:i=j
   .subst hij;rw[nQ]at h3;exact .inr ⟨rfl,rfl,ad,h3,h4⟩
   .rw[zC _ _ hij]at h3;rw[hi i hij]at h1;exact .inl ⟨by simp[hij],r,ad,h1,h2,h3,h4⟩
 have hl:∀k i b,iK B A pb rw k i b->¬(k=true/\i=j)->w'.heap[b]?=w.heap[b]?:=λk i b h hne=>hk b (m.low k i b h).1 λhj'=>by obtain⟨h1,h2⟩:=m.inj _ _ _ _ _ h hj';exact hne ⟨h1,h2⟩
 refine m.step f hr (λb hb1 hn=>hk b hb1 λh=>hn (.inr ⟨j,h⟩)) (λk i b h=>?_) (λk i k' i' b h h'=>?_) (λi h=>⟨oR.2 h,rfl⟩) (λi e' t' l' hfi h=>?_) (λi d hfi h=>?_) (λ_ i q e' t' l' h _=>by obtain⟨_,rfl⟩:=hf0 i q h;simp only[DV.h]) (λ_ i q d ad h _ _=>by obtain⟨_,rfl⟩:=hf0 i q h;simp only[DV.h]) (λs i b' h=>?_) (λlt i e' t' l' h=>?_) λ_ i d h=>?_
 .rcases hb k i b h with⟨_,h⟩|⟨rfl,rfl,x,hx,rfl⟩
  .exact .inl h
  .exact ha x hx
 .have one:∀k i b,¬(k=true/\i=j)->iK B A pb rw k i b->∀x,a=some x->x.block=b->False:=λk i b hn g x hx e=>by
   rcases ha x hx with h1|⟨h1,_⟩
   .rw[e]at h1;exact hn (m.inj _ _ _ _ _ g h1)
   .have:=(m.low k i b g).1;omega
  rcases hb k i b h with⟨hn,g⟩|⟨rfl,rfl,x,hx,e⟩
  .rcases hb k' i' b h' with⟨_,g'⟩|⟨rfl,rfl,x,hx,e⟩
   .exact m.inj _ _ _ _ _ g g'
   .exact(one _ _ _ hn g x hx e).elim
  .rcases hb k' i' _ h' with⟨hn,g⟩|⟨rfl,rfl,_⟩
   .exact(one _ _ _ hn g x hx e).elim
   .exact⟨rfl,rfl⟩
 .by_cases hij:i=j
  .subst hij;obtain⟨l2,h1,h2,h3⟩:=ay6 hfi e' t' l' h;exact⟨l2,h1,h2,by rw[nQ,h3]⟩
  .exact⟨l',by rw[hi i hij];exact h,rfl,zC _ _ hij⟩
 .by_cases hij:i=j
  .subst hij;exact absurd h (avY hfi d)
  .exact⟨⟨d,by rw[hi i hij];exact h,rfl⟩,zC _ _ hij⟩
 .obtain⟨b0,h0,rfl⟩:=uy.1 h;exact .inl ⟨b0,h0,rfl,rfl,id,hl false i _ ⟨⟨_,h0⟩,rfl⟩ (by simp)⟩
 .by_cases hij:i=j
  .subst hij;rw[hj]at h;simp only[ak,DR.own.injEq]at h;obtain⟨rfl,rfl,h⟩:=h;cases h;obtain⟨xs,h1,h2⟩:=hw _ lt;exact .inr ⟨xs,by rw[nQ];exact h1,h2⟩
  .rw[hi i hij]at h;exact .inl ⟨h,zC _ _ hij,λad had=>hl true i _ ⟨_,ad,h,by simp,had,rfl⟩ (by simp[hij])⟩
 .have hij:i≠j:=by rintro rfl;rw[hj]at h;cases h
  rw[hi i hij]at h;exact .inl ⟨h,zC _ _ hij,λad had=>hl true i _ ⟨_,ad,h,by simp,had,rfl⟩ (by simp[hij])⟩
theorem arR{U}{e}{k}{a}{n c}{xs}(h:w.ownsRow 0 e k (.slice a n c) n xs)(hu:∀x,a=some x->¬U x.block):At U w a 0 xs:=by
 intro j u hj;rcases h.2 with⟨_,rfl⟩|⟨g,cap,cur,heq,hb,hg,h1,h2,h3,h4⟩
 .have:=h.1;simp at this;subst this;simp at hj
 .simp only[dh]at heq;obtain⟨rfl,_,rfl⟩:=heq;refine⟨_,rfl,hu _ rfl,(cq.1 hg).1,?_⟩;rw[<-h4,ct]at hj;split at hj
  .rw[cg,tQ,cg];have:=Df w g j cur e (0,0) hg;rw[this];simpa using hj
  .cases hj
theorem TP{e}{k}{a}{n c}{xs}(h:w.ownsRow 0 e k (.slice a n c) n xs):n<=c/\c<=maxLen:=by
 rcases h.2 with⟨h1,rfl⟩|⟨g,cap,cur,heq,hb,hg,h1,h2,h3,h4⟩
 .simp only[dh]at h1;obtain⟨_,_,rfl⟩:=h1;exact⟨au _,bE _⟩
 .simp only[dh]at heq;obtain⟨_,_,rfl⟩:=heq;exact⟨h1,h2⟩
theorem Mem.ahW(m:Mem V U0 L B A pb rw w){j:Nat}{e:TypeId}{t:DT}{l:List t.den}(hj:rw[j]?=some (.own e t l)){U':Nat->Prop}(hs:∀b,U' b->Us U0 B A pb rw b)(hn:∀b,U' b->¬iK B A pb rw true j b):
 (DT.slc t).h U' w l [.slice (A j).1 l.length (A j).2]:=by
 obtain⟨xs,h1,h2⟩:=m.row j e t l hj;have hc:=TP h1;refine DT.avO (DT.kw ⟨λ_ _ _=>rfl,au _,λb _ h=>hs b h⟩ h2) hc.1 hc.2 (arR h1 λx hx hu=>hn _ hu ⟨_,x,hj,by simp,hx,rfl⟩)
theorem Mem.freeze{al:Nat->Bool}(m:Mem V U0 L B A pb rw w){j:Nat}{e:TypeId}{t:DT}{l:List t.den}(hj:rw[j]?=some (.own e t l)):
 Mem V U0 L B A (oY (j6 j (.sl t l)) pb) (rw.set j .dead) w/\Sub (j6 j (.sl t l)) (env U0 B A pb rw w) (env U0 B A (oY (j6 j (.sl t l)) pb) (rw.set j .dead) w)/\Ext al B A pb rw w B A (oY (j6 j (.sl t l)) pb) (rw.set j .dead) w:=by
 have hne:∀i,i≠j->(rw.set j DR.dead)[i]?=rw[i]?:=λi h=>by rw[bc,ag (jf h)]
 have hjj:(rw.set j DR.dead)[j]?=some .dead:=by rw[bc,ah rfl,ah (ay.1 hj).1]
 have hb:∀k i b,iK B A (oY (j6 j (.sl t l)) pb) (rw.set j .dead) k i b->iK B A pb rw k i b/\¬(k=true/\i=j):=by
  intro k i b h;cases k with
  |false=>exact⟨⟨oR.1 h.1,h.2⟩,by simp⟩
  |true=>
   obtain⟨r,ad,h1,h2,h3,h4⟩:=h;have hij:i≠j:=by rintro rfl;rw[hjj]at h1;simp at h1;exact h2 h1.symm
   rw[hne i hij]at h1;exact⟨⟨r,ad,h1,h2,h3,h4⟩,by simp[hij]⟩
 have h1:∀i,j6 j (.sl t l) i=none->i≠j:=by rintro i h rfl;simp[j6]at h
 have h2:∀i q,j6 j (.sl t l) i=some q->i=j/\q=.sl t l:=by
  intro i q h;unfold j6 at h;split at h
  .rename_i hb;simp at h;exact⟨aE hb,h.symm⟩
  .cases h
 refine m.step _ ⟨rfl,rfl,rfl,au _⟩ (λ_ _ _=>rfl) (λk i b h=>.inl (hb k i b h).1) (λk i k' i' b h h'=>m.inj _ _ _ _ _ (hb k i b h).1 (hb k' i' b h').1) (λi h=>⟨oR.2 h,rfl⟩) (λi e' t' l' hf h=>⟨l',(hne i (h1 i hf)).trans h,rfl,rfl⟩) (λi d hf h=>⟨⟨d,(hne i (h1 i hf)).trans h,rfl⟩,rfl⟩) (λlt i q e' t' l' hf h=>?_) (λ_ i q d ad hf h _=>by obtain⟨rfl,_⟩:=h2 i q hf;rw[hj]at h;cases h) (λs i b' h=>?_) (λ_ i e' t' l' h=>?_) λ_ i d h=>?_
 .obtain⟨rfl,rfl⟩:=h2 i q hf;rw[hj]at h;simp only[ak,DR.own.injEq]at h;obtain⟨rfl,rfl,h⟩:=h;cases h;simp only[DV.h];refine m.ahW hj (λb hu=>?_) λb hu hbj=>?_
  .exact hu.imp id λ⟨k,i,h⟩=>⟨k,i,(hb k i b h).1⟩
  .rcases hu with hu|⟨k,i',hu⟩
   .have:=m.u0 b hu;rcases(m.low _ _ _ hbj).2 with h|h
    .omega
    .exact this.2 h
   .obtain⟨g1,g2⟩:=hb k i' b hu;exact g2 (m.inj _ _ _ _ _ g1 hbj)
 .obtain⟨b0,h0,rfl⟩:=uy.1 h;exact .inl ⟨b0,h0,rfl,rfl,id,rfl⟩
 .have hij:i≠j:=by rintro rfl;rw[hjj]at h;cases h
  exact .inl ⟨(hne i hij).symm.trans h,rfl,λ_ _=>rfl⟩
 .have hij:i≠j:=by rintro rfl;rw[hjj]at h;cases h
  exact .inl ⟨(hne i hij).symm.trans h,rfl,λ_ _=>rfl⟩
theorem Mem.ahX(m:Mem V U0 L B A pb rw w){j:Nat}{ks:List KU}{ad:Addr}(hj:rw[j]?=some (.obj (.set ks)))(ha:(A j).1=some ad){U':Nat->Prop}(hn:∀b,U' b->¬iK B A pb rw true j b):
 DT.set.h U' w ks [(OD.set ks).at ad]:=by
 obtain⟨b,o,h1,h2,es,clock,rfl,h3⟩:=m.I9 j _ hj;rw[ha]at h1;simp only[ak]at h1;subst h1;have hbj:iK B A pb rw true j b:=⟨_,_,hj,by simp,ha,rfl⟩;exact⟨b,es,clock,rfl,λhu=>hn b hu hbj,(m.low _ _ _ hbj).1,h2,h3⟩
theorem Mem.akv{al:Nat->Bool}(m:Mem V U0 L B A pb rw w){j:Nat}{ks:List KU}(hj:rw[j]?=some (.obj (.set ks))):
 Mem V U0 L B A (oY (j6 j (.set ks)) pb) (rw.set j .dead) w/\Sub (j6 j (.set ks)) (env U0 B A pb rw w) (env U0 B A (oY (j6 j (.set ks)) pb) (rw.set j .dead) w)/\Ext al B A pb rw w B A (oY (j6 j (.set ks)) pb) (rw.set j .dead) w:=by
 have hne:∀i,i≠j->(rw.set j DR.dead)[i]?=rw[i]?:=λi h=>by rw[bc,ag (jf h)]
 have hjj:(rw.set j DR.dead)[j]?=some .dead:=by rw[bc,ah rfl,ah (ay.1 hj).1]
 have hb:∀k i b,iK B A (oY (j6 j (.set ks)) pb) (rw.set j .dead) k i b->iK B A pb rw k i b/\¬(k=true/\i=j):=by
  intro k i b h;cases k with
  |false=>exact⟨⟨oR.1 h.1,h.2⟩,by simp⟩
  |true=>
   obtain⟨r,ad,h1,h2,h3,h4⟩:=h;have hij:i≠j:=by rintro rfl;rw[hjj]at h1;simp at h1;exact h2 h1.symm
   rw[hne i hij]at h1;exact⟨⟨r,ad,h1,h2,h3,h4⟩,by simp[hij]⟩
 have h1:∀i,j6 j (.set ks) i=none->i≠j:=by rintro i h rfl;simp[j6]at h
 have h2:∀i q,j6 j (.set ks) i=some q->i=j/\q=.set ks:=by
  intro i q h;unfold j6 at h;split at h
  .rename_i hb;simp at h;exact⟨aE hb,h.symm⟩
  .cases h
 refine m.step _ ⟨rfl,rfl,rfl,au _⟩ (λ_ _ _=>rfl) (λk i b h=>.inl (hb k i b h).1) (λk i k' i' b h h'=>m.inj _ _ _ _ _ (hb k i b h).1 (hb k' i' b h').1) (λi h=>⟨oR.2 h,rfl⟩) (λi e' t' l' hf h=>⟨l',(hne i (h1 i hf)).trans h,rfl,rfl⟩) (λi d hf h=>⟨⟨d,(hne i (h1 i hf)).trans h,rfl⟩,rfl⟩) (λ_ i q e' t' l' hf h=>by obtain⟨rfl,_⟩:=h2 i q hf;rw[hj]at h;cases h) (λlt i q d ad hf h ha=>?_) (λs i b' h=>?_) (λ_ i e' t' l' h=>?_) λ_ i d h=>?_
 .obtain⟨rfl,rfl⟩:=h2 i q hf;rw[hj]at h;simp only[ak,DR.obj.injEq]at h;subst h;simp only[DV.h];refine m.ahX hj ha λb hu hbj=>?_
  rcases hu with hu|⟨k,i',hu⟩
  .have:=m.u0 b hu;rcases(m.low _ _ _ hbj).2 with h|h
   .omega
   .exact this.2 h
  .obtain⟨g1,g2⟩:=hb k i' b hu;exact g2 (m.inj _ _ _ _ _ g1 hbj)
 .obtain⟨b0,h0,rfl⟩:=uy.1 h;exact .inl ⟨b0,h0,rfl,rfl,id,rfl⟩
 .have hij:i≠j:=by rintro rfl;rw[hjj]at h;cases h
  exact .inl ⟨(hne i hij).symm.trans h,rfl,λ_ _=>rfl⟩
 .have hij:i≠j:=by rintro rfl;rw[hjj]at h;cases h
  exact .inl ⟨(hne i hij).symm.trans h,rfl,λ_ _=>rfl⟩
end
end Go.Vc