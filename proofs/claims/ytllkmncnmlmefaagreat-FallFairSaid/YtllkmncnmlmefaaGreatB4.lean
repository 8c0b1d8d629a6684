import Derived.Test.YtllkmncnmlmefaaGreatB3
namespace Go.Proofs.YtllkmncnmlmefaaGreat
open Go Go.Vc Go.RowKit
open Lot
set_option maxRecDepth 100000
set_option synthInstance.maxSize 100000
set_option synthInstance.maxHeartbeats 0
set_option maxHeartbeats 8000000
@[reducible] def tAUnit:DT:=(.pair (.int .i64) (.pair (.int .i64) .unit))
abbrev AUnit':=Int×Int×Unit
@[reducible] def tAPos:DT:=(.pair tAUnit (.pair (.slc tAUnit) .unit))
abbrev APos':=AUnit'×(List AUnit')×Unit
@[reducible] def tALot:DT:=(.pair (.int .i64) (.pair (.int .i64) (.pair (.int .i64) .unit)))
abbrev ALot':=Int×Int×Int×Unit
abbrev zaf:=ALot'
@[reducible] def tAFlow:DT:=(.pair tAUnit (.pair (.int .i64) .unit))
abbrev AFlow':=AUnit'×Int×Unit
@[reducible] def tAMember:DT:=(.pair (.int .i64) (.pair (.int .i64) (.pair (.int .i64) (.pair (.int .i64) .unit))))
abbrev zbh:=Int×Int×Int×Int×Unit
@[reducible] def tAInst:DT:=(.pair (.int .i64) (.pair (.int .i64) (.pair (.int .i64) (.pair (.int .i64) (.pair (.slc (.int .i64)) .unit)))))
abbrev AInst':=Int×Int×Int×Int×(List Int)×Unit
@[reducible] def tAAccount:DT:=(.pair (.int .i64) (.pair (.int .i64) (.pair (.int .i64) (.pair (.slc (.int .i64)) .unit))))
abbrev zab:=Int×Int×Int×(List Int)×Unit
@[reducible] def tAChoice:DT:=(.pair tAUnit (.pair tAUnit (.pair .bool .unit)))
abbrev zbi:=AUnit'×AUnit'×Bool×Unit
@[reducible] def tAGroup:DT:=(.pair (.int .i64) (.pair tAUnit (.pair (.int .i64) (.pair (.int .i64) (.pair (.int .i64) .unit)))))
abbrev zbx:=Int×AUnit'×Int×Int×Int×Unit
@[reducible] def tAGive:DT:=(.pair (.int .i64) (.pair tAUnit (.pair tAUnit (.pair tAUnit (.pair (.int .i64) (.pair (.int .i64) (.pair (.int .i64) (.pair (.int .i64) .unit))))))))
abbrev AGive':=Int×AUnit'×AUnit'×AUnit'×Int×Int×Int×Int×Unit
@[reducible] def tAHold:DT:=(.pair tAUnit (.pair (.slc tALot) .unit))
abbrev AHold':=AUnit'×(List ALot')×Unit
@[reducible] def tAState:DT:=(.pair (.int .i64) (.pair (.slc tAMember) (.pair (.slc tAInst) (.pair (.slc tALot) (.pair (.slc tAAccount) (.pair (.slc tAChoice) (.pair (.slc tAGroup) (.pair (.slc tAGive) (.pair (.slc tAPos) (.pair (.slc tAPos) (.pair (.slc tAFlow) (.pair (.slc tAHold) .unit))))))))))))
abbrev zad:=Int×(List zbh)×(List AInst')×(List ALot')×(List zab)×(List zbi)×(List zbx)×(List AGive')×(List APos')×(List APos')×(List AFlow')×(List AHold')×Unit
@[reducible] def tWideWide:DT:=(.pair (.int .i64) (.pair (.int .u64) .unit))
abbrev zaq:=Int×Int×Unit
@[reducible] def tWideSize:DT:=(.pair (.int .u64) (.pair (.int .u64) .unit))
abbrev zxc:=Int×Int×Unit
@[reducible] def tNovationref01Big:DT:=(.pair .bool (.pair (.slc (.int .u8)) .unit))
abbrev zae:=Bool×(List Int)×Unit
@[reducible] def tADebit:DT:=(.pair tAUnit (.pair tAUnit (.pair (.int .i64) .unit)))
abbrev zav:=AUnit'×AUnit'×Int×Unit
abbrev S0:=Int×Int×List zbh×List AInst'×List ALot'×List zab×List zbi×List zbx×List AGive'×List APos'×List APos'×List AFlow'×List AHold'×Int×List zav×Unit
abbrev S1:=Int×Int×List zbh×List AInst'×List ALot'×List zab×List zbi×List zbx×List AGive'×List APos'×List APos'×List AFlow'×List AHold'×Unit
abbrev S2:=List AUnit'×Int×Int×List zbh×List AInst'×List ALot'×List zab×List zbi×List zbx×List AGive'×List APos'×List APos'×List AFlow'×List AHold'×List AUnit'×List zav×Unit
abbrev S3:=Int×List zbh×List AInst'×List ALot'×List zab×List zbi×List zbx×List AGive'×List APos'×List APos'×List AFlow'×List AHold'×Int×List zav×Unit
abbrev S4:=Int×Int×List zbh×List AInst'×List ALot'×List zab×List zbi×List zbx×List AGive'×List APos'×List APos'×List AFlow'×List AHold'×List AUnit'×List AUnit'×List zav×Unit
abbrev S5:=Int×Int×List zbh×List AInst'×List ALot'×List zab×List zbi×List zbx×List AGive'×List APos'×List APos'×List AFlow'×List AHold'×List (Int)×List (Int)×List zav×Unit
abbrev S6:=Int×List zbh×List AInst'×List ALot'×List zab×List zbi×List zbx×List AGive'×List APos'×List APos'×List AFlow'×List AHold'×List AUnit'×List AUnit'×List zav×Unit
abbrev S7:=Int×Int×List zbh×List AInst'×List ALot'×List zab×List zbi×List zbx×List AGive'×List APos'×List APos'×List AFlow'×List AHold'×List ALot'×Unit
abbrev S8:=Int×List (Int)×Unit
abbrev S9:=Int×Int×Int×Unit
abbrev S10:=Bool×List (Int)×Unit
abbrev S11:=Int×Bool×List (Int)×Unit
abbrev S12:=Int×Int×Unit
abbrev S13:=Int×List (Int)×List (Int)×Unit
abbrev S14:=Int×Int×List (Int)×List (Int)×Unit
abbrev S15:=Int×List AUnit'×Unit
abbrev S16:=Bool×List ALot'×Unit
abbrev S17:=Int×List (Int)×List (Int)×List zav×Unit
abbrev S18:=Bool×List AHold'×Unit
abbrev S19:=Int×List AHold'×Unit
abbrev S20:=Int×List AUnit'×List AUnit'×Unit
abbrev S21:=Bool×List (Int)×List (Int)×Unit
abbrev S22:=List ALot'×Unit
abbrev S23:=List (Int)×Unit
abbrev S24:=List AUnit'×List AUnit'×Unit
abbrev S25:=List zab×Unit
abbrev S26:=Int×Int×List (Int)×Unit
abbrev S27:=List AHold'×Unit
abbrev S28:=Int×List zab×Unit
abbrev S29:=Int×List zav×Unit
abbrev S30:=Int×List AFlow'×Unit
def zhb(W:Wd)(a:zab):Option zab:=
 W.join (fun (z1:Int×Int×Int×List (Int)×Unit)=>some z1)
 fun k2=>
 W.cnd (decide (20<(a.2.2.2.1.length:Int))) (W.bnd 20 a.2.2.2.1.length fun h3=>(k2 (U3 a ((a.2.2.2.1.take h3),()))))
  ((k2 a))
abbrev zpk:=zhb stdW
def zkp(W:Wd)(a:ALot'):Option Bool:=
 W.cnd (decide (0<a.1)) (
 W.cnd (decide (a.1<5)) (
  W.cnd (decide (0≤a.2.1)) (
  W.cnd (decide (a.2.1<2147483648)) (
   W.cnd (decide (0≤a.2.2.1)) (some (decide (a.2.2.1<10001)))
   (some false))
   (some false))
  (some false))
  (some false))
 (some false)
abbrev yis:=zkp stdW
def zdd(W:Wd)(l:List ALot')(id:Int):Option (ALot'×Bool×Unit):=
 W.loop (fun (z1:Int×Unit) again2=>
 W.cnd (decide (z1.1<(l.length:Int))) (W.idx l z1.1 fun x3=>
  W.cnd (x3.1==id) (W.idx l z1.1 fun x4=>some (x4,(true,())))
  ((again2 ((IntKind.i64.wrap (z1.1+1)),()))))
  (some ((0,(0,(0,()))),(false,()))))
 (0,())
abbrev zrn:=zdd stdW
def zko(W:Wd)(l:List ALot')(a:ALot'):Option ((List ALot')×Int×Unit):=W.call (zkp W a) fun v1=>
 W.cnd (!v1) (some ([],(2,())))
 (W.call (zdd W l a.1) fun v2=>
 W.cnd v2.2.1 (some ([],(12,())))
  (
  W.join (fun (z3:Int×Unit)=>W.bnd z3.1 l.length fun h4=>W.room (l.take h4).length 24 (W.room ((l.take h4).length+(a::[]).length) 24 (W.bnd z3.1 l.length fun h5=>W.room (((l.take h4)++(a::[])).length+((l.take l.length).drop h5).length) 24 (some ((((l.take h4)++(a::[]))++((l.take l.length).drop h5)),(0,()))))))
  fun k6=>
  W.loop (fun (z7:Int×Unit) again8=>
   W.cnd (decide (z7.1<(l.length:Int))) (W.idx l z7.1 fun x9=>
   W.cnd (decide (x9.1<a.1)) ((again8 ((IntKind.i64.wrap (z7.1+1)),())))
    ((k6 z7)))
   ((k6 z7)))
   (0,())))
abbrev ycr:=zko stdW
def zgw(W:Wd)(l:List ALot'):Option (List ALot'):=
 W.join (fun (z1:S22)=>some z1.1)
 fun k2=>
 W.loop (fun (z3:List ALot'×Int×Unit) again4=>
  W.cnd (decide (z3.2.1<(l.length:Int))) (
  W.cnd (decide (z3.2.1<8)) (
   W.join (fun (z5:S22)=>(again4 (z5.1,((IntKind.i64.wrap (z3.2.1+1)),()))))
   fun k6=>W.idx l z3.2.1 fun x7=>W.call (zko W z3.1 x7) fun v8=>
   W.cnd (v8.2.1==0) ((k6 (v8.1,())))
    ((k6 (z3.1,()))))
   ((k2 (z3.1,()))))
  ((k2 (z3.1,()))))
  ([],(0,()))
abbrev zoy:=zgw stdW
def zmp(W:Wd)(a:zab):Option Bool:=
 W.join (fun (z1:Bool×Unit)=>
 W.cnd z1.1 (some false)
  (
  W.join (fun (z2:Bool×Unit)=>
  W.cnd z2.1 (some false)
   (
   W.loop (fun (z3:Int×Unit) again4=>
   W.cnd (decide (z3.1<(a.2.2.2.1.length:Int))) (
    W.join (fun (z5:Bool×Unit)=>
    W.cnd z5.1 (some false)
     ((again4 ((IntKind.i64.wrap (z3.1+1)),()))))
    fun k6=>W.idx a.2.2.2.1 z3.1 fun x7=>
    W.cnd (decide (x7<1)) ((k6 (true,())))
     (W.idx a.2.2.2.1 z3.1 fun x8=>
     W.cnd (decide (16<x8)) ((k6 (true,())))
     (
     W.cnd (decide (0<z3.1)) (W.idx a.2.2.2.1 z3.1 fun x9=>W.idx a.2.2.2.1 (IntKind.i64.wrap (z3.1 - 1)) fun x10=>(k6 ((decide (x9≤x10)),())))
      ((k6 (false,()))))))
    (some true))
   (0,())))
  fun k11=>
  W.cnd (a.2.2.1==1) (
   W.cnd (decide (0<(a.2.2.2.1.length:Int))) ((k11 (true,())))
   (
   W.cnd (a.2.2.1==4) ((k11 ((decide (1<(a.2.2.2.1.length:Int))),())))
    ((k11 (false,())))))
   (
   W.cnd (a.2.2.1==4) ((k11 ((decide (1<(a.2.2.2.1.length:Int))),())))
   ((k11 (false,()))))))
 fun k12=>
 W.cnd (decide (a.1<1)) ((k12 (true,())))
  (
  W.cnd (decide (16<a.1)) ((k12 (true,())))
  (
  W.cnd (decide (a.2.1<1)) ((k12 (true,())))
   (
   W.cnd (decide (8<a.2.1)) ((k12 (true,())))
   (
   W.cnd (decide (a.2.2.1<1)) ((k12 (true,())))
    ((k12 ((decide (4<a.2.2.1)),())))))))
abbrev yir:=zmp stdW
def zio(W:Wd)(l:List zab)(id:Int):Option (zab×Bool×Unit):=
 W.loop (fun (z1:Int×Unit) again2=>
 W.cnd (decide (z1.1<(l.length:Int))) (W.idx l z1.1 fun x3=>
  W.cnd (x3.1==id) (W.idx l z1.1 fun x4=>some (x4,(true,())))
  ((again2 ((IntKind.i64.wrap (z1.1+1)),()))))
  (some ((0,(0,(0,([],())))),(false,()))))
 (0,())
abbrev ref15_Find:=zio stdW
def zkn(W:Wd)(l:List zab)(a:zab):Option ((List zab)×Int×Unit):=W.call (zmp W a) fun v1=>
 W.cnd (!v1) (some ([],(2,())))
 (W.call (zio W l a.1) fun v2=>
 W.cnd v2.2.1 (some ([],(12,())))
  (
  W.join (fun (z3:Int×Unit)=>W.bnd z3.1 l.length fun h4=>W.room (l.take h4).length 48 (W.room ((l.take h4).length+(a::[]).length) 48 (W.bnd z3.1 l.length fun h5=>W.room (((l.take h4)++(a::[])).length+((l.take l.length).drop h5).length) 48 (some ((((l.take h4)++(a::[]))++((l.take l.length).drop h5)),(0,()))))))
  fun k6=>
  W.loop (fun (z7:Int×Unit) again8=>
   W.cnd (decide (z7.1<(l.length:Int))) (W.idx l z7.1 fun x9=>
   W.cnd (decide (x9.1<a.1)) ((again8 ((IntKind.i64.wrap (z7.1+1)),())))
    ((k6 z7)))
   ((k6 z7)))
   (0,())))
abbrev yco:=zkn stdW
def zgv(W:Wd)(l:List zab):Option (List zab):=
 W.join (fun (z1:S25)=>some z1.1)
 fun k2=>
 W.loop (fun (z3:List zab×Int×Unit) again4=>
  W.cnd (decide (z3.2.1<(l.length:Int))) (
  W.cnd (decide (z3.2.1<20)) (
   W.join (fun (z5:S25)=>(again4 (z5.1,((IntKind.i64.wrap (z3.2.1+1)),()))))
   fun k6=>W.idx l z3.2.1 fun x7=>W.call (zkn W z3.1 x7) fun v8=>
   W.cnd (v8.2.1==0) ((k6 (v8.1,())))
    ((k6 (z3.1,()))))
   ((k2 (z3.1,()))))
  ((k2 (z3.1,()))))
  ([],(0,()))
abbrev zuv:=zgv stdW
def zkx(W:Wd)(l:List AFlow'):Option (List AFlow'):=
 W.cnd (decide (20<(l.length:Int))) (W.bnd 20 l.length fun h1=>some (l.take h1))
 (some l)
abbrev zvr:=zkx stdW
def zkw(W:Wd)(l:List ALot'):Option (List ALot'):=
 W.cnd (decide (20<(l.length:Int))) (W.bnd 20 l.length fun h1=>some (l.take h1))
 (some l)
abbrev law18_Few:=zkw stdW
def zkv(W:Wd)(l:List AHold'):Option (List AHold'):=
 W.join (fun (z1:S27)=>some z1.1)
 fun k2=>
 W.loop (fun (z3:S19) again4=>
  W.cnd (decide (z3.1<(l.length:Int))) (
  W.cnd (decide (z3.1<10)) (W.idx l z3.1 fun x5=>W.idx l z3.1 fun x6=>W.call (zkw W x6.2.1) fun v7=>W.room (z3.2.1.length+((x5.1,(v7,()))::[]).length) 40 ((again4 ((IntKind.i64.wrap (z3.1+1)),((z3.2.1++((x5.1,(v7,()))::[])),())))))
   ((k2 z3.2)))
  ((k2 z3.2)))
  (0,([],()))
abbrev zvq:=zkv stdW
def zht(W:Wd)(s:zad):Option zad:=
 W.join (fun (z1:S25)=>W.call (zgw W s.2.2.2.1) fun v2=>W.call (zgv W z1.1) fun v3=>W.call (zkx W s.2.2.2.2.2.2.2.2.2.2.1) fun v4=>W.call (zkv W s.2.2.2.2.2.2.2.2.2.2.2.1) fun v5=>some (0,([],([],(v2,(v3,([],([],([],([],([],(v4,(v5,())))))))))))))
 fun k6=>
 W.loop (fun (z7:S28) again8=>
  W.cnd (decide (z7.1<(s.2.2.2.2.1.length:Int))) (
  W.cnd (decide (z7.1<20)) (W.idx s.2.2.2.2.1 z7.1 fun x9=>W.call (zhb W x9) fun v10=>W.room (z7.2.1.length+(v10::[]).length) 48 ((again8 ((IntKind.i64.wrap (z7.1+1)),((z7.2.1++(v10::[])),())))))
   ((k6 z7.2)))
  ((k6 z7.2)))
  (0,([],()))
abbrev zqn:=zht stdW
def zey(W:Wd)(l:List AFlow')(u:AUnit'):Option Int:=
 W.loop (fun (z1:Int×Unit) again2=>
 W.cnd (decide (z1.1<(l.length:Int))) (W.idx l z1.1 fun x3=>
  W.cnd (Go.Vc.notIf false ((x3.1.1==u.1)&&(x3.1.2.1==u.2.1))) (some x3.2.1)
  ((again2 ((IntKind.i64.wrap (z1.1+1)),()))))
  (some 0))
 (0,())
abbrev zmu:=zey stdW
def zej(W:Wd)(n:Int):Option zaq:=W.nn 63 (some ((Int.fdiv n (2 ^ (Min.min (Int.toNat 63) (Go.IntKind.bits Go.IntKind.i64)))),((IntKind.u64.wrap n),())))
abbrev wide_Of:=zej stdW
def zbv(W:Wd)(t0:Int)(t1:Int)(t2:Int)(w:zaq):Option (Unit×(Int×Int×Int×Unit)):=W.call (add64 t2 w.2.1 0) fun v1=>W.call (add64 (IntKind.u64.wrap t1) (IntKind.u64.wrap w.1) v1.2.1) fun v2=>W.nn 63 (some ((),((IntKind.i64.wrap (t0+(IntKind.i64.wrap ((Int.fdiv w.1 (2 ^ (Min.min (Int.toNat 63) (Go.IntKind.bits Go.IntKind.i64))))+(IntKind.i64.wrap v2.2.1))))),((IntKind.i64.wrap v2.1),(v1.1,())))))
abbrev zgh:=zbv stdW
def zgm(W:Wd)(w:zaq)(ok:Bool):Option (zaq×Int×Unit):=
 W.cnd (!ok) (some ((0,(0,())),(7,())))
 (some (w,(0,())))
abbrev yem:=zgm stdW
def zcv(W:Wd)(t0:Int)(t1:Int)(t2:Int):Option ((zaq×Int×Unit)×(Int×Int×Int×Unit)):=W.nn 63 (W.call (zgm W (t1,(t2,())) (t0==(Int.fdiv t1 (2 ^ (Min.min (Int.toNat 63) (Go.IntKind.bits Go.IntKind.i64)))))) fun v1=>some (v1,(t0,(t1,(t2,())))))
abbrev zmh:=zcv stdW
def zmi(W:Wd)(a:zaq)(b:zaq):Option (zaq×Int×Unit):=W.call (zbv W 0 0 0 a) fun v1=>W.call (zbv W v1.2.1 v1.2.2.1 v1.2.2.2.1 ((Go.bits Go.BinOp.xor Go.IntKind.i64 (if true=true then (-1) else (if true=true then ((2 ^ ((Go.IntKind.bits Go.IntKind.i64) - 1)) - 1) else ((2 ^ (Go.IntKind.bits Go.IntKind.i64)) - 1))) b.1),((Go.bits Go.BinOp.xor Go.IntKind.u64 (if false=true then (-1) else (if false=true then ((2 ^ ((Go.IntKind.bits Go.IntKind.u64) - 1)) - 1) else ((2 ^ (Go.IntKind.bits Go.IntKind.u64)) - 1))) b.2.1),()))) fun v2=>W.call (zej W 1) fun v3=>W.call (zbv W v2.2.1 v2.2.2.1 v2.2.2.2.1 v3) fun v4=>W.call (zcv W v4.2.1 v4.2.2.1 v4.2.2.2.1) fun v5=>some v5.1
abbrev wide_Sub:=zmi stdW
def zjz(W:Wd)(w:zaq):Option (Int×Int×Unit):=W.call (zej W (IntKind.i64.wrap w.2.1)) fun v1=>
 W.cnd (Go.Vc.notIf true ((v1.1==w.1)&&(v1.2.1==w.2.1))) (some (0,(7,())))
 (some ((IntKind.i64.wrap w.2.1),(0,())))
abbrev zpu:=zjz stdW
def zdz(W:Wd)(w:zaq)(e:Int):Option (Int×Int×Unit):=
 W.cnd (e != 0) (some (0,(e,())))
 (W.call (zjz W w) fun v1=>some v1)
abbrev zoi:=zdz stdW
def zlx(W:Wd)(a:Int)(b:Int):Option (Int×Int×Unit):=W.call (zej W a) fun v1=>W.call (zej W b) fun v2=>W.call (zmi W v1 v2) fun v3=>W.call (zdz W v3.1 v3.2.1) fun v4=>some v4
abbrev fix_Sub:=zlx stdW
def zqr(W:Wd)(a:Int):Option (Int×Int×Unit):=
 W.cnd (decide (a<0)) (W.call (zlx W 0 a) fun v1=>some v1)
 (some (a,(0,())))
abbrev fix_Abs:=zqr stdW
def zfc(W:Wd)(s:zad)(u:AUnit'):Option (Int×Int×Unit):=W.call (zey W s.2.2.2.2.2.2.2.2.2.2.1 u) fun v1=>W.call (zqr W (if v1<0 then v1 else 0)) fun v2=>some v2
abbrev zwo:=zfc stdW
def zcw(W:Wd)(l:List AFlow')(u:AUnit'):Option Int:=
 W.loop (fun (z1:Int×Unit) again2=>
 W.cnd (decide (z1.1<(l.length:Int))) (W.idx l z1.1 fun x3=>
  W.cnd (Go.Vc.notIf false ((x3.1.1==u.1)&&(x3.1.2.1==u.2.1))) (W.idx l z1.1 fun x4=>some x4.2.1)
  ((again2 ((IntKind.i64.wrap (z1.1+1)),()))))
  (some 0))
 (0,())
abbrev zkm:=zcw stdW
def zdc(W:Wd)(s:zad)(u:AUnit'):Option (Int×Int×Unit):=W.call (zcw W s.2.2.2.2.2.2.2.2.2.2.1 u) fun v1=>
 W.cnd (v1==(-9223372036854775808)) (some (0,(7,())))
 (
 W.cnd (decide (v1<0)) (some ((IntKind.i64.wrap (0 - v1)),(0,())))
  (some (0,(0,()))))
abbrev zke:=zdc stdW
def zan(W:Wd)(s:List ALot'):Option (List ALot'):=W.nilq (List.isEmpty s) fun g1=>
 W.cnd (Go.Vc.notIf false g1) (some [])
 (W.room ((0:Nat)+s.length) 24 (some ([]++s)))
abbrev zco:=zan stdW
def zfa(W:Wd)(l:List AHold')(u:AUnit'):Option (List ALot'):=
 W.loop (fun (z1:Int×Unit) again2=>
 W.cnd (decide (z1.1<(l.length:Int))) (W.idx l z1.1 fun x3=>
  W.cnd (Go.Vc.notIf false ((x3.1.1==u.1)&&(x3.1.2.1==u.2.1))) (W.call (zan W x3.2.1) fun v4=>some v4)
  ((again2 ((IntKind.i64.wrap (z1.1+1)),()))))
  (some []))
 (0,())
abbrev zvw:=zfa stdW
def zge(W:Wd)(x:ALot'):Option Bool:=
 W.cnd (decide (1≤x.1)) (
 W.cnd (decide (x.1≤4)) (
  W.cnd (decide (0≤x.2.1)) (
  W.cnd (decide (x.2.1≤255)) (some (decide (0<x.2.2.1)))
   (some false))
  (some false))
  (some false))
 (some false)
abbrev lots_right:=zge stdW
def zol(W:Wd)(x:Int):Option Bool:=some (x != x)
abbrev cmp_isNaN:=zol stdW
def zfd(W:Wd)(x:Int)(y:Int):Option Int:=W.call (zol W x) fun v1=>W.call (zol W y) fun v2=>
 W.cnd v1 (
 W.cnd v2 (some 0)
  (some (-1)))
 (
 W.cnd v2 (some 1)
  (
  W.cnd (decide (x<y)) (some (-1))
  (
  W.cnd (decide (y<x)) (some 1)
   (some 0))))
abbrev yhj:=zfd stdW
def zwt(W:Wd)(vals:List Int):Option Int:=
 W.loop (fun (z1:Int×Unit) again2=>
 W.cnd (decide (z1.1<(vals.length:Int))) (W.idx vals z1.1 fun x3=>
  W.cnd (x3 != 0) (some x3)
  ((again2 ((IntKind.i64.wrap (z1.1+1)),()))))
  (some 0))
 (0,())
abbrev cmp_Or:=zwt stdW
def zes(W:Wd)(a:ALot')(b:ALot'):Option Int:=W.call (zfd W a.1 b.1) fun v1=>W.call (zfd W a.2.1 b.2.1) fun v2=>W.call (zwt W (v1::(v2::[]))) fun v3=>some v3
abbrev zrz:=zes stdW
def zlt(W:Wd)(l:List ALot'):Option Bool:=
 W.loop (fun (z1:Int×Unit) again2=>
 W.cnd (decide (z1.1<(l.length:Int))) (W.idx l z1.1 fun x3=>
  W.join (fun (z4:Bool×Unit)=>
  W.cnd z4.1 (some false)
   ((again2 ((IntKind.i64.wrap (z1.1+1)),()))))
  fun k5=>W.call (zge W x3) fun v6=>
  W.cnd (!v6) (W.two ((k5 (true,()))))
   (
   W.cnd (decide (0<z1.1)) (W.idx l (IntKind.i64.wrap (z1.1 - 1)) fun x7=>W.two (W.call (zes W x7 x3) fun v8=>(k5 ((decide (0≤v8)),()))))
   (W.two ((k5 (false,()))))))
  (some (decide ((l.length:Int)≤16))))
 (0,())
abbrev lots_Is:=zlt stdW
def zgf(W:Wd)(l:List ALot')(id:Int):Option (ALot'×Bool×Unit):=
 W.loop (fun (z1:Int×Unit) again2=>
 W.cnd (decide (z1.1<(l.length:Int))) (W.idx l z1.1 fun x3=>
  W.cnd (x3.1==id) (some (x3,(true,())))
  ((again2 ((IntKind.i64.wrap (z1.1+1)),()))))
  (some ((0,(0,(0,()))),(false,()))))
 (0,())
abbrev zyl:=zgf stdW
def zfq(W:Wd)(p:Int):Option Bool:=
 W.cnd (decide (0≤p)) (some (decide (p≤2147483647)))
 (some false)
abbrev yei:=zfq stdW
def zff(W:Wd)(a:ALot'):Option Int:=
 W.join (fun (z1:Bool×Unit)=>
 W.cnd z1.1 (some 2)
  (some 0))
 fun k2=>
 W.cnd (decide (a.1<1)) ((k2 (true,())))
  (
  W.cnd (decide (4<a.1)) ((k2 (true,())))
  (W.call (zfq W a.2.1) fun v3=>
  W.cnd (!v3) ((k2 (true,())))
   (
   W.cnd (decide (a.2.2.1<0)) ((k2 (true,())))
   ((k2 ((decide (10000<a.2.2.1)),()))))))
abbrev yho:=zff stdW
def zaz(W:Wd)(w:zaq):Option Bool:=some (decide (w.1<0))
abbrev zcm:=zaz stdW
def zcl(W:Wd)(w:zaq):Option zxc:=W.call (zaz W w) fun v1=>
 W.cnd (!v1) (some ((IntKind.u64.wrap w.1),w.2))
 (W.call (sub64 0 w.2.1 0) fun v2=>W.call (sub64 0 (IntKind.u64.wrap w.1) v2.2.1) fun v3=>some (v3.1,(v2.1,())))
abbrev zjq:=zcl stdW
def zdn(W:Wd)(x:Int)(y:Int):Option (Int×Int×Unit):=W.nn 32 (W.nn 32 (W.nn 32 (W.nn 32 (W.nn 32 (some ((IntKind.u64.wrap ((IntKind.u64.wrap ((IntKind.u64.wrap ((Int.fdiv x (2 ^ (Min.min (Int.toNat 32) (Go.IntKind.bits Go.IntKind.u64))))*(Int.fdiv y (2 ^ (Min.min (Int.toNat 32) (Go.IntKind.bits Go.IntKind.u64))))))+(Int.fdiv (IntKind.u64.wrap ((IntKind.u64.wrap ((Int.fdiv x (2 ^ (Min.min (Int.toNat 32) (Go.IntKind.bits Go.IntKind.u64))))*(Go.bits Go.BinOp.and Go.IntKind.u64 y 4294967295)))+(Int.fdiv (IntKind.u64.wrap ((Go.bits Go.BinOp.and Go.IntKind.u64 x 4294967295)*(Go.bits Go.BinOp.and Go.IntKind.u64 y 4294967295))) (2 ^ (Min.min (Int.toNat 32) (Go.IntKind.bits Go.IntKind.u64)))))) (2 ^ (Min.min (Int.toNat 32) (Go.IntKind.bits Go.IntKind.u64))))))+(Int.fdiv (IntKind.u64.wrap ((Go.bits Go.BinOp.and Go.IntKind.u64 (IntKind.u64.wrap ((IntKind.u64.wrap ((Int.fdiv x (2 ^ (Min.min (Int.toNat 32) (Go.IntKind.bits Go.IntKind.u64))))*(Go.bits Go.BinOp.and Go.IntKind.u64 y 4294967295)))+(Int.fdiv (IntKind.u64.wrap ((Go.bits Go.BinOp.and Go.IntKind.u64 x 4294967295)*(Go.bits Go.BinOp.and Go.IntKind.u64 y 4294967295))) (2 ^ (Min.min (Int.toNat 32) (Go.IntKind.bits Go.IntKind.u64)))))) 4294967295)+(IntKind.u64.wrap ((Go.bits Go.BinOp.and Go.IntKind.u64 x 4294967295)*(Int.fdiv y (2 ^ (Min.min (Int.toNat 32) (Go.IntKind.bits Go.IntKind.u64)))))))) (2 ^ (Min.min (Int.toNat 32) (Go.IntKind.bits Go.IntKind.u64)))))),((IntKind.u64.wrap (x*y)),())))))))
abbrev zit:=zdn stdW
def zbq(W:Wd)(s:zxc)(minus:Bool):Option (zaq×Bool×Unit):=
 W.cnd (!minus) (some (((IntKind.i64.wrap s.1),s.2),((decide (s.1<9223372036854775808)),())))
 (W.call (sub64 0 s.2.1 0) fun v1=>W.call (sub64 0 s.1 v1.2.1) fun v2=>
 W.cnd (decide (s.1<9223372036854775808)) (some (((IntKind.i64.wrap v2.1),(v1.1,())),(true,())))
  (
  W.cnd (s.1==9223372036854775808) (some (((IntKind.i64.wrap v2.1),(v1.1,())),((s.2.1==0),())))
  (some (((IntKind.i64.wrap v2.1),(v1.1,())),(false,())))))
abbrev zbz:=zbq stdW
def zib(W:Wd)(a:Int)(b:Int):Option zaq:=W.call (zej W a) fun v1=>W.call (zej W b) fun v2=>W.call (zcl W v1) fun v3=>W.call (zcl W v2) fun v4=>W.call (zdn W v3.2.1 v4.2.1) fun v5=>W.both (W.call (zaz W v1) fun v6=>W.both (W.call (zaz W v2) fun v7=>W.two (W.call (zbq W v5 (Go.Vc.notIf true (v6==v7))) fun v8=>some v8.1)) (W.call (zaz W v2) fun v10=>W.call (zbq W v5 (Go.Vc.notIf true (v6==v10))) fun v11=>some v11.1)) (W.call (zaz W v1) fun v12=>W.call (zaz W v2) fun v13=>W.call (zbq W v5 (Go.Vc.notIf true (v12==v13))) fun v14=>some v14.1)
abbrev zpt:=zib stdW
def zhd(W:Wd)(l:List Int):Option (Int×Int×Unit):=
 W.loop (fun (z1:S12) again2=>
 W.cnd (decide (z1.2.1<(l.length:Int))) (W.idx l z1.2.1 fun x3=>W.call (zib W z1.1 x3) fun v4=>W.call (zjz W v4) fun v5=>
  W.cnd (v5.2.1 != 0) (some (0,v5.2))
  ((again2 (v5.1,((IntKind.i64.wrap (z1.2.1+1)),())))))
  (some (z1.1,(0,()))))
 (1,(0,()))
abbrev zwi:=zhd stdW
def zfe(W:Wd)(a:ALot')(qty:Int):Option (Int×Int×Unit):=W.call (zff W a) fun v1=>
 W.cnd (v1 != 0) (some (0,(v1,())))
 (W.call (zhd W (qty::(a.2.1::[]))) fun v2=>some v2)
abbrev zpp:=zfe stdW
def zbk(W:Wd)(as_:List ALot')(l:List ALot'):Option (((List Int)×Int×Unit)×Unit):=W.call (zlt W l) fun v1=>
 W.cnd (!v1) (some (([],(3,())),()))
 (
 W.loop (fun (z2:S8) again3=>
  W.cnd (decide (z2.1<(l.length:Int))) (W.idx l z2.1 fun x4=>W.call (zgf W as_ x4.1) fun v5=>
  W.cnd (!v5.2.1) (some (([],(11,())),()))
   (W.call (zfe W v5.1 x4.2.2.1) fun v6=>
   W.cnd (v6.2.1 != 0) (some (([],v6.2),()))
   (W.room (z2.2.1.length+(v6.1::[]).length) 8 ((again3 ((IntKind.i64.wrap (z2.1+1)),((z2.2.1++(v6.1::[])),())))))))
  (some ((z2.2.1,(0,())),())))
  (0,([],())))
abbrev zlf:=zbk stdW
def zka(W:Wd)(l:List zaq):Option (zaq×Int×Unit):=
 W.loop (fun (z1:Int×Int×Int×Int×Unit) again2=>
 W.cnd (decide (z1.1<(l.length:Int))) (W.idx l z1.1 fun x3=>W.call (zbv W z1.2.1 z1.2.2.1 z1.2.2.2.1 x3) fun v4=>(again2 ((IntKind.i64.wrap (z1.1+1)),v4.2)))
  (W.call (zcv W z1.2.1 z1.2.2.1 z1.2.2.2.1) fun v5=>some v5.1))
 (0,(0,(0,(0,()))))
abbrev zyp:=zka stdW
def zen(W:Wd)(l:List Int):Option (Int×Int×Unit):=W.nn (l.length:Int) (W.room (Int.toNat (l.length:Int)) 16 (
 W.loop (fun (z1:S15) again2=>
 W.cnd (decide (z1.1<(l.length:Int))) (W.idx l z1.1 fun x3=>W.call (zej W x3) fun v4=>W.room (z1.2.1.length+(v4::[]).length) 16 ((again2 ((IntKind.i64.wrap (z1.1+1)),((z1.2.1++(v4::[])),())))))
  (W.call (zka W z1.2.1) fun v5=>W.call (zdz W v5.1 v5.2.1) fun v6=>some v6))
 (0,([],()))))
abbrev zne:=zen stdW
def zhg(W:Wd)(as_:List ALot')(l:List ALot'):Option (Int×Int×Unit):=W.call (zbk W as_ l) fun v1=>
 W.cnd (v1.1.2.1 != 0) (some (0,v1.1.2))
 (W.call (zen W v1.1.1) fun v2=>some v2)
abbrev zws:=zhg stdW
def zhw(W:Wd)(s:zad)(u:AUnit'):Option (Int×Int×Unit):=W.call (zfa W s.2.2.2.2.2.2.2.2.2.2.2.1 u) fun v1=>W.call (zhg W s.2.2.2.1 v1) fun v2=>
 W.cnd (v2.2.1 != 0) (some (0,v2.2))
 (W.call (zey W s.2.2.2.2.2.2.2.2.2.2.1 u) fun v3=>W.call (zen W (v2.1::(v3::[]))) fun v4=>some ((if v4.1>0 then v4.1 else 0),v4.2))
abbrev fall_Room:=zhw stdW
def zdk(W:Wd)(l:List AHold')(u:AUnit'):Option (List ALot'):=
 W.loop (fun (z1:Int×Unit) again2=>
 W.cnd (decide (z1.1<(l.length:Int))) (W.idx l z1.1 fun x3=>
  W.cnd (Go.Vc.notIf false ((x3.1.1==u.1)&&(x3.1.2.1==u.2.1))) (W.idx l z1.1 fun x4=>some x4.2.1)
  ((again2 ((IntKind.i64.wrap (z1.1+1)),()))))
  (some []))
 (0,())
abbrev zrm:=zdk stdW
def zfy(W:Wd)(x:ALot'):Option Bool:=
 W.cnd (decide (0<x.1)) (
 W.cnd (decide (x.1<5)) (
  W.cnd (decide (0≤x.2.1)) (
  W.cnd (decide (x.2.1<256)) (some (decide (0<x.2.2.1)))
   (some false))
  (some false))
  (some false))
 (some false)
abbrev ref18_one:=zfy stdW
def zfz(W:Wd)(a:ALot')(b:ALot'):Option Bool:=
 W.cnd (decide (a.1<b.1)) (some true)
 (
 W.cnd (a.1==b.1) (some (decide (a.2.1<b.2.1)))
  (some false))
abbrev zya:=zfz stdW
def zgt(W:Wd)(l:List ALot'):Option Bool:=
 W.loop (fun (z1:Int×Unit) again2=>
 W.cnd (decide (z1.1<(l.length:Int))) (
  W.join (fun (z3:Bool×Unit)=>
  W.cnd z3.1 (some false)
   ((again2 ((IntKind.i64.wrap (z1.1+1)),()))))
  fun k4=>W.idx l z1.1 fun x5=>W.call (zfy W x5) fun v6=>
  W.cnd (!v6) (W.two ((k4 (true,()))))
   (
   W.cnd (decide (0<z1.1)) (W.idx l (IntKind.i64.wrap (z1.1 - 1)) fun x7=>W.idx l z1.1 fun x8=>W.two (W.call (zfz W x7 x8) fun v9=>(k4 ((!v9),()))))
   (W.two ((k4 (false,()))))))
  (some (decide ((l.length:Int)≤16))))
 (0,())
abbrev ref18_Is:=zgt stdW
def zgc(W:Wd)(u:Int):Option zae:=
 W.loop (fun (z1:S8) again2=>
 W.cnd (decide (0<z1.1)) (W.nz 2 (W.room (z1.2.1.length+((IntKind.u8.wrap (Int.tmod z1.1 2))::[]).length) 1 (W.nz 2 ((again2 ((IntKind.u64.wrap (Int.tdiv z1.1 2)),((z1.2.1++((IntKind.u8.wrap (Int.tmod z1.1 2))::[])),())))))))
  (some (false,z1.2)))
 (u,([],()))
abbrev zqc:=zgc stdW
def zep(W:Wd)(a:List Int)(b:List Int):Option (List Int):=
 W.loop (fun (z1:S26) again2=>
 W.join (fun (z3:S23)=>
  W.join (fun (z4:S8)=>
  W.join (fun (z5:S8)=>W.nz 2 (W.room (z5.2.1.length+((Int.tmod z5.1 2)::[]).length) 1 (W.nz 2 ((again2 ((IntKind.u8.wrap (Int.tdiv z5.1 2)),((IntKind.i64.wrap (z1.2.1+1)),((z5.2.1++((Int.tmod z5.1 2)::[])),()))))))))
   fun k6=>
   W.cnd (decide (z1.2.1<(b.length:Int))) (W.idx b z1.2.1 fun x7=>(k6 ((IntKind.u8.wrap (z4.1+x7)),z4.2)))
   ((k6 z4)))
  fun k8=>
  W.cnd (decide (z1.2.1<(a.length:Int))) (W.idx a z1.2.1 fun x9=>(k8 ((IntKind.u8.wrap (z1.1+x9)),z3)))
   ((k8 (z1.1,z3))))
  fun k10=>
  W.cnd (decide (z1.2.1<(a.length:Int))) ((k10 z1.2.2))
  (
  W.cnd (decide (z1.2.1<(b.length:Int))) ((k10 z1.2.2))
   (
   W.join (fun (z11:S23)=>some z11.1)
   fun k12=>
   W.cnd (decide (0<z1.1)) (W.room (z1.2.2.1.length+(z1.1::[]).length) 1 ((k12 ((z1.2.2.1++(z1.1::[])),()))))
    ((k12 z1.2.2)))))
 (0,(0,([],())))
abbrev znx:=zep stdW
def zal(W:Wd)(n:Int):Option zae:=
 W.cnd (decide (0≤n)) (W.call (zgc W (IntKind.u64.wrap n)) fun v1=>some v1)
 (W.call (zgc W (IntKind.u64.wrap (IntKind.i64.wrap (0 - (IntKind.i64.wrap (n+1)))))) fun v2=>W.call (zep W v2.2.1 (1::[])) fun v3=>some (true,(v3,())))
abbrev zjm:=zal stdW
def zdv(W:Wd)(neg:Bool)(b:List Int):Option zae:=
 W.join (fun (z1:Int×Unit)=>
 W.cnd neg (W.bnd z1.1 b.length fun h2=>some ((decide (0<z1.1)),((b.take h2),())))
  (W.bnd z1.1 b.length fun h3=>some (false,((b.take h3),()))))
 fun k4=>
 W.loop (fun (z5:Int×Unit) again6=>
  W.cnd (decide (0<z5.1)) (W.idx b (IntKind.i64.wrap (z5.1 - 1)) fun x7=>
  W.cnd (x7==0) ((again6 ((IntKind.i64.wrap (z5.1 - 1)),())))
   ((k4 z5)))
  ((k4 z5)))
  ((b.length:Int),())
abbrev zrp:=zdv stdW
def zcj(W:Wd)(a:zae)(b:zae):Option zae:=W.room a.2.1.length 1 (
 W.loop (fun (z1:List (Int)×List (Int)×Int×Unit) again2=>
 W.cnd (decide (z1.2.2.1<(b.2.1.length:Int))) (
  W.join (fun (z3:S23)=>W.room (0::[]).length 1 (W.room ((0::[]).length+z1.2.1.length) 1 ((again2 (z3.1,(((0::[])++z1.2.1),((IntKind.i64.wrap (z1.2.2.1+1)),())))))))
  fun k4=>W.idx b.2.1 z1.2.2.1 fun x5=>
  W.cnd (x5==1) (W.call (zep W z1.1 z1.2.1) fun v6=>(k4 (v6,())))
   ((k4 (z1.1,()))))
  (W.call (zdv W (Go.Vc.notIf true (a.1==b.1)) z1.1) fun v7=>some v7))
 ([],(a.2.1,(0,()))))
abbrev zqd:=zcj stdW
def zbd(W:Wd)(a:ALot')(qty:Int):Option zae:=W.call (zal W qty) fun v1=>W.call (zal W a.2.1) fun v2=>W.call (zcj W v1 v2) fun v3=>some v3
abbrev zox:=zbd stdW
def zpa(W:Wd)(a:List Int)(b:List Int):Option Bool:=
 W.cnd ((a.length:Int) != (b.length:Int)) (some (decide ((a.length:Int)<(b.length:Int))))
 (
 W.loop (fun (z1:Int×Unit) again2=>
  W.cnd (decide (0<z1.1)) (W.idx a (IntKind.i64.wrap (z1.1 - 1)) fun x3=>W.idx b (IntKind.i64.wrap (z1.1 - 1)) fun x4=>
  W.cnd (x3 != x4) (W.idx a (IntKind.i64.wrap (z1.1 - 1)) fun x5=>W.idx b (IntKind.i64.wrap (z1.1 - 1)) fun x6=>some (decide (x5<x6)))
   ((again2 ((IntKind.i64.wrap (z1.1 - 1)),()))))
  (some false))
  ((a.length:Int),()))
abbrev ref01_less:=zpa stdW
def zjl(W:Wd)(a:List Int)(b:List Int):Option (List Int):=
 W.loop (fun (z1:S26) again2=>
 W.cnd (decide (z1.2.1<(a.length:Int))) (
  W.join (fun (z3:S8)=>W.idx a z1.2.1 fun x4=>
  W.join (fun (z5:S8)=>W.nz 2 (W.room (z5.2.1.length+((Int.tmod (IntKind.u8.wrap ((IntKind.u8.wrap (x4+2)) - z3.1)) 2)::[]).length) 1 ((again2 (z5.1,((IntKind.i64.wrap (z1.2.1+1)),((z5.2.1++((Int.tmod (IntKind.u8.wrap ((IntKind.u8.wrap (x4+2)) - z3.1)) 2)::[])),())))))))
   fun k6=>
   W.cnd (decide ((IntKind.u8.wrap ((IntKind.u8.wrap (x4+2)) - z3.1))<2)) ((k6 (1,z3.2)))
   ((k6 (0,z3.2))))
  fun k7=>
  W.cnd (decide (z1.2.1<(b.length:Int))) (W.idx b z1.2.1 fun x8=>(k7 ((IntKind.u8.wrap (z1.1+x8)),z1.2.2)))
   ((k7 (z1.1,z1.2.2))))
  (some z1.2.2.1))
 (0,(0,([],())))
abbrev yfm:=zjl stdW
def zay(W:Wd)(a:zae)(b:zae):Option zae:=
 W.cnd (Go.Vc.notIf false (a.1==b.1)) (W.call (zep W a.2.1 b.2.1) fun v1=>W.call (zdv W a.1 v1) fun v2=>some v2)
 (W.call (zpa W a.2.1 b.2.1) fun v3=>
 W.cnd v3 (W.call (zjl W b.2.1 a.2.1) fun v4=>W.call (zdv W b.1 v4) fun v5=>some v5)
  (W.call (zjl W a.2.1 b.2.1) fun v6=>W.call (zdv W a.1 v6) fun v7=>some v7))
abbrev zdi:=zay stdW
def zfk(W:Wd)(a:zae)(n:Int):Option Bool:=
 W.join (fun (z1:S10)=>some (decide ((z1.2.1.length:Int)<n)))
 fun k2=>
 W.cnd a.1 (W.two (W.call (zgc W 1) fun v3=>W.call (zay W a v3) fun v4=>(k2 v4)))
  ((k2 a))
abbrev ycu:=zfk stdW
def zap(W:Wd)(a:zae):Option Bool:=W.call (zfk W a 64) fun v1=>some v1
abbrev zny:=zap stdW
def zkq(W:Wd)(a:zae):Option zae:=W.call (zdv W (!a.1) a.2.1) fun v1=>some v1
abbrev ref01_Neg:=zkq stdW
def zdh(W:Wd)(a:zae)(b:zae):Option zae:=W.call (zkq W b) fun v1=>W.call (zay W a v1) fun v2=>some v2
abbrev ycv:=zdh stdW
def zck(W:Wd)(a:zae)(d:Int):Option (zae×Int×Unit):=
 W.loop (fun (z1:Int×List (Int)×Int×Unit) again2=>
 W.cnd (decide (0<z1.2.2.1)) (W.idx a.2.1 (IntKind.i64.wrap (z1.2.2.1 - 1)) fun x3=>
  W.join (fun (z4:S12)=>W.room (z4.2.1::[]).length 1 (W.room ((z4.2.1::[]).length+z1.2.1.length) 1 ((again2 (z4.1,(((z4.2.1::[])++z1.2.1),((IntKind.i64.wrap (z1.2.2.1 - 1)),())))))))
  fun k5=>
  W.cnd (decide (d≤(IntKind.u64.wrap ((IntKind.u64.wrap (2*z1.1))+(IntKind.u64.wrap x3))))) ((k5 ((IntKind.u64.wrap ((IntKind.u64.wrap ((IntKind.u64.wrap (2*z1.1))+(IntKind.u64.wrap x3))) - d)),(1,()))))
   ((k5 ((IntKind.u64.wrap ((IntKind.u64.wrap (2*z1.1))+(IntKind.u64.wrap x3))),(0,())))))
  (W.call (zdv W a.1 z1.2.1) fun v6=>
  W.join (fun (z7:S11)=>some (z7.2,(z7.1,())))
  fun k8=>
  W.join (fun (z9:Bool×Unit)=>
   W.cnd z9.1 (
   W.join (fun (z10:S10)=>(k8 ((IntKind.u64.wrap (d - z1.1)),z10)))
    fun k11=>W.two (W.call (zgc W 1) fun v12=>W.call (zdh W v6 v12) fun v13=>(k11 v13)))
   ((k8 (z1.1,v6))))
   fun k16=>
   W.cnd a.1 ((k16 ((decide (0<z1.1)),())))
   ((k16 (false,())))))
 (0,([],((a.2.1.length:Int),())))
abbrev zqe:=zck stdW
def zsx(W:Wd)(a:ALot')(qty:Int):Option zae:=W.both (W.call (zbd W a qty) fun v1=>W.both (W.call (zal W (IntKind.i64.wrap (10000 - a.2.2.1))) fun v2=>W.both (W.call (zcj W v1 v2) fun v3=>W.two (W.call (zck W v3 10000) fun v4=>some v4.1)) (W.call (zcj W v1 v2) fun v6=>W.call (zck W v6 10000) fun v7=>some v7.1)) (W.call (zal W (IntKind.i64.wrap (10000 - a.2.2.1))) fun v8=>W.call (zcj W v1 v8) fun v9=>W.call (zck W v9 10000) fun v10=>some v10.1)) (W.call (zbd W a qty) fun v11=>W.call (zal W (IntKind.i64.wrap (10000 - a.2.2.1))) fun v12=>W.call (zcj W v11 v12) fun v13=>W.call (zck W v13 10000) fun v14=>some v14.1)
def zag(W:Wd)(a:zae):Option Int:=
 W.loop (fun (z1:S12) again2=>
 W.cnd (decide (0<z1.2.1)) (
  W.join (fun (z3:Int×Unit)=>(again2 (z3.1,((IntKind.i64.wrap (z1.2.1 - 1)),()))))
  fun k4=>
  W.cnd a.1 (W.idx a.2.1 (IntKind.i64.wrap (z1.2.1 - 1)) fun x5=>(k4 ((IntKind.i64.wrap ((IntKind.i64.wrap (2*z1.1)) - (IntKind.i64.wrap x5))),())))
   (W.idx a.2.1 (IntKind.i64.wrap (z1.2.1 - 1)) fun x6=>(k4 ((IntKind.i64.wrap ((IntKind.i64.wrap (2*z1.1))+(IntKind.i64.wrap x6))),()))))
  (some z1.1))
 (0,((a.2.1.length:Int),()))
abbrev zdm:=zag stdW
def zkg(W:Wd)(as_:List ALot')(l:List ALot')(cash:Int)(counted:Bool):Option (Int×Int×Unit):=W.call (zgt W l) fun v1=>
 W.cnd (!v1) (some (0,(3,())))
 (W.call (zal W cash) fun v2=>
 W.loop (fun (z3:S11) again4=>
  W.cnd (decide (z3.1<(l.length:Int))) (
  W.join (fun (z5:S10)=>(again4 ((IntKind.i64.wrap (z3.1+1)),z5)))
   fun k6=>W.idx l z3.1 fun x7=>W.call (zdd W as_ x7.1) fun v8=>
   W.cnd (!v8.2.1) (some (0,(11,())))
   (W.idx l z3.1 fun x9=>W.two (W.call (zbd W v8.1 x9.2.2.1) fun v10=>W.call (zap W v10) fun v11=>
    W.cnd (!v11) (some (0,(7,())))
    (
    W.join (fun (z12:S10)=>W.call (zay W z3.2 z12) fun v13=>(k6 v13))
     fun k14=>
     W.cnd counted (W.idx l z3.1 fun x15=>W.call (zsx W v8.1 x15.2.2.1) fun v16=>(k14 v16))
     ((k14 v10))))))
  (W.call (zap W z3.2) fun v24=>
  W.cnd (!v24) (some (0,(7,())))
   (W.call (zag W z3.2) fun v25=>some (v25,(0,())))))
  (0,v2))
abbrev yce:=zkg stdW
def zfw(W:Wd)(s:zad)(u:AUnit'):Option (Int×Int×Unit):=W.call (zdk W s.2.2.2.2.2.2.2.2.2.2.2.1 u) fun v1=>W.call (zkg W s.2.2.2.1 v1 0 false) fun v2=>
 W.cnd (v2.2.1 != 0) (some (0,v2.2))
 (W.both (W.call (zal W v2.1) fun v3=>W.both (W.call (zcw W s.2.2.2.2.2.2.2.2.2.2.1 u) fun v4=>W.both (W.call (zal W v4) fun v5=>W.two (W.call (zay W v3 v5) fun v6=>W.call (zap W v6) fun v7=>
   W.cnd (!v7) (some (0,(7,())))
    (
    W.cnd v6.1 (some (0,(0,())))
    (W.call (zag W v6) fun v8=>some (v8,(0,())))))) (W.call (zal W v4) fun v12=>W.call (zay W v3 v12) fun v13=>W.call (zap W v13) fun v14=>
   W.cnd (!v14) (some (0,(7,())))
   (
   W.cnd v13.1 (some (0,(0,())))
    (W.call (zag W v13) fun v15=>some (v15,(0,())))))) (W.call (zcw W s.2.2.2.2.2.2.2.2.2.2.1 u) fun v16=>W.call (zal W v16) fun v17=>W.call (zay W v3 v17) fun v18=>W.call (zap W v18) fun v19=>
  W.cnd (!v19) (some (0,(7,())))
   (
   W.cnd v18.1 (some (0,(0,())))
   (W.call (zag W v18) fun v20=>some (v20,(0,())))))) (W.call (zal W v2.1) fun v21=>W.call (zcw W s.2.2.2.2.2.2.2.2.2.2.1 u) fun v22=>W.call (zal W v22) fun v23=>W.call (zay W v21 v23) fun v24=>W.call (zap W v24) fun v25=>
  W.cnd (!v25) (some (0,(7,())))
  (
  W.cnd v24.1 (some (0,(0,())))
   (W.call (zag W v24) fun v26=>some (v26,(0,()))))))
abbrev zrk:=zfw stdW
def zgg(W:Wd)(a:AUnit')(b:AUnit'):Option Bool:=
 W.cnd (a.1 != b.1) (some (decide (a.1<b.1)))
 (some (decide (a.2.1<b.2.1)))
abbrev yek:=zgg stdW
def zir(W:Wd)(l:List AFlow'):Option Bool:=
 W.loop (fun (z1:Int×Unit) again2=>
 W.cnd (decide (z1.1<(l.length:Int))) (W.idx l z1.1 fun x3=>
  W.join (fun (z4:Bool×Unit)=>
  W.cnd z4.1 (some false)
   ((again2 ((IntKind.i64.wrap (z1.1+1)),()))))
  fun k5=>
  W.cnd (x3.2.1==0) ((k5 (true,())))
   (
   W.cnd (decide (0<z1.1)) (W.idx l (IntKind.i64.wrap (z1.1 - 1)) fun x6=>W.call (zgg W x6.1 x3.1) fun v7=>(k5 ((!v7),())))
   ((k5 (false,())))))
  (some true))
 (0,())
abbrev yje:=zir stdW
def zlw(W:Wd)(l:List AHold'):Option Bool:=
 W.loop (fun (z1:Int×Unit) again2=>
 W.cnd (decide (z1.1<(l.length:Int))) (W.idx l z1.1 fun x3=>
  W.join (fun (z4:Bool×Unit)=>
  W.cnd z4.1 (some false)
   ((again2 ((IntKind.i64.wrap (z1.1+1)),()))))
  fun k5=>
  W.cnd ((x3.2.1.length:Int)==0) (W.two ((k5 (true,()))))
   (W.call (zlt W x3.2.1) fun v6=>
   W.cnd (!v6) (W.two ((k5 (true,()))))
   (
   W.cnd (decide (0<z1.1)) (W.idx l (IntKind.i64.wrap (z1.1 - 1)) fun x7=>W.two (W.call (zgg W x7.1 x3.1) fun v8=>(k5 ((!v8),()))))
    (W.two ((k5 (false,())))))))
  (some true))
 (0,())
abbrev hold_Is:=zlw stdW
def zei(W:Wd):Option AUnit':=some (0,(1,()))
abbrev zqs:=zei stdW
def zdo(W:Wd)(x:Int):Option Int:=
 W.join (fun (z1:S12)=>
 W.join (fun (z2:S12)=>
  W.join (fun (z3:S12)=>W.sidx (ByteArray.mk (Array.mk (0::(1::(2::(2::(3::(3::(3::(3::(4::(4::(4::(4::(4::(4::(4::(4::(5::(5::(5::(5::(5::(5::(5::(5::(5::(5::(5::(5::(5::(5::(5::(5::(6::(6::(6::(6::(6::(6::(6::(6::(6::(6::(6::(6::(6::(6::(6::(6::(6::(6::(6::(6::(6::(6::(6::(6::(6::(6::(6::(6::(6::(6::(6::(6::(7::(7::(7::(7::(7::(7::(7::(7::(7::(7::(7::(7::(7::(7::(7::(7::(7::(7::(7::(7::(7::(7::(7::(7::(7::(7::(7::(7::(7::(7::(7::(7::(7::(7::(7::(7::(7::(7::(7::(7::(7::(7::(7::(7::(7::(7::(7::(7::(7::(7::(7::(7::(7::(7::(7::(7::(7::(7::(7::(7::(7::(7::(7::(7::(8::(8::(8::(8::(8::(8::(8::(8::(8::(8::(8::(8::(8::(8::(8::(8::(8::(8::(8::(8::(8::(8::(8::(8::(8::(8::(8::(8::(8::(8::(8::(8::(8::(8::(8::(8::(8::(8::(8::(8::(8::(8::(8::(8::(8::(8::(8::(8::(8::(8::(8::(8::(8::(8::(8::(8::(8::(8::(8::(8::(8::(8::(8::(8::(8::(8::(8::(8::(8::(8::(8::(8::(8::(8::(8::(8::(8::(8::(8::(8::(8::(8::(8::(8::(8::(8::(8::(8::(8::(8::(8::(8::(8::(8::(8::(8::(8::(8::(8::(8::(8::(8::(8::(8::(8::(8::(8::(8::(8::(8::(8::(8::(8::(8::(8::(8::(8::(8::(8::(8::(8::(8::(8::(8::(8::(8::(8::(8::[])))))))))))))))))))))))))))))))))))))))))))))))))))))))))))))))))))))))))))))))))))))))))))))))))))))))))))))))))))))))))))))))))))))))))))))))))))))))))))))))))))))))))))))))))))))))))))))))))))))))))))))))))))))))))))))))))))))))))))))))))))))))))))))))))) (IntKind.u8.wrap z3.1) fun x4=>some (IntKind.i64.wrap (z3.2.1+(IntKind.i64.wrap x4))))
  fun k5=>
  W.cnd (decide (256≤z2.1)) (W.nn 8 ((k5 ((Int.fdiv z2.1 (2 ^ (Min.min (Int.toNat 8) (Go.IntKind.bits Go.IntKind.u64)))),((IntKind.i64.wrap (z2.2.1+8)),())))))
   ((k5 z2)))
  fun k6=>
  W.cnd (decide (65536≤z1.1)) (W.nn 16 ((k6 ((Int.fdiv z1.1 (2 ^ (Min.min (Int.toNat 16) (Go.IntKind.bits Go.IntKind.u64)))),((IntKind.i64.wrap (z1.2.1+16)),())))))
  ((k6 z1)))
 fun k7=>
 W.cnd (decide (4294967296≤x)) (W.nn 32 ((k7 ((Int.fdiv x (2 ^ (Min.min (Int.toNat 32) (Go.IntKind.bits Go.IntKind.u64)))),(32,())))))
  ((k7 (x,(0,()))))
abbrev zvl:=zdo stdW
def zbj(W:Wd)(x:Int):Option Int:=W.call (zdo W x) fun v1=>some (IntKind.i64.wrap (64 - v1))
abbrev zks:=zbj stdW
def zcc(W:Wd)(hi:Int)(lo:Int)(y:Int):Option (Int×Int×Unit):=
 W.cnd (y==0) (none)
 (
 W.cnd (decide (y≤hi)) (none)
  (
  W.cnd (hi==0) (W.nz y (W.nz y (some ((IntKind.u64.wrap (Int.tdiv lo y)),((Int.tmod lo y),())))))
  (W.call (zbj W y) fun v1=>W.nn (IntKind.u64.wrap v1) (W.nn 32 (W.nn (IntKind.u64.wrap v1) (W.nn (IntKind.u64.wrap (64 - (IntKind.u64.wrap v1))) (W.nn (IntKind.u64.wrap v1) (W.nn 32 (W.nz (Int.fdiv (IntKind.u64.wrap (y*(2 ^ (Min.min (Int.toNat (IntKind.u64.wrap v1)) (Go.IntKind.bits Go.IntKind.u64))))) (2 ^ (Min.min (Int.toNat 32) (Go.IntKind.bits Go.IntKind.u64)))) (
  W.join (fun (z2:Int×Unit)=>W.nz (Int.fdiv (IntKind.u64.wrap (y*(2 ^ (Min.min (Int.toNat (IntKind.u64.wrap v1)) (Go.IntKind.bits Go.IntKind.u64))))) (2 ^ (Min.min (Int.toNat 32) (Go.IntKind.bits Go.IntKind.u64)))) (
   W.join (fun (z3:Int×Unit)=>W.nn (IntKind.u64.wrap v1) (some ((IntKind.u64.wrap ((IntKind.u64.wrap (z2.1*4294967296))+z3.1)),((Int.fdiv (IntKind.u64.wrap ((IntKind.u64.wrap ((IntKind.u64.wrap ((IntKind.u64.wrap ((IntKind.u64.wrap ((IntKind.u64.wrap ((Go.bits Go.BinOp.or Go.IntKind.u64 (IntKind.u64.wrap (hi*(2 ^ (Min.min (Int.toNat (IntKind.u64.wrap v1)) (Go.IntKind.bits Go.IntKind.u64))))) (Int.fdiv lo (2 ^ (Min.min (Int.toNat (IntKind.u64.wrap (64 - (IntKind.u64.wrap v1)))) (Go.IntKind.bits Go.IntKind.u64)))))*4294967296))+(Int.fdiv (IntKind.u64.wrap (lo*(2 ^ (Min.min (Int.toNat (IntKind.u64.wrap v1)) (Go.IntKind.bits Go.IntKind.u64))))) (2 ^ (Min.min (Int.toNat 32) (Go.IntKind.bits Go.IntKind.u64)))))) - (IntKind.u64.wrap (z2.1*(IntKind.u64.wrap (y*(2 ^ (Min.min (Int.toNat (IntKind.u64.wrap v1)) (Go.IntKind.bits Go.IntKind.u64)))))))))*4294967296))+(Go.bits Go.BinOp.and Go.IntKind.u64 (IntKind.u64.wrap (lo*(2 ^ (Min.min (Int.toNat (IntKind.u64.wrap v1)) (Go.IntKind.bits Go.IntKind.u64))))) 4294967295))) - (IntKind.u64.wrap (z3.1*(IntKind.u64.wrap (y*(2 ^ (Min.min (Int.toNat (IntKind.u64.wrap v1)) (Go.IntKind.bits Go.IntKind.u64))))))))) (2 ^ (Min.min (Int.toNat (IntKind.u64.wrap v1)) (Go.IntKind.bits Go.IntKind.u64)))),()))))
   fun k4=>
   W.loop (fun (z5:S12) again6=>
    W.join (fun (z7:Unit)=>
    W.cnd (decide (4294967296≤(IntKind.u64.wrap (z5.1+(Int.fdiv (IntKind.u64.wrap (y*(2 ^ (Min.min (Int.toNat (IntKind.u64.wrap v1)) (Go.IntKind.bits Go.IntKind.u64))))) (2 ^ (Min.min (Int.toNat 32) (Go.IntKind.bits Go.IntKind.u64)))))))) ((k4 ((IntKind.u64.wrap (z5.2.1 - 1)),())))
     ((again6 ((IntKind.u64.wrap (z5.1+(Int.fdiv (IntKind.u64.wrap (y*(2 ^ (Min.min (Int.toNat (IntKind.u64.wrap v1)) (Go.IntKind.bits Go.IntKind.u64))))) (2 ^ (Min.min (Int.toNat 32) (Go.IntKind.bits Go.IntKind.u64)))))),((IntKind.u64.wrap (z5.2.1 - 1)),())))))
    fun k8=>
    W.cnd (decide (4294967296≤z5.2.1)) ((k8 ()))
     (
     W.cnd (decide ((IntKind.u64.wrap ((IntKind.u64.wrap (4294967296*z5.1))+(Go.bits Go.BinOp.and Go.IntKind.u64 (IntKind.u64.wrap (lo*(2 ^ (Min.min (Int.toNat (IntKind.u64.wrap v1)) (Go.IntKind.bits Go.IntKind.u64))))) 4294967295)))<(IntKind.u64.wrap (z5.2.1*(Go.bits Go.BinOp.and Go.IntKind.u64 (IntKind.u64.wrap (y*(2 ^ (Min.min (Int.toNat (IntKind.u64.wrap v1)) (Go.IntKind.bits Go.IntKind.u64))))) 4294967295))))) ((k8 ()))
     ((k4 z5.2))))
    ((IntKind.u64.wrap ((IntKind.u64.wrap ((IntKind.u64.wrap ((IntKind.u64.wrap ((Go.bits Go.BinOp.or Go.IntKind.u64 (IntKind.u64.wrap (hi*(2 ^ (Min.min (Int.toNat (IntKind.u64.wrap v1)) (Go.IntKind.bits Go.IntKind.u64))))) (Int.fdiv lo (2 ^ (Min.min (Int.toNat (IntKind.u64.wrap (64 - (IntKind.u64.wrap v1)))) (Go.IntKind.bits Go.IntKind.u64)))))*4294967296))+(Int.fdiv (IntKind.u64.wrap (lo*(2 ^ (Min.min (Int.toNat (IntKind.u64.wrap v1)) (Go.IntKind.bits Go.IntKind.u64))))) (2 ^ (Min.min (Int.toNat 32) (Go.IntKind.bits Go.IntKind.u64)))))) - (IntKind.u64.wrap (z2.1*(IntKind.u64.wrap (y*(2 ^ (Min.min (Int.toNat (IntKind.u64.wrap v1)) (Go.IntKind.bits Go.IntKind.u64))))))))) - (IntKind.u64.wrap ((IntKind.u64.wrap (Int.tdiv (IntKind.u64.wrap ((IntKind.u64.wrap ((IntKind.u64.wrap ((Go.bits Go.BinOp.or Go.IntKind.u64 (IntKind.u64.wrap (hi*(2 ^ (Min.min (Int.toNat (IntKind.u64.wrap v1)) (Go.IntKind.bits Go.IntKind.u64))))) (Int.fdiv lo (2 ^ (Min.min (Int.toNat (IntKind.u64.wrap (64 - (IntKind.u64.wrap v1)))) (Go.IntKind.bits Go.IntKind.u64)))))*4294967296))+(Int.fdiv (IntKind.u64.wrap (lo*(2 ^ (Min.min (Int.toNat (IntKind.u64.wrap v1)) (Go.IntKind.bits Go.IntKind.u64))))) (2 ^ (Min.min (Int.toNat 32) (Go.IntKind.bits Go.IntKind.u64)))))) - (IntKind.u64.wrap (z2.1*(IntKind.u64.wrap (y*(2 ^ (Min.min (Int.toNat (IntKind.u64.wrap v1)) (Go.IntKind.bits Go.IntKind.u64))))))))) (Int.fdiv (IntKind.u64.wrap (y*(2 ^ (Min.min (Int.toNat (IntKind.u64.wrap v1)) (Go.IntKind.bits Go.IntKind.u64))))) (2 ^ (Min.min (Int.toNat 32) (Go.IntKind.bits Go.IntKind.u64))))))*(Int.fdiv (IntKind.u64.wrap (y*(2 ^ (Min.min (Int.toNat (IntKind.u64.wrap v1)) (Go.IntKind.bits Go.IntKind.u64))))) (2 ^ (Min.min (Int.toNat 32) (Go.IntKind.bits Go.IntKind.u64)))))))),((IntKind.u64.wrap (Int.tdiv (IntKind.u64.wrap ((IntKind.u64.wrap ((IntKind.u64.wrap ((Go.bits Go.BinOp.or Go.IntKind.u64 (IntKind.u64.wrap (hi*(2 ^ (Min.min (Int.toNat (IntKind.u64.wrap v1)) (Go.IntKind.bits Go.IntKind.u64))))) (Int.fdiv lo (2 ^ (Min.min (Int.toNat (IntKind.u64.wrap (64 - (IntKind.u64.wrap v1)))) (Go.IntKind.bits Go.IntKind.u64)))))*4294967296))+(Int.fdiv (IntKind.u64.wrap (lo*(2 ^ (Min.min (Int.toNat (IntKind.u64.wrap v1)) (Go.IntKind.bits Go.IntKind.u64))))) (2 ^ (Min.min (Int.toNat 32) (Go.IntKind.bits Go.IntKind.u64)))))) - (IntKind.u64.wrap (z2.1*(IntKind.u64.wrap (y*(2 ^ (Min.min (Int.toNat (IntKind.u64.wrap v1)) (Go.IntKind.bits Go.IntKind.u64))))))))) (Int.fdiv (IntKind.u64.wrap (y*(2 ^ (Min.min (Int.toNat (IntKind.u64.wrap v1)) (Go.IntKind.bits Go.IntKind.u64))))) (2 ^ (Min.min (Int.toNat 32) (Go.IntKind.bits Go.IntKind.u64)))))),()))))
   fun k9=>
   W.loop (fun (z10:S12) again11=>
   W.join (fun (z12:Unit)=>
    W.cnd (decide (4294967296≤(IntKind.u64.wrap (z10.2.1+(Int.fdiv (IntKind.u64.wrap (y*(2 ^ (Min.min (Int.toNat (IntKind.u64.wrap v1)) (Go.IntKind.bits Go.IntKind.u64))))) (2 ^ (Min.min (Int.toNat 32) (Go.IntKind.bits Go.IntKind.u64)))))))) ((k9 ((IntKind.u64.wrap (z10.1 - 1)),())))
    ((again11 ((IntKind.u64.wrap (z10.1 - 1)),((IntKind.u64.wrap (z10.2.1+(Int.fdiv (IntKind.u64.wrap (y*(2 ^ (Min.min (Int.toNat (IntKind.u64.wrap v1)) (Go.IntKind.bits Go.IntKind.u64))))) (2 ^ (Min.min (Int.toNat 32) (Go.IntKind.bits Go.IntKind.u64)))))),())))))
    fun k13=>
    W.cnd (decide (4294967296≤z10.1)) ((k13 ()))
    (
    W.cnd (decide ((IntKind.u64.wrap ((IntKind.u64.wrap (4294967296*z10.2.1))+(Int.fdiv (IntKind.u64.wrap (lo*(2 ^ (Min.min (Int.toNat (IntKind.u64.wrap v1)) (Go.IntKind.bits Go.IntKind.u64))))) (2 ^ (Min.min (Int.toNat 32) (Go.IntKind.bits Go.IntKind.u64))))))<(IntKind.u64.wrap (z10.1*(Go.bits Go.BinOp.and Go.IntKind.u64 (IntKind.u64.wrap (y*(2 ^ (Min.min (Int.toNat (IntKind.u64.wrap v1)) (Go.IntKind.bits Go.IntKind.u64))))) 4294967295))))) ((k13 ()))
     ((k9 (z10.1,())))))
   ((IntKind.u64.wrap (Int.tdiv (Go.bits Go.BinOp.or Go.IntKind.u64 (IntKind.u64.wrap (hi*(2 ^ (Min.min (Int.toNat (IntKind.u64.wrap v1)) (Go.IntKind.bits Go.IntKind.u64))))) (Int.fdiv lo (2 ^ (Min.min (Int.toNat (IntKind.u64.wrap (64 - (IntKind.u64.wrap v1)))) (Go.IntKind.bits Go.IntKind.u64))))) (Int.fdiv (IntKind.u64.wrap (y*(2 ^ (Min.min (Int.toNat (IntKind.u64.wrap v1)) (Go.IntKind.bits Go.IntKind.u64))))) (2 ^ (Min.min (Int.toNat 32) (Go.IntKind.bits Go.IntKind.u64)))))),((IntKind.u64.wrap ((Go.bits Go.BinOp.or Go.IntKind.u64 (IntKind.u64.wrap (hi*(2 ^ (Min.min (Int.toNat (IntKind.u64.wrap v1)) (Go.IntKind.bits Go.IntKind.u64))))) (Int.fdiv lo (2 ^ (Min.min (Int.toNat (IntKind.u64.wrap (64 - (IntKind.u64.wrap v1)))) (Go.IntKind.bits Go.IntKind.u64))))) - (IntKind.u64.wrap ((IntKind.u64.wrap (Int.tdiv (Go.bits Go.BinOp.or Go.IntKind.u64 (IntKind.u64.wrap (hi*(2 ^ (Min.min (Int.toNat (IntKind.u64.wrap v1)) (Go.IntKind.bits Go.IntKind.u64))))) (Int.fdiv lo (2 ^ (Min.min (Int.toNat (IntKind.u64.wrap (64 - (IntKind.u64.wrap v1)))) (Go.IntKind.bits Go.IntKind.u64))))) (Int.fdiv (IntKind.u64.wrap (y*(2 ^ (Min.min (Int.toNat (IntKind.u64.wrap v1)) (Go.IntKind.bits Go.IntKind.u64))))) (2 ^ (Min.min (Int.toNat 32) (Go.IntKind.bits Go.IntKind.u64))))))*(Int.fdiv (IntKind.u64.wrap (y*(2 ^ (Min.min (Int.toNat (IntKind.u64.wrap v1)) (Go.IntKind.bits Go.IntKind.u64))))) (2 ^ (Min.min (Int.toNat 32) (Go.IntKind.bits Go.IntKind.u64)))))))),()))))))))))))
abbrev zdx:=zcc stdW
def zgn(W:Wd)(w:zaq)(d:Int):Option (zaq×Int×Int×Unit):=
 W.cnd (d==0) (some ((0,(0,())),(0,(8,()))))
 (
 W.cnd (decide (d<0)) (some ((0,(0,())),(0,(2,()))))
  (W.call (zcl W w) fun v1=>W.nz (IntKind.u64.wrap d) (W.nz (IntKind.u64.wrap d) (W.call (zcc W (Int.tmod v1.1 (IntKind.u64.wrap d)) v1.2.1 (IntKind.u64.wrap d)) fun v2=>
  W.join (fun (z3:S9)=>W.both (W.call (zaz W w) fun v4=>W.two (W.call (zbq W z3.2 v4) fun v5=>some (v5.1,((IntKind.i64.wrap z3.1),(0,()))))) (W.call (zaz W w) fun v7=>W.call (zbq W z3.2 v7) fun v8=>some (v8.1,((IntKind.i64.wrap z3.1),(0,())))))
  fun k9=>
  W.join (fun (z10:Bool×Unit)=>
   W.cnd z10.1 (W.call (add64 v2.1 1 0) fun v11=>(k9 ((IntKind.u64.wrap ((IntKind.u64.wrap d) - v2.2.1)),((IntKind.u64.wrap ((IntKind.u64.wrap (Int.tdiv v1.1 (IntKind.u64.wrap d)))+v11.2.1)),(v11.1,())))))
   ((k9 (v2.2.1,((IntKind.u64.wrap (Int.tdiv v1.1 (IntKind.u64.wrap d))),(v2.1,()))))))
   fun k12=>W.call (zaz W w) fun v13=>
   W.cnd v13 ((k12 ((decide (0<v2.2.1)),())))
   ((k12 (false,())))))))
abbrev yhu:=zgn stdW
def zwf(W:Wd)(a:Int)(n:Int)(d:Int):Option (Int×Int×Unit):=W.call (zib W a n) fun v1=>W.call (zgn W v1 d) fun v2=>
 W.join (fun (z3:S9)=>W.call (zdz W z3.2 z3.1) fun v4=>some v4)
 fun k5=>
 W.join (fun (z6:Bool×Unit)=>
  W.cnd z6.1 (W.two (W.call (zej W 1) fun v7=>W.call (zka W (v2.1::(v7::[]))) fun v8=>(k5 (v8.2.1,v8.1))))
  ((k5 (v2.2.2.1,v2.1))))
  fun k11=>
  W.cnd (v2.2.2.1==0) ((k11 ((decide (0<v2.2.1)),())))
  ((k11 (false,())))
abbrev fix_Up:=zwf stdW
def ziz(W:Wd)(a:ALot')(amount:Int):Option (Int×Int×Unit):=W.call (zff W a) fun v1=>
 W.cnd (v1 != 0) (some (0,(v1,())))
 (
 W.cnd (decide (amount≤0)) (some (0,(0,())))
  (W.call (zwf W amount 1 a.2.1) fun v2=>some v2))
abbrev asset_Sell:=ziz stdW
def zee(W:Wd)(l:List ALot')(lot:ALot'):Option Int:=W.call (zlt W l) fun v1=>
 W.cnd (!v1) (some 3)
 (W.call (zge W lot) fun v2=>
 W.cnd (!v2) (some 2)
  (some 0))
abbrev ydo:=zee stdW
def zah(W:Wd)(x:List ALot')(target:ALot'):Option ((Int×Bool×Unit)×Unit):=
 W.loop (fun (z1:S12) again2=>
 W.cnd (decide (z1.1<z1.2.1)) (W.nn 1 (W.idx x (IntKind.i64.wrap (Int.fdiv (IntKind.u64.wrap (IntKind.i64.wrap (z1.1+z1.2.1))) (2 ^ (Min.min (Int.toNat 1) (Go.IntKind.bits Go.IntKind.u64))))) fun x3=>W.call (zes W x3 target) fun v4=>
  W.cnd (decide (v4<0)) ((again2 ((IntKind.i64.wrap ((IntKind.i64.wrap (Int.fdiv (IntKind.u64.wrap (IntKind.i64.wrap (z1.1+z1.2.1))) (2 ^ (Min.min (Int.toNat 1) (Go.IntKind.bits Go.IntKind.u64)))))+1)),z1.2)))
  ((again2 (z1.1,((IntKind.i64.wrap (Int.fdiv (IntKind.u64.wrap (IntKind.i64.wrap (z1.1+z1.2.1))) (2 ^ (Min.min (Int.toNat 1) (Go.IntKind.bits Go.IntKind.u64))))),()))))))
  (
  W.cnd (decide (z1.1<(x.length:Int))) (W.idx x z1.1 fun x5=>W.call (zes W x5 target) fun v6=>some ((z1.1,((v6==0),())),()))
  (some ((z1.1,(false,())),()))))
 (0,((x.length:Int),()))
abbrev zbw:=zah stdW
def zkt(W:Wd)(l:List ALot')(lot:ALot'):Option ((List ALot')×Int×Unit):=W.call (zee W l lot) fun v1=>
 W.cnd (v1 != 0) (some ([],(v1,())))
 (W.call (zah W l lot) fun v2=>
 W.join (fun (z3:Bool×Unit)=>
  W.cnd z3.1 (some ([],(23,())))
  (W.call (zan W l) fun v4=>W.idx v4 v2.1.1 fun x5=>W.nth v4 (Int.toNat v2.1.1) fun x6=>W.idx v4 v2.1.1 fun x7=>W.nth v4 (Int.toNat v2.1.1) fun x8=>
  W.join (fun (z9:S22)=>some (z9.1,(0,())))
   fun k10=>W.idx (List.set v4 (Int.toNat v2.1.1) (x8.1,(x8.2.1,((IntKind.i64.wrap (x6.2.2.1 - lot.2.2.1)),())))) v2.1.1 fun x11=>W.nth (List.set v4 (Int.toNat v2.1.1) (x8.1,(x8.2.1,((IntKind.i64.wrap (x6.2.2.1 - lot.2.2.1)),())))) (Int.toNat v2.1.1) fun x12=>
   W.cnd (x12.2.2.1==0) (W.call (zmy (List.set v4 (Int.toNat v2.1.1) (x8.1,(x8.2.1,((IntKind.i64.wrap (x6.2.2.1 - lot.2.2.1)),())))) v2.1.1 (IntKind.i64.wrap (v2.1.1+1))) fun v13=>(k10 v13))
   ((k10 ((List.set v4 (Int.toNat v2.1.1) (x8.1,(x8.2.1,((IntKind.i64.wrap (x6.2.2.1 - lot.2.2.1)),())))),())))))
  fun k14=>
  W.cnd (!v2.1.2.1) ((k14 (true,())))
  (W.idx l v2.1.1 fun x15=>(k14 ((decide (x15.2.2.1<lot.2.2.1)),()))))
abbrev lots_Take:=zkt stdW
def zmz(W:Wd)(l:List AHold')(u:AUnit')(all:List ALot'):Option (List AHold'):=W.two (W.call (zan W all) fun v1=>
 W.loop (fun (z2:Bool×Int×Int×Int×List ALot'×List AHold'×Unit) again3=>
  W.cnd (decide (z2.2.1<(l.length:Int))) (
  W.join (fun (z4:S18)=>(again3 (z4.1,((IntKind.i64.wrap (z2.2.1+1)),(U3 z2.2.2 z4.2)))))
   fun k5=>W.idx l z2.2.1 fun x6=>
   W.join (fun (z7:S18)=>
   W.cnd (Go.Vc.notIf true ((x6.1.1==u.1)&&(x6.1.2.1==u.2.1))) (W.call (zan W x6.2.1) fun v8=>W.room (z7.2.1.length+((x6.1,(v8,()))::[]).length) 40 ((k5 (z7.1,((z7.2.1++((x6.1,(v8,()))::[])),())))))
    (
    W.cnd (!z7.1) (W.room (z7.2.1.length+(((z2.2.2.1,(z2.2.2.2.1,())),(z2.2.2.2.2.1,()))::[]).length) 40 ((k5 (true,((z7.2.1++(((z2.2.2.1,(z2.2.2.2.1,())),(z2.2.2.2.2.1,()))::[])),())))))
    ((k5 z7))))
   fun k9=>
   W.join (fun (z10:S18)=>
    W.cnd z10.1 (W.room (z10.2.1.length+(((z2.2.2.1,(z2.2.2.2.1,())),(z2.2.2.2.2.1,()))::[]).length) 40 ((k9 (true,((z10.2.1++(((z2.2.2.1,(z2.2.2.2.1,())),(z2.2.2.2.2.1,()))::[])),())))))
    ((k9 (z2.1,z10.2))))
    fun k11=>
    W.cnd (!z2.1) (W.call (zgg W u x6.1) fun v12=>(k11 (v12,z2.2.2.2.2.2)))
    ((k11 (false,z2.2.2.2.2.2))))
  (
  W.join (fun (z13:S27)=>some z13.1)
   fun k14=>
   W.cnd (!z2.1) (W.room (z2.2.2.2.2.2.1.length+(((z2.2.2.1,(z2.2.2.2.1,())),(z2.2.2.2.2.1,()))::[]).length) 40 ((k14 ((z2.2.2.2.2.2.1++(((z2.2.2.1,(z2.2.2.2.1,())),(z2.2.2.2.2.1,()))::[])),()))))
   ((k14 z2.2.2.2.2.2))))
  (((all.length:Int)==0),(0,(u.1,(u.2.1,(v1,([],())))))))
abbrev hold_set:=zmz stdW
def zez(W:Wd)(l:List AHold')(u:AUnit')(now:List ALot')(e:Int):Option ((List AHold')×Int×Unit):=W.call (zlw W l) fun v1=>
 W.cnd (!v1) (some ([],(3,())))
 (
 W.cnd (e != 0) (some ([],(e,())))
  (W.call (zmz W l u now) fun v2=>some (v2,(0,()))))
abbrev ygr:=zez stdW
def zky(W:Wd)(l:List AHold')(u:AUnit')(lot:ALot'):Option ((List AHold')×Int×Unit):=W.call (zfa W l u) fun v1=>W.call (zkt W v1 lot) fun v2=>W.call (zez W l u v2.1 v2.2.1) fun v3=>some v3
abbrev hold_Take:=zky stdW
def zmw(W:Wd)(l:List ALot')(lot:ALot'):Option ((List ALot')×Int×Unit):=W.call (zee W l lot) fun v1=>
 W.cnd (v1 != 0) (some ([],(v1,())))
 (W.call (zah W l lot) fun v2=>
 W.cnd (!v2.1.2.1) (
  W.cnd (decide (16≤(l.length:Int))) (some ([],(25,())))
  (W.two (W.call (zan W l) fun v3=>W.call (zmx v3 v2.1.1 (lot::[])) fun v4=>some (v4.1,(0,())))))
  (W.idx l v2.1.1 fun x7=>W.call (zen W (x7.2.2.1::(lot.2.2.1::[]))) fun v8=>
  W.cnd (v8.2.1 != 0) (some ([],v8.2))
  (W.call (zan W l) fun v9=>W.idx v9 v2.1.1 fun x10=>W.nth v9 (Int.toNat v2.1.1) fun x11=>some ((List.set v9 (Int.toNat v2.1.1) (x11.1,(x11.2.1,(v8.1,())))),(0,())))))
abbrev lots_Put:=zmw stdW
def zna(W:Wd)(l:List AHold')(u:AUnit')(lot:ALot'):Option ((List AHold')×Int×Unit):=W.call (zfa W l u) fun v1=>W.call (zmw W v1 lot) fun v2=>W.call (zez W l u v2.1 v2.2.1) fun v3=>some v3
abbrev ykl:=zna stdW
def zkz(W:Wd)(l:List AHold')(from_:AUnit')(to_:AUnit')(lot:ALot')(tag:Int):Option ((List AHold')×Int×Unit):=W.call (zlw W l) fun v1=>
 W.cnd (!v1) (some ([],(3,())))
 (
 W.cnd (Go.Vc.notIf false ((from_.1==to_.1)&&(from_.2.1==to_.2.1))) (some ([],(24,())))
  (W.call (zky W l from_ lot) fun v2=>
  W.cnd (v2.2.1 != 0) (some ([],v2.2))
  (W.call (zna W v2.1 to_ (lot.1,(tag,lot.2.2))) fun v3=>some v3)))
abbrev ydu:=zkz stdW
def zaw(W:Wd)(slices:List (List AFlow')):Option (List AFlow'):=
 W.loop (fun (z1:S12) again2=>
 W.cnd (decide (z1.2.1<(slices.length:Int))) (W.idx slices z1.2.1 fun x3=>
  W.cnd (decide ((IntKind.i64.wrap (z1.1+(x3.length:Int)))<0)) (none)
  ((again2 ((IntKind.i64.wrap (z1.1+(x3.length:Int))),((IntKind.i64.wrap (z1.2.1+1)),())))))
  (W.call (growO [] z1.1) fun v4=>
  W.loop (fun (z5:S30) again6=>
  W.cnd (decide (z5.1<(slices.length:Int))) (W.idx slices z5.1 fun x7=>W.room (z5.2.1.length+x7.length) 24 ((again6 ((IntKind.i64.wrap (z5.1+1)),((z5.2.1++x7),())))))
   (some z5.2.1))
  (0,v4)))
 (0,(0,()))
abbrev zdj:=zaw stdW
def zgz(W:Wd)(l:List AFlow'):Option (List AUnit'):=
 W.loop (fun (z1:S15) again2=>
 W.cnd (decide (z1.1<(l.length:Int))) (W.idx l z1.1 fun x3=>(again2 ((IntKind.i64.wrap (z1.1+1)),((Go.Vc.addU z1.2.1 x3.1),()))))
  (
  W.loop (fun (z4:(List AUnit'×List AUnit'×Unit)×List AUnit'×Unit) again5=>
  W.join (fun (z6:Bool×(List AUnit'×List AUnit'×Unit)×List AUnit'×Unit)=>
   W.cnd z6.1 (W.idx z6.2.1.2.1 ((z6.2.1.2.1.length:Int) - 1) fun x7=>W.room (z6.2.2.1.length+(x7::[]).length) 16 ((again5 (z6.2.1,((z6.2.2.1++(x7::[])),())))))
   (W.call (zlh z6.2.2.1) fun v8=>some v8))
   fun k9=>
   W.pick (Go.Vc.restU z4.1.1 z4.1.2.1) (fun c10=>(k9 (true,((z4.1.1,((z4.1.2.1++(c10::[])),())),z4.2))))
   ((k9 (false,z4))))
  ((z1.2.1,([],())),([],()))))
 (0,([],()))
abbrev yfw:=zgz stdW
def zeg(W:Wd)(l:List AFlow')(u:AUnit'):Option (List Int):=
 W.loop (fun (z1:S8) again2=>
 W.cnd (decide (z1.1<(l.length:Int))) (
  W.join (fun (z3:S23)=>(again2 ((IntKind.i64.wrap (z1.1+1)),z3)))
  fun k4=>W.idx l z1.1 fun x5=>
  W.cnd (Go.Vc.notIf false ((x5.1.1==u.1)&&(x5.1.2.1==u.2.1))) (W.room (z1.2.1.length+(x5.2.1::[]).length) 8 ((k4 ((z1.2.1++(x5.2.1::[])),()))))
   ((k4 z1.2)))
  (some z1.2.1))
 (0,([],()))
abbrev zzv:=zeg stdW
def zkr(W:Wd)(l:List AFlow')(flows:List AFlow'):Option ((List AFlow')×Int×Unit):=W.call (zir W l) fun v1=>
 W.cnd (!v1) (some ([],(3,())))
 (W.call (zaw W (l::(flows::[]))) fun v2=>W.call (zgz W v2) fun v3=>
 W.loop (fun (z4:Int×List AFlow'×List AUnit'×List AFlow'×Unit) again5=>
  W.cnd (decide (z4.1<(v3.length:Int))) (
  W.join (fun (z6:List AFlow'×List AUnit'×List AFlow'×Unit)=>(again5 ((IntKind.i64.wrap (z4.1+1)),z6)))
   fun k7=>W.idx z4.2.2.1 z4.1 fun x8=>W.nth z4.2.2.1 (Int.toNat z4.1) fun x9=>W.call (zeg W z4.2.1 x9) fun v10=>W.call (zen W v10) fun v11=>
   W.cnd (v11.2.1 != 0) (some ([],v11.2))
   (
   W.cnd (v11.1 != 0) (W.room (z4.2.2.2.1.length+((x9,(v11.1,()))::[]).length) 24 ((k7 (z4.2.1,(z4.2.2.1,((z4.2.2.2.1++((x9,(v11.1,()))::[])),()))))))
    ((k7 z4.2))))
  (some (z4.2.2.2.1,(0,()))))
  (0,(v2,(v3,([],())))))
abbrev zvf:=zkr stdW
def zgd(W:Wd)(l:List AFlow')(from_:AUnit')(to_:AUnit')(amount:Int):Option ((List AFlow')×Int×Unit):=W.call (zlx W 0 amount) fun v1=>
 W.join (fun (z2:Bool×Unit)=>
 W.cnd z2.1 (some ([],v1.2))
  (W.call (zkr W l ((from_,(v1.1,()))::((to_,(amount,()))::[]))) fun v3=>some v3))
 fun k4=>
 W.cnd (v1.2.1 != 0) (W.call (zir W l) fun v5=>(k4 (v5,())))
  ((k4 (false,())))
abbrev zob:=zgd stdW
def zld(W:Wd)(s:zad)(u:AUnit')(x:ALot')(missing:Int):Option (zad×Int×Unit):=W.call (zgf W s.2.2.2.1 x.1) fun v1=>
 W.cnd (!v1.2.1) (some ((0,([],([],([],([],([],([],([],([],([],([],([],())))))))))))),(11,())))
 (
 W.cnd (v1.1.2.1==0) (some (s,(0,())))
  (W.call (ziz W v1.1 missing) fun v2=>
  W.cnd (v2.2.1 != 0) (some ((0,([],([],([],([],([],([],([],([],([],([],([],())))))))))))),v2.2))
  (W.call (zfe W v1.1 (if x.2.2.1<v2.1 then x.2.2.1 else v2.1)) fun v3=>
  W.join (fun (z4:S1)=>
   W.join (fun (z5:S1)=>
   W.cnd (z5.1 != 0) (some ((0,([],([],([],([],([],([],([],([],([],([],([],())))))))))))),(z5.1,())))
    (some (z5.2,(0,()))))
   fun k6=>
   W.cnd (z4.1==0) (W.two (W.call (zei W) fun v7=>W.call (zgd W z4.2.2.2.2.2.2.2.2.2.2.2.1 v7 u v3.1) fun v8=>(k6 (v8.2.1,(U10 z4.2 (v8.1,z4.2.2.2.2.2.2.2.2.2.2.2.2))))))
    ((k6 z4)))
   fun k11=>
   W.cnd (v3.2.1==0) (W.two (W.call (zei W) fun v12=>W.call (zkz W s.2.2.2.2.2.2.2.2.2.2.2.1 u v12 (x.1,(x.2.1,((if x.2.2.1<v2.1 then x.2.2.1 else v2.1),()))) 0) fun v13=>(k11 (v13.2.1,(U11 s (v13.1,()))))))
   ((k11 (v3.2.1,s))))))
abbrev yea:=zld stdW
def zhv(W:Wd)(s:zad)(u:AUnit')(cash:Int):Option (zad×Int×Unit):=
 W.join (fun (z1:Bool×Unit)=>
 W.cnd z1.1 (some ((0,([],([],([],([],([],([],([],([],([],([],([],())))))))))))),(3,())))
  (W.call (zei W) fun v2=>
  W.cnd (Go.Vc.notIf false ((u.1==v2.1)&&(u.2.1==v2.2.1))) (some ((0,([],([],([],([],([],([],([],([],([],([],([],())))))))))))),(2,())))
  (W.call (zfa W s.2.2.2.2.2.2.2.2.2.2.2.1 u) fun v3=>
  W.loop (fun (z4:S7) again5=>
   W.cnd (decide (z4.1<(v3.length:Int))) (W.idx z4.2.2.2.2.2.2.2.2.2.2.2.2.2.1 z4.1 fun x6=>W.nth z4.2.2.2.2.2.2.2.2.2.2.2.2.2.1 (Int.toNat z4.1) fun x7=>W.call (zey W z4.2.2.2.2.2.2.2.2.2.2.2.1 u) fun v8=>W.call (zlx W cash v8) fun v9=>
   W.join (fun (z10:S7)=>
    W.cnd (z10.1 != 0) (some ((0,([],([],([],([],([],([],([],([],([],([],([],())))))))))))),(z10.1,())))
    ((again5 ((IntKind.i64.wrap (z4.1+1)),z10.2))))
    fun k11=>
    W.join (fun (z12:S16)=>
    W.cnd z12.1 (W.call (zld W (U12 z4.2 ()) u x7 v9.1) fun v13=>(k11 (v13.2.1,(U12 v13.1 z12.2))))
     ((k11 (v9.2.1,(U12 z4.2 z12.2)))))
    fun k14=>
    W.cnd (v9.2.1==0) ((k14 ((decide (0<v9.1)),z4.2.2.2.2.2.2.2.2.2.2.2.2.2)))
     ((k14 (false,z4.2.2.2.2.2.2.2.2.2.2.2.2.2))))
   (some ((U12 z4.2 ()),(0,()))))
   (0,(U12 s (v3,()))))))
 fun k15=>W.call (zir W s.2.2.2.2.2.2.2.2.2.2.1) fun v16=>
 W.cnd (!v16) ((k15 (true,())))
  (W.call (zlw W s.2.2.2.2.2.2.2.2.2.2.2.1) fun v17=>(k15 ((!v17),())))
abbrev yec:=zhv stdW
def zdu(W:Wd)(a:AUnit')(b:AUnit'):Option Bool:=
 W.cnd (decide (a.1<b.1)) (some true)
 (
 W.cnd (a.1==b.1) (some (decide (a.2.1<b.2.1)))
  (some false))
abbrev ref15_Less:=zdu stdW
def zkl(W:Wd)(l:List AFlow'):Option Bool:=
 W.loop (fun (z1:Int×Unit) again2=>
 W.cnd (decide (z1.1<(l.length:Int))) (
  W.join (fun (z3:Bool×Unit)=>
  W.cnd z3.1 (some false)
   ((again2 ((IntKind.i64.wrap (z1.1+1)),()))))
  fun k4=>W.idx l z1.1 fun x5=>
  W.cnd (x5.2.1==0) ((k4 (true,())))
   (
   W.cnd (decide (0<z1.1)) (W.idx l (IntKind.i64.wrap (z1.1 - 1)) fun x6=>W.idx l z1.1 fun x7=>W.call (zdu W x6.1 x7.1) fun v8=>(k4 ((!v8),())))
   ((k4 (false,())))))
  (some true))
 (0,())
abbrev yiq:=zkl stdW
def zgs(W:Wd)(l:List AHold'):Option Bool:=
 W.loop (fun (z1:Int×Unit) again2=>
 W.cnd (decide (z1.1<(l.length:Int))) (
  W.join (fun (z3:Bool×Unit)=>
  W.cnd z3.1 (some false)
   ((again2 ((IntKind.i64.wrap (z1.1+1)),()))))
  fun k4=>W.idx l z1.1 fun x5=>
  W.cnd ((x5.2.1.length:Int)==0) (W.two ((k4 (true,()))))
   (W.idx l z1.1 fun x6=>W.call (zgt W x6.2.1) fun v7=>
   W.cnd (!v7) (W.two ((k4 (true,()))))
   (
   W.cnd (decide (0<z1.1)) (W.idx l (IntKind.i64.wrap (z1.1 - 1)) fun x8=>W.idx l z1.1 fun x9=>W.two (W.call (zdu W x8.1 x9.1) fun v10=>(k4 ((!v10),()))))
    (W.two ((k4 (false,())))))))
  (some true))
 (0,())
abbrev yip:=zgs stdW
def zmr(W:Wd)(a:zae)(d:Int):Option zae:=W.call (zck W a d) fun v1=>
 W.cnd (decide (0<v1.2.1)) (W.call (zgc W 1) fun v2=>W.call (zay W v1.1 v2) fun v3=>some v3)
 (some v1.1)
abbrev yit:=zmr stdW
def zcb(W:Wd)(a:ALot')(amount:Int):Option zae:=W.call (zal W amount) fun v1=>W.call (zmr W v1 (IntKind.u64.wrap a.2.1)) fun v2=>some v2
abbrev zyd:=zcb stdW
def zbn(W:Wd)(a:zae)(b:zae):Option Int:=W.call (zdh W a b) fun v1=>
 W.cnd ((v1.2.1.length:Int)==0) (some 0)
 (
 W.cnd v1.1 (some (-1))
  (some 1))
abbrev zuz:=zbn stdW
def zhq(W:Wd)(l:List ALot')(asset:Int)(tag:Int):Option Int:=
 W.loop (fun (z1:Int×Unit) again2=>
 W.cnd (decide (z1.1<(l.length:Int))) (
  W.join (fun (z3:Bool×Unit)=>
  W.cnd z3.1 (W.idx l z1.1 fun x4=>some x4.2.2.1)
   ((again2 ((IntKind.i64.wrap (z1.1+1)),()))))
  fun k5=>W.idx l z1.1 fun x6=>
  W.cnd (x6.1==asset) (W.idx l z1.1 fun x7=>(k5 ((x7.2.1==tag),())))
   ((k5 (false,()))))
  (some 0))
 (0,())
abbrev ref18_Get:=zhq stdW
def zew(W:Wd)(l:List ALot')(x:ALot'):Option (List ALot'):=
 W.loop (fun (z1:Bool×Int×List ALot'×Unit) again2=>
 W.cnd (decide (z1.2.1<(l.length:Int))) (
  W.join (fun (z3:S16)=>(again2 (z3.1,((IntKind.i64.wrap (z1.2.1+1)),z3.2))))
  fun k4=>
  W.join (fun (z5:S16)=>
   W.join (fun (z6:S16)=>
   W.cnd z6.1 (W.idx l z1.2.1 fun x7=>W.room (z6.2.1.length+(x7::[]).length) 24 ((k4 (z5.1,((z6.2.1++(x7::[])),())))))
    ((k4 (z5.1,z6.2))))
   fun k8=>W.idx l z1.2.1 fun x9=>
   W.cnd (x9.1 != x.1) ((k8 (true,z5.2)))
    (W.idx l z1.2.1 fun x10=>(k8 ((x10.2.1 != x.2.1),z5.2))))
   fun k11=>
   W.join (fun (z12:S16)=>
   W.cnd z12.1 (W.room (z12.2.1.length+(x::[]).length) 24 ((k11 (true,((z12.2.1++(x::[])),())))))
    ((k11 (z1.1,z12.2))))
   fun k13=>
   W.cnd (!z1.1) (W.idx l z1.2.1 fun x14=>W.call (zfz W x14 x) fun v15=>(k13 ((!v15),z1.2.2)))
    ((k13 (false,z1.2.2))))
  (
  W.join (fun (z16:S22)=>some z16.1)
  fun k17=>
  W.cnd (!z1.1) (W.room (z1.2.2.1.length+(x::[]).length) 24 ((k17 ((z1.2.2.1++(x::[])),()))))
   ((k17 z1.2.2))))
 ((x.2.2.1==0),(0,([],())))
abbrev ycj:=zew stdW
def zik(W:Wd)(l:List ALot')(x:ALot'):Option ((List ALot')×Int×Unit):=W.call (zgt W l) fun v1=>
 W.cnd (!v1) (some ([],(3,())))
 (W.call (zfy W x) fun v2=>
 W.cnd (!v2) (some ([],(2,())))
  (W.call (zhq W l x.1 x.2.1) fun v3=>
  W.cnd (decide (v3<x.2.2.1)) (some ([],(23,())))
  (W.call (zew W l (x.1,(x.2.1,((IntKind.i64.wrap (v3 - x.2.2.1)),())))) fun v4=>some (v4,(0,())))))
abbrev ref18_Take:=zik stdW
def zfx(W:Wd)(l:List AHold')(u:AUnit')(all:List ALot'):Option (List AHold'):=
 W.join (fun (z1:S19)=>
 W.join (fun (z2:S27)=>
  W.join (fun (z3:S19)=>W.bnd z3.1 l.length fun h4=>W.room (z3.2.1.length+((l.take l.length).drop h4).length) 40 (some (z3.2.1++((l.take l.length).drop h4))))
  fun k5=>
  W.join (fun (z6:S18)=>
   W.cnd z6.1 ((k5 ((IntKind.i64.wrap (z1.1+1)),z6.2)))
   ((k5 (z1.1,z6.2))))
   fun k7=>
   W.cnd (decide (z1.1<(l.length:Int))) (W.idx l z1.1 fun x8=>(k7 ((Go.Vc.notIf false ((x8.1.1==u.1)&&(x8.1.2.1==u.2.1))),z2)))
   ((k7 (false,z2))))
  fun k9=>
  W.cnd (decide (0<(all.length:Int))) (W.room (z1.2.1.length+((u,(all,()))::[]).length) 40 ((k9 ((z1.2.1++((u,(all,()))::[])),()))))
  ((k9 z1.2)))
 fun k10=>
 W.loop (fun (z11:S19) again12=>
  W.cnd (decide (z11.1<(l.length:Int))) (W.idx l z11.1 fun x13=>W.call (zdu W x13.1 u) fun v14=>
  W.cnd v14 (W.idx l z11.1 fun x15=>W.room (z11.2.1.length+(x15::[]).length) 40 ((again12 ((IntKind.i64.wrap (z11.1+1)),((z11.2.1++(x15::[])),())))))
   ((k10 z11)))
  ((k10 z11)))
  (0,([],()))
abbrev ref26_With:=zfx stdW
def zii(W:Wd)(l:List AHold')(u:AUnit')(x:ALot'):Option ((List AHold')×Int×Unit):=W.call (zgs W l) fun v1=>
 W.cnd (!v1) (some ([],(3,())))
 (W.call (zdk W l u) fun v2=>W.call (zik W v2 x) fun v3=>
 W.cnd (v3.2.1 != 0) (some ([],v3.2))
  (W.call (zfx W l u v3.1) fun v4=>some (v4,(0,()))))
abbrev ref26_Take:=zii stdW
def zkj(W:Wd)(l:List ALot')(x:ALot'):Option ((List ALot')×Int×Unit):=W.call (zgt W l) fun v1=>
 W.cnd (!v1) (some ([],(3,())))
 (W.call (zfy W x) fun v2=>
 W.cnd (!v2) (some ([],(2,())))
  (W.call (zhq W l x.1 x.2.1) fun v3=>W.both (W.call (zal W v3) fun v4=>W.both (W.call (zal W x.2.2.1) fun v5=>W.two (W.call (zay W v4 v5) fun v6=>W.call (zap W v6) fun v7=>
   W.cnd (!v7) (some ([],(7,())))
    (
    W.join (fun (z8:Bool×Unit)=>
    W.cnd z8.1 (some ([],(25,())))
     (W.call (zag W v6) fun v9=>W.call (zew W l (x.1,(x.2.1,(v9,())))) fun v10=>some (v10,(0,()))))
    fun k11=>
    W.cnd (v3==0) ((k11 (((l.length:Int)==16),())))
     ((k11 (false,())))))) (W.call (zal W x.2.2.1) fun v18=>W.call (zay W v4 v18) fun v19=>W.call (zap W v19) fun v20=>
   W.cnd (!v20) (some ([],(7,())))
   (
   W.join (fun (z21:Bool×Unit)=>
    W.cnd z21.1 (some ([],(25,())))
    (W.call (zag W v19) fun v22=>W.call (zew W l (x.1,(x.2.1,(v22,())))) fun v23=>some (v23,(0,()))))
    fun k24=>
    W.cnd (v3==0) ((k24 (((l.length:Int)==16),())))
    ((k24 (false,())))))) (W.call (zal W v3) fun v25=>W.call (zal W x.2.2.1) fun v26=>W.call (zay W v25 v26) fun v27=>W.call (zap W v27) fun v28=>
  W.cnd (!v28) (some ([],(7,())))
   (
   W.join (fun (z29:Bool×Unit)=>
   W.cnd z29.1 (some ([],(25,())))
    (W.call (zag W v27) fun v30=>W.call (zew W l (x.1,(x.2.1,(v30,())))) fun v31=>some (v31,(0,()))))
   fun k32=>
   W.cnd (v3==0) ((k32 (((l.length:Int)==16),())))
    ((k32 (false,())))))))
abbrev ref18_Put:=zkj stdW
def zkh(W:Wd)(l:List AHold')(u:AUnit')(x:ALot'):Option ((List AHold')×Int×Unit):=W.call (zgs W l) fun v1=>
 W.cnd (!v1) (some ([],(3,())))
 (W.call (zdk W l u) fun v2=>W.call (zkj W v2 x) fun v3=>
 W.cnd (v3.2.1 != 0) (some ([],v3.2))
  (W.call (zfx W l u v3.1) fun v4=>some (v4,(0,()))))
abbrev ych:=zkh stdW
def zca(W:Wd)(l:List AHold')(from_:AUnit')(to_:AUnit')(x:ALot')(tag:Int):Option ((List AHold')×Int×Unit):=W.call (zgs W l) fun v1=>
 W.cnd (!v1) (some ([],(3,())))
 (
 W.cnd (Go.Vc.notIf false ((from_.1==to_.1)&&(from_.2.1==to_.2.1))) (some ([],(24,())))
  (W.call (zii W l from_ x) fun v2=>
  W.cnd (v2.2.1 != 0) (some ([],v2.2))
  (W.call (zkh W v2.1 to_ (x.1,(tag,x.2.2))) fun v3=>some v3)))
abbrev zxz:=zca stdW
def zgu(W:Wd)(l:List AFlow'):Option (List AUnit'):=
 W.loop (fun (z1:List AUnit'×Int×Unit) again2=>
 W.cnd (decide (z1.2.1<(l.length:Int))) (
  W.join (fun (z3:List AUnit'×Unit)=>(again2 (z3.1,((IntKind.i64.wrap (z1.2.1+1)),()))))
  fun k4=>W.idx l z1.2.1 fun x5=>
  W.loop (fun (z6:Int×Bool×Int×Unit) again7=>
   W.cnd (decide (z6.2.2.1<(z1.1.length:Int))) (
   W.join (fun (z8:Int×Bool×Unit)=>(again7 (z8.1,(z8.2.1,((IntKind.i64.wrap (z6.2.2.1+1)),())))))
    fun k9=>
    W.join (fun (z10:Bool×Unit)=>W.idx z1.1 z6.2.2.1 fun x11=>W.call (zdu W x11 x5.1) fun v12=>
    W.cnd v12 ((k9 ((IntKind.i64.wrap (z6.2.2.1+1)),z10)))
     ((k9 (z6.1,z10))))
    fun k13=>
    W.cnd z6.2.1 ((k13 (true,())))
     (W.idx z1.1 z6.2.2.1 fun x14=>(k13 ((Go.Vc.notIf false ((x14.1==x5.1.1)&&(x14.2.1==x5.1.2.1))),()))))
   (
   W.cnd (!z6.2.1) (W.bnd z6.1 z1.1.length fun h15=>W.room (z1.1.take h15).length 16 (W.room ((z1.1.take h15).length+(x5.1::[]).length) 16 (W.bnd z6.1 z1.1.length fun h16=>W.room (((z1.1.take h15)++(x5.1::[])).length+((z1.1.take z1.1.length).drop h16).length) 16 ((k4 ((((z1.1.take h15)++(x5.1::[]))++((z1.1.take z1.1.length).drop h16)),()))))))
    ((k4 (z1.1,())))))
   (0,(false,(0,()))))
  (some z1.1))
 ([],(0,()))
abbrev yfh:=zgu stdW
def zkk(W:Wd)(l:List AFlow')(flows:List AFlow'):Option ((List AFlow')×Int×Unit):=W.call (zkl W l) fun v1=>
 W.cnd (!v1) (some ([],(3,())))
 (W.room l.length 24 (W.room (l.length+flows.length) 24 (W.call (zgu W (l++flows)) fun v2=>
 W.loop (fun (z3:S30) again4=>
  W.cnd (decide (z3.1<(v2.length:Int))) (
  W.join (fun (z5:List AFlow'×Unit)=>(again4 ((IntKind.i64.wrap (z3.1+1)),z5)))
   fun k6=>
   W.loop (fun (z7:Int×Bool×List (Int)×List AFlow'×Unit) again8=>
   W.cnd (decide (z7.1<((l++flows).length:Int))) (
    W.join (fun (z9:Bool×List (Int)×List AFlow'×Unit)=>(again8 ((IntKind.i64.wrap (z7.1+1)),z9)))
    fun k10=>W.idx (l++flows) z7.1 fun x11=>W.idx v2 z3.1 fun x12=>
    W.cnd (Go.Vc.notIf false ((x11.1.1==x12.1)&&(x11.1.2.1==x12.2.1))) (W.idx (l++flows) z7.1 fun x13=>W.two (W.call (zal W x13.2.1) fun v14=>W.call (zay W (z7.2.1,(z7.2.2.1,())) v14) fun v15=>(k10 (v15.1,(v15.2.1,z7.2.2.2)))))
     ((k10 z7.2)))
    (W.call (zap W (z7.2.1,(z7.2.2.1,()))) fun v18=>
    W.cnd (!v18) (some ([],(7,())))
    (W.call (zag W (z7.2.1,(z7.2.2.1,()))) fun v19=>
    W.cnd (v19 != 0) (W.idx v2 z3.1 fun x20=>W.call (zag W (z7.2.1,(z7.2.2.1,()))) fun v21=>W.room (z7.2.2.2.1.length+((x20,(v21,()))::[]).length) 24 ((k6 ((z7.2.2.2.1++((x20,(v21,()))::[])),()))))
     ((k6 z7.2.2.2)))))
   (0,(false,([],z3.2))))
  (some (z3.2.1,(0,()))))
  (0,([],())))))
abbrev ycn:=zkk stdW
def zau(W:Wd)(s:zad)(from_:AUnit')(to_:AUnit')(amount:Int):Option (zad×Int×Unit):=W.call (zkk W s.2.2.2.2.2.2.2.2.2.2.1 ((from_,((IntKind.i64.wrap (0 - amount)),()))::((to_,(amount,()))::[]))) fun v1=>
 W.cnd (v1.2.1 != 0) (some ((0,([],([],([],([],([],([],([],([],([],([],([],())))))))))))),v1.2))
 (some ((U10 s (v1.1,s.2.2.2.2.2.2.2.2.2.2.2)),(0,())))
abbrev zrl:=zau stdW
def zfv(W:Wd)(s:zad)(u:AUnit')(cash:Int):Option (zad×Int×Unit):=
 W.join (fun (z1:Bool×Unit)=>
 W.cnd z1.1 (some ((0,([],([],([],([],([],([],([],([],([],([],([],())))))))))))),(3,())))
  (
  W.cnd (Go.Vc.notIf false ((u.1==0)&&(u.2.1==1))) (some ((0,([],([],([],([],([],([],([],([],([],([],([],())))))))))))),(2,())))
  (W.call (zdk W s.2.2.2.2.2.2.2.2.2.2.2.1 u) fun v2=>
  W.loop (fun (z3:S1) again4=>
   W.cnd (decide (z3.1<(v2.length:Int))) (
   W.join (fun (z5:Int×List zbh×List AInst'×List ALot'×List zab×List zbi×List zbx×List AGive'×List APos'×List APos'×List AFlow'×List AHold'×Unit)=>(again4 ((IntKind.i64.wrap (z3.1+1)),z5)))
    fun k6=>W.both (W.call (zal W cash) fun v7=>W.both (W.call (zcw W z3.2.2.2.2.2.2.2.2.2.2.2.1 u) fun v8=>W.both (W.call (zal W v8) fun v9=>W.two (W.call (zdh W v7 v9) fun v10=>W.call (zap W v10) fun v11=>
      W.cnd (!v11) (some ((0,([],([],([],([],([],([],([],([],([],([],([],())))))))))))),(7,())))
      (W.call (zag W v10) fun v12=>
      W.cnd (decide (v12≤0)) ((k6 z3.2))
       (W.idx v2 z3.1 fun x13=>W.two (W.call (zdd W z3.2.2.2.2.1 x13.1) fun v14=>
       W.cnd (!v14.2.1) (some ((0,([],([],([],([],([],([],([],([],([],([],([],())))))))))))),(11,())))
        (
        W.cnd (v14.1.2.1==0) ((k6 z3.2))
        (W.idx v2 z3.1 fun x15=>W.both (W.call (zag W v10) fun v16=>W.two (W.call (zcb W v14.1 v16) fun v17=>
         W.join (fun (z18:S9)=>W.call (zbd W v14.1 z18.2.2.1) fun v19=>W.call (zap W v19) fun v20=>
          W.cnd (!v20) (some ((0,([],([],([],([],([],([],([],([],([],([],([],())))))))))))),(7,())))
          (W.call (zca W z3.2.2.2.2.2.2.2.2.2.2.2.2.1 u (0,(1,())) z18 0) fun v21=>
          W.cnd (v21.2.1 != 0) (some ((0,([],([],([],([],([],([],([],([],([],([],([],())))))))))))),v21.2))
           (W.both (W.call (zag W v19) fun v22=>W.two (W.call (zau W (U11 z3.2 (v21.1,())) (0,(1,())) u v22) fun v23=>
            W.cnd (v23.2.1 != 0) (some ((0,([],([],([],([],([],([],([],([],([],([],([],())))))))))))),v23.2))
            ((k6 v23.1)))) (W.call (zag W v19) fun v25=>W.call (zau W (U11 z3.2 (v21.1,())) (0,(1,())) u v25) fun v26=>
           W.cnd (v26.2.1 != 0) (some ((0,([],([],([],([],([],([],([],([],([],([],([],())))))))))))),v26.2))
            ((k6 v26.1))))))
          fun k27=>W.call (zal W x15.2.2.1) fun v28=>W.call (zbn W v17 v28) fun v29=>
          W.cnd (decide (v29<0)) (W.call (zag W v17) fun v30=>(k27 (x15.1,(x15.2.1,(v30,())))))
          ((k27 x15)))) (W.call (zag W v10) fun v45=>W.call (zcb W v14.1 v45) fun v46=>
         W.join (fun (z47:S9)=>W.call (zbd W v14.1 z47.2.2.1) fun v48=>W.call (zap W v48) fun v49=>
         W.cnd (!v49) (some ((0,([],([],([],([],([],([],([],([],([],([],([],())))))))))))),(7,())))
          (W.call (zca W z3.2.2.2.2.2.2.2.2.2.2.2.2.1 u (0,(1,())) z47 0) fun v50=>
          W.cnd (v50.2.1 != 0) (some ((0,([],([],([],([],([],([],([],([],([],([],([],())))))))))))),v50.2))
          (W.both (W.call (zag W v48) fun v51=>W.two (W.call (zau W (U11 z3.2 (v50.1,())) (0,(1,())) u v51) fun v52=>
           W.cnd (v52.2.1 != 0) (some ((0,([],([],([],([],([],([],([],([],([],([],([],())))))))))))),v52.2))
            ((k6 v52.1)))) (W.call (zag W v48) fun v54=>W.call (zau W (U11 z3.2 (v50.1,())) (0,(1,())) u v54) fun v55=>
           W.cnd (v55.2.1 != 0) (some ((0,([],([],([],([],([],([],([],([],([],([],([],())))))))))))),v55.2))
           ((k6 v55.1))))))
         fun k56=>W.call (zal W x15.2.2.1) fun v57=>W.call (zbn W v46 v57) fun v58=>
         W.cnd (decide (v58<0)) (W.call (zag W v46) fun v59=>(k56 (x15.1,(x15.2.1,(v59,())))))
          ((k56 x15)))))))))) (W.call (zal W v8) fun v202=>W.call (zdh W v7 v202) fun v203=>W.call (zap W v203) fun v204=>
     W.cnd (!v204) (some ((0,([],([],([],([],([],([],([],([],([],([],([],())))))))))))),(7,())))
      (W.call (zag W v203) fun v205=>
      W.cnd (decide (v205≤0)) ((k6 z3.2))
      (W.idx v2 z3.1 fun x206=>W.two (W.call (zdd W z3.2.2.2.2.1 x206.1) fun v207=>
       W.cnd (!v207.2.1) (some ((0,([],([],([],([],([],([],([],([],([],([],([],())))))))))))),(11,())))
       (
       W.cnd (v207.1.2.1==0) ((k6 z3.2))
        (W.idx v2 z3.1 fun x208=>W.both (W.call (zag W v203) fun v209=>W.two (W.call (zcb W v207.1 v209) fun v210=>
         W.join (fun (z211:S9)=>W.call (zbd W v207.1 z211.2.2.1) fun v212=>W.call (zap W v212) fun v213=>
         W.cnd (!v213) (some ((0,([],([],([],([],([],([],([],([],([],([],([],())))))))))))),(7,())))
          (W.call (zca W z3.2.2.2.2.2.2.2.2.2.2.2.2.1 u (0,(1,())) z211 0) fun v214=>
          W.cnd (v214.2.1 != 0) (some ((0,([],([],([],([],([],([],([],([],([],([],([],())))))))))))),v214.2))
          (W.both (W.call (zag W v212) fun v215=>W.two (W.call (zau W (U11 z3.2 (v214.1,())) (0,(1,())) u v215) fun v216=>
           W.cnd (v216.2.1 != 0) (some ((0,([],([],([],([],([],([],([],([],([],([],([],())))))))))))),v216.2))
            ((k6 v216.1)))) (W.call (zag W v212) fun v218=>W.call (zau W (U11 z3.2 (v214.1,())) (0,(1,())) u v218) fun v219=>
           W.cnd (v219.2.1 != 0) (some ((0,([],([],([],([],([],([],([],([],([],([],([],())))))))))))),v219.2))
           ((k6 v219.1))))))
         fun k220=>W.call (zal W x208.2.2.1) fun v221=>W.call (zbn W v210 v221) fun v222=>
         W.cnd (decide (v222<0)) (W.call (zag W v210) fun v223=>(k220 (x208.1,(x208.2.1,(v223,())))))
          ((k220 x208)))) (W.call (zag W v203) fun v238=>W.call (zcb W v207.1 v238) fun v239=>
        W.join (fun (z240:S9)=>W.call (zbd W v207.1 z240.2.2.1) fun v241=>W.call (zap W v241) fun v242=>
         W.cnd (!v242) (some ((0,([],([],([],([],([],([],([],([],([],([],([],())))))))))))),(7,())))
         (W.call (zca W z3.2.2.2.2.2.2.2.2.2.2.2.2.1 u (0,(1,())) z240 0) fun v243=>
         W.cnd (v243.2.1 != 0) (some ((0,([],([],([],([],([],([],([],([],([],([],([],())))))))))))),v243.2))
          (W.both (W.call (zag W v241) fun v244=>W.two (W.call (zau W (U11 z3.2 (v243.1,())) (0,(1,())) u v244) fun v245=>
           W.cnd (v245.2.1 != 0) (some ((0,([],([],([],([],([],([],([],([],([],([],([],())))))))))))),v245.2))
           ((k6 v245.1)))) (W.call (zag W v241) fun v247=>W.call (zau W (U11 z3.2 (v243.1,())) (0,(1,())) u v247) fun v248=>
          W.cnd (v248.2.1 != 0) (some ((0,([],([],([],([],([],([],([],([],([],([],([],())))))))))))),v248.2))
           ((k6 v248.1))))))
         fun k249=>W.call (zal W x208.2.2.1) fun v250=>W.call (zbn W v239 v250) fun v251=>
         W.cnd (decide (v251<0)) (W.call (zag W v239) fun v252=>(k249 (x208.1,(x208.2.1,(v252,())))))
         ((k249 x208)))))))))) (W.call (zcw W z3.2.2.2.2.2.2.2.2.2.2.2.1 u) fun v299=>W.call (zal W v299) fun v300=>W.call (zdh W v7 v300) fun v301=>W.call (zap W v301) fun v302=>
     W.cnd (!v302) (some ((0,([],([],([],([],([],([],([],([],([],([],([],())))))))))))),(7,())))
     (W.call (zag W v301) fun v303=>
     W.cnd (decide (v303≤0)) ((k6 z3.2))
      (W.idx v2 z3.1 fun x304=>W.two (W.call (zdd W z3.2.2.2.2.1 x304.1) fun v305=>
      W.cnd (!v305.2.1) (some ((0,([],([],([],([],([],([],([],([],([],([],([],())))))))))))),(11,())))
       (
       W.cnd (v305.1.2.1==0) ((k6 z3.2))
       (W.idx v2 z3.1 fun x306=>W.both (W.call (zag W v301) fun v307=>W.two (W.call (zcb W v305.1 v307) fun v308=>
        W.join (fun (z309:S9)=>W.call (zbd W v305.1 z309.2.2.1) fun v310=>W.call (zap W v310) fun v311=>
         W.cnd (!v311) (some ((0,([],([],([],([],([],([],([],([],([],([],([],())))))))))))),(7,())))
         (W.call (zca W z3.2.2.2.2.2.2.2.2.2.2.2.2.1 u (0,(1,())) z309 0) fun v312=>
         W.cnd (v312.2.1 != 0) (some ((0,([],([],([],([],([],([],([],([],([],([],([],())))))))))))),v312.2))
          (W.both (W.call (zag W v310) fun v313=>W.two (W.call (zau W (U11 z3.2 (v312.1,())) (0,(1,())) u v313) fun v314=>
           W.cnd (v314.2.1 != 0) (some ((0,([],([],([],([],([],([],([],([],([],([],([],())))))))))))),v314.2))
           ((k6 v314.1)))) (W.call (zag W v310) fun v316=>W.call (zau W (U11 z3.2 (v312.1,())) (0,(1,())) u v316) fun v317=>
          W.cnd (v317.2.1 != 0) (some ((0,([],([],([],([],([],([],([],([],([],([],([],())))))))))))),v317.2))
           ((k6 v317.1))))))
         fun k318=>W.call (zal W x306.2.2.1) fun v319=>W.call (zbn W v308 v319) fun v320=>
         W.cnd (decide (v320<0)) (W.call (zag W v308) fun v321=>(k318 (x306.1,(x306.2.1,(v321,())))))
         ((k318 x306)))) (W.call (zag W v301) fun v336=>W.call (zcb W v305.1 v336) fun v337=>
        W.join (fun (z338:S9)=>W.call (zbd W v305.1 z338.2.2.1) fun v339=>W.call (zap W v339) fun v340=>
        W.cnd (!v340) (some ((0,([],([],([],([],([],([],([],([],([],([],([],())))))))))))),(7,())))
         (W.call (zca W z3.2.2.2.2.2.2.2.2.2.2.2.2.1 u (0,(1,())) z338 0) fun v341=>
         W.cnd (v341.2.1 != 0) (some ((0,([],([],([],([],([],([],([],([],([],([],([],())))))))))))),v341.2))
         (W.both (W.call (zag W v339) fun v342=>W.two (W.call (zau W (U11 z3.2 (v341.1,())) (0,(1,())) u v342) fun v343=>
          W.cnd (v343.2.1 != 0) (some ((0,([],([],([],([],([],([],([],([],([],([],([],())))))))))))),v343.2))
           ((k6 v343.1)))) (W.call (zag W v339) fun v345=>W.call (zau W (U11 z3.2 (v341.1,())) (0,(1,())) u v345) fun v346=>
          W.cnd (v346.2.1 != 0) (some ((0,([],([],([],([],([],([],([],([],([],([],([],())))))))))))),v346.2))
          ((k6 v346.1))))))
        fun k347=>W.call (zal W x306.2.2.1) fun v348=>W.call (zbn W v337 v348) fun v349=>
        W.cnd (decide (v349<0)) (W.call (zag W v337) fun v350=>(k347 (x306.1,(x306.2.1,(v350,())))))
         ((k347 x306)))))))))) (W.call (zal W cash) fun v397=>W.call (zcw W z3.2.2.2.2.2.2.2.2.2.2.2.1 u) fun v398=>W.call (zal W v398) fun v399=>W.call (zdh W v397 v399) fun v400=>W.call (zap W v400) fun v401=>
    W.cnd (!v401) (some ((0,([],([],([],([],([],([],([],([],([],([],([],())))))))))))),(7,())))
     (W.call (zag W v400) fun v402=>
     W.cnd (decide (v402≤0)) ((k6 z3.2))
     (W.idx v2 z3.1 fun x403=>W.two (W.call (zdd W z3.2.2.2.2.1 x403.1) fun v404=>
      W.cnd (!v404.2.1) (some ((0,([],([],([],([],([],([],([],([],([],([],([],())))))))))))),(11,())))
      (
      W.cnd (v404.1.2.1==0) ((k6 z3.2))
       (W.idx v2 z3.1 fun x405=>W.both (W.call (zag W v400) fun v406=>W.two (W.call (zcb W v404.1 v406) fun v407=>
        W.join (fun (z408:S9)=>W.call (zbd W v404.1 z408.2.2.1) fun v409=>W.call (zap W v409) fun v410=>
        W.cnd (!v410) (some ((0,([],([],([],([],([],([],([],([],([],([],([],())))))))))))),(7,())))
         (W.call (zca W z3.2.2.2.2.2.2.2.2.2.2.2.2.1 u (0,(1,())) z408 0) fun v411=>
         W.cnd (v411.2.1 != 0) (some ((0,([],([],([],([],([],([],([],([],([],([],([],())))))))))))),v411.2))
         (W.both (W.call (zag W v409) fun v412=>W.two (W.call (zau W (U11 z3.2 (v411.1,())) (0,(1,())) u v412) fun v413=>
          W.cnd (v413.2.1 != 0) (some ((0,([],([],([],([],([],([],([],([],([],([],([],())))))))))))),v413.2))
           ((k6 v413.1)))) (W.call (zag W v409) fun v415=>W.call (zau W (U11 z3.2 (v411.1,())) (0,(1,())) u v415) fun v416=>
          W.cnd (v416.2.1 != 0) (some ((0,([],([],([],([],([],([],([],([],([],([],([],())))))))))))),v416.2))
          ((k6 v416.1))))))
        fun k417=>W.call (zal W x405.2.2.1) fun v418=>W.call (zbn W v407 v418) fun v419=>
        W.cnd (decide (v419<0)) (W.call (zag W v407) fun v420=>(k417 (x405.1,(x405.2.1,(v420,())))))
         ((k417 x405)))) (W.call (zag W v400) fun v435=>W.call (zcb W v404.1 v435) fun v436=>
       W.join (fun (z437:S9)=>W.call (zbd W v404.1 z437.2.2.1) fun v438=>W.call (zap W v438) fun v439=>
        W.cnd (!v439) (some ((0,([],([],([],([],([],([],([],([],([],([],([],())))))))))))),(7,())))
        (W.call (zca W z3.2.2.2.2.2.2.2.2.2.2.2.2.1 u (0,(1,())) z437 0) fun v440=>
        W.cnd (v440.2.1 != 0) (some ((0,([],([],([],([],([],([],([],([],([],([],([],())))))))))))),v440.2))
         (W.both (W.call (zag W v438) fun v441=>W.two (W.call (zau W (U11 z3.2 (v440.1,())) (0,(1,())) u v441) fun v442=>
          W.cnd (v442.2.1 != 0) (some ((0,([],([],([],([],([],([],([],([],([],([],([],())))))))))))),v442.2))
          ((k6 v442.1)))) (W.call (zag W v438) fun v444=>W.call (zau W (U11 z3.2 (v440.1,())) (0,(1,())) u v444) fun v445=>
         W.cnd (v445.2.1 != 0) (some ((0,([],([],([],([],([],([],([],([],([],([],([],())))))))))))),v445.2))
          ((k6 v445.1))))))
        fun k446=>W.call (zal W x405.2.2.1) fun v447=>W.call (zbn W v436 v447) fun v448=>
        W.cnd (decide (v448<0)) (W.call (zag W v436) fun v449=>(k446 (x405.1,(x405.2.1,(v449,())))))
        ((k446 x405))))))))))
   (some (z3.2,(0,()))))
   (0,s))))
 fun k496=>W.call (zkl W s.2.2.2.2.2.2.2.2.2.2.1) fun v497=>
 W.cnd (!v497) ((k496 (true,())))
  (W.call (zgs W s.2.2.2.2.2.2.2.2.2.2.2.1) fun v498=>(k496 ((!v498),())))
abbrev zxw:=zfv stdW
def zim(W:Wd)(a:List AFlow')(b:List AFlow'):Option Bool:=
 W.cnd ((a.length:Int) != (b.length:Int)) (some false)
 (
 W.loop (fun (z1:Int×Unit) again2=>
  W.cnd (decide (z1.1<(a.length:Int))) (W.idx a z1.1 fun x3=>W.idx b z1.1 fun x4=>
  W.cnd (Go.Vc.notIf true ((x3.1.1==x4.1.1)&&((x3.1.2.1==x4.1.2.1)&&(x3.2.1==x4.2.1)))) (some false)
   ((again2 ((IntKind.i64.wrap (z1.1+1)),()))))
  (some true))
  (0,()))
abbrev zyb:=zim stdW
def zil(W:Wd)(a:List ALot')(b:List ALot'):Option Bool:=
 W.cnd ((a.length:Int) != (b.length:Int)) (some false)
 (
 W.loop (fun (z1:Int×Unit) again2=>
  W.cnd (decide (z1.1<(a.length:Int))) (W.idx a z1.1 fun x3=>W.idx b z1.1 fun x4=>
  W.cnd (Go.Vc.notIf true ((x3.1==x4.1)&&((x3.2.1==x4.2.1)&&(x3.2.2.1==x4.2.2.1)))) (some false)
   ((again2 ((IntKind.i64.wrap (z1.1+1)),()))))
  (some true))
  (0,()))
abbrev ref18_Same:=zil stdW
def zij(W:Wd)(a:List AHold')(b:List AHold'):Option Bool:=
 W.cnd ((a.length:Int) != (b.length:Int)) (some false)
 (
 W.loop (fun (z1:Int×Unit) again2=>
  W.cnd (decide (z1.1<(a.length:Int))) (
  W.join (fun (z3:Bool×Unit)=>
   W.cnd z3.1 (some false)
   ((again2 ((IntKind.i64.wrap (z1.1+1)),()))))
   fun k4=>W.idx a z1.1 fun x5=>W.idx b z1.1 fun x6=>
   W.cnd (Go.Vc.notIf true ((x5.1.1==x6.1.1)&&(x5.1.2.1==x6.1.2.1))) ((k4 (true,())))
   (W.idx a z1.1 fun x7=>W.idx b z1.1 fun x8=>W.call (zil W x7.2.1 x8.2.1) fun v9=>(k4 ((!v9),()))))
  (some true))
  (0,()))
abbrev zxy:=zij stdW
def zih(W:Wd)(a:zad)(b:zad):Option Bool:=W.call (zim W a.2.2.2.2.2.2.2.2.2.2.1 b.2.2.2.2.2.2.2.2.2.2.1) fun v1=>
 W.cnd v1 (W.call (zij W a.2.2.2.2.2.2.2.2.2.2.2.1 b.2.2.2.2.2.2.2.2.2.2.2.1) fun v2=>some v2)
 (some false)
abbrev zxx:=zih stdW
def zsi(W:Wd):Option AUnit':=some (0,(0,()))
abbrev fall_Fund:=zsi stdW
def zcd(W:Wd)(s:List Int):Option (List Int):=W.nilq (List.isEmpty s) fun g1=>
 W.cnd (Go.Vc.notIf false g1) (some [])
 (W.room ((0:Nat)+s.length) 8 (some ([]++s)))
abbrev zos:=zcd stdW
def znm(W:Wd)(a:zab):Option zab:=W.call (zcd W a.2.2.2.1) fun v1=>some (U3 a (v1,()))
abbrev ykx:=znm stdW
def zhh(W:Wd)(l:List zab):Option (List zab):=
 W.loop (fun (z1:S28) again2=>
 W.cnd (decide (z1.1<(l.length:Int))) (W.idx l z1.1 fun x3=>W.call (znm W x3) fun v4=>W.room (z1.2.1.length+(v4::[]).length) 48 ((again2 ((IntKind.i64.wrap (z1.1+1)),((z1.2.1++(v4::[])),())))))
  (some z1.2.1))
 (0,([],()))
abbrev yhp:=zhh stdW
def zhz(W:Wd)(free10:Int)(a:zab):Option (Bool×(Int×Unit)):=some ((a.2.1 != free10),(free10,()))
abbrev acct_Of_1:=zhz stdW
def zak(W:Wd)(f0_0:Int)(s:List zab):Option (Int×(Int×Unit)):=
 W.loop (fun (z1:S12) again2=>
 W.cnd (decide (z1.1<(s.length:Int))) (W.idx s z1.1 fun x3=>W.call (zhz W z1.2.1 x3) fun v4=>
  W.cnd v4.1 (some (z1.1,v4.2))
  ((again2 ((IntKind.i64.wrap (z1.1+1)),v4.2))))
  (some ((-1),z1.2)))
 (0,(f0_0,()))
abbrev zbg:=zak stdW
def zam(W:Wd)(del0_0:Int)(s:List zab):Option ((List zab)×(Int×Unit)):=W.call (zak W del0_0 s) fun v1=>
 W.cnd (v1.1==(-1)) (some (s,v1.2))
 (
 W.loop (fun (z2:Int×Int×Int×List zab×Unit) again3=>
  W.cnd (decide (z2.2.1<(z2.2.2.2.1.length:Int))) (
  W.join (fun (z4:Int×Int×List zab×Unit)=>(again3 (z4.1,((IntKind.i64.wrap (z2.2.1+1)),z4.2))))
   fun k5=>W.idx z2.2.2.2.1 z2.2.1 fun x6=>W.nth z2.2.2.2.1 (Int.toNat z2.2.1) fun x7=>W.call (zhz W z2.2.2.1 x7) fun v8=>
   W.cnd (!v8.1) (W.idx z2.2.2.2.1 z2.1 fun x9=>W.nth z2.2.2.2.1 (Int.toNat z2.1) fun x10=>(k5 ((IntKind.i64.wrap (z2.1+1)),(v8.2.1,((List.set z2.2.2.2.1 (Int.toNat z2.1) x7),())))))
   ((k5 (z2.1,(v8.2.1,z2.2.2.2)))))
  (W.bnd z2.1 z2.2.2.2.1.length fun h11=>W.bnd (h11:Int) z2.2.2.2.1.length fun h12=>W.bnd z2.1 ((z2.2.2.2.1.take h12)++(List.replicate (z2.2.2.2.1.length - h12) (0,(0,(0,([],())))))).length fun h13=>some ((((z2.2.2.2.1.take h12)++(List.replicate (z2.2.2.2.1.length - h12) (0,(0,(0,([],())))))).take h13),(z2.2.2.1,()))))
  (v1.1,((IntKind.i64.wrap (v1.1+1)),(v1.2.1,(s,())))))
abbrev zcq:=zam stdW
def zra(W:Wd)(l:List zab)(member:Int):Option (List zab):=W.call (zhh W l) fun v1=>W.call (zam W member v1) fun v2=>some v2.1
abbrev acct_Of:=zra stdW
def zet(W:Wd)(a:zab):Option (List AUnit'):=
 W.cnd (a.2.2.1==1) (some ((a.1,(0,()))::[]))
 (
 W.loop (fun (z1:S15) again2=>
  W.cnd (decide (z1.1<(a.2.2.2.1.length:Int))) (W.idx a.2.2.2.1 z1.1 fun x3=>W.room (z1.2.1.length+((a.1,(x3,()))::[]).length) 16 ((again2 ((IntKind.i64.wrap (z1.1+1)),((z1.2.1++((a.1,(x3,()))::[])),())))))
  (some z1.2.1))
  (0,([],())))
abbrev zhy:=zet stdW
def ziv(W:Wd)(l:List zab):Option ((List AUnit')×(List AUnit')×Unit):=
 W.loop (fun (z1:S20) again2=>
 W.cnd (decide (z1.1<(l.length:Int))) (
  W.join (fun (z3:S24)=>(again2 ((IntKind.i64.wrap (z1.1+1)),z3)))
  fun k4=>W.idx l z1.1 fun x5=>W.call (zet W x5) fun v6=>W.room (z1.2.1.length+v6.length) 16 (
  W.cnd (x5.2.2.1==1) (W.call (zet W x5) fun v7=>W.room (z1.2.2.1.length+v7.length) 16 ((k4 ((z1.2.1++v6),((z1.2.2.1++v7),())))))
   ((k4 ((z1.2.1++v6),z1.2.2)))))
  (some z1.2))
 (0,([],([],())))
abbrev fall_units:=ziv stdW
def znk(W:Wd)(s:zad)(u:AUnit'):Option (zad×(List zav)×Int×Unit):=W.call (zfc W s u) fun v1=>
 W.cnd (v1.2.1 != 0) (some ((0,([],([],([],([],([],([],([],([],([],([],([],())))))))))))),([],v1.2)))
 (W.call (zhv W s u 0) fun v2=>
 W.cnd (v2.2.1 != 0) (some ((0,([],([],([],([],([],([],([],([],([],([],([],())))))))))))),([],v2.2)))
  (W.call (zfc W v2.1 u) fun v3=>
  W.cnd (v1.1==v3.1) (some (v2.1,([],(0,()))))
  (W.two (some (v2.1,(((u,(u,((IntKind.i64.wrap (v1.1 - v3.1)),())))::[]),(0,())))))))
abbrev yko:=znk stdW
def zde(W:Wd)(r0:Int)(r1:List zbh)(r2:List AInst')(r3:List ALot')(r4:List zab)(r5:List zbi)(r6:List zbx)(r7:List AGive')(r8:List APos')(r9:List APos')(r10:List AFlow')(r11:List AHold')(r12:List zav)(r13:Int)(s:zad)(debits:List zav)(e:Int):Option (Unit×(Int×(List zbh)×(List AInst')×(List ALot')×(List zab)×(List zbi)×(List zbx)×(List AGive')×(List APos')×(List APos')×(List AFlow')×(List AHold')×(List zav)×Int×Unit)):=
 W.cnd (e==0) (W.room (r12.length+debits.length) 40 (some ((),(U12 s ((r12++debits),(e,()))))))
 (some ((),(r0,(r1,(r2,(r3,(r4,(r5,(r6,(r7,(r8,(r9,(r10,(r11,(r12,(e,()))))))))))))))))
abbrev zhm:=zde stdW
def zfo(W:Wd)(r0:Int)(r1:List zbh)(r2:List AInst')(r3:List ALot')(r4:List zab)(r5:List zbi)(r6:List zbx)(r7:List AGive')(r8:List APos')(r9:List APos')(r10:List AFlow')(r11:List AHold')(r12:List zav)(r13:Int)(l:List AUnit'):Option (Unit×(Int×(List zbh)×(List AInst')×(List ALot')×(List zab)×(List zbi)×(List zbx)×(List AGive')×(List APos')×(List APos')×(List AFlow')×(List AHold')×(List zav)×Int×Unit)):=
 W.loop (fun (z1:S0) again2=>
 W.cnd (decide (z1.1<(l.length:Int))) (
  W.join (fun (z3:S3)=>(again2 ((IntKind.i64.wrap (z1.1+1)),z3)))
  fun k4=>W.idx l z1.1 fun x5=>
  W.cnd (z1.2.2.2.2.2.2.2.2.2.2.2.2.2.1==0) (W.call (znk W (U12 z1.2 ()) x5) fun v6=>W.call (zde W z1.2.1 z1.2.2.1 z1.2.2.2.1 z1.2.2.2.2.1 z1.2.2.2.2.2.1 z1.2.2.2.2.2.2.1 z1.2.2.2.2.2.2.2.1 z1.2.2.2.2.2.2.2.2.1 z1.2.2.2.2.2.2.2.2.2.1 z1.2.2.2.2.2.2.2.2.2.2.1 z1.2.2.2.2.2.2.2.2.2.2.2.1 z1.2.2.2.2.2.2.2.2.2.2.2.2.1 z1.2.2.2.2.2.2.2.2.2.2.2.2.2.2.1 z1.2.2.2.2.2.2.2.2.2.2.2.2.2.1 v6.1 v6.2.1 v6.2.2.1) fun v7=>(k4 (U12 v7.2 (v7.2.2.2.2.2.2.2.2.2.2.2.2.2.2.1,(v7.2.2.2.2.2.2.2.2.2.2.2.2.2.1,())))))
   ((k4 z1.2)))
  (some ((),(U12 z1.2 (z1.2.2.2.2.2.2.2.2.2.2.2.2.2.2.1,(z1.2.2.2.2.2.2.2.2.2.2.2.2.2.1,()))))))
 (0,(r0,(r1,(r2,(r3,(r4,(r5,(r6,(r7,(r8,(r9,(r10,(r11,(r13,(r12,())))))))))))))))
abbrev zte:=zfo stdW
def zcf(W:Wd)(s:zad)(l:List AUnit'):Option (((List Int)×Int×Int×Unit)×Unit):=
 W.loop (fun (z1:S8) again2=>
 W.cnd (decide (z1.1<(l.length:Int))) (W.idx l z1.1 fun x3=>W.call (zfc W s x3) fun v4=>
  W.cnd (v4.2.1 != 0) (some (([],(0,v4.2)),()))
  (W.room (z1.2.1.length+(v4.1::[]).length) 8 ((again2 ((IntKind.i64.wrap (z1.1+1)),((z1.2.1++(v4.1::[])),()))))))
  (W.call (zen W z1.2.1) fun v5=>some ((z1.2.1,v5),())))
 (0,([],()))
abbrev zpn:=zcf stdW
def zle(W:Wd)(s:zad)(u:AUnit'):Option (Int×Int×Unit):=W.call (zhw W s u) fun v1=>
 W.join (fun (z2:Int×Unit)=>some (z2.1,v1.2))
 fun k3=>W.call (zey W s.2.2.2.2.2.2.2.2.2.2.1 u) fun v4=>
 W.cnd (decide (v4<0)) ((k3 (0,())))
  ((k3 (v1.1,())))
abbrev yeb:=zle stdW
def zce(W:Wd)(s:zad)(l:List AUnit'):Option (((List Int)×Int×Int×Unit)×Unit):=
 W.loop (fun (z1:S8) again2=>
 W.cnd (decide (z1.1<(l.length:Int))) (W.idx l z1.1 fun x3=>W.call (zle W s x3) fun v4=>
  W.cnd (v4.2.1 != 0) (some (([],(0,v4.2)),()))
  (W.room (z1.2.1.length+(v4.1::[]).length) 8 ((again2 ((IntKind.i64.wrap (z1.1+1)),((z1.2.1++(v4.1::[])),()))))))
  (W.call (zen W z1.2.1) fun v5=>some ((z1.2.1,v5),())))
 (0,([],()))
abbrev zpm:=zce stdW
def zom(W:Wd)(vals:List Int):Option Int:=
 W.loop (fun (z1:Int×Unit) again2=>
 W.cnd (decide (z1.1<(vals.length:Int))) (W.idx vals z1.1 fun x3=>
  W.cnd (x3 != 0) (some x3)
  ((again2 ((IntKind.i64.wrap (z1.1+1)),()))))
  (some 0))
 (0,())
abbrev yhi:=zom stdW
def zlc(W:Wd)(a:Int)(l:List Int):Option Int:=
 W.loop (fun (z1:S12) again2=>
 W.cnd (decide (z1.2.1<(l.length:Int))) (W.idx l z1.2.1 fun x3=>(again2 ((if x3<z1.1 then x3 else z1.1),((IntKind.i64.wrap (z1.2.1+1)),()))))
  (some z1.1))
 (a,(0,()))
abbrev fix_Least:=zlc stdW
def zeu(W:Wd)(total:Int)(l:List Int):Option Bool:=W.call (zlc W total l) fun v1=>some (decide (0≤v1))
abbrev yeu:=zeu stdW
def zlb(W:Wd)(a:Int)(n:Int)(d:Int):Option (Int×Int×Int×Unit):=W.call (zib W a n) fun v1=>W.call (zgn W v1 d) fun v2=>W.call (zdz W v2.1 v2.2.2.1) fun v3=>
 W.cnd (v3.2.1 != 0) (some (0,(0,v3.2)))
 (some (v3.1,(v2.2.1,(0,()))))
abbrev zwh:=zlb stdW
def zfj(W:Wd)(total:Int)(sum:Int)(weights:List Int):Option ((List ALot')×Int×Unit):=W.nn (weights.length:Int) (W.room (Int.toNat (weights.length:Int)) 24 (
 W.loop (fun (z1:Int×Int×List ALot'×Unit) again2=>
 W.cnd (decide (z1.2.1<(weights.length:Int))) (W.idx weights z1.2.1 fun x3=>W.call (zlb W total x3 sum) fun v4=>W.room (z1.2.2.1.length+((z1.2.1,(v4.1,(v4.2.1,())))::[]).length) 24 ((again2 ((IntKind.i64.wrap (z1.1+v4.1)),((IntKind.i64.wrap (z1.2.1+1)),((z1.2.2.1++((z1.2.1,(v4.1,(v4.2.1,())))::[])),()))))))
  (some (z1.2.2.1,(z1.1,()))))
 (0,(0,([],())))))
abbrev zsn:=zfj stdW
def zgq(W:Wd)(total:Int)(weights:List Int):Option ((List Int)×Int×Unit):=W.call (zeu W total weights) fun v1=>
 W.cnd (!v1) (some ([],(2,())))
 (W.call (zen W weights) fun v2=>W.nn (weights.length:Int) (W.room (Int.toNat (weights.length:Int)) 8 (W.bnd (weights.length:Int) (Int.toNat (weights.length:Int)) fun h3=>
 W.cnd (v2.2.1 != 0) (some ([],v2.2))
  (
  W.cnd (total==0) (some ((List.replicate h3 0),(0,())))
  (
  W.cnd (v2.1==0) (some ([],(8,())))
   (W.call (zfj W total v2.1 weights) fun v4=>
   W.loop (fun (z5:Int×List (Int)×List ALot'×Unit) again6=>
   W.cnd (decide (z5.1<(v4.1.length:Int))) (W.idx z5.2.2.1 z5.1 fun x7=>W.nth z5.2.2.1 (Int.toNat z5.1) fun x8=>W.idx z5.2.1 x8.1 fun x9=>W.nth z5.2.1 (Int.toNat x8.1) fun x10=>(again6 ((IntKind.i64.wrap (z5.1+1)),((List.set z5.2.1 (Int.toNat x8.1) x8.2.1),z5.2.2))))
    (W.call (zgy z5.2.2.1) fun v11=>W.bnd (IntKind.i64.wrap (total - v4.2.1)) v11.length fun h12=>
    W.loop (fun (z13:S8) again14=>
    W.cnd (decide (z13.1<((v11.take h12).length:Int))) (W.idx (v11.take h12) z13.1 fun x15=>W.idx z13.2.1 x15.1 fun x16=>W.nth z13.2.1 (Int.toNat x15.1) fun x17=>W.idx z13.2.1 x15.1 fun x18=>W.nth z13.2.1 (Int.toNat x15.1) fun x19=>(again14 ((IntKind.i64.wrap (z13.1+1)),((List.set z13.2.1 (Int.toNat x15.1) (IntKind.i64.wrap (x17+1))),()))))
     (some (z13.2.1,(0,()))))
    (0,(z5.2.1,()))))
   (0,((List.replicate h3 0),(v4.1,())))))))))
abbrev zun:=zgq stdW
def zft(W:Wd)(total:Int)(rooms:List Int):Option ((List Int)×Int×Unit):=W.call (zeu W total rooms) fun v1=>
 W.cnd (!v1) (some ([],(2,())))
 (W.call (zen W rooms) fun v2=>
 W.cnd (v2.2.1 != 0) (some ([],v2.2))
  (
  W.cnd (decide (v2.1<total)) (some ([],(10,())))
  (W.call (zgq W total rooms) fun v3=>some v3)))
abbrev zrh:=zft stdW
def zhu(W:Wd)(s:zad)(by_:AUnit')(to_:AUnit')(amount:Int):Option (zad×(List zav)×Int×Unit):=
 W.cnd (amount==0) (some (s,([],(0,()))))
 (W.call (zhv W s by_ amount) fun v1=>
 W.join (fun (z2:S1)=>
  W.cnd (z2.1 != 0) (some ((0,([],([],([],([],([],([],([],([],([],([],([],())))))))))))),([],(z2.1,()))))
  (W.two (some (z2.2,(((by_,(to_,(amount,())))::[]),(0,()))))))
  fun k3=>
  W.cnd (v1.2.1==0) (W.call (zgd W v1.1.2.2.2.2.2.2.2.2.2.2.1 by_ to_ amount) fun v4=>(k3 (v4.2.1,(U10 v1.1 (v4.1,v1.1.2.2.2.2.2.2.2.2.2.2.2)))))
  ((k3 (v1.2.1,v1.1))))
abbrev zwk:=zhu stdW
def zhe(W:Wd)(s:zad)(l:List AUnit'):Option (zad×(List zav)×Int×Unit):=W.call (zcf W s l) fun v1=>W.call (zce W s l) fun v2=>
 W.join (fun (z3:S21)=>
 W.cnd z3.1 (W.call (zom W (v1.1.2.2.1::(v2.1.2.2.1::[]))) fun v4=>some ((0,([],([],([],([],([],([],([],([],([],([],([],())))))))))))),([],(v4,()))))
  (W.call (zft W (if v2.1.2.1<v1.1.2.1 then v2.1.2.1 else v1.1.2.1) z3.2.2.1) fun v5=>W.call (zft W (if v2.1.2.1<v1.1.2.1 then v2.1.2.1 else v1.1.2.1) z3.2.1) fun v6=>
  W.join (fun (z7:Int×List zbh×List AInst'×List ALot'×List zab×List zbi×List zbx×List AGive'×List APos'×List APos'×List AFlow'×List AHold'×List zav×Unit)=>some ((U12 z7 ()),(z7.2.2.2.2.2.2.2.2.2.2.2.2.1,(0,()))))
  fun k8=>
  W.loop (fun (z9:Int×Int×Int×List zbh×List AInst'×List ALot'×List zab×List zbi×List zbx×List AGive'×List APos'×List APos'×List AFlow'×List AHold'×List (Int)×List (Int)×List zav×Unit) again10=>
   W.cnd (decide (z9.1<(z9.2.2.2.2.2.2.2.2.2.2.2.2.2.2.1.length:Int))) (
   W.cnd (decide (z9.2.1<(z9.2.2.2.2.2.2.2.2.2.2.2.2.2.2.2.1.length:Int))) (
    W.join (fun (z11:S17)=>W.idx l z9.1 fun x12=>W.idx l z9.2.1 fun x13=>W.two (W.call (zhu W (U12 z9.2.2 ()) x12 x13 z11.1) fun v14=>
     W.cnd (v14.2.2.1 != 0) (some ((0,([],([],([],([],([],([],([],([],([],([],([],())))))))))))),([],v14.2.2)))
     (W.room (z11.2.2.2.1.length+v14.2.1.length) 40 (
     W.join (fun (z15:List (Int)×List (Int)×List zav×Unit)=>W.idx z15.1 z9.1 fun x16=>W.nth z15.1 (Int.toNat z9.1) fun x17=>
      W.cnd (x17==0) ((again10 ((IntKind.i64.wrap (z9.1+1)),(z9.2.1,(U12 v14.1 z15)))))
      ((again10 (z9.1,((IntKind.i64.wrap (z9.2.1+1)),(U12 v14.1 z15))))))
      fun k18=>W.idx z11.2.1 z9.1 fun x19=>W.idx z11.2.2.1 z9.2.1 fun x20=>W.both (W.nth z11.2.1 (Int.toNat z9.1) fun x21=>W.nth z11.2.2.1 (Int.toNat z9.2.1) fun x22=>W.idx z11.2.1 z9.1 fun x23=>W.nth z11.2.1 (Int.toNat z9.1) fun x24=>W.idx z11.2.2.1 z9.2.1 fun x25=>W.nth z11.2.2.1 (Int.toNat z9.2.1) fun x26=>(k18 ((List.set z11.2.1 (Int.toNat z9.1) (IntKind.i64.wrap (x21 - z11.1))),((List.set z11.2.2.1 (Int.toNat z9.2.1) (IntKind.i64.wrap (x22 - z11.1))),((z11.2.2.2.1++v14.2.1),()))))) (W.nth z11.2.2.1 (Int.toNat z9.2.1) fun x27=>W.nth z11.2.1 (Int.toNat z9.1) fun x28=>W.idx z11.2.1 z9.1 fun x29=>W.nth z11.2.1 (Int.toNat z9.1) fun x30=>W.idx z11.2.2.1 z9.2.1 fun x31=>W.nth z11.2.2.1 (Int.toNat z9.2.1) fun x32=>(k18 ((List.set z11.2.1 (Int.toNat z9.1) (IntKind.i64.wrap (x28 - z11.1))),((List.set z11.2.2.1 (Int.toNat z9.2.1) (IntKind.i64.wrap (x27 - z11.1))),((z11.2.2.2.1++v14.2.1),())))))))))
    fun k52=>W.idx z9.2.2.2.2.2.2.2.2.2.2.2.2.2.2.1 z9.1 fun x53=>W.idx z9.2.2.2.2.2.2.2.2.2.2.2.2.2.2.2.1 z9.2.1 fun x54=>W.both (W.nth z9.2.2.2.2.2.2.2.2.2.2.2.2.2.2.1 (Int.toNat z9.1) fun x55=>W.nth z9.2.2.2.2.2.2.2.2.2.2.2.2.2.2.2.1 (Int.toNat z9.2.1) fun x56=>(k52 ((if x56<x55 then x56 else x55),z9.2.2.2.2.2.2.2.2.2.2.2.2.2.2))) (W.nth z9.2.2.2.2.2.2.2.2.2.2.2.2.2.2.2.1 (Int.toNat z9.2.1) fun x57=>W.nth z9.2.2.2.2.2.2.2.2.2.2.2.2.2.2.1 (Int.toNat z9.1) fun x58=>(k52 ((if x57<x58 then x57 else x58),z9.2.2.2.2.2.2.2.2.2.2.2.2.2.2))))
    ((k8 (U12 z9.2.2 z9.2.2.2.2.2.2.2.2.2.2.2.2.2.2.2.2))))
   ((k8 (U12 z9.2.2 z9.2.2.2.2.2.2.2.2.2.2.2.2.2.2.2.2))))
   (0,(0,(U12 s (v5.1,(v6.1,([],()))))))))
 fun k59=>
 W.cnd (v1.1.2.2.1 != 0) ((k59 (true,(v1.1.1,(v2.1.1,())))))
  ((k59 ((v2.1.2.2.1 != 0),(v1.1.1,(v2.1.1,())))))
abbrev zwl:=zhe stdW
def zdp(W:Wd)(r0:Int)(r1:List zbh)(r2:List AInst')(r3:List ALot')(r4:List zab)(r5:List zbi)(r6:List zbx)(r7:List AGive')(r8:List APos')(r9:List APos')(r10:List AFlow')(r11:List AHold')(r12:List zav)(r13:Int)(l:List zab):Option (Unit×(Int×(List zbh)×(List AInst')×(List ALot')×(List zab)×(List zbi)×(List zbx)×(List AGive')×(List APos')×(List APos')×(List AFlow')×(List AHold')×(List zav)×Int×Unit)):=
 W.loop (fun (z1:S0) again2=>
 W.cnd (decide (z1.1<(l.length:Int))) (
  W.join (fun (z3:S3)=>(again2 ((IntKind.i64.wrap (z1.1+1)),z3)))
  fun k4=>W.idx l z1.1 fun x5=>
  W.join (fun (z6:Bool×Int×List zbh×List AInst'×List ALot'×List zab×List zbi×List zbx×List AGive'×List APos'×List APos'×List AFlow'×List AHold'×Int×List zav×Unit)=>
   W.cnd z6.1 (W.two (W.call (zet W x5) fun v7=>W.call (zhe W (U12 z6.2 ()) v7) fun v8=>W.call (zde W z6.2.1 z6.2.2.1 z6.2.2.2.1 z6.2.2.2.2.1 z6.2.2.2.2.2.1 z6.2.2.2.2.2.2.1 z6.2.2.2.2.2.2.2.1 z6.2.2.2.2.2.2.2.2.1 z6.2.2.2.2.2.2.2.2.2.1 z6.2.2.2.2.2.2.2.2.2.2.1 z6.2.2.2.2.2.2.2.2.2.2.2.1 z6.2.2.2.2.2.2.2.2.2.2.2.2.1 z6.2.2.2.2.2.2.2.2.2.2.2.2.2.2.1 z6.2.2.2.2.2.2.2.2.2.2.2.2.2.1 v8.1 v8.2.1 v8.2.2.1) fun v9=>(k4 (U12 v9.2 (v9.2.2.2.2.2.2.2.2.2.2.2.2.2.2.1,(v9.2.2.2.2.2.2.2.2.2.2.2.2.2.1,()))))))
   ((k4 z6.2)))
   fun k13=>
   W.cnd (z1.2.2.2.2.2.2.2.2.2.2.2.2.2.1==0) ((k13 ((x5.2.2.1==2),z1.2)))
   ((k13 (false,z1.2))))
  (some ((),(U12 z1.2 (z1.2.2.2.2.2.2.2.2.2.2.2.2.2.2.1,(z1.2.2.2.2.2.2.2.2.2.2.2.2.2.1,()))))))
 (0,(r0,(r1,(r2,(r3,(r4,(r5,(r6,(r7,(r8,(r9,(r10,(r11,(r13,(r12,())))))))))))))))
abbrev znf:=zdp stdW
def znj(W:Wd)(s:zad)(by_:AUnit')(to_:AUnit'):Option (zad×(List zav)×Int×Unit):=W.call (zfc W s to_) fun v1=>W.call (zhw W s by_) fun v2=>
 W.join (fun (z3:Bool×Unit)=>
 W.cnd z3.1 (W.call (zom W (v1.2.1::(v2.2.1::[]))) fun v4=>some ((0,([],([],([],([],([],([],([],([],([],([],([],())))))))))))),([],(v4,()))))
  (
  W.cnd (Go.Vc.notIf false ((by_.1==to_.1)&&(by_.2.1==to_.2.1))) (some (s,([],(0,()))))
  (W.call (zhu W s by_ to_ (if v2.1<v1.1 then v2.1 else v1.1)) fun v5=>some v5)))
 fun k6=>
 W.cnd (v1.2.1 != 0) ((k6 (true,())))
  ((k6 ((v2.2.1 != 0),())))
abbrev ykn:=znj stdW
def zcx(W:Wd)(r0:Int)(r1:List zbh)(r2:List AInst')(r3:List ALot')(r4:List zab)(r5:List zbi)(r6:List zbx)(r7:List AGive')(r8:List APos')(r9:List APos')(r10:List AFlow')(r11:List AHold')(r12:List zav)(r13:Int)(to_:List AUnit')(by_:List AUnit'):Option (Unit×(Int×(List zbh)×(List AInst')×(List ALot')×(List zab)×(List zbi)×(List zbx)×(List AGive')×(List APos')×(List APos')×(List AFlow')×(List AHold')×(List zav)×Int×Unit)):=
 W.loop (fun (z1:S0) again2=>
 W.cnd (decide (z1.1<(to_.length:Int))) (W.idx to_ z1.1 fun x3=>
  W.loop (fun (z4:S0) again5=>
  W.cnd (decide (z4.1<(by_.length:Int))) (
   W.join (fun (z6:S3)=>(again5 ((IntKind.i64.wrap (z4.1+1)),z6)))
   fun k7=>W.idx by_ z4.1 fun x8=>
   W.cnd (z4.2.2.2.2.2.2.2.2.2.2.2.2.2.1==0) (W.call (znj W (U12 z4.2 ()) x8 x3) fun v9=>W.call (zde W z4.2.1 z4.2.2.1 z4.2.2.2.1 z4.2.2.2.2.1 z4.2.2.2.2.2.1 z4.2.2.2.2.2.2.1 z4.2.2.2.2.2.2.2.1 z4.2.2.2.2.2.2.2.2.1 z4.2.2.2.2.2.2.2.2.2.1 z4.2.2.2.2.2.2.2.2.2.2.1 z4.2.2.2.2.2.2.2.2.2.2.2.1 z4.2.2.2.2.2.2.2.2.2.2.2.2.1 z4.2.2.2.2.2.2.2.2.2.2.2.2.2.2.1 z4.2.2.2.2.2.2.2.2.2.2.2.2.2.1 v9.1 v9.2.1 v9.2.2.1) fun v10=>(k7 (U12 v10.2 (v10.2.2.2.2.2.2.2.2.2.2.2.2.2.2.1,(v10.2.2.2.2.2.2.2.2.2.2.2.2.2.1,())))))
    ((k7 z4.2)))
   ((again2 ((IntKind.i64.wrap (z1.1+1)),z4.2))))
  (0,z1.2))
  (some ((),(U12 z1.2 (z1.2.2.2.2.2.2.2.2.2.2.2.2.2.2.1,(z1.2.2.2.2.2.2.2.2.2.2.2.2.2.1,()))))))
 (0,(r0,(r1,(r2,(r3,(r4,(r5,(r6,(r7,(r8,(r9,(r10,(r11,(r13,(r12,())))))))))))))))
abbrev zix:=zcx stdW
def ziy(W:Wd)(s:zad)(id:Int):Option (zad×(List zav)×Int×Unit):=W.call (zra W s.2.2.2.2.1 id) fun v1=>W.call (ziv W v1) fun v2=>W.call (zfo W s.1 s.2.1 s.2.2.1 s.2.2.2.1 s.2.2.2.2.1 s.2.2.2.2.2.1 s.2.2.2.2.2.2.1 s.2.2.2.2.2.2.2.1 s.2.2.2.2.2.2.2.2.1 s.2.2.2.2.2.2.2.2.2.1 s.2.2.2.2.2.2.2.2.2.2.1 s.2.2.2.2.2.2.2.2.2.2.2.1 [] 0 v2.1) fun v3=>W.call (zdp W v3.2.1 v3.2.2.1 v3.2.2.2.1 v3.2.2.2.2.1 v3.2.2.2.2.2.1 v3.2.2.2.2.2.2.1 v3.2.2.2.2.2.2.2.1 v3.2.2.2.2.2.2.2.2.1 v3.2.2.2.2.2.2.2.2.2.1 v3.2.2.2.2.2.2.2.2.2.2.1 v3.2.2.2.2.2.2.2.2.2.2.2.1 v3.2.2.2.2.2.2.2.2.2.2.2.2.1 v3.2.2.2.2.2.2.2.2.2.2.2.2.2.1 v3.2.2.2.2.2.2.2.2.2.2.2.2.2.2.1 v1) fun v4=>W.call (zcx W v4.2.1 v4.2.2.1 v4.2.2.2.1 v4.2.2.2.2.1 v4.2.2.2.2.2.1 v4.2.2.2.2.2.2.1 v4.2.2.2.2.2.2.2.1 v4.2.2.2.2.2.2.2.2.1 v4.2.2.2.2.2.2.2.2.2.1 v4.2.2.2.2.2.2.2.2.2.2.1 v4.2.2.2.2.2.2.2.2.2.2.2.1 v4.2.2.2.2.2.2.2.2.2.2.2.2.1 v4.2.2.2.2.2.2.2.2.2.2.2.2.2.1 v4.2.2.2.2.2.2.2.2.2.2.2.2.2.2.1 v2.1 v2.2.1) fun v5=>W.call (zsi W) fun v6=>W.call (zcx W v5.2.1 v5.2.2.1 v5.2.2.2.1 v5.2.2.2.2.1 v5.2.2.2.2.2.1 v5.2.2.2.2.2.2.1 v5.2.2.2.2.2.2.2.1 v5.2.2.2.2.2.2.2.2.1 v5.2.2.2.2.2.2.2.2.2.1 v5.2.2.2.2.2.2.2.2.2.2.1 v5.2.2.2.2.2.2.2.2.2.2.2.1 v5.2.2.2.2.2.2.2.2.2.2.2.2.1 v5.2.2.2.2.2.2.2.2.2.2.2.2.2.1 v5.2.2.2.2.2.2.2.2.2.2.2.2.2.2.1 v2.1 (v6::[])) fun v7=>
 W.cnd (v7.2.2.2.2.2.2.2.2.2.2.2.2.2.2.1 != 0) (some ((0,([],([],([],([],([],([],([],([],([],([],([],())))))))))))),([],v7.2.2.2.2.2.2.2.2.2.2.2.2.2.2)))
 (some ((U12 v7.2 ()),(v7.2.2.2.2.2.2.2.2.2.2.2.2.2.1,(0,()))))
abbrev ykp:=ziy stdW
def zci(W:Wd)(a:List zav)(b:List zav):Option Bool:=
 W.cnd ((a.length:Int) != (b.length:Int)) (some false)
 (
 W.loop (fun (z1:Int×Unit) again2=>
  W.cnd (decide (z1.1<(a.length:Int))) (W.idx a z1.1 fun x3=>W.idx b z1.1 fun x4=>
  W.cnd (Go.Vc.notIf true ((x3.1.1==x4.1.1)&&((x3.1.2.1==x4.1.2.1)&&((x3.2.1.1==x4.2.1.1)&&((x3.2.1.2.1==x4.2.1.2.1)&&(x3.2.2.1==x4.2.2.1)))))) (some false)
   ((again2 ((IntKind.i64.wrap (z1.1+1)),()))))
  (some true))
  (0,()))
abbrev zmf:=zci stdW
def zha(W:Wd):Option Bool:=W.call (ziy W (0,([],([],(((1,(3,(0,())))::[]),(((1,(1,(1,([],()))))::[]),([],([],([],([],([],((((1,(0,())),((-10),()))::[]),((((1,(0,())),(((1,(0,(4,())))::[]),()))::[]),())))))))))))) 1) fun v1=>
 W.cnd (v1.2.2.1==0) (W.call (zci W v1.2.1 (((1,(0,())),((1,(0,())),(10,())))::[])) fun v2=>
 W.cnd v2 (W.call (zcw W v1.1.2.2.2.2.2.2.2.2.2.2.1 (1,(0,()))) fun v3=>
  W.cnd (v3==2) (W.call (zdk W v1.1.2.2.2.2.2.2.2.2.2.2.2.1 (1,(0,()))) fun v4=>some ((v4.length:Int)==0))
  (some false))
  (some false))
 (some false)
abbrev ygk:=zha stdW
def zfu(W:Wd)(s:zad)(by_:AUnit')(to_:AUnit')(amount:Int):Option (zad×(List zav)×Int×Unit):=
 W.cnd (amount==0) (some (s,([],(0,()))))
 (W.call (zfv W s by_ amount) fun v1=>
 W.cnd (v1.2.1 != 0) (some ((0,([],([],([],([],([],([],([],([],([],([],([],())))))))))))),([],v1.2)))
  (W.call (zau W v1.1 by_ to_ amount) fun v2=>
  W.cnd (v2.2.1 != 0) (some ((0,([],([],([],([],([],([],([],([],([],([],([],())))))))))))),([],v2.2)))
  (W.two (some (v2.1,(((by_,(to_,(amount,())))::[]),(0,())))))))
abbrev zrj:=zfu stdW
def zho(W:Wd)(s:zad)(by_:AUnit')(to_:AUnit'):Option (zad×(List zav)×Int×Unit):=W.call (zdc W s to_) fun v1=>
 W.cnd (v1.2.1 != 0) (some ((0,([],([],([],([],([],([],([],([],([],([],([],())))))))))))),([],v1.2)))
 (W.call (zfw W s by_) fun v2=>
 W.cnd (v2.2.1 != 0) (some ((0,([],([],([],([],([],([],([],([],([],([],([],())))))))))))),([],v2.2)))
  (
  W.cnd (Go.Vc.notIf false ((by_.1==to_.1)&&(by_.2.1==to_.2.1))) (some (s,([],(0,()))))
  (
  W.join (fun (z3:Int×Unit)=>W.call (zfu W s by_ to_ z3.1) fun v4=>some v4)
   fun k5=>
   W.cnd (decide (v2.1<v1.1)) ((k5 (v2.1,())))
   ((k5 (v1.1,()))))))
abbrev ycb:=zho stdW
def zhp(W:Wd)(s:zad)(u:AUnit'):Option (zad×(List zav)×Int×Unit):=W.call (zdc W s u) fun v1=>
 W.cnd (v1.2.1 != 0) (some ((0,([],([],([],([],([],([],([],([],([],([],([],())))))))))))),([],v1.2)))
 (W.call (zfv W s u 0) fun v2=>
 W.cnd (v2.2.1 != 0) (some ((0,([],([],([],([],([],([],([],([],([],([],([],())))))))))))),([],v2.2)))
  (W.call (zdc W v2.1 u) fun v3=>
  W.cnd (v3.1==v1.1) (some (v2.1,([],(0,()))))
  (W.two (some (v2.1,(((u,(u,((IntKind.i64.wrap (v1.1 - v3.1)),())))::[]),(0,())))))))
abbrev ycc:=zhp stdW
def zcg(W:Wd)(a:zab):Option (List AUnit'):=
 W.cnd (a.2.2.1==1) (W.room ((a.1,(0,()))::[]).length 16 (some ((a.1,(0,()))::[])))
 (
 W.loop (fun (z1:S15) again2=>
  W.cnd (decide (z1.1<(a.2.2.2.1.length:Int))) (W.idx a.2.2.2.1 z1.1 fun x3=>W.room (z1.2.1.length+((a.1,(x3,()))::[]).length) 16 ((again2 ((IntKind.i64.wrap (z1.1+1)),((z1.2.1++((a.1,(x3,()))::[])),())))))
  (some z1.2.1))
  (0,([],())))
abbrev zin:=zcg stdW
def zhn(W:Wd)(l:List Int):Option (Int×Int×Unit):=
 W.loop (fun (z1:S11) again2=>
 W.cnd (decide (z1.1<(l.length:Int))) (
  W.join (fun (z3:S10)=>(again2 ((IntKind.i64.wrap (z1.1+1)),z3)))
  fun k4=>W.idx l z1.1 fun x5=>W.two (W.call (zal W x5) fun v6=>W.call (zay W z1.2 v6) fun v7=>(k4 v7)))
  (W.call (zap W z1.2) fun v10=>
  W.cnd (!v10) (some (0,(7,())))
  (W.call (zag W z1.2) fun v11=>some (v11,(0,())))))
 (0,(false,([],())))
abbrev ref31_sum:=zhn stdW
def zgb(W:Wd)(l:List Int):Option zae:=
 W.loop (fun (z1:S11) again2=>
 W.cnd (decide (z1.1<(l.length:Int))) (
  W.join (fun (z3:S10)=>(again2 ((IntKind.i64.wrap (z1.1+1)),z3)))
  fun k4=>W.idx l z1.1 fun x5=>W.two (W.call (zal W x5) fun v6=>W.call (zay W z1.2 v6) fun v7=>(k4 v7)))
  (some z1.2))
 (0,(false,([],())))
abbrev ref02_Sum:=zgb stdW
def zhr(W:Wd)(total:Int)(l:List Int):Option Int:=
 W.cnd (decide (total<0)) (some 2)
 (
 W.loop (fun (z1:Int×Unit) again2=>
  W.cnd (decide (z1.1<(l.length:Int))) (W.idx l z1.1 fun x3=>
  W.cnd (decide (x3<0)) (some 2)
   ((again2 ((IntKind.i64.wrap (z1.1+1)),()))))
  (W.call (zgb W l) fun v4=>W.call (zap W v4) fun v5=>
  W.cnd (!v5) (some 7)
   (some 0)))
  (0,()))
abbrev ref03_why:=zhr stdW
def zgx(W:Wd)(total:Int)(l:List Int):Option ((List Int)×Int×Unit):=W.call (zhr W total l) fun v1=>
 W.cnd (v1 != 0) (some ([],(v1,())))
 (W.call (zgb W l) fun v2=>W.call (zag W v2) fun v3=>
 W.join (fun (z4:Bool×Unit)=>
  W.cnd z4.1 (some ([],(8,())))
  (
  W.loop (fun (z5:S14) again6=>
   W.cnd (decide (z5.2.1<(l.length:Int))) (
   W.join (fun (z7:S14)=>W.room (z7.2.2.1.length+(z7.1::[]).length) 8 (W.room (z7.2.2.2.1.length+(z7.2.1::[]).length) 8 ((again6 ((IntKind.i64.wrap (z5.1 - z7.1)),((IntKind.i64.wrap (z5.2.1+1)),((z7.2.2.1++(z7.1::[])),((z7.2.2.2.1++(z7.2.1::[])),()))))))))
    fun k8=>
    W.cnd (decide (0<v3)) (W.idx l z5.2.1 fun x9=>W.both (W.call (zal W total) fun v10=>W.both (W.call (zal W x9) fun v11=>W.both (W.call (zcj W v10 v11) fun v12=>W.two (W.call (zck W v12 (IntKind.u64.wrap v3)) fun v13=>W.call (zag W v13.1) fun v14=>(k8 (v14,(v13.2.1,z5.2.2))))) (W.call (zcj W v10 v11) fun v17=>W.call (zck W v17 (IntKind.u64.wrap v3)) fun v18=>W.call (zag W v18.1) fun v19=>(k8 (v19,(v18.2.1,z5.2.2))))) (W.call (zal W x9) fun v20=>W.call (zcj W v10 v20) fun v21=>W.call (zck W v21 (IntKind.u64.wrap v3)) fun v22=>W.call (zag W v22.1) fun v23=>(k8 (v23,(v22.2.1,z5.2.2))))) (W.call (zal W total) fun v24=>W.call (zal W x9) fun v25=>W.call (zcj W v24 v25) fun v26=>W.call (zck W v26 (IntKind.u64.wrap v3)) fun v27=>W.call (zag W v27.1) fun v28=>(k8 (v28,(v27.2.1,z5.2.2)))))
    ((k8 (0,(0,z5.2.2)))))
   (
   W.loop (fun (z29:S13) again30=>
    W.cnd (decide (0<z29.1)) (
    W.loop (fun (z31:S14) again32=>
     W.cnd (decide (z31.2.1<(l.length:Int))) (
     W.join (fun (z33:S13)=>(again32 (z33.1,((IntKind.i64.wrap (z31.2.1+1)),z33.2))))
      fun k34=>
      W.join (fun (z35:S21)=>
      W.cnd z35.1 ((k34 (z31.2.1,z35.2)))
       ((k34 (z31.1,z35.2))))
      fun k36=>W.idx z31.2.2.2.1 z31.2.1 fun x37=>W.idx z31.2.2.2.1 z31.1 fun x38=>W.both (W.nth z31.2.2.2.1 (Int.toNat z31.2.1) fun x39=>W.nth z31.2.2.2.1 (Int.toNat z31.1) fun x40=>(k36 ((decide (x40<x39)),z31.2.2))) (W.nth z31.2.2.2.1 (Int.toNat z31.1) fun x41=>W.nth z31.2.2.2.1 (Int.toNat z31.2.1) fun x42=>(k36 ((decide (x41<x42)),z31.2.2))))
     (W.idx z31.2.2.1 z31.1 fun x43=>W.nth z31.2.2.1 (Int.toNat z31.1) fun x44=>W.idx z31.2.2.1 z31.1 fun x45=>W.nth z31.2.2.1 (Int.toNat z31.1) fun x46=>W.idx z31.2.2.2.1 z31.1 fun x47=>W.nth z31.2.2.2.1 (Int.toNat z31.1) fun x48=>(again30 ((IntKind.i64.wrap (z29.1 - 1)),((List.set z31.2.2.1 (Int.toNat z31.1) (IntKind.i64.wrap (x44+1))),((List.set z31.2.2.2.1 (Int.toNat z31.1) 0),()))))))
     (0,(0,z29.2)))
    (some (z29.2.1,(0,()))))
    (z5.1,z5.2.2)))
   (total,(0,([],([],()))))))
  fun k49=>
  W.cnd (v3==0) ((k49 ((decide (0<total)),())))
  ((k49 (false,()))))
abbrev zuy:=zgx stdW
def zga(W:Wd)(total:Int)(l:List Int):Option ((List Int)×Int×Unit):=W.call (zhr W total l) fun v1=>
 W.cnd (v1 != 0) (some ([],(v1,())))
 (W.call (zgb W l) fun v2=>W.call (zal W total) fun v3=>W.call (zbn W v2 v3) fun v4=>
 W.cnd (decide (v4<0)) (some ([],(10,())))
  (W.call (zgx W total l) fun v5=>some v5))
abbrev zro:=zga stdW
def zec(W:Wd)(s:zad)(l:List AUnit'):Option (zad×(List zav)×Int×Unit):=
 W.loop (fun (z1:S8) again2=>
 W.cnd (decide (z1.1<(l.length:Int))) (W.idx l z1.1 fun x3=>W.call (zdc W s x3) fun v4=>
  W.cnd (v4.2.1 != 0) (some ((0,([],([],([],([],([],([],([],([],([],([],([],())))))))))))),([],v4.2)))
  (W.room (z1.2.1.length+(v4.1::[]).length) 8 ((again2 ((IntKind.i64.wrap (z1.1+1)),((z1.2.1++(v4.1::[])),()))))))
  (W.call (zhn W z1.2.1) fun v5=>
  W.cnd (v5.2.1 != 0) (some ((0,([],([],([],([],([],([],([],([],([],([],([],())))))))))))),([],v5.2)))
  (
  W.loop (fun (z6:S13) again7=>
   W.cnd (decide (z6.1<(l.length:Int))) (W.idx l z6.1 fun x8=>W.call (zfw W s x8) fun v9=>
   W.cnd (v9.2.1 != 0) (some ((0,([],([],([],([],([],([],([],([],([],([],([],())))))))))))),([],v9.2)))
    (
    W.join (fun (z10:S13)=>W.room (z10.2.2.1.length+(z10.1::[]).length) 8 ((again7 ((IntKind.i64.wrap (z6.1+1)),(z10.2.1,((z10.2.2.1++(z10.1::[])),()))))))
    fun k11=>W.idx z6.2.1 z6.1 fun x12=>W.nth z6.2.1 (Int.toNat z6.1) fun x13=>
    W.cnd (decide (0<x13)) ((k11 (0,z6.2)))
     ((k11 (v9.1,z6.2)))))
   (W.call (zhn W z6.2.2.1) fun v14=>
   W.cnd (v14.2.1 != 0) (some ((0,([],([],([],([],([],([],([],([],([],([],([],())))))))))))),([],v14.2)))
    (
    W.join (fun (z15:S13)=>W.call (zga W z15.1 z15.2.2.1) fun v16=>W.call (zga W z15.1 z15.2.1) fun v17=>
    W.loop (fun (z18:S5) again19=>
     W.cnd (decide (z18.1<(l.length:Int))) (
     W.loop (fun (z20:S5) again21=>
      W.cnd (decide (z20.1<(l.length:Int))) (
      W.join (fun (z22:Int×List zbh×List AInst'×List ALot'×List zab×List zbi×List zbx×List AGive'×List APos'×List APos'×List AFlow'×List AHold'×List (Int)×List (Int)×List zav×Unit)=>(again21 ((IntKind.i64.wrap (z20.1+1)),z22)))
       fun k23=>W.idx z20.2.2.2.2.2.2.2.2.2.2.2.2.2.1 z18.1 fun x24=>W.nth z20.2.2.2.2.2.2.2.2.2.2.2.2.2.1 (Int.toNat z18.1) fun x25=>
       W.join (fun (z26:S17)=>W.idx l z18.1 fun x27=>W.idx l z20.1 fun x28=>W.two (W.call (zfu W (U12 z20.2 ()) x27 x28 z26.1) fun v29=>
        W.cnd (v29.2.2.1 != 0) (some ((0,([],([],([],([],([],([],([],([],([],([],([],())))))))))))),([],v29.2.2)))
        (W.room (z26.2.2.2.1.length+v29.2.1.length) 40 (W.idx z26.2.1 z18.1 fun x30=>W.nth z26.2.1 (Int.toNat z18.1) fun x31=>W.idx z26.2.1 z18.1 fun x32=>W.nth z26.2.1 (Int.toNat z18.1) fun x33=>W.idx z26.2.2.1 z20.1 fun x34=>W.nth z26.2.2.1 (Int.toNat z20.1) fun x35=>W.idx z26.2.2.1 z20.1 fun x36=>W.nth z26.2.2.1 (Int.toNat z20.1) fun x37=>(k23 (U12 v29.1 ((List.set z26.2.1 (Int.toNat z18.1) (IntKind.i64.wrap (x31 - z26.1))),((List.set z26.2.2.1 (Int.toNat z20.1) (IntKind.i64.wrap (x35 - z26.1))),((z26.2.2.2.1++v29.2.1),())))))))))
       fun k47=>W.idx z20.2.2.2.2.2.2.2.2.2.2.2.2.2.2.1 z20.1 fun x48=>W.nth z20.2.2.2.2.2.2.2.2.2.2.2.2.2.2.1 (Int.toNat z20.1) fun x49=>
       W.cnd (decide (x49<x25)) (W.idx z20.2.2.2.2.2.2.2.2.2.2.2.2.2.2.1 z20.1 fun x50=>W.nth z20.2.2.2.2.2.2.2.2.2.2.2.2.2.2.1 (Int.toNat z20.1) fun x51=>(k47 (x51,z20.2.2.2.2.2.2.2.2.2.2.2.2.2)))
        ((k47 (x25,z20.2.2.2.2.2.2.2.2.2.2.2.2.2))))
      ((again19 ((IntKind.i64.wrap (z18.1+1)),z20.2))))
      (0,z18.2))
     (some ((U12 z18.2 ()),(z18.2.2.2.2.2.2.2.2.2.2.2.2.2.2.2.1,(0,())))))
     (0,(U12 s (v16.1,(v17.1,([],()))))))
    fun k52=>
    W.cnd (decide (v14.1<v5.1)) ((k52 (v14.1,z6.2)))
     ((k52 (v5.1,z6.2))))))
   (0,(z1.2.1,([],()))))))
 (0,([],()))
abbrev zsr:=zec stdW
def zkf(W:Wd)(s:zad)(id:Int):Option (zad×(List zav)×Int×Unit):=
 W.loop (fun (z1:S20) again2=>
 W.cnd (decide (z1.1<(s.2.2.2.2.1.length:Int))) (
  W.join (fun (z3:S24)=>(again2 ((IntKind.i64.wrap (z1.1+1)),z3)))
  fun k4=>W.idx s.2.2.2.2.1 z1.1 fun x5=>
  W.cnd (x5.2.1==id) (W.call (zcg W x5) fun v6=>W.room (z1.2.1.length+v6.length) 16 (
   W.cnd (x5.2.2.1==1) (W.call (zcg W x5) fun v7=>W.room (z1.2.2.1.length+v7.length) 16 ((k4 ((z1.2.1++v6),((z1.2.2.1++v7),())))))
   ((k4 ((z1.2.1++v6),z1.2.2)))))
   ((k4 z1.2)))
  (
  W.loop (fun (z8:S4) again9=>
  W.cnd (decide (z8.1<(z8.2.2.2.2.2.2.2.2.2.2.2.2.2.1.length:Int))) (
   W.join (fun (z10:S6)=>(again9 ((IntKind.i64.wrap (z8.1+1)),z10)))
   fun k11=>W.idx z8.2.2.2.2.2.2.2.2.2.2.2.2.2.1 z8.1 fun x12=>W.both (W.nth z8.2.2.2.2.2.2.2.2.2.2.2.2.2.1 (Int.toNat z8.1) fun x13=>W.two (W.call (zhp W (U12 z8.2 ()) x13) fun v14=>
    W.cnd (v14.2.2.1 != 0) (some ((0,([],([],([],([],([],([],([],([],([],([],([],())))))))))))),([],v14.2.2)))
     (W.room (z8.2.2.2.2.2.2.2.2.2.2.2.2.2.2.2.1.length+v14.2.1.length) 40 ((k11 (U12 v14.1 (z8.2.2.2.2.2.2.2.2.2.2.2.2.2.1,(z8.2.2.2.2.2.2.2.2.2.2.2.2.2.2.1,((z8.2.2.2.2.2.2.2.2.2.2.2.2.2.2.2.1++v14.2.1),()))))))))) (W.nth z8.2.2.2.2.2.2.2.2.2.2.2.2.2.1 (Int.toNat z8.1) fun x16=>W.call (zhp W (U12 z8.2 ()) x16) fun v17=>
    W.cnd (v17.2.2.1 != 0) (some ((0,([],([],([],([],([],([],([],([],([],([],([],())))))))))))),([],v17.2.2)))
    (W.room (z8.2.2.2.2.2.2.2.2.2.2.2.2.2.2.2.1.length+v17.2.1.length) 40 ((k11 (U12 v17.1 (z8.2.2.2.2.2.2.2.2.2.2.2.2.2.1,(z8.2.2.2.2.2.2.2.2.2.2.2.2.2.2.1,((z8.2.2.2.2.2.2.2.2.2.2.2.2.2.2.2.1++v17.2.1),())))))))))
   (
   W.loop (fun (z18:S4) again19=>
   W.cnd (decide (z18.1<(z18.2.2.2.2.2.1.length:Int))) (
    W.join (fun (z20:S6)=>(again19 ((IntKind.i64.wrap (z18.1+1)),z20)))
    fun k21=>
    W.join (fun (z22:Bool×List AUnit'×List AUnit'×List zav×Unit)=>
     W.cnd z22.1 (W.idx z18.2.2.2.2.2.1 z18.1 fun x23=>W.both (W.call (zcg W x23) fun v24=>W.two (W.call (zec W (U12 z18.2 ()) v24) fun v25=>
      W.cnd (v25.2.2.1 != 0) (some ((0,([],([],([],([],([],([],([],([],([],([],([],())))))))))))),([],v25.2.2)))
       (W.room (z22.2.2.2.1.length+v25.2.1.length) 40 ((k21 (U12 v25.1 (z22.2.1,(z22.2.2.1,((z22.2.2.2.1++v25.2.1),()))))))))) (W.call (zcg W x23) fun v27=>W.call (zec W (U12 z18.2 ()) v27) fun v28=>
      W.cnd (v28.2.2.1 != 0) (some ((0,([],([],([],([],([],([],([],([],([],([],([],())))))))))))),([],v28.2.2)))
      (W.room (z22.2.2.2.1.length+v28.2.1.length) 40 ((k21 (U12 v28.1 (z22.2.1,(z22.2.2.1,((z22.2.2.2.1++v28.2.1),())))))))))
     ((k21 (U12 z18.2 z22.2))))
     fun k29=>W.idx z18.2.2.2.2.2.1 z18.1 fun x30=>
     W.cnd (x30.2.1==id) (W.idx z18.2.2.2.2.2.1 z18.1 fun x31=>(k29 ((x31.2.2.1==2),z18.2.2.2.2.2.2.2.2.2.2.2.2.2)))
     ((k29 (false,z18.2.2.2.2.2.2.2.2.2.2.2.2.2))))
    (
    W.loop (fun (z32:S2) again33=>
    W.cnd (decide (z32.2.1<2)) (
     W.join (fun (z34:List AUnit'×List AUnit'×List AUnit'×List zav×Unit)=>
     W.loop (fun (z35:S2) again36=>
      W.cnd (decide (z35.2.1<(z35.2.2.2.2.2.2.2.2.2.2.2.2.2.2.1.length:Int))) (
      W.loop (fun (z37:S2) again38=>
       W.cnd (decide (z37.2.1<(z34.2.1.length:Int))) (
       W.join (fun (z39:List AUnit'×Int×List zbh×List AInst'×List ALot'×List zab×List zbi×List zbx×List AGive'×List APos'×List APos'×List AFlow'×List AHold'×List AUnit'×List zav×Unit)=>(again38 (z39.1,((IntKind.i64.wrap (z37.2.1+1)),z39.2))))
        fun k40=>W.idx z34.2.1 z37.2.1 fun x41=>W.idx z37.2.2.2.2.2.2.2.2.2.2.2.2.2.2.1 z35.2.1 fun x42=>W.both (W.nth z37.2.2.2.2.2.2.2.2.2.2.2.2.2.2.1 (Int.toNat z35.2.1) fun x43=>W.two (W.call (zho W (U12 z37.2.2 ()) x41 x43) fun v44=>
         W.cnd (v44.2.2.1 != 0) (some ((0,([],([],([],([],([],([],([],([],([],([],([],())))))))))))),([],v44.2.2)))
         (W.room (z37.2.2.2.2.2.2.2.2.2.2.2.2.2.2.2.1.length+v44.2.1.length) 40 ((k40 (z37.1,(U12 v44.1 (z37.2.2.2.2.2.2.2.2.2.2.2.2.2.2.1,((z37.2.2.2.2.2.2.2.2.2.2.2.2.2.2.2.1++v44.2.1),()))))))))) (W.nth z37.2.2.2.2.2.2.2.2.2.2.2.2.2.2.1 (Int.toNat z35.2.1) fun x46=>W.call (zho W (U12 z37.2.2 ()) x41 x46) fun v47=>
        W.cnd (v47.2.2.1 != 0) (some ((0,([],([],([],([],([],([],([],([],([],([],([],())))))))))))),([],v47.2.2)))
         (W.room (z37.2.2.2.2.2.2.2.2.2.2.2.2.2.2.2.1.length+v47.2.1.length) 40 ((k40 (z37.1,(U12 v47.1 (z37.2.2.2.2.2.2.2.2.2.2.2.2.2.2.1,((z37.2.2.2.2.2.2.2.2.2.2.2.2.2.2.2.1++v47.2.1),())))))))))
       ((again36 (z37.1,((IntKind.i64.wrap (z35.2.1+1)),z37.2.2)))))
       (z35.1,(0,z35.2.2)))
      ((again33 (z35.1,((IntKind.i64.wrap (z32.2.1+1)),z35.2.2)))))
      (z34.1,(0,(U12 z32.2.2 z34.2.2))))
     fun k48=>
     W.cnd (z32.2.1==1) ((k48 (z32.1,(((0,(0,()))::[]),z32.2.2.2.2.2.2.2.2.2.2.2.2.2.2))))
      ((k48 (z32.1,(z32.1,z32.2.2.2.2.2.2.2.2.2.2.2.2.2.2)))))
     (some ((U12 z32.2.2 ()),(z32.2.2.2.2.2.2.2.2.2.2.2.2.2.2.2.1,(0,())))))
    (z18.2.2.2.2.2.2.2.2.2.2.2.2.2.2.1,(0,(U13 z18.2 z18.2.2.2.2.2.2.2.2.2.2.2.2.2.2.2)))))
   (0,z8.2)))
  (0,(U12 s (z1.2.1,(z1.2.2.1,([],())))))))
 (0,([],([],())))
abbrev ycd:=zkf stdW
def zeh(W:Wd)(s:zad)(id:Int):Option Bool:=W.call (zht W s) fun v1=>W.call (ziy W v1 id) fun v2=>W.call (zkf W v1 id) fun v3=>W.call (zih W v2.1 v3.1) fun v4=>
 W.cnd v4 (W.call (zci W v2.2.1 v3.2.1) fun v5=>
 W.cnd v5 (
  W.cnd (v2.2.2.1==v3.2.2.1) (W.call (zha W) fun v6=>some v6)
  (some false))
  (some false))
 (some false)
def zed(W:Wd)(a:zab)(u:AUnit'):Option Bool:=W.call (zcg W a) fun v1=>
 W.loop (fun (z2:S15) again3=>
 W.cnd (decide (z2.1<(z2.2.1.length:Int))) (W.idx z2.2.1 z2.1 fun x4=>W.nth z2.2.1 (Int.toNat z2.1) fun x5=>
  W.cnd (Go.Vc.notIf false ((x5.1==u.1)&&(x5.2.1==u.2.1))) (some true)
  ((again3 ((IntKind.i64.wrap (z2.1+1)),z2.2))))
  (some false))
 (0,(v1,()))
abbrev zuw:=zed stdW
def zku(W:Wd)(s:zad)(id:Int)(d:zav):Option Bool:=
 W.cnd (decide (d.2.2.1≤0)) (some false)
 (
 W.join (fun (z1:Bool×Unit)=>
  W.cnd z1.1 (some true)
  (
  W.loop (fun (z2:Int×Unit) again3=>
   W.cnd (decide (z2.1<(s.2.2.2.2.1.length:Int))) (W.idx s.2.2.2.2.1 z2.1 fun x4=>
   W.join (fun (z5:Bool×Unit)=>
    W.cnd z5.1 (some true)
    ((again3 ((IntKind.i64.wrap (z2.1+1)),()))))
    fun k6=>
    W.cnd (x4.2.1==id) (
    W.cnd (x4.2.2.1==1) (W.call (zed W x4 d.1) fun v7=>
     W.cnd v7 ((k6 (true,())))
     (
     W.cnd (x4.2.2.1==2) (W.call (zed W x4 d.1) fun v8=>
      W.cnd v8 (W.call (zed W x4 d.2.1) fun v9=>(k6 (v9,())))
      ((k6 (false,()))))
      ((k6 (false,())))))
     (
     W.cnd (x4.2.2.1==2) (W.call (zed W x4 d.1) fun v10=>
     W.cnd v10 (W.call (zed W x4 d.2.1) fun v11=>(k6 (v11,())))
      ((k6 (false,()))))
     ((k6 (false,())))))
    ((k6 (false,()))))
   (some false))
   (0,())))
  fun k12=>
  W.cnd (Go.Vc.notIf false ((d.1.1==d.2.1.1)&&(d.1.2.1==d.2.1.2.1))) ((k12 (true,())))
  ((k12 ((Go.Vc.notIf false ((d.1.1==0)&&(d.1.2.1==0))),()))))
abbrev law31_may:=zku stdW
def zki(W:Wd)(l:List ALot')(asset:Int):Option zae:=
 W.loop (fun (z1:S11) again2=>
 W.cnd (decide (z1.1<(l.length:Int))) (
  W.join (fun (z3:S10)=>(again2 ((IntKind.i64.wrap (z1.1+1)),z3)))
  fun k4=>W.idx l z1.1 fun x5=>
  W.cnd (x5.1==asset) (W.idx l z1.1 fun x6=>W.two (W.call (zal W x6.2.2.1) fun v7=>W.call (zay W z1.2 v7) fun v8=>(k4 v8)))
   ((k4 z1.2)))
  (some z1.2))
 (0,(false,([],())))
abbrev ref18_Sum:=zki stdW
def zev(W:Wd)(l:List AHold')(asset:Int):Option zae:=
 W.loop (fun (z1:S11) again2=>
 W.cnd (decide (z1.1<(l.length:Int))) (
  W.join (fun (z3:S10)=>(again2 ((IntKind.i64.wrap (z1.1+1)),z3)))
  fun k4=>W.idx l z1.1 fun x5=>W.two (W.call (zki W x5.2.1 asset) fun v6=>W.call (zay W z1.2 v6) fun v7=>(k4 v7)))
  (some z1.2))
 (0,(false,([],())))
abbrev zou:=zev stdW
def zex(W:Wd)(l:List AFlow'):Option zae:=
 W.loop (fun (z1:S11) again2=>
 W.cnd (decide (z1.1<(l.length:Int))) (
  W.join (fun (z3:S10)=>(again2 ((IntKind.i64.wrap (z1.1+1)),z3)))
  fun k4=>W.idx l z1.1 fun x5=>W.two (W.call (zal W x5.2.1) fun v6=>W.call (zay W z1.2 v6) fun v7=>(k4 v7)))
  (some z1.2))
 (0,(false,([],())))
abbrev zow:=zex stdW
def zdy(W:Wd)(s:zad)(id:Int):Option Bool:=W.call (zht W s) fun v1=>W.call (ziy W v1 id) fun v2=>
 W.cnd (v2.2.2.1 != 0) (
 W.cnd ((v2.2.1.length:Int)==0) (W.call (zha W) fun v3=>some v3)
  (some false))
 (
 W.loop (fun (z4:S29) again5=>
  W.cnd (decide (z4.1<(z4.2.1.length:Int))) (W.idx z4.2.1 z4.1 fun x6=>W.nth z4.2.1 (Int.toNat z4.1) fun x7=>W.call (zku W v1 id x7) fun v8=>
  W.cnd (!v8) (some false)
   ((again5 ((IntKind.i64.wrap (z4.1+1)),z4.2))))
  (
  W.loop (fun (z9:S29) again10=>
   W.cnd (decide (z9.1<(v1.2.2.2.2.1.length:Int))) (W.idx v1.2.2.2.2.1 z9.1 fun x11=>W.call (zcg W x11) fun v12=>
   W.loop (fun (z13:Int×List zav×List AUnit'×Unit) again14=>
    W.cnd (decide (z13.1<(z13.2.2.1.length:Int))) (
    W.loop (fun (z15:Int×Bool×List (Int)×List zav×List AUnit'×Unit) again16=>
     W.cnd (decide (z15.1<(z15.2.2.2.1.length:Int))) (
     W.join (fun (z17:Bool×List (Int)×List zav×List AUnit'×Unit)=>(again16 ((IntKind.i64.wrap (z15.1+1)),z17)))
      fun k18=>
      W.join (fun (z19:Bool×List zav×List AUnit'×Unit)=>
      W.cnd z19.1 (W.idx z19.2.1 z15.1 fun x20=>W.both (W.nth z19.2.1 (Int.toNat z15.1) fun x21=>W.call (zal W x21.2.2.1) fun v22=>W.call (zay W (z15.2.1,(z15.2.2.1,())) v22) fun v23=>(k18 (v23.1,(v23.2.1,z19.2)))) (W.nth z19.2.1 (Int.toNat z15.1) fun x24=>W.two (W.call (zal W x24.2.2.1) fun v25=>W.call (zay W (z15.2.1,(z15.2.2.1,())) v25) fun v26=>(k18 (v26.1,(v26.2.1,z19.2))))))
       ((k18 (z15.2.1,(z15.2.2.1,z19.2)))))
      fun k29=>W.idx z15.2.2.2.1 z15.1 fun x30=>W.idx z15.2.2.2.2.1 z13.1 fun x31=>W.both (W.nth z15.2.2.2.1 (Int.toNat z15.1) fun x32=>W.nth z15.2.2.2.2.1 (Int.toNat z13.1) fun x33=>(k29 ((Go.Vc.notIf false ((x32.2.1.1==x33.1)&&(x32.2.1.2.1==x33.2.1))),z15.2.2.2))) (W.nth z15.2.2.2.2.1 (Int.toNat z13.1) fun x34=>W.nth z15.2.2.2.1 (Int.toNat z15.1) fun x35=>(k29 ((Go.Vc.notIf false ((x35.2.1.1==x34.1)&&(x35.2.1.2.1==x34.2.1))),z15.2.2.2))))
     (W.idx z15.2.2.2.2.1 z13.1 fun x36=>W.nth z15.2.2.2.2.1 (Int.toNat z13.1) fun x37=>W.call (zdc W v1 x37) fun v38=>W.idx z15.2.2.2.2.1 z13.1 fun x39=>W.nth z15.2.2.2.2.1 (Int.toNat z13.1) fun x40=>W.call (zdc W v2.1 x40) fun v41=>W.call (zal W v38.1) fun v42=>W.call (zal W v41.1) fun v43=>W.call (zdh W v42 v43) fun v44=>W.call (zbn W v44 (z15.2.1,(z15.2.2.1,()))) fun v45=>
     W.cnd (v45 != 0) (some false)
      ((again14 ((IntKind.i64.wrap (z13.1+1)),z15.2.2.2)))))
     (0,(false,([],z13.2))))
    ((again10 ((IntKind.i64.wrap (z9.1+1)),(z13.2.1,())))))
    (0,(z9.2.1,(v12,()))))
   (
   W.loop (fun (z46:Int×Unit) again47=>
    W.cnd (decide (z46.1≤4)) (W.call (zev W v2.1.2.2.2.2.2.2.2.2.2.2.2.1 z46.1) fun v48=>W.call (zev W v1.2.2.2.2.2.2.2.2.2.2.2.1 z46.1) fun v49=>W.call (zbn W v48 v49) fun v50=>
    W.cnd (v50 != 0) (some false)
     ((again47 ((IntKind.i64.wrap (z46.1+1)),()))))
    (W.call (zex W v2.1.2.2.2.2.2.2.2.2.2.2.1) fun v51=>W.call (zex W v1.2.2.2.2.2.2.2.2.2.2.1) fun v52=>W.call (zbn W v51 v52) fun v53=>
    W.cnd (v53==0) (W.call (zha W) fun v54=>some v54)
     (some false)))
    (1,())))
   (0,z4.2)))
  (0,(v2.2.1,())))
end Go.Proofs.YtllkmncnmlmefaaGreat

namespace Go.Proofs.YtllkmncnmlmefaaGreat
open Go Go.Vc Go.RowKit
theorem r_nat(u:Nat)(hu:u<18446744073709551616):zqc (u:Int)=some (bigS false u):=nat_is u hu
theorem r_plus{xs ys:List Int}(hx:Nrm xs)(hy:Nrm ys)(lx:xs.length≤1000)(ly:ys.length≤1000):znx xs ys=some (bitsOf (valB xs+valB ys)):=plus_is hx hy lx ly
theorem r_less{xs ys:List Int}(hx:Nrm xs)(hy:Nrm ys)(lx:xs.length≤1000)(ly:ys.length≤1000):ref01_less xs ys=some (decide (valB xs<valB ys)):=less_is hx hy lx ly
theorem r_minus{xs ys:List Int}(hx:Nrm xs)(hy:Nrm ys)(lx:xs.length≤1000)(hle:valB ys≤valB xs):yfm xs ys=some (bitsK xs.length (valB xs - valB ys)):=minus_is hx hy lx hle
theorem r_trim{g:Bool}{xs:List Int}(h:bitL xs)(lx:xs.length≤1000):zrp g xs=some (bigS g (valB xs)):=trim_is h lx
theorem zwx{n k K:Nat}(h:n<2 ^ k)(hk:k≤K):(bitsOf n).length≤K:=Nat.le_trans (zqx k n h) hk
theorem pw{a b k:Nat}(ha:a<2 ^ k)(hb:b<2 ^ k):a+b<2 ^ (k+1):=by rw[Nat.pow_succ]; omega
theorem zaa{α β:Type}{o:Option α}{a:α}(h:o=some a)(K:α→Option β):stdW.call o K=K a:=by subst h; rfl
theorem zys{xs:List Int}(h:Nrm xs){k:Nat}(hl:xs.length≤k):valB xs<2 ^ k:=Nat.lt_of_lt_of_le (zrf xs h.bits) (Nat.pow_le_pow_right (by omega) hl)
theorem sum_len{a b:List Int}(ha:Nrm a)(hb:Nrm b){k:Nat}(la:a.length≤k)(lb:b.length≤k):(bitsOf (valB a+valB b)).length≤k+1:=zwx (pw (zys ha la) (zys hb lb)) (Nat.le_refl _)
theorem r_add{x y:BigT}(hx:Nb x)(hy:Nb y)(lx:x.2.1.length≤900)(ly:y.2.1.length≤900):zdi x y=some (big (bv x+bv y)):=by
 show zay stdW x y=_
 have nx:=nb_nrm hx
 have ny:=nb_nrm hy
 unfold zay
 have eta:∀z:BigT,(some (z.1,(z.2.1,())):Option BigT)=some z:=fun z=>rfl
 by_cases h:x.1=y.1
 ·have e:notIf false (x.1==y.1)=true:=by simp[notIf,h]
  have hs:(bitsOf (valB x.2.1+valB y.2.1)).length≤1000:=Nat.le_trans (sum_len nx ny lx ly) (by omega)
  rw[e]
  show (stdW.call _ _:Option BigT)=_
  rw[zaa (r_plus nx ny (by omega) (by omega)),zaa (r_trim (zlg _) hs),eta,add_same h]
 ·have e:notIf false (x.1==y.1)=false:=by simp[notIf,h]
  rw[e]
  show (stdW.call _ _:Option BigT)=_
  rw[zaa (r_less nx ny (by omega) (by omega))]
  by_cases hl:valB x.2.1<valB y.2.1
  ·rw[decide_eq_true hl]
   show (stdW.call _ _:Option BigT)=_
   rw[zaa (r_minus ny nx (by omega) (by omega)),zaa (r_trim (bitL_K _ _) (by rw[len_K]; omega)),eta,add_less ny h hl]
  ·rw[decide_eq_false hl]
   show (stdW.call _ _:Option BigT)=_
   rw[zaa (r_minus nx ny (by omega) (by omega)),zaa (r_trim (bitL_K _ _) (by rw[len_K]; omega)),eta,add_more nx h hl]
end Go.Proofs.YtllkmncnmlmefaaGreat

namespace Go.Proofs.YtllkmncnmlmefaaGreat
open Go Go.Vc Go.RowKit
def wv(w:zaq):Int:=w.1*18446744073709551616+w.2.1
def wOk(w:zaq):Prop:=(-9223372036854775808≤w.1∧w.1≤9223372036854775807)∧(0≤w.2.1∧w.2.1<18446744073709551616)
def wide(z:Int):zaq:=(z / 18446744073709551616,z % 18446744073709551616,())
def In128(z:Int):Prop := -170141183460469231731687303715884105728≤z∧z<170141183460469231731687303715884105728
instance (z:Int):Decidable (In128 z):=by unfold In128; infer_instance
theorem zjo(z:Int):wv (wide z)=z:=by unfold wide wv; simp only; omega
theorem wv_in(w:zaq)(h:wOk w):In128 (wv w):=by unfold wOk at h; unfold In128 wv; omega
theorem zjp(z:Int)(h:In128 z):wOk (wide z):=by unfold In128 at h; unfold wOk wide; simp only; omega
theorem wide_inj{a b:Int}(h:wide a=wide b):a=b:=by rw[←zjo a,h,zjo]
theorem shr63(n:Int)(h : -9223372036854775808≤n∧n≤9223372036854775807):n.fdiv (2 ^ min (Int.toNat 63) IntKind.i64.bits)=n / 18446744073709551616:=by
 have e:(2:Int) ^ min (Int.toNat 63) IntKind.i64.bits=9223372036854775808:=by decide +kernel
 rw[e,Int.fdiv_eq_ediv_of_nonneg _ (by omega)]; omega
def fit(z:Int):zaq×Int×Unit:=if In128 z then (wide z,0,()) else ((0,0,()),7,())
def I64(n:Int):Prop := -9223372036854775808≤n∧n≤9223372036854775807
theorem zpl{n:Int}(h:I64 n):In128 n:=by unfold I64 at h; unfold In128; omega
theorem r_wOf(n:Int)(h:I64 n):wide_Of n=some (wide n):=by
 show zej stdW n=_
 unfold zej
 rw[nn_w (by omega),shr63 n h,IntKind.wrap_u64]; rfl
def totT(V:Int):Int×Int×Int×Unit:=(V / 340282366920938463463374607431768211456,IntKind.i64.wrap (V / 18446744073709551616),V % 18446744073709551616,())
def InTot(V:Int):Prop := -1569275433846670190958947355801916604025588861116008628224≤V∧V<1569275433846670190958947355801916604025588861116008628224
theorem yel(z:Int):IntKind.u64.wrap (IntKind.i64.wrap z)=z % 18446744073709551616:=by
 rw[IntKind.wrap_u64,IntKind.wrap_i64]; omega
theorem zrb(z:Int):IntKind.i64.wrap (z % 18446744073709551616)=IntKind.i64.wrap z:=by
 rw[IntKind.wrap_i64,IntKind.wrap_i64]; omega
theorem tot_next(V x y:Int)(hV:InTot V)(hx : -9223372036854775808≤x∧x≤9223372036854775807)(hy:0≤y∧y<18446744073709551616):
  ((IntKind.i64.wrap (V / 340282366920938463463374607431768211456+IntKind.i64.wrap (x.fdiv (2 ^ min (Int.toNat 63) IntKind.i64.bits)+IntKind.i64.wrap ((IntKind.u64.wrap (IntKind.i64.wrap (V / 18446744073709551616))+IntKind.u64.wrap x+(V % 18446744073709551616+y+0) / 18446744073709551616) / 18446744073709551616))),
   IntKind.i64.wrap ((IntKind.u64.wrap (IntKind.i64.wrap (V / 18446744073709551616))+IntKind.u64.wrap x+(V % 18446744073709551616+y+0) / 18446744073709551616) % 18446744073709551616),
   (V % 18446744073709551616+y+0) % 18446744073709551616,()):Int×Int×Int×Unit)=totT (V+(x*18446744073709551616+y)):=by
 unfold InTot at hV
 rw[yel,zrb,shr63 x hx,IntKind.wrap_u64]
 have e1:(V+(x*18446744073709551616+y)) / 18446744073709551616=V / 18446744073709551616+x+(V % 18446744073709551616+y+0) / 18446744073709551616:=by omega
 have e0:(V+(x*18446744073709551616+y)) / 340282366920938463463374607431768211456=(V / 18446744073709551616+x+(V % 18446744073709551616+y+0) / 18446744073709551616) / 18446744073709551616:=by omega
 have e3:V / 340282366920938463463374607431768211456=V / 18446744073709551616 / 18446744073709551616:=by omega
 unfold totT
 rw[e1,e0,e3]
 have hc:0≤(V % 18446744073709551616+y+0) / 18446744073709551616∧(V % 18446744073709551616+y+0) / 18446744073709551616≤1:=by omega
 generalize (V % 18446744073709551616+y+0) / 18446744073709551616=c at*
 have hu : -92233720368547758080000000000000000000≤V / 18446744073709551616∧V / 18446744073709551616<92233720368547758080000000000000000000:=by omega
 generalize V / 18446744073709551616=u at*
 have f1:(V+(x*18446744073709551616+y)) % 18446744073709551616=(V % 18446744073709551616+y+0) % 18446744073709551616:=by omega
 rw[f1]
 have g2:(u % 18446744073709551616+x % 18446744073709551616+c) / 18446744073709551616≤2∧0≤(u % 18446744073709551616+x % 18446744073709551616+c) / 18446744073709551616:=by omega
 have g1:IntKind.i64.wrap ((u % 18446744073709551616+x % 18446744073709551616+c) / 18446744073709551616)=(u % 18446744073709551616+x % 18446744073709551616+c) / 18446744073709551616:=IntWalk.i64_in _ (by omega)
 rw[g1]
 have g3:IntKind.i64.wrap (x / 18446744073709551616+(u % 18446744073709551616+x % 18446744073709551616+c) / 18446744073709551616)=x / 18446744073709551616+(u % 18446744073709551616+x % 18446744073709551616+c) / 18446744073709551616:=IntWalk.i64_in _ (by omega)
 rw[g3]
 have g4:u / 18446744073709551616+(x / 18446744073709551616+(u % 18446744073709551616+x % 18446744073709551616+c) / 18446744073709551616)=(u+x+c) / 18446744073709551616:=by omega
 rw[g4]
 have g5:IntKind.i64.wrap ((u+x+c) / 18446744073709551616)=(u+x+c) / 18446744073709551616:=IntWalk.i64_in _ (by omega)
 rw[g5]
 have g6:IntKind.i64.wrap (u % 18446744073709551616+x % 18446744073709551616+c)=IntKind.i64.wrap (u+x+c):=by rw[IntKind.wrap_i64,IntKind.wrap_i64]; omega
 rw[g6]
theorem ykw{x y c:Int}(hx:0≤x)(hy:0≤y)(hc0:0≤c)(hc:c≤1):add64 x y c=some ((x+y+c) % 18446744073709551616,(x+y+c) / 18446744073709551616,()):=by unfold add64; rw[if_pos ⟨hx,hy,hc0,hc⟩]
theorem ztl{x y b:Int}(hx:0≤x)(hy:0≤y)(hy2:y<18446744073709551616)(hb0:0≤b)(hb:b≤1):sub64 x y b=some ((x - y - b) % 18446744073709551616,if x<y+b then 1 else 0,()):=by unfold sub64; rw[if_pos ⟨hx,hy,hy2,hb0,hb⟩]
theorem r_tadd(V:Int)(x:zaq)(hV:InTot V)(hx:wOk x):zgh (totT V).1 (totT V).2.1 (totT V).2.2.1 x=some ((),totT (V+wv x)):=by
 unfold wOk at hx
 show zbv stdW (V / 340282366920938463463374607431768211456) (IntKind.i64.wrap (V / 18446744073709551616)) (V % 18446744073709551616) x=_
 unfold zbv wv
 rw[←tot_next V x.1 x.2.1 hV hx.1 hx.2]
 have hV':=hV
 unfold InTot at hV'
 rw[zaa (ykw (by omega) (by omega) (by omega) (by omega)),zaa (ykw (by rw[IntKind.wrap_u64]; omega) (by rw[IntKind.wrap_u64]; omega) (by show 0≤(V % 18446744073709551616+x.2.1+0) / 18446744073709551616; omega) (by show (V % 18446744073709551616+x.2.1+0) / 18446744073709551616≤1; omega)),nn_w (by omega)]
theorem tot_fits(V:Int)(hV:InTot V):(V / 340282366920938463463374607431768211456==(IntKind.i64.wrap (V / 18446744073709551616)).fdiv (2 ^ min (Int.toNat 63) IntKind.i64.bits))=decide (In128 V):=by
 have hr : -9223372036854775808≤IntKind.i64.wrap (V / 18446744073709551616)∧IntKind.i64.wrap (V / 18446744073709551616)≤9223372036854775807:=by
  rw[IntKind.wrap_i64]; omega
 rw[shr63 _ hr]
 unfold InTot at hV
 by_cases h:In128 V
 ·rw[decide_eq_true h]
  unfold In128 at h
  rw[IntWalk.i64_in _ (by omega)]
  first|(simp; done)|(simp; omega)|skip
 ·rw[decide_eq_false h]
  unfold In128 at h
  rw[IntKind.wrap_i64]
  simp; omega
theorem r_ranged(w:zaq)(ok:Bool):yem w ok=some (if ok=true then (w,0,()) else ((0,0,()),7,())):=by
 show zgm stdW w ok=_
 unfold zgm
 cases ok<;>rfl
theorem r_tdone(V:Int)(hV:InTot V):zmh (totT V).1 (totT V).2.1 (totT V).2.2.1=some (fit V,totT V):=by
 show zcv stdW _ _ _=_
 unfold zcv
 rw[nn_w (by omega),zaa (r_ranged _ _)]
 have:=tot_fits V hV
 show some ((if (V / 340282366920938463463374607431768211456==(IntKind.i64.wrap (V / 18446744073709551616)).fdiv (2 ^ min (Int.toNat 63) IntKind.i64.bits))=true then _ else _),_)=_
 rw[this]
 unfold fit
 by_cases h:In128 V
 ·rw[if_pos (decide_eq_true h),if_pos h]
  have e:IntKind.i64.wrap (V / 18446744073709551616)=V / 18446744073709551616:=by unfold In128 at h; exact IntWalk.i64_in _ (by omega)
  show some (((IntKind.i64.wrap (V / 18446744073709551616),V % 18446744073709551616,()),0,()),_)=_
  rw[e]; rfl
 ·rw[decide_eq_false h,if_neg (by simp),if_neg h]
def sumW(l:List zaq):Int:=(l.map wv).sum
theorem sumW_in:∀(l:List zaq),(∀w∈l,wOk w) → -(170141183460469231731687303715884105728*(l.length:Int))≤sumW l∧sumW l≤170141183460469231731687303715884105728*(l.length:Int)
 |[],_=>by simp[sumW]
 |x::l,h=>by
  have h1:=wv_in x (h x (by simp))
  have h2:=sumW_in l fun w hw=>h w (by simp[hw])
  unfold In128 at h1
  simp only[sumW,List.map_cons,List.sum_cons,List.length_cons]at h2 ⊢
  omega
theorem yif(l:List zaq)(h:∀w∈l,wOk w)(hl:l.length<9223372036854775807):InTot (sumW l):=by
 have:=sumW_in l h
 unfold InTot; omega
theorem sumW_app(a b:List zaq):sumW (a++b)=sumW a+sumW b:=by unfold sumW; simp
theorem sumW_one(a:zaq):sumW [a]=wv a:=by unfold sumW; simp
theorem sumW_take(l:List zaq)(i:Nat)(h:i<l.length):sumW (l.take (i+1))=sumW (l.take i)+wv l[i]:=by
 rw[show l.take (i+1)=l.take i++[l[i]] by simp,sumW_app,sumW_one]
theorem r_wAdd(l:List zaq)(h:∀w∈l,wOk w)(hl:l.length<9223372036854775807):zyp l=some (fit (sumW l)):=by
 show zka stdW l=_
 unfold zka
 refine zbo (l:=l) (by omega) (fun i s=>s=totT (sumW (l.take i))) (fun _ _=>some (fit (sumW l))) (by simp[sumW]; rfl) ?_ ?_
 ·rintro _ again rfl
  rw[List.take_length,zaj,zaa (r_tdone _ (yif l h hl))]
 ·rintro i hi _ rfl again ha
  rw[cnd_lt hi,idx_w hi,zaa (r_tadd _ _ (yif _ (fun w hw=>h w (List.mem_of_mem_take hw)) (by rw[List.length_take]; omega)) (h _ (List.getElem_mem hi)))]
  dsimp only
  rw[i64_s i (by omega)]
  exact ha _ (by rw[sumW_take l i hi])
theorem r_neg{a:BigT}(h:Nb a)(la:a.2.1.length≤1000):ref01_Neg a=some (big (-(bv a))):=by
 show zkq stdW a=_
 unfold zkq
 rw[zaa (r_trim (nb_nrm h).bits la),neg_is]
theorem r_sub{a b:BigT}(ha:Nb a)(hb:Nb b)(la:a.2.1.length≤900)(lb:b.2.1.length≤900):ycv a b=some (big (bv a - bv b)):=by
 show zdh stdW a b=_
 unfold zdh
 have e:∀z:BigT,(z.1,(z.2.1,()))=z:=fun z=>rfl
 rw[zaa (r_neg hb (by omega)),zaa (r_add ha (nb_big _) la (by rw[neg_len hb]; exact lb)),bv_big]
 congr 2
theorem r_cmp{a b:BigT}(ha:Nb a)(hb:Nb b)(la:a.2.1.length≤900)(lb:b.2.1.length≤900):zuz a b=some (if bv a - bv b=0 then 0 else if bv a - bv b<0 then -1 else 1):=by
 show zbn stdW a b=_
 unfold zbn
 have e:∀z:BigT,(z.1,(z.2.1,()))=z:=fun z=>rfl
 rw[zaa (r_sub ha hb la lb)]
 by_cases h:bv a - bv b=0
 ·rw[cnd_y (by have:=(yku (bv a - bv b)).2 h; simp[this]),if_pos h]
 ·rw[cnd_n (by have:=mt (yku (bv a - bv b)).1 h; simpa using this),if_neg h,cnd_b]
  show (if decide (bv a - bv b<0)=true then _ else _)=_
  by_cases h2:bv a - bv b<0
  ·rw[if_pos (by simpa using h2),if_pos h2]
  ·rw[if_neg (by simpa using h2),if_neg h2]
theorem r_of{n:Int}(h:I64 n):zjm n=some (big n):=by
 show zal stdW n=_
 unfold I64 at h
 unfold zal
 by_cases h0:0≤n
 ·rw[cnd_y (decide_eq_true h0),u64_id n (by omega)]
  obtain⟨m,rfl⟩:=Int.eq_ofNat_of_zero_le h0
  rw[zaa (r_nat m (by omega)),bigS_f]
 ·rw[cnd_n (decide_eq_false h0),of_neg (by omega) (by omega)]
  obtain⟨m,hm⟩:=Int.eq_ofNat_of_zero_le (show 0 ≤ -(n+1) by omega)
  rw[hm,zaa (r_nat m (by omega))]
  have hl:(bitsOf m).length≤1000:=zwx (show m<2 ^ 64 by omega) (by omega)
  show stdW.call (znx (bitsOf m) [1]) _=_
  rw[zaa (r_plus (yah m) nrm1 hl (by simp)),of_negB (by omega) (by omega) hm.symm]
  rfl
theorem zhk{z:Int}(h : -170141183460469231731687303715884105728≤z∧z≤170141183460469231731687303715884105728):(big z).2.1.length≤200:=by
 refine len_big z ?_
 have:(2:Nat) ^ 200=1606938044258990275541962092341162602522202993782792835301376:=by decide
 omega
def ltA(a b:U0'):Prop:=a.1<b.1∨(a.1=b.1∧a.2.1<b.2.1)
instance (a b:U0'):Decidable (ltA a b):=by unfold ltA; infer_instance
instance:DecidableEq U0':=inferInstanceAs (DecidableEq (Int×Int×Unit))
theorem extA{a b:U0'}(h1:a.1=b.1)(h2:a.2.1=b.2.1):a=b:=by
 obtain⟨a1,a2,⟨⟩⟩:=a; obtain⟨b1,b2,⟨⟩⟩:=b; simp only at h1 h2; subst h1 h2; rfl
theorem zef(a:U0'):¬ltA a a:=by unfold ltA; omega
theorem ltA_tr{a b c:U0'}(h1:ltA a b)(h2:ltA b c):ltA a c:=by unfold ltA at *; omega
theorem zpi{a b:U0'}(h1:¬ltA a b)(h2:¬ltA b a):a=b:=by
 unfold ltA at *; exact extA (by omega) (by omega)
theorem ltA_as{a b:U0'}(h1:ltA a b)(h2:ltA b a):False:=zef a (ltA_tr h1 h2)
abbrev SrtA(l:List U0'):Prop:=l.Pairwise ltA
theorem yeq:∀{l m:List U0'},SrtA l→SrtA m→(∀x,x∈l↔x∈m)→l=m
 |[],[],_,_,_=>rfl
 |[],b::m,_,_,h=>absurd ((h b).2 (by simp)) (by simp)
 |a::l,[],_,_,h=>absurd ((h a).1 (by simp)) (by simp)
 |a::l,b::m,hl,hm,h=>by
  obtain⟨h1,h2⟩:=List.pairwise_cons.1 hl
  obtain⟨h3,h4⟩:=List.pairwise_cons.1 hm
  have hab:a=b:=by
   rcases List.mem_cons.1 ((h a).1 (by simp)) with e|e
   ·exact e
   ·rcases List.mem_cons.1 ((h b).2 (by simp)) with e'|e'
    ·exact e'.symm
    ·exact(ltA_as (h1 b e') (h3 a e)).elim
  subst hab
  rw[yeq h2 h4 fun x=>?_]
  constructor
  ·intro hx
   rcases List.mem_cons.1 ((h x).1 (List.mem_cons_of_mem _ hx)) with rfl|e
   ·exact(zef _ (h1 _ hx)).elim
   ·exact e
  ·intro hx
   rcases List.mem_cons.1 ((h x).2 (List.mem_cons_of_mem _ hx)) with rfl|e
   ·exact(zef _ (h3 _ hx)).elim
   ·exact e
theorem zsd(x y:U0')(l:List U0'):insU x (y::l)=if ltA x y then x::y::l else if x=y then y::l else y::insU x l:=by
 have e0:insU x (y::l)=bif decide (x.1<y.1)||(x.1==y.1&&decide (x.2.1<y.2.1)) then x::y::l else bif x.1==y.1&&x.2.1==y.2.1 then y::l else y::insU x l:=rfl
 have e1:(decide (x.1<y.1)||(x.1==y.1&&decide (x.2.1<y.2.1)))=decide (ltA x y):=by
  rw[Bool.eq_iff_iff,decide_eq_true_eq]; simp[ltA]
 have e2:(x.1==y.1&&x.2.1==y.2.1)=decide (x=y):=by
  rw[Bool.eq_iff_iff]
  simp only[Bool.and_eq_true,beq_iff_eq,decide_eq_true_eq]
  exact⟨fun h=>extA h.1 h.2,fun h=>by rw[h]; exact⟨rfl,rfl⟩⟩
 rw[e0,e1,e2]
 by_cases h1:ltA x y
 ·rw[decide_eq_true h1,if_pos h1]; rfl
 ·rw[decide_eq_false h1,if_neg h1]
  by_cases h2:x=y
  ·rw[decide_eq_true h2,if_pos h2]; rfl
  ·rw[decide_eq_false h2,if_neg h2]; rfl
theorem yap(x u:U0'):∀(l:List U0'),u∈insU x l↔u=x∨u∈l
 |[]=>by simp[insU]
 |y::l=>by
  rw[zsd]
  split
  ·simp
  ·split
   ·rename_i h; subst h; simp
   ·rw[List.mem_cons,yap x u l,List.mem_cons]
    constructor
    ·rintro(h|h|h)<;>simp[h]
    ·rintro(h|h|h)<;>simp[h]
theorem ykh(x:U0'):∀{l:List U0'},SrtA l→SrtA (insU x l)
 |[],_=>by simp[insU]
 |y::l,h=>by
  obtain⟨h1,h2⟩:=List.pairwise_cons.1 h
  rw[zsd]
  split
  ·rename_i hlt
   exact List.pairwise_cons.2 ⟨fun z hz=>(List.mem_cons.1 hz).elim (fun e=>e▸hlt) fun hz=>ltA_tr hlt (h1 z hz),h⟩
  ·rename_i hlt
   split
   ·exact h
   ·rename_i hne
    refine List.pairwise_cons.2 ⟨fun z hz=>?_,ykh x h2⟩
    rcases (yap x z l).1 hz with rfl|hz
    ·exact Classical.byContradiction fun hn=>hne (zpi hlt hn)
    ·exact h1 z hz
theorem yki(x:U0'):∀(l:List U0'),(insU x l).length≤l.length+1
 |[]=>by simp[insU]
 |y::l=>by
  rw[zsd]
  split
  ·simp
  ·split
   ·simp
   ·have:=yki x l; simp; omega
theorem zpx:∀(l:List F0') (ks:List U0'),SrtA ks→SrtA (l.foldl (fun s x=>insU x.1 s) ks)∧(∀u,u∈l.foldl (fun s x=>insU x.1 s) ks↔u∈ks∨∃x∈l,x.1=u)∧(l.foldl (fun s x=>insU x.1 s) ks).length≤ks.length+l.length
 |[],ks,h=>⟨h,fun u=>by simp,by simp⟩
 |y::l,ks,h=>by
  obtain⟨h1,h2,h3⟩:=zpx l (insU y.1 ks) (ykh _ h)
  refine⟨h1,fun u=>?_,?_⟩
  ·rw[List.foldl_cons,h2,yap]
   constructor
   ·rintro((h|h)|⟨x,hx,h⟩)
    ·exact .inr ⟨y,by simp,h.symm⟩
    ·exact .inl h
    ·exact .inr ⟨x,by simp[hx],h⟩
   ·rintro(h|⟨x,hx,h⟩)
    ·exact .inl (.inr h)
    ·rcases List.mem_cons.1 hx with rfl|hx
     ·exact .inl (.inl h.symm)
     ·exact .inr ⟨x,hx,h⟩
  ·rw[List.foldl_cons,List.length_cons]
   have:=yki y.1 ks
   omega
theorem zpv(l:List F0')(u:U0'):u∈zbr l↔∃x∈l,x.1=u:=by
 have:=(zpx l [] .nil).2.1 u
 simpa[zbr]using this
theorem zmj(l:List F0'):SrtA (zbr l):=(zpx l [] .nil).1
theorem zpw(l:List F0'):(zbr l).length≤l.length:=by simpa[zbr]using(zpx l [] .nil).2.2
def lowU(u:U0')(l:List U0'):List U0':=l.filter fun x=>decide (ltA x u)
def highU(u:U0')(l:List U0'):List U0':=l.filter fun x=>!decide (ltA x u)
theorem yjt:∀{l:List U0'},SrtA l→∀u,l.take (lowU u l).length=lowU u l∧l.drop (lowU u l).length=highU u l
 |[],_,u=>by simp[lowU,highU]
 |a::l,h,u=>by
  obtain⟨h1,h2⟩:=List.pairwise_cons.1 h
  obtain⟨e1,e2⟩:=yjt h2 u
  by_cases ha:ltA a u
  ·have p1:lowU u (a::l)=a::lowU u l:=by simp[lowU,ha]
   have p2:highU u (a::l)=highU u l:=by simp[highU,ha]
   rw[p1,p2]; simp[e1,e2]
  ·have hall:∀x∈l,¬ltA x u:=fun x hx hxu=>ha (ltA_tr (h1 x hx) hxu)
   have p1:lowU u (a::l)=[]:=by
    unfold lowU; rw[List.filter_eq_nil_iff]
    intro x hx
    rcases List.mem_cons.1 hx with rfl|hx
    ·simp[ha]
    ·simp[hall x hx]
   have p2:highU u (a::l)=a::l:=by
    unfold highU; rw[List.filter_eq_self]
    intro x hx
    rcases List.mem_cons.1 hx with rfl|hx
    ·simp[ha]
    ·simp[hall x hx]
   rw[p1,p2]; simp
theorem low_step{l:List U0'}(h:SrtA l)(u:U0')(i:Nat)(hi:i<l.length):(lowU u (l.take (i+1))).length=if ltA l[i] u then i+1 else (lowU u (l.take i)).length:=by
 have e:l.take (i+1)=l.take i++[l[i]]:=by simp
 rw[e]
 unfold lowU
 rw[List.filter_append,List.length_append]
 by_cases hu:ltA l[i] u
 ·have hall:(l.take i).filter (fun x=>decide (ltA x u))=l.take i:=by
   rw[List.filter_eq_self]
   intro x hx
   have hs:=h
   rw[←List.take_append_drop i l]at hs
   have:=(List.pairwise_append.1 hs).2.2 x hx l[i] (List.mem_of_getElem? (i:=0) (by rw[List.getElem?_drop]; simp[hi]))
   simp[ltA_tr this hu]
  rw[hall]; simp[hu]; omega
 ·simp[hu]
def insA(u:U0')(l:List U0'):List U0':=if u∈l then l else lowU u l++u::highU u l
theorem insA_mem(u:U0')(l:List U0')(x:U0'):x∈insA u l↔x=u∨x∈l:=by
 unfold insA lowU highU
 split
 ·rename_i h
  constructor
  ·exact .inr
  ·rintro(rfl|h')<;>assumption
 ·simp only[List.mem_append,List.mem_filter,List.mem_cons,decide_eq_true_eq,Bool.not_eq_true',decide_eq_false_iff_not]
  constructor
  ·rintro(h|h|h)
   ·exact .inr h.1
   ·exact .inl h
   ·exact .inr h.1
  ·rintro(h|h)
   ·exact .inr (.inl h)
   ·by_cases hx:ltA x u
    ·exact .inl ⟨h,hx⟩
    ·exact .inr (.inr ⟨h,hx⟩)
theorem insA_srt{u:U0'}{l:List U0'}(h:SrtA l):SrtA (insA u l):=by
 unfold insA
 split
 ·exact h
 ·rename_i hu
  refine List.pairwise_append.2 ⟨h.filter _,List.pairwise_cons.2 ⟨fun x hx=>?_,h.filter _⟩,fun a ha b hb=>?_⟩
  ·unfold highU at hx
   simp only[List.mem_filter,Bool.not_eq_true',decide_eq_false_iff_not]at hx
   by_cases hux:ltA u x
   ·exact hux
   ·exact absurd (zpi hux hx.2▸hx.1) hu
  ·unfold lowU at ha
   simp only[List.mem_filter,decide_eq_true_eq]at ha
   rcases List.mem_cons.1 hb with rfl|hb
   ·exact ha.2
   ·unfold highU at hb
    simp only[List.mem_filter,Bool.not_eq_true',decide_eq_false_iff_not]at hb
    by_cases hub:ltA u b
    ·exact ltA_tr ha.2 hub
    ·exact absurd (zpi hub hb.2▸hb.1) hu
theorem ygq:∀(l:List F0') (acc:List U0'),SrtA acc→SrtA (l.foldl (fun a x=>insA x.1 a) acc)∧∀u,u∈l.foldl (fun a x=>insA x.1 a) acc↔u∈acc∨∃x∈l,x.1=u
 |[],acc,h=>⟨h,fun u=>by simp⟩
 |x::l,acc,h=>by
  obtain⟨h1,h2⟩:=ygq l (insA x.1 acc) (insA_srt h)
  refine⟨h1,fun u=>?_⟩
  rw[List.foldl_cons,h2,insA_mem]
  constructor
  ·rintro((rfl|h)|⟨y,hy,e⟩)
   ·exact .inr ⟨x,by simp,rfl⟩
   ·exact .inl h
   ·exact .inr ⟨y,by simp[hy],e⟩
  ·rintro(h|⟨y,hy,e⟩)
   ·exact .inl (.inr h)
   ·rcases List.mem_cons.1 hy with rfl|hy
    ·exact .inl (.inl e.symm)
    ·exact .inr ⟨y,hy,e⟩
theorem ins_units(l:List F0'):l.foldl (fun a x=>insA x.1 a) []=zbr l:=by
 obtain⟨h1,h2⟩:=ygq l [] List.Pairwise.nil
 exact yeq h1 (zmj l) fun u=>by rw[h2,zpv]; simp
theorem ybr(xs:List Int)(i:Nat)(h:i≤xs.length):valB (xs.drop i)≤valB xs:=by
 have h1:=zre xs i h
 have h2:valB (xs.drop i)≤2 ^ i*valB (xs.drop i):=Nat.le_mul_of_pos_left _ (Nat.two_pow_pos i)
 omega
theorem r_int{z:Int}(h:I64 z):zdm (big z)=some z:=by
 unfold I64 at h
 show zag stdW (big z)=_
 unfold zag
 have hb:bitL (big z).2.1:=zlg _
 have hv:valB (big z).2.1=z.natAbs:=zfg _
 have hl:(big z).2.1.length≤64:=zqx 64 _ (by omega)
 have hs:(big z).1=decide (z<0):=rfl
 generalize (big z).1=sg at*
 generalize (big z).2.1=xs at*
 refine(zdb (fun z=>z.2.1.toNat) (fun y=>∃i:Nat,i≤xs.length∧y=((if z<0 then -((valB (xs.drop i):Nat):Int) else ((valB (xs.drop i):Nat):Int)),((i:Int),()))) (fun _=>some z) ⟨xs.length,Nat.le_refl _,by simp[valB]⟩ (by show ((xs.length:Nat):Int).toNat<_; omega) ?_)
 rintro _ ⟨i,hi,rfl⟩ again ha
 show stdW.cnd (decide ((0:Int)<((i:Nat):Int))) _ _=_
 by_cases h0:i=0
 ·subst h0
  rw[cnd_n (c:=decide ((0:Int)<((0:Nat):Int))) rfl,List.drop_zero,hv]
  congr 1; split<;>omega
 ·have hm:i - 1<xs.length:=by omega
  rw[cnd_y (decide_eq_true (by omega)),join_w,zfn i (by omega) (by rw[zbc]; omega)]
  have hd:xs.drop (i - 1)=xs[i - 1]::xs.drop i:=by rw[List.drop_eq_getElem_cons hm,show i - 1+1=i by omega]
  have hbit:=hb _ (List.getElem_mem hm)
  have hle:=ybr xs (i - 1) (by omega)
  rw[hv,hd,valB]at hle
  have hx0:0≤xs[i - 1]∧xs[i - 1]≤1:=by rcases hbit with e|e<;>rw[e]<;>omega
  have next:∀n:Int,n=(if z<0 then -((valB (xs.drop (i - 1)):Nat):Int) else ((valB (xs.drop (i - 1)):Nat):Int))→again (n,(((i - 1:Nat):Int),()))=some z:=fun n hn=>ha _ ⟨i - 1,by omega,by rw[hn]⟩ (by show ((i - 1:Nat):Int).toNat<((i:Nat):Int).toNat; omega)
  rw[hd,valB]at next
  by_cases hz:z<0
  ·rw[hs,cnd_y (decide_eq_true hz),idx_w hm]
   refine next _ ?_
   rw[if_pos hz,if_pos hz,IntWalk.i64_in xs[i - 1] (by omega),IntWalk.i64_in (2 * -((valB (xs.drop i):Nat):Int)) (by omega),IntWalk.i64_in _ (by omega)]
   omega
  ·rw[hs,cnd_n (decide_eq_false hz),idx_w hm]
   refine next _ ?_
   rw[if_neg hz,if_neg hz,IntWalk.i64_in xs[i - 1] (by omega),IntWalk.i64_in (2*((valB (xs.drop i):Nat):Int)) (by omega),IntWalk.i64_in _ (by omega)]
   omega
def sml(z:Int):Prop := -170141183460469231731687303715884105728≤z∧z≤170141183460469231731687303715884105728
instance (z:Int):Decidable (I64 z):=by unfold I64; infer_instance
theorem yjx(n:Nat):(bitsOf n).length<64↔n<9223372036854775808:=by
 constructor
 ·intro h
  have:=zys (yah n) (k:=63) (by omega)
  rw[zfg]at this; simpa using this
 ·intro h
  have:=zqx 63 n (by simpa using h)
  omega
theorem r_fits{z:Int}(h:sml z):zny (big z)=some (decide (I64 z)):=by
 unfold sml at h
 have hw:ycu ((big z).1,((big z).2.1,())) 64=some (decide (I64 z)):=by
  show zfk stdW (big z) 64=_
  unfold zfk
  rw[join_w]
  by_cases hz:z<0
  ·have hs:(big z).1=true:=decide_eq_true hz
   have e1:zqc 1=some (big 1):=r_nat 1 (by omega)
   have e2:zdi ((big z).1,((big z).2.1,())) ((big 1).1,((big 1).2.1,()))=some (big (z+1)):=by
    have:=r_add (nb_big z) (nb_big 1) (Nat.le_trans (zhk h) (by decide)) (Nat.le_trans (zhk (by omega)) (by decide))
    rw[bv_big,bv_big]at this; exact this
   have e3:(decide (((big (z+1)).2.1.length:Int)<64))=decide (I64 z):=by
    refine decide_eq_decide.2 ?_
    have:=yjx (z+1).natAbs
    show (((bitsOf (z+1).natAbs).length:Int)<64)↔_
    unfold I64; omega
   rw[cnd_y hs,two_w,zaa e1,zaa e2]
   show some (decide _)=_
   rw[e3]
  ·have hs:(big z).1=false:=decide_eq_false hz
   rw[cnd_n hs]
   show some (decide (((bitsOf z.natAbs).length:Int)<64))=_
   congr 1
   refine decide_eq_decide.2 ?_
   have:=yjx z.natAbs
   unfold I64; omega
 show zap stdW (big z)=_
 unfold zap
 rw[zaa hw]
def fits64(z:Int):Int×Int×Unit:=if I64 z then (z,0,()) else (0,7,())
theorem nif_t(c:Bool):notIf true c=!c:=by cases c<;>rfl
theorem nif_f(c:Bool):notIf false c=c:=by cases c<;>rfl
theorem r_wInt{z:Int}(h:In128 z):zpu (wide z)=some (fits64 z):=by
 show zjz stdW (wide z)=_
 unfold zjz
 have hw:IntKind.i64.wrap (wide z).2.1=IntKind.i64.wrap z:=zrb z
 have hI:I64 (IntKind.i64.wrap z):=by unfold I64; rw[IntKind.wrap_i64]; omega
 rw[hw,zaa (r_wOf _ hI),nif_t]
 unfold fits64
 by_cases hz:I64 z
 ·have e:IntKind.i64.wrap z=z:=by unfold I64 at hz; exact IntWalk.i64_in _ (by omega)
  rw[if_pos hz,e,cnd_n (by simp)]
 ·rw[if_neg hz,cnd_y ?_]
  rw[Bool.not_eq_true']
  cases hc:((wide (IntKind.i64.wrap z)).1==(wide z).1&&(wide (IntKind.i64.wrap z)).2.1==(wide z).2.1) with
  |false=>rfl
  |true=>
   simp only[Bool.and_eq_true,beq_iff_eq]at hc
   have:wide (IntKind.i64.wrap z)=wide z:=Prod.ext hc.1 (Prod.ext hc.2 rfl)
   exact absurd (wide_inj this▸hI) hz
theorem zqg{z:Int}(h:In128 z):zoi (wide z) 0=some (fits64 z):=by
 show zdz stdW (wide z) 0=_
 unfold zdz
 rw[cnd_n (by decide),zaa (r_wInt h)]
theorem sum_in{l:List Int}(h:∀x∈l,I64 x) : -(9223372036854775808*(l.length:Int))≤l.sum∧l.sum≤9223372036854775808*(l.length:Int):=by
 have:=znr (f:=fun x:Int=>x) (B:=9223372036854775808) (l:=l) (fun x hx=>by have:=h x hx; unfold I64 at this; omega)
 simpa[sumBy]using this
theorem sumW_wide(l:List Int):sumW (l.map wide)=l.sum:=by
 unfold sumW
 rw[List.map_map]
 have:(wv ∘ wide)=id:=funext zjo
 rw[this,List.map_id]
theorem wides_ok{l:List Int}(h:∀x∈l,I64 x):∀w∈l.map wide,wOk w:=by
 intro w hw
 obtain⟨x,hx,rfl⟩:=List.mem_map.1 hw
 exact zjp _ (zpl (h x hx))
theorem sum128{l:List Int}(h:∀x∈l,I64 x)(hl:l.length≤1000000):In128 l.sum:=by
 have:=sum_in h; unfold In128; omega
theorem r_wSum{l:List Int}(h:∀x∈l,I64 x)(hl:l.length≤1000000):zyp (l.map wide)=some (wide l.sum,0,()):=by
 rw[r_wAdd _ (wides_ok h) (by rw[List.length_map]; omega),sumW_wide]
 unfold fit; rw[if_pos (sum128 h hl)]
theorem r_fSum{l:List Int}(h:∀x∈l,I64 x)(hl:l.length≤1000000):zne l=some (fits64 l.sum):=by
 show zen stdW l=_
 unfold zen
 rw[nn_w (by omega),room_w (by simp; omega) (by simp; omega)]
 refine loop_n (N:=l.length) (by omega) (fun i s=>s=((l.take i).map wide,())) (some (fits64 l.sum)) rfl ?_ ?_
 ·rintro _ again rfl
  rw[zaj,List.take_length,zaa (r_wSum h hl),zaa (zqg (sum128 h hl))]
 ·rintro i hi _ rfl again ha
  rw[cnd_lt hi,idx_w hi,zaa (r_wOf _ (h _ (List.getElem_mem hi))),i64_s i (by omega),room_w (by simp; omega) (by simp; omega)]
  refine ha _ ?_
  rw[List.take_succ_eq_append_getElem hi,List.map_append]; rfl
theorem join_g{X β:Type}{k0:X→Option β}{f:(X→Option β)→Option β}{r:Option β}(h:∀k,k=k0→f k=r):stdW.join k0 f=r:=h k0 rfl
theorem yfq(a b:AUnit'):yek a b=some (decide (ltA a b)):=by
 show zgg stdW a b=_
 unfold zgg
 by_cases h:a.1=b.1
 ·rw[cnd_n (by simp[h])]
  congr 1; refine decide_eq_decide.2 ?_; unfold ltA; omega
 ·rw[cnd_y (by simp[h])]
  congr 1; refine decide_eq_decide.2 ?_; unfold ltA; omega
theorem ztq(a b:AUnit'):ref15_Less a b=some (decide (ltA a b)):=by
 show zdu stdW a b=_
 unfold zdu
 by_cases h1:a.1<b.1
 ·rw[cnd_y (decide_eq_true h1),decide_eq_true (by unfold ltA; omega)]
 ·rw[cnd_n (decide_eq_false h1)]
  by_cases h:a.1=b.1
  ·rw[cnd_y (by simp[h])]
   congr 1; refine decide_eq_decide.2 ?_; unfold ltA; omega
  ·rw[cnd_n (by simp[h]),decide_eq_false (by unfold ltA; omega)]
def PInv(l:List AFlow'):Prop:=(∀x∈l,x.2.1≠0)∧SrtA (l.map (·.1))
instance (l:List AFlow'):Decidable (PInv l):=by unfold PInv SrtA; infer_instance
def isP(l:List AFlow'):Bool:=decide (PInv l)
theorem yka{l:List AFlow'}{i:Nat}(hi:i<l.length)(h:l[i].2.1=0):isP l=false:=
 decide_eq_false fun hp=>hp.1 _ (List.getElem_mem hi) h
theorem yjz{l:List AFlow'}{i:Nat}(hi:i<l.length)(h0:0<i)(h:¬ltA (l[i - 1]'(by omega)).1 l[i].1):isP l=false:=
 decide_eq_false fun hp=>h (by
  have:=List.pairwise_iff_getElem.1 hp.2 (i - 1) i (by simp; omega) (by simpa using hi) (by omega)
  simpa using this)
theorem ztw{l:List AFlow'}{i:Nat}(hi:i<l.length)(inv:PInv (l.take i))(h1:l[i].2.1≠0)(h2:∀h0:0<i,ltA (l[i - 1]'(by omega)).1 l[i].1):PInv (l.take (i+1)):=by
 rw[List.take_succ_eq_append_getElem hi]
 refine⟨fun x hx=>?_,?_⟩
 ·rcases List.mem_append.1 hx with hx|hx
  ·exact inv.1 x hx
  ·simp at hx; rw[hx]; exact h1
 ·show SrtA ((l.take i++[l[i]]).map (·.1))
  rw[List.map_append]
  refine List.pairwise_append.2 ⟨inv.2,by simp,fun a ha b hb=>?_⟩
  simp only[List.map_cons,List.map_nil,List.mem_singleton]at hb
  subst hb
  obtain⟨k,hk,hka⟩:=List.mem_iff_getElem.1 ha
  have hk':k<i:=by simp at hk; omega
  have h3:=h2 (by omega)
  by_cases hki:k=i - 1
  ·subst hki; rw[←hka]; simpa using h3
  ·have h4:=List.pairwise_iff_getElem.1 inv.2 k (i - 1) (by simpa using hk) (by simp; omega) (by omega)
   rw[hka]at h4
   refine ltA_tr h4 ?_
   simpa using h3
theorem isP_end{l:List AFlow'}(h:PInv (l.take l.length)):isP l=true:=by rw[List.take_length]at h; exact decide_eq_true h
theorem r_is{l:List AFlow'}(hl:l.length≤1000000):yje l=some (isP l):=by
 show zir stdW l=_
 unfold zir
 refine loop_n (N:=l.length) (by omega) (fun i _=>PInv (l.take i)) (some (isP l)) (by simp[PInv]) ?_ ?_
 ·rintro _ again h
  rw[zaj,isP_end h]
 ·rintro i hi _ inv again ha
  rw[cnd_lt hi,idx_w hi]
  refine join_g fun k hk=>?_
  have kt:k (true,())=some false:=by subst hk; rfl
  have kf:k (false,())=again (((i+1:Nat):Int),()):=by rw[←i64_s i (by omega)]; subst hk; rfl
  clear hk
  by_cases h1:l[i].2.1=0
  ·rw[cnd_y (by simpa using h1),kt,yka hi h1]
  ·rw[cnd_n (by simpa using h1)]
   by_cases h0:0<i
   ·rw[cnd_y (decide_eq_true (by omega)),zfn i h0 (by rw[zbc]; omega),idx_w (by omega),zaa (yfq _ _)]
    by_cases h2:ltA (l[i - 1]'(by omega)).1 l[i].1
    ·rw[decide_eq_true h2]
     exact kf.trans (ha _ (ztw hi inv h1 fun _=>h2))
    ·rw[decide_eq_false h2,yjz hi h0 h2]; exact kt
   ·rw[cnd_n (decide_eq_false (by omega))]
    exact kf.trans (ha _ (ztw hi inv h1 fun h=>absurd h h0))
theorem r_is17{l:List AFlow'}(hl:l.length≤1000000):yiq l=some (isP l):=by
 show zkl stdW l=_
 unfold zkl
 refine loop_n (N:=l.length) (by omega) (fun i _=>PInv (l.take i)) (some (isP l)) (by simp[PInv]) ?_ ?_
 ·rintro _ again h
  rw[zaj,isP_end h]
 ·rintro i hi _ inv again ha
  rw[cnd_lt hi]
  refine join_g fun k hk=>?_
  have kt:k (true,())=some false:=by subst hk; rfl
  have kf:k (false,())=again (((i+1:Nat):Int),()):=by rw[←i64_s i (by omega)]; subst hk; rfl
  clear hk
  rw[idx_w hi]
  by_cases h1:l[i].2.1=0
  ·rw[cnd_y (by simpa using h1),kt,yka hi h1]
  ·rw[cnd_n (by simpa using h1)]
   by_cases h0:0<i
   ·rw[cnd_y (decide_eq_true (by omega)),zfn i h0 (by rw[zbc]; omega),idx_w (by omega),idx_w hi,zaa (ztq _ _)]
    by_cases h2:ltA (l[i - 1]'(by omega)).1 l[i].1
    ·rw[decide_eq_true h2]
     exact kf.trans (ha _ (ztw hi inv h1 fun _=>h2))
    ·rw[decide_eq_false h2,yjz hi h0 h2]; exact kt
   ·rw[cnd_n (decide_eq_false (by omega))]
    exact kf.trans (ha _ (ztw hi inv h1 fun h=>absurd h h0))
theorem eqA(a b:AUnit'):(a.1==b.1&&a.2.1==b.2.1)=decide (a=b):=by
 by_cases h:a=b
 ·subst h; simp
 ·rw[decide_eq_false h]
  cases hc:(a.1==b.1&&a.2.1==b.2.1) with
  |false=>rfl
  |true=>simp only[Bool.and_eq_true,beq_iff_eq]at hc; exact absurd (extA hc.1 hc.2) h
def getP:List AFlow'→AUnit'→Int
 |[],_=>0
 |x::l,u=>if x.1=u then x.2.1 else getP l u
theorem r_get{l:List AFlow'}{u:AUnit'}(hl:l.length≤1000000):zmu l u=some (getP l u):=by
 show zey stdW l u=_
 unfold zey
 refine zbo (l:=l) (by omega) (fun _ _=>True) (fun l _=>some (getP l u)) trivial ?_ ?_
 ·rintro _ again _
  rw[zaj]; rfl
 ·rintro i hi _ _ again ha
  rw[cnd_lt hi,idx_w hi,nif_f,eqA]
  unfold getP
  by_cases h:l[i].1=u
  ·rw[cnd_y (decide_eq_true h),if_pos h]
  ·rw[cnd_n (decide_eq_false h),if_neg h,i64_s i (by omega)]
   exact ha _ trivial
theorem yfr{l:List AFlow'}{u:AUnit'}(hl:l.length≤1000000):zkm l u=some (getP l u):=by
 show zcw stdW l u=_
 unfold zcw
 refine zbo (l:=l) (by omega) (fun _ _=>True) (fun l _=>some (getP l u)) trivial ?_ ?_
 ·rintro _ again _
  rw[zaj]; rfl
 ·rintro i hi _ _ again ha
  rw[cnd_lt hi,idx_w hi,nif_f,eqA]
  unfold getP
  by_cases h:l[i].1=u
  ·rw[cnd_y (decide_eq_true h),if_pos h,idx_w hi]
  ·rw[cnd_n (decide_eq_false h),if_neg h,i64_s i (by omega)]
   exact ha _ trivial
def amt(x:AFlow'):Int:=x.2.1
def okF(l:List AFlow'):Prop:=∀x∈l,I64 (amt x)
theorem sumA_in{l:List AFlow'}(h:okF l) : -(9223372036854775808*(l.length:Int))≤sumBy amt l∧sumBy amt l≤9223372036854775808*(l.length:Int):=
 znr fun x hx=>by have:=h x hx; unfold I64 at this; omega
theorem zyw{l:List AFlow'}(h:okF l)(hl:l.length≤1000000):sml (sumBy amt l)∧In128 (sumBy amt l):=by
 have:=sumA_in h; unfold sml In128; omega
theorem okF.take{l:List AFlow'}(h:okF l)(i:Nat):okF (l.take i):=fun x hx=>h x (List.mem_of_mem_take hx)
theorem r_addB{a b:Int}(ha:sml a)(hb:sml b):zdi (big a) (big b)=some (big (a+b)):=by
 unfold sml at*
 have:=r_add (nb_big a) (nb_big b) (Nat.le_trans (zhk ha) (by decide)) (Nat.le_trans (zhk hb) (by decide))
 rwa [bv_big,bv_big]at this
theorem big0:big 0=(false,([],())):=by unfold big; simp[bits0]
theorem zcp{n:Int}(h:I64 n):sml n:=by unfold I64 at h; unfold sml; omega
theorem zds{X β:Type}{N:Nat}(hN:N<9223372036854775808){f:X→(X→Option β)→Option β}(st:Nat→X)(r:Option β){z0:X}(hz:z0=st 0)
  (hend:∀again:X→Option β,f (st N) again=r) (hstep:∀i,i<N→∀again:X→Option β,again (st (i+1))=r→f (st i) again=r):stdW.loop f z0=r:=by
 subst hz
 have key:∀n i,i≤N→N - i<n→loopF n f (st i)=r:=by
  intro n
  induction n with
  |zero=>intro i _ h; omega
  |succ n ih=>
   intro i hi hn
   show f (st i) (loopF n f)=r
   by_cases h:i<N
   ·exact hstep i h _ (ih (i+1) (by omega) (by omega))
   ·have:i=N:=by omega
    subst this; exact hend _
 show loopF FU f (st 0)=r
 exact key FU 0 (Nat.zero_le _) (by rw[FU_eq]; omega)
theorem pick_w{β:Type}[EqB β]{l:List KU}{K:KU→Option β}{N:Option β}{r:β}(h0:l=[]→N=some r)(h1:∀y∈l,K y=some r):stdW.pick l K N=some r:=by
 show pickF l K N=some r
 cases l with
 |nil=>exact h0 rfl
 |cons x l=>
  show l.foldl (fun r y=>bothF r (K y)) (K x)=some r
  rw[h1 x (by simp)]
  have key:∀l:List KU,(∀y∈l,K y=some r)→l.foldl (fun r y=>bothF r (K y)) (some r)=some r:=by
   intro l
   induction l with
   |nil=>intro _; rfl
   |cons y l ih=>
    intro h
    rw[List.foldl_cons,h y (by simp),ybg]
    exact ih fun z hz=>h z (by simp[hz])
  exact key l fun y hy=>h1 y (by simp[hy])
theorem zls{α:Type}:∀{l m:List α},l.Nodup→(∀x∈l,x∈m)→l.length≤m.length
 |[],m,_,_=>by simp
 |a::l,m,h,hs=>by
  obtain⟨m1,m2,rfl⟩:=List.append_of_mem (hs a (by simp))
  have h2:=List.nodup_cons.1 h
  have:l.length≤(m1++m2).length:=zls h2.2 fun x hx=>by
   have:=hs x (by simp[hx])
   simp only[List.mem_append,List.mem_cons]at this ⊢
   rcases this with h'|rfl|h'
   ·exact .inl h'
   ·exact absurd hx h2.1
   ·exact .inr h'
  simp at this ⊢; omega
def keysO(l:List AFlow'):List KU:=l.foldl (fun s x=>addU s x.1) []
theorem keys_step(l:List AFlow')(i:Nat)(h:i<l.length):keysO (l.take (i+1))=addU (keysO (l.take i)) l[i].1:=by
 unfold keysO
 rw[List.take_succ_eq_append_getElem h,List.foldl_append]; rfl
theorem addU_cases(ks:List KU)(x:KU):addU ks x=if x∈ks then ks else ks++[x]:=by
 unfold addU
 by_cases h:x∈ks
 ·rw[zfm.2 h,if_pos h]; rfl
 ·have:memU x ks=false:=by
   cases hm:memU x ks with
   |true=>exact absurd (zfm.1 hm) h
   |false=>rfl
  rw[this,if_neg h]; rfl
theorem zqo:∀(l:List AFlow') (ks:List KU),ks.Nodup→(l.foldl (fun s x=>addU s x.1) ks).Nodup∧(∀u,u∈l.foldl (fun s x=>addU s x.1) ks↔u∈ks∨∃x∈l,x.1=u)∧(l.foldl (fun s x=>addU s x.1) ks).length≤ks.length+l.length
 |[],ks,h=>⟨h,fun u=>by simp,by simp⟩
 |y::l,ks,h=>by
  rw[List.foldl_cons,addU_cases]
  by_cases hy:y.1∈ks
  ·rw[if_pos hy]
   obtain⟨h1,h2,h3⟩:=zqo l ks h
   refine⟨h1,fun u=>?_,by simp; omega⟩
   rw[h2]
   constructor
   ·rintro(h|⟨x,hx,h⟩)
    ·exact .inl h
    ·exact .inr ⟨x,by simp[hx],h⟩
   ·rintro(h|⟨x,hx,h⟩)
    ·exact .inl h
    ·rcases List.mem_cons.1 hx with rfl|hx
     ·exact .inl (h▸hy)
     ·exact .inr ⟨x,hx,h⟩
  ·rw[if_neg hy]
   obtain⟨h1,h2,h3⟩:=zqo l (ks++[y.1]) (List.nodup_append.2 ⟨h,by simp,fun a ha b hb=>by simp at hb; subst hb; rintro rfl; exact hy ha⟩)
   refine⟨h1,fun u=>?_,by simp at h3 ⊢; omega⟩
   rw[h2]
   constructor
   ·rintro(h|⟨x,hx,h⟩)
    ·rcases List.mem_append.1 h with h|h
     ·exact .inl h
     ·simp at h; exact .inr ⟨y,by simp,h.symm⟩
    ·exact .inr ⟨x,by simp[hx],h⟩
   ·rintro(h|⟨x,hx,h⟩)
    ·exact .inl (by simp[h])
    ·rcases List.mem_cons.1 hx with rfl|hx
     ·exact .inl (by simp[h])
     ·exact .inr ⟨x,hx,h⟩
theorem keys_mem(l:List AFlow')(u:KU):u∈keysO l↔∃x∈l,x.1=u:=by
 have:=(zqo l [] .nil).2.1 u
 simpa[keysO]using this
theorem keys_nd(l:List AFlow'):(keysO l).Nodup:=(zqo l [] .nil).1
theorem keys_len(l:List AFlow'):(keysO l).length≤l.length:=by simpa[keysO]using(zqo l [] .nil).2.2
theorem srtK_units{l:List AFlow'}{dn:List KU}(hn:dn.Nodup)(hm:∀u,u∈dn↔∃x∈l,x.1=u):srtK dn=zbr l:=by
 refine yeq ?_ (zmj l) fun u=>?_
 ·have h2:(srtK dn).Nodup:=(zml dn).nodup_iff.2 hn
  refine List.Pairwise.imp (fun {a b} h=>?_) ((zza dn).and h2)
  obtain⟨h3,h4⟩:=h
  simp only[leK,Bool.or_eq_true,Bool.and_eq_true,decide_eq_true_eq,beq_iff_eq]at h3
  unfold ltA
  by_cases e1:a.1=b.1
  ·have:a.2.1≠b.2.1:=fun e2=>h4 (extA e1 e2)
   omega
  ·omega
 ·rw[(zml dn).mem_iff,hm,zpv]
theorem r_named{l:List AFlow'}(hl:l.length≤1000000):yfw l=some (zbr l):=by
 show zgz stdW l=_
 unfold zgz
 refine loop_n (N:=l.length) (by omega) (fun i s=>s=(keysO (l.take i),())) (some (zbr l)) rfl ?_ ?_
 ·rintro _ again rfl
  rw[zaj,List.take_length]
  have hk:=keys_len l
  have hn:=keys_nd l
  have hm:=keys_mem l
  generalize keysO l=ks at hk hn hm ⊢
  refine zdb (fun z=>ks.length+1 - z.2.1.length) (fun z=>∃dn,z=((ks,(dn,())),(dn,()))∧dn.Nodup∧∀x∈dn,x∈ks) (fun _=>some (zbr l)) ⟨[],rfl,.nil,by simp⟩ (by show ks.length+1 - 0<_; omega) ?_
  rintro _ ⟨dn,rfl,hdn,hsub⟩ again ha
  refine join_g fun k hk8=>?_
  have kf:restU ks dn=[]→k (false,((ks,(dn,())),(dn,())))=some (zbr l):=by
   intro he
   have hall:∀u,u∈dn↔∃x∈l,x.1=u:=fun u=>by
    rw[←hm]
    refine⟨hsub u,fun hu=>?_⟩
    have:=List.filter_eq_nil_iff.1 he u hu
    simpa[zfm]using this
   subst hk8
   show stdW.cnd false _ (stdW.call (zlh dn) _)=_
   have hld:=zls hdn hsub
   have e:zlh dn=some (srtK dn):=by
    unfold zlh
    rw[show Nat.blt dn.length 4611686018427387904=true from Nat.ble_eq_true_of_le (by omega)]; rfl
   rw[cnd_n rfl,zaa e,srtK_units hdn hall]
  have kt:∀y∈restU ks dn,k (true,((ks,(dn++[y],())),(dn,())))=some (zbr l):=by
   intro y hy
   obtain⟨hyk,hyd⟩:=List.mem_filter.1 hy
   have hyd:y∉dn:=fun h=>by rw[zfm.2 h]at hyd; cases hyd
   have hnd:(dn++[y]).Nodup:=List.nodup_append.2 ⟨hdn,by simp,fun a ha b hb=>by simp at hb; subst hb; rintro rfl; exact hyd ha⟩
   have hsub2:∀x∈dn++[y],x∈ks:=fun x hx=>by
    rcases List.mem_append.1 hx with hx|hx
    ·exact hsub x hx
    ·simp at hx; exact hx▸hyk
   have hlen:=zls hnd hsub2
   rw[List.length_append]at hlen
   simp only[List.length_cons,List.length_nil]at hlen
   have:=ha ((ks,(dn++[y],())),(dn++[y],())) ⟨dn++[y],rfl,hnd,hsub2⟩ (by show ks.length+1 - (dn++[y]).length<ks.length+1 - dn.length; rw[List.length_append]; simp only[List.length_cons,List.length_nil]; omega)
   subst hk8
   show stdW.cnd true (stdW.idx (dn++[y]) (((dn++[y]).length:Int) - 1) _) _=_
   rw[cnd_y rfl,show ((dn++[y]).length:Int) - 1=((dn.length:Nat):Int) by rw[List.length_append]; simp,idx_w (by simp)]
   have ey:(dn++[y])[dn.length]'(by simp)=y:=by simp
   rw[ey,room_w (by simp; omega) (by simp; omega)]
   exact this
  clear hk8
  exact pick_w kf kt
 ·rintro i hi _ rfl again ha
  rw[cnd_lt hi,idx_w hi]
  show again (IntKind.i64.wrap ((i:Int)+1),_)=_
  rw[i64_s i (by omega)]
  exact ha _ (by rw[keys_step l i hi])
theorem r_concat{ll:List (List AFlow')}(h1:ll.length≤1000)(h2:ll.flatten.length≤1000000):zdj ll=some ll.flatten:=by
 show zaw stdW ll=_
 unfold zaw
 have hf:∀i,(ll.take i).flatten.length≤1000000:=fun i=>by
  have:ll.flatten=(ll.take i).flatten++(ll.drop i).flatten:=by rw[←List.flatten_append,List.take_append_drop]
  rw[this,List.length_append]at h2; omega
 have hst:∀i (h:i<ll.length),(ll.take (i+1)).flatten=(ll.take i).flatten++ll[i]:=fun i h=>by
  rw[List.take_succ_eq_append_getElem h,List.flatten_append]; simp
 refine zds (N:=ll.length) (by omega) (fun i=>((((ll.take i).flatten.length:Nat):Int),(((i:Nat):Int),()))) (some ll.flatten) rfl ?_ ?_
 ·intro again
  show stdW.cnd (decide ((ll.length:Int)<(ll.length:Int))) _ (stdW.call (growO [] (((ll.take ll.length).flatten.length:Nat):Int)) _)=_
  rw[zaj,List.take_length]
  have e:growO [] (ll.flatten.length:Int)=some ([],()):=by
   unfold growO
   rw[show (decide (0≤(ll.flatten.length:Int))&&decide (((([]:List F0').length:Int)+(ll.flatten.length:Int))*24≤140737488355328))=true by
    rw[Bool.and_eq_true,decide_eq_true_eq,decide_eq_true_eq]
    simp only[List.length_nil]
    omega]
   rfl
  rw[zaa e]
  refine zds (N:=ll.length) (by omega) (fun i=>(((i:Nat):Int),((ll.take i).flatten,()))) (some ll.flatten) rfl ?_ ?_
  ·intro again2
   show stdW.cnd (decide ((ll.length:Int)<(ll.length:Int))) _ _=_
   rw[zaj,List.take_length]
  ·intro i hi again2 ha
   show stdW.cnd (decide ((i:Int)<(ll.length:Int))) (stdW.idx ll (i:Int) _) _=_
   rw[cnd_lt hi,idx_w hi]
   have:=hf (i+1)
   rw[hst i hi,List.length_append]at this
   show stdW.room ((ll.take i).flatten.length+ll[i].length) 24 (again2 (IntKind.i64.wrap ((i:Int)+1),((ll.take i).flatten++ll[i],())))=_
   rw[room_w (by omega) (by omega),i64_s i (by omega),←hst i hi]
   exact ha
 ·intro i hi again ha
  show stdW.cnd (decide ((i:Int)<(ll.length:Int))) (stdW.idx ll (i:Int) _) _=_
  rw[cnd_lt hi,idx_w hi]
  have:=hf (i+1)
  rw[hst i hi,List.length_append]at this
  have e:IntKind.i64.wrap ((((ll.take i).flatten.length:Nat):Int)+(ll[i].length:Int))=((((ll.take (i+1)).flatten.length:Nat)):Int):=by
   rw[hst i hi,List.length_append,IntKind.wrap_i64]; omega
  show stdW.cnd (decide (IntKind.i64.wrap ((((ll.take i).flatten.length:Nat):Int)+(ll[i].length:Int))<0)) _ (again (IntKind.i64.wrap ((((ll.take i).flatten.length:Nat):Int)+(ll[i].length:Int)),(IntKind.i64.wrap ((i:Int)+1),())))=_
  rw[e,cnd_n (decide_eq_false (by omega)),i64_s i (by omega)]
  exact ha
def ofFlow(u:AUnit')(x:AFlow'):Bool:=decide (x.1=u)
def amts(l:List AFlow')(u:AUnit'):List Int:=(l.filter (ofFlow u)).map amt
def sumU(l:List AFlow')(u:AUnit'):Int:=(amts l u).sum
theorem ybj(l:List AFlow')(u:AUnit'):(amts l u).length≤l.length:=by
 unfold amts; rw[List.length_map]; exact List.length_filter_le _ _
theorem amts_ok{l:List AFlow'}(h:okF l)(u:AUnit'):∀x∈amts l u,I64 x:=by
 intro x hx
 obtain⟨y,hy,rfl⟩:=List.mem_map.1 hx
 exact h y (List.mem_filter.1 hy).1
theorem zxa(l:List AFlow')(u:AUnit')(i:Nat)(h:i<l.length):amts (l.take (i+1)) u=amts (l.take i) u++(if l[i].1=u then [l[i].2.1] else []):=by
 unfold amts
 rw[ygz _ _ _ h,List.map_append]
 unfold ofFlow
 by_cases hu:l[i].1=u<;>simp[hu,amt]
theorem r_amounts{l:List AFlow'}{u:AUnit'}(hl:l.length≤1000000):zzv l u=some (amts l u):=by
 show zeg stdW l u=_
 unfold zeg
 refine loop_n (N:=l.length) (by omega) (fun i s=>s=(amts (l.take i) u,())) (some (amts l u)) rfl ?_ ?_
 ·rintro _ again rfl
  rw[zaj,List.take_length]
 ·rintro i hi _ rfl again ha
  rw[cnd_lt hi]
  refine join_g fun k hk=>?_
  have kk:∀v:List Int,k (v,())=again (((i+1:Nat):Int),(v,())):=by intro v; rw[←i64_s i (by omega)]; subst hk; rfl
  clear hk
  have hlen:=ybj (l.take i) u
  rw[List.length_take]at hlen
  rw[idx_w hi,nif_f,eqA]
  by_cases h:l[i].1=u
  ·rw[cnd_y (decide_eq_true h),room_w (by simp; omega) (by simp; omega),kk]
   refine ha _ ?_
   rw[zxa _ _ _ hi,if_pos h]
  ·rw[cnd_n (decide_eq_false h),kk]
   refine ha _ ?_
   rw[zxa _ _ _ hi,if_neg h,List.append_nil]
def payGo(all:List AFlow'):List AUnit'→List AFlow'→List AFlow'×Int×Unit
 |[],acc=>(acc,0,())
 |u::us,acc=>if I64 (sumU all u) then (if sumU all u≠0 then payGo all us (acc++[(u,sumU all u,())]) else payGo all us acc) else ([],7,())
def payP(l fl:List AFlow'):List AFlow'×Int×Unit:=if isP l=true then payGo (l++fl) (zbr (l++fl)) [] else ([],3,())
theorem r_pay{l fl:List AFlow'}(h:okF l)(hf:okF fl)(hl:l.length+fl.length≤1000000):zvf l fl=some (payP l fl):=by
 show zkr stdW l fl=_
 unfold zkr payP
 rw[zaa (r_is (by omega))]
 by_cases hp:isP l=true
 ·rw[hp,cnd_n (by decide),if_pos rfl]
  have hall:okF (l++fl):=fun x hx=>(List.mem_append.1 hx).elim (h x) (hf x)
  have e1:zdj (l::(fl::[]))=some (l++fl):=by
   have:=r_concat (ll:=l::(fl::[])) (by simp) (by simp; omega)
   rw[this]; simp
  have hlen:(l++fl).length≤1000000:=by rw[List.length_append]; exact hl
  have e2:=r_named hlen
  rw[zaa e1,zaa e2]
  have hul:=zpw (l++fl)
  generalize l++fl=all at*
  generalize zbr all=us at*
  refine zbo (l:=us) (by omega) (fun i (s:List AFlow'×List AUnit'×List AFlow'×Unit)=>s.1=all∧s.2.1=us∧s.2.2.1.length≤i) (fun us' (s:List AFlow'×List AUnit'×List AFlow'×Unit)=>some (payGo all us' s.2.2.1)) ⟨rfl,rfl,Nat.le_refl _⟩ ?_ ?_
  ·rintro⟨_,_,acc,⟨⟩⟩ again ⟨rfl,rfl,_⟩
   rw[zaj]; rfl
  ·rintro i hi ⟨all',us',acc,⟨⟩⟩ ⟨hal,hus,hacc⟩ again ha
   have hus:us=us':=hus.symm
   subst hus
   have hal:all'=all:=hal
   subst hal
   simp only at hacc
   rw[cnd_lt hi]
   refine join_g fun k hk=>?_
   have kk:∀v:List AFlow',k (all',(us,(v,())))=again (((i+1:Nat):Int),(all',(us,(v,())))):=by intro v; rw[←i64_s i (by omega)]; subst hk; rfl
   clear hk
   show stdW.idx us (i:Int) _=_
   rw[idx_w hi]
   show stdW.nth us (Int.toNat (i:Int)) _=_
   rw[nth_w hi,zaa (r_amounts hlen)]
   show _=some (payGo all' (us[i]::us.drop (i+1)) acc)
   rw[payGo]
   have e3:=r_fSum (amts_ok hall us[i]) (Nat.le_trans (ybj _ _) hlen)
   change zne (amts all' us[i])=some (if I64 (sumU all' us[i]) then (sumU all' us[i],0,()) else (0,7,())) at e3
   by_cases hI:I64 (sumU all' us[i])
   ·rw[if_pos hI]at e3
    rw[if_pos hI,zaa e3]
    show stdW.cnd ((0:Int) != 0) _ (stdW.cnd (sumU all' us[i] != 0) (stdW.room (acc.length+1) 24 (k (all',(us,(acc++[(us[i],sumU all' us[i],())],()))))) (k (all',(us,(acc,())))))=_
    rw[cnd_n (by decide)]
    by_cases h0:sumU all' us[i]=0
    ·rw[if_neg (by simp[h0]),cnd_n (by simp[h0])]
     exact(kk acc).trans (ha _ ⟨rfl,rfl,by simp only; omega⟩)
    ·rw[if_pos h0,cnd_y (by simp[h0]),room_w (by omega) (by omega)]
     exact(kk (acc++[(us[i],sumU all' us[i],())])).trans (ha _ ⟨rfl,rfl,by simp; omega⟩)
   ·rw[if_neg hI]at e3
    rw[if_neg hI,zaa e3]
    show stdW.cnd ((7:Int) != 0) (some ([],(7,()))) _=_
    rw[cnd_y (by decide)]
 ·have hp:isP l=false:=by simpa using hp
  rw[hp,cnd_y (by decide),if_neg (by simp)]
theorem not_i(a:Int)(h : -9223372036854775808≤a∧a≤9223372036854775807):bits .xor .i64 (-1) a = -1 - a:=by
 have e1:BitVec.ofInt 64 (-1)=BitVec.allOnes 64:=by decide
 show IntKind.i64.wrap (((BitVec.ofInt 64 (-1) ^^^ BitVec.ofInt 64 a).toNat:Nat):Int)=_
 rw[e1,BitVec.allOnes_xor,BitVec.toNat_not,BitVec.toNat_ofInt,IntKind.wrap_i64]
 have:(2:Int) ^ 64=18446744073709551616:=by decide
 omega
theorem not_u(a:Int)(h:0≤a∧a<18446744073709551616):bits .xor .u64 18446744073709551615 a=18446744073709551615 - a:=by
 have e1:BitVec.ofInt 64 18446744073709551615=BitVec.allOnes 64:=by decide
 show IntKind.u64.wrap (((BitVec.ofInt 64 18446744073709551615 ^^^ BitVec.ofInt 64 a).toNat:Nat):Int)=_
 rw[e1,BitVec.allOnes_xor,BitVec.toNat_not,BitVec.toNat_ofInt,IntKind.wrap_u64]
 have:(2:Int) ^ 64=18446744073709551616:=by decide
 omega
theorem r_wSub{a b:Int}(ha:In128 a)(hb:In128 b):wide_Sub (wide a) (wide b)=some (fit (a - b)):=by
 show zmi stdW (wide a) (wide b)=_
 unfold zmi
 have ha':=ha
 have hb':=hb
 unfold In128 at ha' hb'
 have t0:InTot 0:=by unfold InTot; omega
 have t1:InTot a:=by unfold InTot; omega
 have t2:InTot (a+(-b - 1)):=by unfold InTot; omega
 have t3:InTot (a - b):=by unfold InTot; omega
 have s1:zgh 0 0 0 (wide a)=some ((),totT a):=by
  have:=r_tadd 0 (wide a) t0 (zjp a ha)
  rw[zjo,Int.zero_add]at this
  exact this
 rw[zaa s1]
 have ec:(bits .xor .i64 (if true=true then (-1) else (if true=true then ((2 ^ ((IntKind.bits .i64) - 1)) - 1) else ((2 ^ (IntKind.bits .i64)) - 1))) (wide b).1,bits .xor .u64 (if false=true then (-1) else (if false=true then ((2 ^ ((IntKind.bits .u64) - 1)) - 1) else ((2 ^ (IntKind.bits .u64)) - 1))) (wide b).2.1,())=wide (-b - 1):=by
  have c1:(if false=true then (-1:Int) else (if false=true then ((2 ^ ((IntKind.bits .u64) - 1)) - 1) else ((2 ^ (IntKind.bits .u64)) - 1)))=18446744073709551615:=by decide
  rw[c1,if_pos rfl]
  unfold wide
  show (bits .xor .i64 (-1) (b / 18446744073709551616),bits .xor .u64 18446744073709551615 (b % 18446744073709551616),())=_
  rw[not_i _ (by omega),not_u _ (by omega)]
  refine Prod.ext ?_ (Prod.ext ?_ rfl)
  ·show -1 - b / 18446744073709551616=(-b - 1) / 18446744073709551616; omega
  ·show 18446744073709551615 - b % 18446744073709551616=(-b - 1) % 18446744073709551616; omega
 have s2:=r_tadd a (wide (-b - 1)) t1 (zjp _ (by unfold In128; omega))
 rw[zjo]at s2
 show stdW.call (zgh (totT a).1 (totT a).2.1 (totT a).2.2.1 _) _=_
 rw[ec,zaa s2,zaa (r_wOf 1 (by unfold I64; omega))]
 have s3:=r_tadd (a+(-b - 1)) (wide 1) t2 (zjp _ (by unfold In128; omega))
 rw[zjo,show a+(-b - 1)+1=a - b by omega]at s3
 show stdW.call (zgh (totT (a+(-b - 1))).1 (totT (a+(-b - 1))).2.1 (totT (a+(-b - 1))).2.2.1 (wide 1)) _=_
 rw[zaa s3]
 show stdW.call (zmh (totT (a - b)).1 (totT (a - b)).2.1 (totT (a - b)).2.2.1) _=_
 rw[zaa (r_tdone _ t3)]
theorem r_fSub{a b:Int}(ha:I64 a)(hb:I64 b):fix_Sub a b=some (fits64 (a - b)):=by
 show zlx stdW a b=_
 unfold zlx
 have hd:In128 (a - b):=by unfold I64 at ha hb; unfold In128; omega
 have e:fit (a - b)=(wide (a - b),0,()):=if_pos hd
 rw[zaa (r_wOf a ha),zaa (r_wOf b hb),zaa (r_wSub (zpl ha) (zpl hb)),e]
 show stdW.call (zoi (wide (a - b)) 0) _=_
 rw[zaa (zqg hd)]
def moveP(l:List AFlow')(f t:AUnit')(n:Int):List AFlow'×Int×Unit:=
 if I64 (-n) then payP l [(f,(-n,())),(t,(n,()))] else if isP l=true then ([],(7,())) else ([],(3,()))
theorem r_move{l:List AFlow'}{f t:AUnit'}{n:Int}(h:okF l)(hn:I64 n)(hl:l.length≤900000):zob l f t n=some (moveP l f t n):=by
 show zgd stdW l f t n=_
 unfold zgd moveP
 have e:=r_fSub (a:=0) (b:=n) (by unfold I64; omega) hn
 rw[Int.zero_sub]at e
 unfold fits64 at e
 by_cases hI:I64 (-n)
 ·rw[if_pos hI]at e
  rw[if_pos hI,zaa e]
  refine join_g fun k hk=>?_
  show stdW.cnd ((0:Int) != 0) _ _=_
  rw[cnd_n (by decide)]
  subst hk
  show stdW.cnd false _ (stdW.call (zvf l [(f,(-n,())),(t,(n,()))]) _)=_
  rw[cnd_n rfl,zaa (r_pay h (by
   intro x hx
   simp only[List.mem_cons,List.not_mem_nil,or_false]at hx
   rcases hx with rfl|rfl
   ·exact hI
   ·exact hn) (by simp; omega))]
 ·rw[if_neg hI]at e
  rw[if_neg hI,zaa e]
  refine join_g fun k hk=>?_
  show stdW.cnd ((7:Int) != 0) _ _=_
  rw[cnd_y (by decide),zaa (r_is (by omega))]
  subst hk
  by_cases hp:isP l=true
  ·rw[hp,if_pos rfl]; rfl
  ·have hp:isP l=false:=by simpa using hp
   rw[hp,if_neg (by simp)]
   show stdW.cnd false _ (stdW.call (zvf l _) _)=_
   unfold I64 at hI hn
   have hn2:n = -9223372036854775808:=by omega
   rw[cnd_n rfl,zaa (r_pay h (by
    intro x hx
    simp only[List.mem_cons,List.not_mem_nil,or_false]at hx
    rcases hx with rfl|rfl
    ·show I64 0; unfold I64; omega
    ·show I64 n; unfold I64; omega) (by simp; omega))]
   unfold payP
   rw[hp,if_neg (by simp)]
end Go.Proofs.YtllkmncnmlmefaaGreat