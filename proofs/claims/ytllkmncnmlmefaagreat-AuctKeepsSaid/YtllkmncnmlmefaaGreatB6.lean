import Derived.Test.YtllkmncnmlmefaaGreatB5
namespace Go.Proofs.YtllkmncnmlmefaaGreat
open Go Go.Vc Go.RowKit
set_option maxRecDepth 100000
@[reducible] def tAUnit:DT:=(.pair (.int .i64) (.pair (.int .i64) .unit))
abbrev AUnit':=Int×Int×Unit
@[reducible] def tAFlow:DT:=(.pair tAUnit (.pair (.int .i64) .unit))
abbrev AFlow':=AUnit'×Int×Unit
@[reducible] def tAPos:DT:=(.pair tAUnit (.pair (.slc tAUnit) .unit))
abbrev APos':=AUnit'×(List AUnit')×Unit
@[reducible] def tAMember:DT:=(.pair (.int .i64) (.pair (.int .i64) (.pair (.int .i64) (.pair (.int .i64) .unit))))
abbrev zai:=Int×Int×Int×Int×Unit
@[reducible] def tAInst:DT:=(.pair (.int .i64) (.pair (.int .i64) (.pair (.int .i64) (.pair (.int .i64) (.pair (.slc (.int .i64)) .unit)))))
abbrev AInst':=Int×Int×Int×Int×(List Int)×Unit
@[reducible] def tAAsset:DT:=(.pair (.int .i64) (.pair (.int .i64) (.pair (.int .i64) .unit)))
abbrev zol:=Int×Int×Int×Unit
@[reducible] def tAAccount:DT:=(.pair (.int .i64) (.pair (.int .i64) (.pair (.int .i64) (.pair (.slc (.int .i64)) .unit))))
abbrev zab:=Int×Int×Int×(List Int)×Unit
@[reducible] def tAChoice:DT:=(.pair tAUnit (.pair tAUnit (.pair .bool .unit)))
abbrev zzn:=AUnit'×AUnit'×Bool×Unit
@[reducible] def tAGroup:DT:=(.pair (.int .i64) (.pair tAUnit (.pair (.int .i64) (.pair (.int .i64) (.pair (.int .i64) .unit)))))
abbrev yin:=Int×AUnit'×Int×Int×Int×Unit
@[reducible] def tAGive:DT:=(.pair (.int .i64) (.pair tAUnit (.pair tAUnit (.pair tAUnit (.pair (.int .i64) (.pair (.int .i64) (.pair (.int .i64) (.pair (.int .i64) .unit))))))))
abbrev AGive':=Int×AUnit'×AUnit'×AUnit'×Int×Int×Int×Int×Unit
@[reducible] def tAHold:DT:=(.pair tAUnit (.pair (.slc tAAsset) .unit))
abbrev AHold':=AUnit'×(List zol)×Unit
@[reducible] def tAState:DT:=(.pair (.int .i64) (.pair (.slc tAMember) (.pair (.slc tAInst) (.pair (.slc tAAsset) (.pair (.slc tAAccount) (.pair (.slc tAChoice) (.pair (.slc tAGroup) (.pair (.slc tAGive) (.pair (.slc tAPos) (.pair (.slc tAPos) (.pair (.slc tAFlow) (.pair (.slc tAHold) .unit))))))))))))
abbrev zae:=Int×(List zai)×(List AInst')×(List zol)×(List zab)×(List zzn)×(List yin)×(List AGive')×(List APos')×(List APos')×(List AFlow')×(List AHold')×Unit
@[reducible] def tWideWide:DT:=(.pair (.int .i64) (.pair (.int .u64) .unit))
abbrev zao:=Int×Int×Unit
@[reducible] def tNovationref01Big:DT:=(.pair .bool (.pair (.slc (.int .u8)) .unit))
abbrev zac:=Bool×(List Int)×Unit
@[reducible] def tWideSize:DT:=(.pair (.int .u64) (.pair (.int .u64) .unit))
abbrev ycp:=Int×Int×Unit
noncomputable section
def zin(W:Wd)(a:zab):Option zab:=
 W.join (fun (z1:zab)=>some z1)
 fun k2=>
 W.cnd (decide (20<(a.2.2.2.1.length:Int))) (W.bnd 20 a.2.2.2.1.length fun h3=>(k2 (a.1,(a.2.1,(a.2.2.1,((a.2.2.2.1.take h3),()))))))
  ((k2 a))
def zrg:=zin stdW
theorem yde:ECok Tryz.prog 77 (.es ⟨(.pair tAAccount .unit),(.v tAAccount),fun x=>zrg x.1⟩):=es_z (fun W x=>zin W x.1) cn [] [(3,⟨[],[(0,[.t (.int .i64),.t (.int .i64),.t (.int .i64),.t (.slc (.int .i64))])],[]⟩)] [] Tryz.func77
def zsv(W:Wd)(m:zai):Option Bool:=
 W.cnd (decide (0<m.1)) (
 W.cnd (decide (m.1<9)) (
  W.cnd (decide (0≤m.2.1)) (
  W.cnd (decide (m.2.1≤4611686018427387904)) (
   W.cnd (decide (0≤m.2.2.1)) (
   W.cnd (decide (m.2.2.1<4)) (
    W.cnd (decide (0≤m.2.2.2.1)) (some (decide (m.2.2.2.1≤2097152)))
    (some false))
    (some false))
   (some false))
   (some false))
  (some false))
  (some false))
 (some false)
def ygj:=zsv stdW
theorem yma:ECok Tryz.prog 241 (.es ⟨(.pair tAMember .unit),(.v .bool),fun x=>ygj x.1⟩):=es_z (fun W x=>zsv W x.1) cn [] [] [] Tryz.func241
def zlb(W:Wd)(l:List zai)(id:Int):Option (zai×Bool×Unit):=
 W.loop (fun (z1:Int×Unit) again2=>
 W.cnd (decide (z1.1<(l.length:Int))) (W.idx l z1.1 fun x3=>
  W.cnd (x3.1==id) (W.idx l z1.1 fun x4=>some (x4,(true,())))
  ((again2 ((IntKind.i64.wrap (z1.1+1)),()))))
  (some ((0,(0,(0,(0,())))),(false,()))))
 (0,())
def zjl:=zlb stdW
theorem zsw:ECok Tryz.prog 154 (.es ⟨(.pair (.slc tAMember) (.pair (.int .i64) .unit)),(.pair (.v tAMember) (.pair (.v .bool) .unit)),fun x=>zjl x.1 x.2.1⟩):=es_z (fun W x=>zlb W x.1 x.2.1) cn [] [] [(2,⟨[(6,.t (.int .i64))],[],[]⟩)] Tryz.func154
def zow(W:Wd)(l:List zai)(m:zai):Option ((List zai)×Int×Unit):=W.call (ygj m) fun v1=>
 W.cnd (!v1) (some ([],(2,())))
 (W.call (zjl l m.1) fun v2=>
 W.cnd v2.2.1 (some ([],(12,())))
  (
  W.join (fun (z3:Int×Unit)=>W.bnd z3.1 l.length fun h4=>W.room (l.take h4).length 32 (W.room ((l.take h4).length+(m::[]).length) 32 (W.bnd z3.1 l.length fun h5=>W.room (((l.take h4)++(m::[])).length+((l.take l.length).drop h5).length) 32 (some ((((l.take h4)++(m::[]))++((l.take l.length).drop h5)),(0,()))))))
  fun k6=>
  W.loop (fun (z7:Int×Unit) again8=>
   W.cnd (decide (z7.1<(l.length:Int))) (W.idx l z7.1 fun x9=>
   W.cnd (decide (x9.1<m.1)) ((again8 ((IntKind.i64.wrap (z7.1+1)),())))
    ((k6 z7)))
   ((k6 z7)))
   (0,())))
def zsu:=zow stdW
theorem yji:ECok Tryz.prog 254 (.es ⟨(.pair (.slc tAMember) (.pair tAMember .unit)),(.pair (.own 118 tAMember) (.pair (.v (.int .i64)) .unit)),fun x=>zsu x.1 x.2.1⟩):=es_z (fun W x=>zow W x.1 x.2.1) (cc yma (cc zsw cn)) [(8,[],(oN [1,3,5,7,9,11,13,15,17,19,21,23,25,27]))] [(10,⟨[(9,.t (.int .i64))],[],[]⟩)] [(8,⟨[(9,.t (.int .i64))],[],[]⟩)] Tryz.func254
def zie(W:Wd)(l:List zai):Option (List zai):=
 W.join (fun (z1:List zai×Unit)=>some z1.1)
 fun k2=>
 W.loop (fun (z3:List zai×Int×Unit) again4=>
  W.cnd (decide (z3.2.1<(l.length:Int))) (
  W.cnd (decide (z3.2.1<10)) (
   W.join (fun (z5:List zai×Unit)=>(again4 (z5.1,((IntKind.i64.wrap (z3.2.1+1)),()))))
   fun k6=>W.idx l z3.2.1 fun x7=>W.call (zsu z3.1 x7) fun v8=>
   W.cnd (v8.2.1==0) ((k6 (v8.1,())))
    ((k6 (z3.1,()))))
   ((k2 (z3.1,()))))
  ((k2 (z3.1,()))))
  ([],(0,()))
def zla:=zie stdW
theorem ycy:ECok Tryz.prog 135 (.es ⟨(.pair (.slc tAMember) .unit),(.v (.slc tAMember)),fun x=>zla x.1⟩):=es_z (fun W x=>zie W x.1) (cc yji cn) [] [(4,⟨[(3,.t (.slc tAMember))],[],[]⟩),(8,⟨[(3,.t (.slc tAMember))],[],[]⟩)] [(3,⟨[(3,.t (.slc tAMember)),(4,.t (.int .i64))],[],[]⟩)] Tryz.func135
def zif(W:Wd)(p:Int):Option Bool:=
 W.cnd (decide (0≤p)) (some (decide (p<2147483648)))
 (some false)
def zlc:=zif stdW
theorem ycz:ECok Tryz.prog 336 (.es ⟨(.pair (.int .i64) .unit),(.v .bool),fun x=>zlc x.1⟩):=es_z (fun W x=>zif W x.1) cn [] [] [] Tryz.func336
def zsy(W:Wd)(i:AInst'):Option Bool:=
 W.join (fun (z1:Bool×Unit)=>
 W.cnd z1.1 (some false)
  (
  W.loop (fun (z2:Int×Unit) again3=>
  W.cnd (decide (z2.1<(i.2.2.2.2.1.length:Int))) (
   W.join (fun (z4:Bool×Unit)=>
   W.cnd z4.1 (some false)
    ((again3 ((IntKind.i64.wrap (z2.1+1)),()))))
   fun k5=>W.idx i.2.2.2.2.1 z2.1 fun x6=>
   W.cnd (decide (x6<(-2147483647))) ((k5 (true,())))
    (W.idx i.2.2.2.2.1 z2.1 fun x7=>(k5 ((decide (2147483647<x7)),()))))
   (some true))
  (0,())))
 fun k8=>
 W.cnd (decide (i.1<1)) ((k8 (true,())))
  (
  W.cnd (decide (8<i.1)) ((k8 (true,())))
  (
  W.cnd (decide (i.2.1<1)) ((k8 (true,())))
   (
   W.cnd (decide (65536<i.2.1)) ((k8 (true,())))
   (W.call (zlc i.2.2.1) fun v9=>
   W.cnd (!v9) ((k8 (true,())))
    (W.call (zlc i.2.2.2.1) fun v10=>
    W.cnd (!v10) ((k8 (true,())))
    ((k8 ((decide (8<(i.2.2.2.2.1.length:Int))),()))))))))
def zsz:=zsy stdW
theorem ymb:ECok Tryz.prog 242 (.es ⟨(.pair tAInst .unit),(.v .bool),fun x=>zsz x.1⟩):=es_z (fun W x=>zsy W x.1) (cc ycz cn) [] [(500039,⟨[(39,.t .bool)],[],[]⟩),(500060,⟨[(60,.t .bool)],[],[]⟩)] [(4,⟨[(3,.t (.int .i64))],[],[]⟩)] Tryz.func242
def zlf(W:Wd)(l:List AInst')(id:Int):Option (AInst'×Bool×Unit):=
 W.loop (fun (z1:Int×Unit) again2=>
 W.cnd (decide (z1.1<(l.length:Int))) (W.idx l z1.1 fun x3=>
  W.cnd (x3.1==id) (W.idx l z1.1 fun x4=>some (x4,(true,())))
  ((again2 ((IntKind.i64.wrap (z1.1+1)),()))))
  (some ((0,(0,(0,(0,([],()))))),(false,()))))
 (0,())
def zoz:=zlf stdW
theorem zta:ECok Tryz.prog 150 (.es ⟨(.pair (.slc tAInst) (.pair (.int .i64) .unit)),(.pair (.v tAInst) (.pair (.v .bool) .unit)),fun x=>zoz x.1 x.2.1⟩):=es_z (fun W x=>zlf W x.1 x.2.1) cn [] [] [(2,⟨[(6,.t (.int .i64))],[],[]⟩)] Tryz.func150
def zox(W:Wd)(l:List AInst')(i:AInst'):Option ((List AInst')×Int×Unit):=W.call (zsz i) fun v1=>
 W.cnd (!v1) (some ([],(2,())))
 (W.call (zoz l i.1) fun v2=>
 W.cnd v2.2.1 (some ([],(12,())))
  (
  W.join (fun (z3:Int×Unit)=>W.bnd z3.1 l.length fun h4=>W.room (l.take h4).length 56 (W.room ((l.take h4).length+(i::[]).length) 56 (W.bnd z3.1 l.length fun h5=>W.room (((l.take h4)++(i::[])).length+((l.take l.length).drop h5).length) 56 (some ((((l.take h4)++(i::[]))++((l.take l.length).drop h5)),(0,()))))))
  fun k6=>
  W.loop (fun (z7:Int×Unit) again8=>
   W.cnd (decide (z7.1<(l.length:Int))) (W.idx l z7.1 fun x9=>
   W.cnd (decide (x9.1<i.1)) ((again8 ((IntKind.i64.wrap (z7.1+1)),())))
    ((k6 z7)))
   ((k6 z7)))
   (0,())))
def zsx:=zox stdW
theorem yjj:ECok Tryz.prog 340 (.es ⟨(.pair (.slc tAInst) (.pair tAInst .unit)),(.pair (.own 124 tAInst) (.pair (.v (.int .i64)) .unit)),fun x=>zsx x.1 x.2.1⟩):=es_z (fun W x=>zox W x.1 x.2.1) (cc ymb (cc zta cn)) [(8,[],(oN [1,3,5,7,9,11,13,15,17,19,21,23,25,27]))] [(10,⟨[(9,.t (.int .i64))],[],[]⟩)] [(8,⟨[(9,.t (.int .i64))],[],[]⟩)] Tryz.func340
def zig(W:Wd)(l:List AInst'):Option (List AInst'):=
 W.join (fun (z1:List AInst'×Unit)=>some z1.1)
 fun k2=>
 W.loop (fun (z3:List AInst'×Int×Unit) again4=>
  W.cnd (decide (z3.2.1<(l.length:Int))) (
  W.cnd (decide (z3.2.1<10)) (
   W.join (fun (z5:List AInst'×Unit)=>(again4 (z5.1,((IntKind.i64.wrap (z3.2.1+1)),()))))
   fun k6=>W.idx l z3.2.1 fun x7=>W.call (zsx z3.1 x7) fun v8=>
   W.cnd (v8.2.1==0) ((k6 (v8.1,())))
    ((k6 (z3.1,()))))
   ((k2 (z3.1,()))))
  ((k2 (z3.1,()))))
  ([],(0,()))
def zld:=zig stdW
theorem yda:ECok Tryz.prog 255 (.es ⟨(.pair (.slc tAInst) .unit),(.v (.slc tAInst)),fun x=>zld x.1⟩):=es_z (fun W x=>zig W x.1) (cc yjj cn) [] [(4,⟨[(3,.t (.slc tAInst))],[],[]⟩),(8,⟨[(3,.t (.slc tAInst))],[],[]⟩)] [(3,⟨[(3,.t (.slc tAInst)),(4,.t (.int .i64))],[],[]⟩)] Tryz.func255
def zio(W:Wd)(l:List AInst'):Option (List AInst'):=
 W.join (fun (z1:List AInst'×Unit)=>W.call (zld z1.1) fun v2=>some v2)
 fun k3=>
 W.loop (fun (z4:Int×List AInst'×Unit) again5=>
  W.cnd (decide (z4.1<(l.length:Int))) (
  W.cnd (decide (z4.1<10)) (W.idx l z4.1 fun x6=>
   W.join (fun (z7:Int×Int×Int×Int×List Int×List AInst'×Unit)=>W.room (z7.2.2.2.2.2.1.length+((z7.1,(z7.2.1,(z7.2.2.1,(z7.2.2.2.1,(z7.2.2.2.2.1,())))))::[]).length) 56 ((again5 ((IntKind.i64.wrap (z4.1+1)),((z7.2.2.2.2.2.1++((z7.1,(z7.2.1,(z7.2.2.1,(z7.2.2.2.1,(z7.2.2.2.2.1,())))))::[])),())))))
   fun k8=>
   W.cnd (decide (9<(x6.2.2.2.2.1.length:Int))) (W.bnd 9 x6.2.2.2.2.1.length fun h9=>(k8 (x6.1,(x6.2.1,(x6.2.2.1,(x6.2.2.2.1,((x6.2.2.2.2.1.take h9),z4.2)))))))
    ((k8 (x6.1,(x6.2.1,(x6.2.2.1,(x6.2.2.2.1,(x6.2.2.2.2.1,z4.2))))))))
   ((k3 z4.2)))
  ((k3 z4.2)))
  (0,([],()))
def zly:=zio stdW
theorem ydf:ECok Tryz.prog 136 (.es ⟨(.pair (.slc tAInst) .unit),(.v (.slc tAInst)),fun x=>zly x.1⟩):=es_z (fun W x=>zio W x.1) (cc yda cn) [] [(8,⟨[(3,.row 1)],[(0,[.t (.int .i64),.t (.int .i64),.t (.int .i64),.t (.int .i64),.t (.slc (.int .i64))])],[.dead,.own 124 tAInst]⟩),(9,⟨[(3,.row 1)],[],[.dead,.own 124 tAInst]⟩)] [(3,⟨[(3,.row 1),(4,.t (.int .i64))],[],[.dead,.own 124 tAInst]⟩)] Tryz.func136
def zsr(W:Wd)(a:zab):Option Bool:=
 W.join (fun (z1:Bool×Unit)=>
 W.cnd z1.1 (some false)
  (
  W.join (fun (z2:Bool×Unit)=>
  W.cnd z2.1 (some false)
   (
   W.loop (fun (z3:Int×Unit) again4=>
   W.cnd (decide (z3.1<(a.2.2.2.1.length:Int))) (
    W.join (fun (z5:Bool×Unit)=>
    W.cnd z5.1 (some false)
     ((again4 ((IntKind.i64.wrap (z3.1+1)),()))))
    fun k6=>W.idx a.2.2.2.1 z3.1 fun x7=>
    W.cnd (decide (x7<1)) ((k6 (true,())))
     (W.idx a.2.2.2.1 z3.1 fun x8=>
     W.cnd (decide (16<x8)) ((k6 (true,())))
     (
     W.cnd (decide (0<z3.1)) (W.idx a.2.2.2.1 z3.1 fun x9=>W.idx a.2.2.2.1 (IntKind.i64.wrap (z3.1 - 1)) fun x10=>(k6 ((decide (x9≤x10)),())))
      ((k6 (false,()))))))
    (some true))
   (0,())))
  fun k11=>
  W.cnd (a.2.2.1==1) (
   W.cnd (decide (0<(a.2.2.2.1.length:Int))) ((k11 (true,())))
   (
   W.cnd (a.2.2.1==4) ((k11 ((decide (1<(a.2.2.2.1.length:Int))),())))
    ((k11 (false,())))))
   (
   W.cnd (a.2.2.1==4) ((k11 ((decide (1<(a.2.2.2.1.length:Int))),())))
   ((k11 (false,()))))))
 fun k12=>
 W.cnd (decide (a.1<1)) ((k12 (true,())))
  (
  W.cnd (decide (16<a.1)) ((k12 (true,())))
  (
  W.cnd (decide (a.2.1<1)) ((k12 (true,())))
   (
   W.cnd (decide (8<a.2.1)) ((k12 (true,())))
   (
   W.cnd (decide (a.2.2.1<1)) ((k12 (true,())))
    ((k12 ((decide (4<a.2.2.1)),())))))))
def ygi:=zsr stdW
theorem ylz:ECok Tryz.prog 244 (.es ⟨(.pair tAAccount .unit),(.v .bool),fun x=>ygi x.1⟩):=es_z (fun W x=>zsr W x.1) cn [(8,[],(oN [1,3,5,7,9,11,13,15,17,19,21,23,25,27,29,31,33,35,37,39,41,43,45,47,49,51,53,55,57,59,61,63]))] [(500031,⟨[(31,.t .bool)],[],[]⟩),(500051,⟨[(51,.t .bool)],[],[]⟩),(500090,⟨[(90,.t .bool)],[],[]⟩)] [(6,⟨[(3,.t (.int .i64))],[],[]⟩)] Tryz.func244
def zfy(W:Wd)(l:List zab)(id:Int):Option (zab×Bool×Unit):=
 W.loop (fun (z1:Int×Unit) again2=>
 W.cnd (decide (z1.1<(l.length:Int))) (W.idx l z1.1 fun x3=>
  W.cnd (x3.1==id) (W.idx l z1.1 fun x4=>some (x4,(true,())))
  ((again2 ((IntKind.i64.wrap (z1.1+1)),()))))
  (some ((0,(0,(0,([],())))),(false,()))))
 (0,())
def zjk:=zfy stdW
theorem zst:ECok Tryz.prog 152 (.es ⟨(.pair (.slc tAAccount) (.pair (.int .i64) .unit)),(.pair (.v tAAccount) (.pair (.v .bool) .unit)),fun x=>zjk x.1 x.2.1⟩):=es_z (fun W x=>zfy W x.1 x.2.1) cn [] [] [(2,⟨[(6,.t (.int .i64))],[],[]⟩)] Tryz.func152
def zou(W:Wd)(l:List zab)(a:zab):Option ((List zab)×Int×Unit):=W.call (ygi a) fun v1=>
 W.cnd (!v1) (some ([],(2,())))
 (W.call (zjk l a.1) fun v2=>
 W.cnd v2.2.1 (some ([],(12,())))
  (
  W.join (fun (z3:Int×Unit)=>W.bnd z3.1 l.length fun h4=>W.room (l.take h4).length 48 (W.room ((l.take h4).length+(a::[]).length) 48 (W.bnd z3.1 l.length fun h5=>W.room (((l.take h4)++(a::[])).length+((l.take l.length).drop h5).length) 48 (some ((((l.take h4)++(a::[]))++((l.take l.length).drop h5)),(0,()))))))
  fun k6=>
  W.loop (fun (z7:Int×Unit) again8=>
   W.cnd (decide (z7.1<(l.length:Int))) (W.idx l z7.1 fun x9=>
   W.cnd (decide (x9.1<a.1)) ((again8 ((IntKind.i64.wrap (z7.1+1)),())))
    ((k6 z7)))
   ((k6 z7)))
   (0,())))
def zsq:=zou stdW
theorem yjg:ECok Tryz.prog 256 (.es ⟨(.pair (.slc tAAccount) (.pair tAAccount .unit)),(.pair (.own 60 tAAccount) (.pair (.v (.int .i64)) .unit)),fun x=>zsq x.1 x.2.1⟩):=es_z (fun W x=>zou W x.1 x.2.1) (cc ylz (cc zst cn)) [(8,[],(oN [1,3,5,7,9,11,13,15,17,19,21,23,25,27]))] [(10,⟨[(9,.t (.int .i64))],[],[]⟩)] [(8,⟨[(9,.t (.int .i64))],[],[]⟩)] Tryz.func256
def zid(W:Wd)(l:List zab):Option (List zab):=
 W.join (fun (z1:List zab×Unit)=>some z1.1)
 fun k2=>
 W.loop (fun (z3:List zab×Int×Unit) again4=>
  W.cnd (decide (z3.2.1<(l.length:Int))) (
  W.cnd (decide (z3.2.1<20)) (
   W.join (fun (z5:List zab×Unit)=>(again4 (z5.1,((IntKind.i64.wrap (z3.2.1+1)),()))))
   fun k6=>W.idx l z3.2.1 fun x7=>W.call (zsq z3.1 x7) fun v8=>
   W.cnd (v8.2.1==0) ((k6 (v8.1,())))
    ((k6 (z3.1,()))))
   ((k2 (z3.1,()))))
  ((k2 (z3.1,()))))
  ([],(0,()))
def zky:=zid stdW
theorem ycx:ECok Tryz.prog 137 (.es ⟨(.pair (.slc tAAccount) .unit),(.v (.slc tAAccount)),fun x=>zky x.1⟩):=es_z (fun W x=>zid W x.1) (cc yjg cn) [] [(4,⟨[(3,.t (.slc tAAccount))],[],[]⟩),(8,⟨[(3,.t (.slc tAAccount))],[],[]⟩)] [(3,⟨[(3,.t (.slc tAAccount)),(4,.t (.int .i64))],[],[]⟩)] Tryz.func137
def zpw(W:Wd)(l:List AUnit'):Option (List AUnit'):=
 W.cnd (decide (12<(l.length:Int))) (W.bnd 12 l.length fun h1=>some (l.take h1))
 (some l)
def ybk:=zpw stdW
theorem ykl:ECok Tryz.prog 204 (.es ⟨(.pair (.slc tAUnit) .unit),(.v (.slc tAUnit)),fun x=>ybk x.1⟩):=es_z (fun W x=>zpw W x.1) cn [] [] [] Tryz.func204
def zpu(W:Wd)(l:List APos'):Option (List APos'):=
 W.join (fun (z1:List APos'×Unit)=>some z1.1)
 fun k2=>
 W.loop (fun (z3:Int×List APos'×Unit) again4=>
  W.cnd (decide (z3.1<(l.length:Int))) (
  W.cnd (decide (z3.1<12)) (W.idx l z3.1 fun x5=>W.idx l z3.1 fun x6=>W.call (ybk x6.2.1) fun v7=>W.room (z3.2.1.length+((x5.1,(v7,()))::[]).length) 40 ((again4 ((IntKind.i64.wrap (z3.1+1)),((z3.2.1++((x5.1,(v7,()))::[])),())))))
   ((k2 z3.2)))
  ((k2 z3.2)))
  (0,([],()))
def zgo:=zpu stdW
theorem ykj:ECok Tryz.prog 74 (.es ⟨(.pair (.slc tAPos) .unit),(.own 50 tAPos),fun x=>zgo x.1⟩):=es_z (fun W x=>zpu W x.1) (cc ykl cn) [(5,[],(oN [1,3,5,7,9,11,13,15,17,19,21,22,25,26,28,31]))] [(6,⟨[(3,.row 1)],[],[.dead,.own 50 tAPos]⟩)] [(3,⟨[(3,.row 1),(4,.t (.int .i64))],[],[.dead,.own 50 tAPos]⟩)] Tryz.func74
def zpv(W:Wd)(l:List AFlow'):Option (List AFlow'):=
 W.cnd (decide (20<(l.length:Int))) (W.bnd 20 l.length fun h1=>some (l.take h1))
 (some l)
def zny:=zpv stdW
theorem ykk:ECok Tryz.prog 75 (.es ⟨(.pair (.slc tAFlow) .unit),(.v (.slc tAFlow)),fun x=>zny x.1⟩):=es_z (fun W x=>zpv W x.1) cn [] [] [] Tryz.func75
def zpt(W:Wd)(s:zae):Option zae:=
 W.join (fun (z1:List zab×Unit)=>W.call (zla s.2.1) fun v2=>W.call (zly s.2.2.1) fun v3=>W.call (zky z1.1) fun v4=>W.call (zgo s.2.2.2.2.2.2.2.2.1) fun v5=>W.call (zgo s.2.2.2.2.2.2.2.2.2.1) fun v6=>W.call (zny s.2.2.2.2.2.2.2.2.2.2.1) fun v7=>some (0,(v2,(v3,([],(v4,([],([],([],(v5,(v6,(v7,([],())))))))))))))
 fun k8=>
 W.loop (fun (z9:Int×List zab×Unit) again10=>
  W.cnd (decide (z9.1<(s.2.2.2.2.1.length:Int))) (
  W.cnd (decide (z9.1<20)) (W.idx s.2.2.2.2.1 z9.1 fun x11=>W.call (zrg x11) fun v12=>W.room (z9.2.1.length+(v12::[]).length) 48 ((again10 ((IntKind.i64.wrap (z9.1+1)),((z9.2.1++(v12::[])),())))))
   ((k8 z9.2)))
  ((k8 z9.2)))
  (0,([],()))
def znv:=zpt stdW
theorem zxd:ECok Tryz.prog 26 (.es ⟨(.pair tAState .unit),(.v tAState),fun x=>znv x.1⟩):=es_z (fun W x=>zpt W x.1) (cc yde (cc ycy (cc ydf (cc ycx (cc ykj (cc ykk cn)))))) [(6,[1],(oN [1,3,7,9,13,17,19,23,25,29,31,4,10,14,20,26,32,35,36]))] [(6,⟨[(3,.row 1)],[],[.dead,.own 60 tAAccount]⟩)] [(3,⟨[(3,.row 1),(4,.t (.int .i64))],[],[.dead,.own 60 tAAccount]⟩)] Tryz.func26
def yfr(W:Wd)(l:List AUnit'):Option Bool:=
 W.loop (fun (z1:AUnit') again2=>
 W.cnd (decide (z1.2.1<(l.length:Int))) (W.idx l z1.2.1 fun x3=>
  W.join (fun (z4:Bool×Unit)=>
  W.cnd z4.1 (some false)
   ((again2 (x3.1,((IntKind.i64.wrap (z1.2.1+1)),())))))
  fun k5=>
  W.cnd (decide (x3.1≤z1.1)) ((k5 (true,())))
   (
   W.cnd (decide (8<x3.1)) ((k5 (true,())))
   ((k5 ((x3.2.1==0),())))))
  (some true))
 (0,(0,()))
def vec_Is:=yfr stdW
theorem yiq:ECok Tryz.prog 341 (.es ⟨(.pair (.slc tAUnit) .unit),(.v .bool),fun x=>vec_Is x.1⟩):=es_z (fun W x=>yfr W x.1) cn [] [(500025,⟨[(25,.t .bool)],[],[]⟩)] [(3,⟨[(3,.t (.int .i64)),(8,.t (.int .i64))],[],[]⟩)] Tryz.func341
def zqm(W:Wd)(a:AUnit')(b:AUnit'):Option Bool:=
 W.cnd (a.1 != b.1) (some (decide (a.1<b.1)))
 (some (decide (a.2.1<b.2.1)))
def zkg:=zqm stdW
theorem zoj:ECok Tryz.prog 304 (.es ⟨(.pair tAUnit (.pair tAUnit .unit)),(.v .bool),fun x=>zkg x.1 x.2.1⟩):=es_z (fun W x=>zqm W x.1 x.2.1) cn [] [] [] Tryz.func304
def zzi(W:Wd)(l:List APos'):Option Bool:=
 W.loop (fun (z1:Int×Unit) again2=>
 W.cnd (decide (z1.1<(l.length:Int))) (W.idx l z1.1 fun x3=>
  W.join (fun (z4:Bool×Unit)=>
  W.cnd z4.1 (some false)
   ((again2 ((IntKind.i64.wrap (z1.1+1)),()))))
  fun k5=>
  W.cnd ((x3.2.1.length:Int)==0) (W.both ((k5 (true,()))) ((k5 (true,()))))
   (W.call (vec_Is x3.2.1) fun v6=>
   W.cnd (!v6) (W.both ((k5 (true,()))) ((k5 (true,()))))
   (
   W.cnd (decide (0<z1.1)) (W.idx l (IntKind.i64.wrap (z1.1 - 1)) fun x7=>W.both (W.call (zkg x7.1 x3.1) fun v8=>(k5 ((!v8),()))) (W.call (zkg x7.1 x3.1) fun v9=>(k5 ((!v9),()))))
    (W.both ((k5 (false,()))) ((k5 (false,())))))))
  (some true))
 (0,())
def zro:=zzi stdW
theorem yfd:ECok Tryz.prog 257 (.es ⟨(.pair (.slc tAPos) .unit),(.v .bool),fun x=>zro x.1⟩):=es_z (fun W x=>zzi W x.1) (cc yiq (cc zoj cn)) [(4,[],(.rd 0 (.rd 1 (.rd 2 (.rd 3 (.rd 4 (.rd 5 (.rd 6 (.op 7 (.rd 8 (.rd 9 (.rd 10 (.rd 11 (.rd 12 (.rd 13 (.rd 14 (.rd 15 (.rd 16 (.rd 17 (.rd 18 (.rd 20 (.two 19 21 (oN [42,44,47,49,51]) (oN [38,44,47,49,51])))))))))))))))))))))))] [(500037,⟨[(37,.t .bool)],[],[]⟩)] [(2,⟨[(7,.t (.int .i64))],[],[]⟩)] Tryz.func257
def zmu(W:Wd)(s:zae):Option Bool:=W.call (zro s.2.2.2.2.2.2.2.2.1) fun v1=>
 W.cnd v1 (W.call (zro s.2.2.2.2.2.2.2.2.2.1) fun v2=>some v2)
 (some false)
def zkc:=zmu stdW
theorem zum:ECok Tryz.prog 138 (.es ⟨(.pair tAState .unit),(.v .bool),fun x=>zkc x.1⟩):=es_z (fun W x=>zmu W x.1) (cc yfd cn) [] [] [] Tryz.func138
def zdl(W:Wd)(s:List Int):Option (List Int):=W.nilq (List.isEmpty s) fun g1=>
 W.cnd (Go.Vc.notIf false g1) (some [])
 (W.room ((0:Nat)+s.length) 8 (some ([]++s)))
def zev:=zdl stdW
theorem znb:ECok Tryz.prog 131 (.es ⟨(.pair (.slc (.int .i64)) .unit),(.own 3 (.int .i64)),fun x=>zev x.1⟩):=es_z (fun W x=>zdl W x.1) cn [] [] [] Tryz.func131
def zkf(W:Wd)(a:zab):Option zab:=W.call (zev a.2.2.2.1) fun v1=>some (a.1,(a.2.1,(a.2.2.1,(v1,()))))
def zql:=zkf stdW
theorem ycm:ECok Tryz.prog 386 (.es ⟨(.pair tAAccount .unit),(.v tAAccount),fun x=>zql x.1⟩):=es_z (fun W x=>zkf W x.1) (cc znb cn) [] [] [] Tryz.func386
def ziv(W:Wd)(l:List zab):Option (List zab):=
 W.loop (fun (z1:Int×List zab×Unit) again2=>
 W.cnd (decide (z1.1<(l.length:Int))) (W.idx l z1.1 fun x3=>W.call (zql x3) fun v4=>W.room (z1.2.1.length+(v4::[]).length) 48 ((again2 ((IntKind.i64.wrap (z1.1+1)),((z1.2.1++(v4::[])),())))))
  (some z1.2.1))
 (0,([],()))
def zrr:=ziv stdW
theorem ydk:ECok Tryz.prog 314 (.es ⟨(.pair (.slc tAAccount) .unit),(.own 60 tAAccount),fun x=>zrr x.1⟩):=es_z (fun W x=>ziv W x.1) (cc ycm cn) [] [] [(3,⟨[(3,.row 1),(8,.t (.int .i64))],[],[.dead,.own 60 tAAccount]⟩)] Tryz.func314
def yfg(_:Wd)(a:zab)(free10:Int):Option (Bool×(Int×Unit)):=some ((a.2.1 != free10),(free10,()))
def zuq:=yfg stdW
theorem zxl:ECok Tryz.prog 315 (.ls ⟨[.v tAAccount,.ptr],[⟨3,[.v (.int .i64)]⟩],[⟨3,[.v (.int .i64)]⟩],(.q (.v .bool)),fun x=>zuq x.1 x.2.1⟩):=ls_z (fun W x=>yfg W x.1 x.2.1) cn [] [] [] Tryz.func315
def zag(W:Wd)(s:List zab)(f0_0:Int):Option (Int×(Int×Unit)):=
 W.loop (fun (z1:AUnit') again2=>
 W.cnd (decide (z1.1<(s.length:Int))) (W.idx s z1.1 fun x3=>W.call (zuq x3 z1.2.1) fun v4=>
  W.cnd v4.1 (some (z1.1,v4.2))
  ((again2 ((IntKind.i64.wrap (z1.1+1)),v4.2))))
  (some ((-1),z1.2)))
 (0,(f0_0,()))
def zan:=zag stdW
theorem zcw:ECok Tryz.prog 342 (.ls ⟨[.v (.slc tAAccount),.fn 315 1],[⟨3,[.v (.int .i64)]⟩],[⟨3,[.v (.int .i64)]⟩],(.q (.v (.int .i64))),fun x=>zan x.1 x.2.1⟩):=ls_z (fun W x=>zag W x.1 x.2.1) (cc zxl cn) [] [] [(2,⟨[(8,.t (.int .i64))],[(0,[.t (.int .i64)])],[]⟩)] Tryz.func342
def zak(W:Wd)(del0_0:Int)(s:List zab):Option ((List zab)×(Int×Unit)):=W.call (zan s del0_0) fun v1=>
 W.cnd (v1.1==(-1)) (some (s,v1.2))
 (
 W.loop (fun (z2:Int×Int×Int×List zab×Unit) again3=>
  W.cnd (decide (z2.2.1<(z2.2.2.2.1.length:Int))) (
  W.join (fun (z4:Int×Int×List zab×Unit)=>(again3 (z4.1,((IntKind.i64.wrap (z2.2.1+1)),z4.2))))
   fun k5=>W.idx z2.2.2.2.1 z2.2.1 fun _=>W.nth z2.2.2.2.1 (Int.toNat z2.2.1) fun x7=>W.call (zuq x7 z2.2.2.1) fun v8=>
   W.cnd (!v8.1) (W.idx z2.2.2.2.1 z2.1 fun _=>W.nth z2.2.2.2.1 (Int.toNat z2.1) fun _=>(k5 ((IntKind.i64.wrap (z2.1+1)),(v8.2.1,((List.set z2.2.2.2.1 (Int.toNat z2.1) x7),())))))
   ((k5 (z2.1,(v8.2.1,z2.2.2.2)))))
  (W.bnd z2.1 z2.2.2.2.1.length fun h11=>W.bnd (h11:Int) z2.2.2.2.1.length fun h12=>W.bnd z2.1 ((z2.2.2.2.1.take h12)++(List.replicate (z2.2.2.2.1.length - h12) (0,(0,(0,([],())))))).length fun h13=>some ((((z2.2.2.2.1.take h12)++(List.replicate (z2.2.2.2.1.length - h12) (0,(0,(0,([],())))))).take h13),(z2.2.2.1,()))))
  (v1.1,((IntKind.i64.wrap (v1.1+1)),(v1.2.1,(s,())))))
def zax:=zak stdW
theorem zct:ECok Tryz.prog 313 (.ls ⟨[.row 60 tAAccount,.fn 315 1],[⟨3,[.v (.int .i64)]⟩],[⟨3,[.v (.int .i64)]⟩],(.q (.v (.slc tAAccount))),fun x=>zax x.1 x.2.1⟩):=ls_z (fun W x=>zak W x.1 x.2.1) (cb zcw (cc zxl cn)) [] [(6,⟨[(0,.row 0),(5,.t (.int .i64))],[(0,[.t (.int .i64)])],[.own 60 tAAccount]⟩)] [(5,⟨[(0,.row 0),(5,.t (.int .i64)),(6,.t (.int .i64))],[(0,[.t (.int .i64)])],[.own 60 tAAccount]⟩)] Tryz.func313
def zzl(W:Wd)(l:List zab)(member:Int):Option (List zab):=W.call (zrr l) fun v1=>W.call (zax member v1) fun v2=>some v2.1
def ynn:=zzl stdW
theorem acct_Of_ok:ECok Tryz.prog 192 (.es ⟨(.pair (.slc tAAccount) (.pair (.int .i64) .unit)),(.v (.slc tAAccount)),fun x=>ynn x.1 x.2.1⟩):=es_z (fun W x=>zzl W x.1 x.2.1) (cc ydk (cc zct cn)) [] [] [] Tryz.func192
def zmw(W:Wd)(a:zab):Option (List AUnit'):=
 W.cnd (a.2.2.1==1) (some ((a.1,(0,()))::[]))
 (
 W.loop (fun (z1:Int×List AUnit'×Unit) again2=>
  W.cnd (decide (z1.1<(a.2.2.2.1.length:Int))) (W.idx a.2.2.2.1 z1.1 fun x3=>W.room (z1.2.1.length+((a.1,(x3,()))::[]).length) 16 ((again2 ((IntKind.i64.wrap (z1.1+1)),((z1.2.1++((a.1,(x3,()))::[])),())))))
  (some z1.2.1))
  (0,([],())))
def zwq:=zmw stdW
theorem yil:ECok Tryz.prog 316 (.es ⟨(.pair tAAccount .unit),(.own 47 tAUnit),fun x=>zwq x.1⟩):=es_z (fun W x=>zmw W x.1) cn [] [] [(5,⟨[(3,.row 1),(16,.t (.int .i64))],[],[.dead,.own 47 tAUnit]⟩)] Tryz.func316
def zbt(W:Wd)(s:List AUnit')(v:AUnit'):Option Int:=
 W.loop (fun (z1:Int×Unit) again2=>
 W.cnd (decide (z1.1<(s.length:Int))) (W.idx s z1.1 fun x3=>
  W.cnd (Go.Vc.notIf false ((v.1==x3.1)&&(v.2.1==x3.2.1))) (some z1.1)
  ((again2 ((IntKind.i64.wrap (z1.1+1)),()))))
  (some (-1)))
 (0,())
def zco:=zbt stdW
theorem zft:ECok Tryz.prog 395 (.es ⟨(.pair (.slc tAUnit) (.pair tAUnit .unit)),(.v (.int .i64)),fun x=>zco x.1 x.2.1⟩):=es_z (fun W x=>zbt W x.1 x.2.1) cn [(4,[],(oN [1,3,5,7,9,11]))] [] [(2,⟨[(8,.t (.int .i64))],[],[]⟩)] Tryz.func395
def zbl(W:Wd)(s:List AUnit')(v:AUnit'):Option Bool:=W.call (zco s v) fun v1=>some (decide (0≤v1))
def zce:=zbl stdW
theorem zeu:ECok Tryz.prog 343 (.es ⟨(.pair (.slc tAUnit) (.pair tAUnit .unit)),(.v .bool),fun x=>zce x.1 x.2.1⟩):=es_z (fun W x=>zbl W x.1 x.2.1) (cc zft cn) [] [] [] Tryz.func343
def zur(W:Wd)(a:zab)(u:AUnit'):Option Bool:=W.call (zwq a) fun v1=>W.call (zce v1 u) fun v2=>some v2
def zus:=zur stdW
theorem ycn:ECok Tryz.prog 260 (.es ⟨(.pair tAAccount (.pair tAUnit .unit)),(.v .bool),fun x=>zus x.1 x.2.1⟩):=es_z (fun W x=>zur W x.1 x.2.1) (cc yil (cc zeu cn)) [(1,[],(oN [1,5,2,6,9]))] [] [] Tryz.func260
def ziu(W:Wd)(a:zab)(free10:Int)(free11:Int):Option (Bool×(AUnit')):=W.call (zus a (free10,(free11,()))) fun v1=>some (v1,(free10,(free11,())))
def zrp:=ziu stdW
theorem ydj:ECok Tryz.prog 259 (.ls ⟨[.v tAAccount,.ptr],[⟨47,[.v (.int .i64),.v (.int .i64)]⟩],[⟨47,[.v (.int .i64),.v (.int .i64)]⟩],(.q (.v .bool)),fun x=>zrp x.1 x.2.1 x.2.2.1⟩):=ls_z (fun W x=>ziu W x.1 x.2.1 x.2.2.1) (cc ycn cn) [] [] [] Tryz.func259
def zaj(W:Wd)(s:List zab)(f0_0:Int)(f0_1:Int):Option (Int×(AUnit')):=
 W.loop (fun (z1:zol) again2=>
 W.cnd (decide (z1.1<(s.length:Int))) (W.idx s z1.1 fun x3=>W.call (zrp x3 z1.2.1 z1.2.2.1) fun v4=>
  W.cnd v4.1 (some (z1.1,v4.2))
  ((again2 ((IntKind.i64.wrap (z1.1+1)),v4.2))))
  (some ((-1),z1.2)))
 (0,(f0_0,(f0_1,())))
def zav:=zaj stdW
theorem zcq:ECok Tryz.prog 342 (.ls ⟨[.v (.slc tAAccount),.fn 259 1],[⟨47,[.v (.int .i64),.v (.int .i64)]⟩],[⟨47,[.v (.int .i64),.v (.int .i64)]⟩],(.q (.v (.int .i64))),fun x=>zav x.1 x.2.1 x.2.2.1⟩):=ls_z (fun W x=>zaj W x.1 x.2.1 x.2.2.1) (cc ydj cn) [] [] [(2,⟨[(8,.t (.int .i64))],[(0,[.t (.int .i64),.t (.int .i64)])],[]⟩)] Tryz.func342
def zah(W:Wd)(s:List zab)(f0_0:Int)(f0_1:Int):Option (Bool×(AUnit')):=W.call (zav s f0_0 f0_1) fun v1=>some ((decide (0≤v1.1)),v1.2)
def zas:=zah stdW
theorem zcj:ECok Tryz.prog 258 (.ls ⟨[.v (.slc tAAccount),.fn 259 1],[⟨47,[.v (.int .i64),.v (.int .i64)]⟩],[⟨47,[.v (.int .i64),.v (.int .i64)]⟩],(.q (.v .bool)),fun x=>zas x.1 x.2.1 x.2.2.1⟩):=ls_z (fun W x=>zah W x.1 x.2.1 x.2.2.1) (cc zcq cn) [] [] [] Tryz.func258
def zqg(W:Wd)(s:zae)(id:Int)(u:AUnit'):Option Bool:=W.call (ynn s.2.2.2.2.1 id) fun v1=>W.call (zas v1 u.1 u.2.1) fun v2=>some v2.1
def zkb:=zqg stdW
theorem zxk:ECok Tryz.prog 139 (.es ⟨(.pair tAState (.pair (.int .i64) (.pair tAUnit .unit))),(.v .bool),fun x=>zkb x.1 x.2.1 x.2.2.1⟩):=es_z (fun W x=>zqg W x.1 x.2.1 x.2.2.1) (cc acct_Of_ok (cc zcj cn)) [] [] [] Tryz.func139
def zby(W:Wd)(s:List AUnit'):Option (List AUnit'):=W.nilq (List.isEmpty s) fun g1=>
 W.cnd (Go.Vc.notIf false g1) (some [])
 (W.room ((0:Nat)+s.length) 16 (some ([]++s)))
def zbo:=zby stdW
theorem zdo:ECok Tryz.prog 253 (.es ⟨(.pair (.slc tAUnit) .unit),(.own 52 tAUnit),fun x=>zbo x.1⟩):=es_z (fun W x=>zby W x.1) cn [] [] [] Tryz.func253
def zzh(W:Wd)(l:List APos')(u:AUnit'):Option (List AUnit'):=
 W.loop (fun (z1:Int×Unit) again2=>
 W.cnd (decide (z1.1<(l.length:Int))) (W.idx l z1.1 fun x3=>
  W.cnd (Go.Vc.notIf false ((x3.1.1==u.1)&&(x3.1.2.1==u.2.1))) (W.call (zbo x3.2.1) fun v4=>some v4)
  ((again2 ((IntKind.i64.wrap (z1.1+1)),()))))
  (some []))
 (0,())
def ych:=zzh stdW
theorem yfc:ECok Tryz.prog 163 (.es ⟨(.pair (.slc tAPos) (.pair tAUnit .unit)),(.own 52 tAUnit),fun x=>ych x.1 x.2.1⟩):=es_z (fun W x=>zzh W x.1 x.2.1) (cc zdo cn) [] [] [(2,⟨[(9,.t (.int .i64))],[],[]⟩)] Tryz.func163
def zrz(W:Wd)(l:List AUnit'):Option Bool:=W.call (vec_Is l) fun v1=>some (!v1)
def zxs:=zrz stdW
theorem zzr:ECok Tryz.prog 277 (.es ⟨(.pair (.slc tAUnit) .unit),(.v .bool),fun x=>zxs x.1⟩):=es_z (fun W x=>zrz W x.1) (cc yiq cn) [] [] [] Tryz.func277
def zaw(W:Wd)(s:List (List AUnit')):Option (Int×(Unit)):=
 W.loop (fun (z1:Int×Unit) again2=>
 W.cnd (decide (z1.1<(s.length:Int))) (W.idx s z1.1 fun x3=>W.call (zxs x3) fun v4=>
  W.cnd v4 (some z1)
  ((again2 ((IntKind.i64.wrap (z1.1+1)),()))))
  (some ((-1),())))
 (0,())
def zbm:=zaw stdW
theorem zdp:ECok Tryz.prog 370 (.ls ⟨[.v (.slc (.slc tAUnit)),.fn 277 0],[],[],(.q (.v (.int .i64))),fun x=>zbm x.1⟩):=ls_z (fun W x=>zaw W x.1) (cc zzr cn) [] [] [(2,⟨[(8,.t (.int .i64))],[],[]⟩)] Tryz.func370
def zar(W:Wd)(s:List (List AUnit')):Option (Bool×(Unit)):=W.call (zbm s) fun v1=>some ((decide (0≤v1.1)),())
def zbi:=zar stdW
theorem zdk:ECok Tryz.prog 285 (.ls ⟨[.v (.slc (.slc tAUnit)),.fn 277 0],[],[],(.q (.v .bool)),fun x=>zbi x.1⟩):=ls_z (fun W x=>zar W x.1) (cc zdp cn) [] [] [] Tryz.func285
def zxt(W:Wd)(l:List AUnit')(inst:Int):Option Int:=
 W.loop (fun (z1:Int×Unit) again2=>
 W.cnd (decide (z1.1<(l.length:Int))) (W.idx l z1.1 fun x3=>
  W.cnd (x3.1==inst) (some x3.2.1)
  ((again2 ((IntKind.i64.wrap (z1.1+1)),()))))
  (some 0))
 (0,())
def zzs:=zxt stdW
theorem ydn:ECok Tryz.prog 268 (.es ⟨(.pair (.slc tAUnit) (.pair (.int .i64) .unit)),(.v (.int .i64)),fun x=>zzs x.1 x.2.1⟩):=es_z (fun W x=>zxt W x.1 x.2.1) cn [] [] [(2,⟨[(9,.t (.int .i64))],[],[]⟩)] Tryz.func268
def zxp(W:Wd)(n:Int):Option zao:=W.nn 63 (some ((Int.fdiv n (2 ^ (Min.min (Int.toNat 63) (Go.IntKind.bits Go.IntKind.i64)))),((IntKind.u64.wrap n),())))
def zix:=zxp stdW
theorem zgz:ECok Tryz.prog 300 (.es ⟨(.pair (.int .i64) .unit),(.v tWideWide),fun x=>zix x.1⟩):=es_z (fun W x=>zxp W x.1) cn [] [] [] Tryz.func300
def zff(W:Wd)(w:zao)(t0:Int)(t1:Int)(t2:Int):Option (Unit×(zol)):=W.call (add64 t2 w.2.1 0) fun v1=>W.call (add64 (IntKind.u64.wrap t1) (IntKind.u64.wrap w.1) v1.2.1) fun v2=>W.nn 63 (some ((),((IntKind.i64.wrap (t0+(IntKind.i64.wrap ((Int.fdiv w.1 (2 ^ (Min.min (Int.toNat 63) (Go.IntKind.bits Go.IntKind.i64))))+(IntKind.i64.wrap v2.2.1))))),((IntKind.i64.wrap v2.1),(v1.1,())))))
def zch:=zff stdW
theorem zjc:ECok Tryz.prog 376 (.ls ⟨[.ptr,.v tWideWide],[⟨405,[.v (.int .i64),.v (.int .i64),.v (.int .u64)]⟩],[⟨405,[.v (.int .i64),.v (.int .i64),.v (.int .u64)]⟩],(.q .unit),fun x=>zch x.1 x.2.1 x.2.2.1 x.2.2.2.1⟩):=ls_z (fun W x=>zff W x.1 x.2.1 x.2.2.1 x.2.2.2.1) (cc yqg cn) [(1,[],(oN [1,3,5,7,9,11,13,14,17,19,21,23,25])),(2,[],(oN [1,3,5,7,9,11,13,15,17,19,20,23,25,27,29,31])),(3,[0],(oN [1,3,5,9,11,13,15,17,19,6,21,23,25,26]))] [] [] Tryz.func376
def zhx(W:Wd)(w:zao)(ok:Bool):Option (zao×Int×Unit):=
 W.cnd (!ok) (some ((0,(0,())),(7,())))
 (some (w,(0,())))
def zet:=zhx stdW
theorem zqo:ECok Tryz.prog 359 (.es ⟨(.pair tWideWide (.pair .bool .unit)),(.pair (.v tWideWide) (.pair (.v (.int .i64)) .unit)),fun x=>zet x.1 x.2.1⟩):=es_z (fun W x=>zhx W x.1 x.2.1) cn [] [] [] Tryz.func359
def zel(W:Wd)(t0:Int)(t1:Int)(t2:Int):Option ((zao×Int×Unit)×(zol)):=W.nn 63 (W.call (zet (t1,(t2,())) (t0==(Int.fdiv t1 (2 ^ (Min.min (Int.toNat 63) (Go.IntKind.bits Go.IntKind.i64)))))) fun v1=>some (v1,(t0,(t1,(t2,())))))
def zdx:=zel stdW
theorem zhw:ECok Tryz.prog 377 (.ls ⟨[.ptr],[⟨405,[.v (.int .i64),.v (.int .i64),.v (.int .u64)]⟩],[⟨405,[.v (.int .i64),.v (.int .i64),.v (.int .u64)]⟩],(.q (.pair (.v tWideWide) (.pair (.v (.int .i64)) .unit))),fun x=>zdx x.1 x.2.1 x.2.2.1⟩):=ls_z (fun W x=>zel W x.1 x.2.1 x.2.2.1) (cc zqo cn) [(1,[1],(oN [1,3,5,7,9,11,13,15,17,19,21,23,25,27,29,30,33,35,36,39]))] [] [] Tryz.func377
def zrx(W:Wd)(l:List zao):Option (zao×Int×Unit):=
 W.loop (fun (z1:zai) again2=>
 W.cnd (decide (z1.1<(l.length:Int))) (W.idx l z1.1 fun x3=>W.call (zch x3 z1.2.1 z1.2.2.1 z1.2.2.2.1) fun v4=>(again2 ((IntKind.i64.wrap (z1.1+1)),v4.2)))
  (W.call (zdx z1.2.1 z1.2.2.1 z1.2.2.2.1) fun v5=>some v5.1))
 (0,(0,(0,(0,()))))
def zxr:=zrx stdW
theorem ylt:ECok Tryz.prog 302 (.es ⟨(.pair (.slc tWideWide) .unit),(.pair (.v tWideWide) (.pair (.v (.int .i64)) .unit)),fun x=>zxr x.1⟩):=es_z (fun W x=>zrx W x.1) (cc zjc (cc zhw cn)) [] [] [(3,⟨[(9,.t (.int .i64))],[(1,[.t (.int .i64),.t (.int .i64),.t (.int .u64)])],[]⟩)] Tryz.func302
def zrv(W:Wd)(w:zao):Option (AUnit'):=W.call (zix (IntKind.i64.wrap w.2.1)) fun v1=>
 W.cnd (Go.Vc.notIf true ((v1.1==w.1)&&(v1.2.1==w.2.1))) (some (0,(7,())))
 (some ((IntKind.i64.wrap w.2.1),(0,())))
def zrw:=zrv stdW
theorem zzq:ECok Tryz.prog 276 (.es ⟨(.pair tWideWide .unit),(.pair (.v (.int .i64)) (.pair (.v (.int .i64)) .unit)),fun x=>zrw x.1⟩):=es_z (fun W x=>zrv W x.1) (cc zgz cn) [(2,[],(oN [1,5,2,7]))] [] [] Tryz.func276
def zme(W:Wd)(w:zao)(e:Int):Option (AUnit'):=
 W.cnd (e != 0) (some (0,(e,())))
 (W.call (zrw w) fun v1=>some v1)
def zjv:=zme stdW
theorem ztz:ECok Tryz.prog 301 (.es ⟨(.pair tWideWide (.pair (.int .i64) .unit)),(.pair (.v (.int .i64)) (.pair (.v (.int .i64)) .unit)),fun x=>zjv x.1 x.2.1⟩):=es_z (fun W x=>zme W x.1 x.2.1) (cc zzq cn) [] [] [] Tryz.func301
def zyx(W:Wd)(l:List Int):Option (AUnit'):=W.nn (l.length:Int) (W.room (Int.toNat (l.length:Int)) 16 (
 W.loop (fun (z1:Int×List AUnit'×Unit) again2=>
 W.cnd (decide (z1.1<(l.length:Int))) (W.idx l z1.1 fun x3=>W.call (zix x3) fun v4=>W.room (z1.2.1.length+(v4::[]).length) 16 ((again2 ((IntKind.i64.wrap (z1.1+1)),((z1.2.1++(v4::[])),())))))
  (W.call (zxr z1.2.1) fun v5=>W.call (zjv v5.1 v5.2.1) fun v6=>some v6))
 (0,([],()))))
def zwg:=zyx stdW
theorem yen:ECok Tryz.prog 179 (.es ⟨(.pair (.slc (.int .i64)) .unit),(.pair (.v (.int .i64)) (.pair (.v (.int .i64)) .unit)),fun x=>zwg x.1⟩):=es_z (fun W x=>zyx W x.1) (cc zgz (cc ylt (cc ztz cn))) [] [] [(3,⟨[(4,.row 0),(12,.t (.int .i64))],[],[.own 317 tWideWide]⟩)] Tryz.func179
def zxu(W:Wd)(l:List (List AUnit')):Option ((List AUnit')×Int×Unit):=W.call (zbi l) fun v1=>
 W.cnd v1.1 (some ([],(3,())))
 (
 W.loop (fun (z2:Int×List AUnit'×Unit) again3=>
  W.cnd (decide (z2.1≤8)) (
  W.join (fun (z4:List AUnit'×Unit)=>(again3 ((IntKind.i64.wrap (z2.1+1)),z4)))
   fun k5=>
   W.loop (fun (z6:Int×List AUnit'×List Int×Unit) again7=>
   W.cnd (decide (z6.1<(l.length:Int))) (W.idx l z6.1 fun x8=>W.call (zzs x8 z2.1) fun v9=>W.room (z6.2.2.1.length+(v9::[]).length) 8 ((again7 ((IntKind.i64.wrap (z6.1+1)),(z6.2.1,((z6.2.2.1++(v9::[])),()))))))
    (W.call (zwg z6.2.2.1) fun v10=>
    W.cnd (v10.2.1 != 0) (some ([],v10.2))
    (
    W.cnd (v10.1 != 0) (W.room (z6.2.1.length+((z2.1,(v10.1,()))::[]).length) 16 ((k5 ((z6.2.1++((z2.1,(v10.1,()))::[])),()))))
     ((k5 (z6.2.1,()))))))
   (0,(z2.2.1,([],()))))
  (some (z2.2.1,(0,()))))
  (1,([],())))
def ylu:=zxu stdW
theorem vec_Add_ok:ECok Tryz.prog 162 (.es ⟨(.pair (.slc (.slc tAUnit)) .unit),(.pair (.own 52 tAUnit) (.pair (.v (.int .i64)) .unit)),fun x=>ylu x.1⟩):=es_z (fun W x=>zxu W x.1) (cc zdk (cc ydn (cc yen cn))) [] [(6,⟨[(4,.row 3)],[],[.dead,.dead,.dead,.own 52 tAUnit]⟩)] [(5,⟨[(4,.row 3),(5,.t (.int .i64))],[],[.dead,.dead,.dead,.own 52 tAUnit]⟩),(9,⟨[(4,.row 3),(6,.row 5),(19,.t (.int .i64))],[],[.dead,.dead,.dead,.own 52 tAUnit,.dead,.own 2 (.int .i64)]⟩)] Tryz.func162
def zmq(W:Wd)(l:List APos')(u:AUnit'):Option (Int×Bool×Unit):=
 W.loop (fun (z1:Int×Unit) again2=>
 W.cnd (decide (z1.1<(l.length:Int))) (W.idx l z1.1 fun x3=>W.call (zkg x3.1 u) fun v4=>
  W.cnd (!v4) (some (z1.1,((Go.Vc.notIf false ((x3.1.1==u.1)&&(x3.1.2.1==u.2.1))),())))
  ((again2 ((IntKind.i64.wrap (z1.1+1)),()))))
  (some ((l.length:Int),(false,()))))
 (0,())
def zwm:=zmq stdW
theorem yib:ECok Tryz.prog 261 (.es ⟨(.pair (.slc tAPos) (.pair tAUnit .unit)),(.pair (.v (.int .i64)) (.pair (.v .bool) .unit)),fun x=>zwm x.1 x.2.1⟩):=es_z (fun W x=>zmq W x.1 x.2.1) (cc zoj cn) [(5,[],(oN [1,3,5,7,9,11,13]))] [] [(2,⟨[(10,.t (.int .i64))],[],[]⟩)] Tryz.func261
def zit(W:Wd)(l:List APos'):Option (List APos'):=
 W.loop (fun (z1:Int×List APos'×Unit) again2=>
 W.cnd (decide (z1.1<(l.length:Int))) (W.idx l z1.1 fun x3=>W.call (zbo x3.2.1) fun v4=>W.room (z1.2.1.length+((x3.1,(v4,()))::[]).length) 40 ((again2 ((IntKind.i64.wrap (z1.1+1)),((z1.2.1++((x3.1,(v4,()))::[])),())))))
  (some z1.2.1))
 (0,([],()))
def zrn:=zit stdW
theorem ydi:ECok Tryz.prog 262 (.es ⟨(.pair (.slc tAPos) .unit),(.own 50 tAPos),fun x=>zrn x.1⟩):=es_z (fun W x=>zit W x.1) (cc zdo cn) [(5,[],(oN [1,3,5,7,9,10,13,14,16,19]))] [] [(3,⟨[(3,.row 2),(8,.t (.int .i64))],[],[.dead,.dead,.own 50 tAPos]⟩)] Tryz.func262
def zmr(W:Wd)(l:List APos')(u:AUnit')(legs:List AUnit'):Option ((List APos')×Int×Unit):=W.call (zro l) fun v1=>
 W.cnd (!v1) (some ([],(3,())))
 (W.call (ych l u) fun v2=>W.call (ylu (v2::(legs::[]))) fun v3=>
 W.cnd (v3.2.1 != 0) (some ([],v3.2))
  (W.call (zwm l u) fun v4=>W.call (zrn l) fun v5=>
  W.join (fun (z6:List AUnit'×List APos'×Unit)=>
  W.join (fun (z7:List APos'×Unit)=>some (z7.1,(0,())))
   fun k8=>
   W.cnd (decide (0<(z6.1.length:Int))) (W.call (insO z6.2.1 v4.1 ((u,(z6.1,()))::[])) fun v9=>(k8 v9))
   ((k8 z6.2)))
  fun k10=>
  W.cnd v4.2.1 (W.call (delO v5 v4.1 (IntKind.i64.wrap (v4.1+1))) fun v11=>(k10 (v3.1,v11)))
   ((k10 (v3.1,(v5,()))))))
def zef:=zmr stdW
theorem zui:ECok Tryz.prog 140 (.es ⟨(.pair (.slc tAPos) (.pair tAUnit (.pair (.slc tAUnit) .unit))),(.pair (.own 50 tAPos) (.pair (.v (.int .i64)) .unit)),fun x=>zef x.1 x.2.1 x.2.2.1⟩):=es_z (fun W x=>zmr W x.1 x.2.1 x.2.2.1) (cc yfd (cc yfc (cc vec_Add_ok (cc yib (cc ydi (cc delete_ok (cc insert_ok cn))))))) [] [(10,⟨[(8,.row 2),(12,.row 3)],[],[.dead,.dead,.own 52 tAUnit,.own 50 tAPos]⟩),(12,⟨[(12,.row 3)],[],[.dead,.dead,.dead,.own 50 tAPos]⟩)] [] Tryz.func140
def zmv(W:Wd)(s:zae)(id:Int):Option (zae×Int×Unit):=W.call (zkc s) fun v1=>
 W.cnd (!v1) (some ((0,([],([],([],([],([],([],([],([],([],([],([],())))))))))))),(3,())))
 (
 W.loop (fun (z2:Int×Int×List zai×List AInst'×List zol×List zab×List zzn×List yin×List AGive'×List APos'×List APos'×List AFlow'×List AHold'×List APos'×Unit) again3=>
  W.cnd (decide (z2.1<(s.2.2.2.2.2.2.2.2.1.length:Int))) (
  W.join (fun (z4:Int×List zai×List AInst'×List zol×List zab×List zzn×List yin×List AGive'×List APos'×List APos'×List AFlow'×List AHold'×List APos'×Unit)=>(again3 ((IntKind.i64.wrap (z2.1+1)),z4)))
   fun k5=>W.idx s.2.2.2.2.2.2.2.2.1 z2.1 fun x6=>W.call (zkb (z2.2.1,(z2.2.2.1,(z2.2.2.2.1,(z2.2.2.2.2.1,(z2.2.2.2.2.2.1,(z2.2.2.2.2.2.2.1,(z2.2.2.2.2.2.2.2.1,(z2.2.2.2.2.2.2.2.2.1,(z2.2.2.2.2.2.2.2.2.2.1,(z2.2.2.2.2.2.2.2.2.2.2.1,(z2.2.2.2.2.2.2.2.2.2.2.2.1,(z2.2.2.2.2.2.2.2.2.2.2.2.2.1,())))))))))))) id x6.1) fun v7=>
   W.cnd (!v7) (W.room (z2.2.2.2.2.2.2.2.2.2.2.2.2.2.1.length+(x6::[]).length) 40 ((k5 (z2.2.1,(z2.2.2.1,(z2.2.2.2.1,(z2.2.2.2.2.1,(z2.2.2.2.2.2.1,(z2.2.2.2.2.2.2.1,(z2.2.2.2.2.2.2.2.1,(z2.2.2.2.2.2.2.2.2.1,(z2.2.2.2.2.2.2.2.2.2.1,(z2.2.2.2.2.2.2.2.2.2.2.1,(z2.2.2.2.2.2.2.2.2.2.2.2.1,(z2.2.2.2.2.2.2.2.2.2.2.2.2.1,((z2.2.2.2.2.2.2.2.2.2.2.2.2.2.1++(x6::[])),()))))))))))))))))
   (W.call (zef z2.2.2.2.2.2.2.2.2.2.2.1 x6.1 x6.2.1) fun v8=>
   W.cnd (v8.2.1 != 0) (some ((0,([],([],([],([],([],([],([],([],([],([],([],())))))))))))),v8.2))
    ((k5 (z2.2.1,(z2.2.2.1,(z2.2.2.2.1,(z2.2.2.2.2.1,(z2.2.2.2.2.2.1,(z2.2.2.2.2.2.2.1,(z2.2.2.2.2.2.2.2.1,(z2.2.2.2.2.2.2.2.2.1,(z2.2.2.2.2.2.2.2.2.2.1,(v8.1,z2.2.2.2.2.2.2.2.2.2.2.2))))))))))))))
  (some ((z2.2.1,(z2.2.2.1,(z2.2.2.2.1,(z2.2.2.2.2.1,(z2.2.2.2.2.2.1,(z2.2.2.2.2.2.2.1,(z2.2.2.2.2.2.2.2.1,(z2.2.2.2.2.2.2.2.2.1,(z2.2.2.2.2.2.2.2.2.2.2.2.2.2.1,(z2.2.2.2.2.2.2.2.2.2.2.1,(z2.2.2.2.2.2.2.2.2.2.2.2.1,(z2.2.2.2.2.2.2.2.2.2.2.2.2.1,())))))))))))),(0,()))))
  (0,(s.1,(s.2.1,(s.2.2.1,(s.2.2.2.1,(s.2.2.2.2.1,(s.2.2.2.2.2.1,(s.2.2.2.2.2.2.1,(s.2.2.2.2.2.2.2.1,(s.2.2.2.2.2.2.2.2.1,(s.2.2.2.2.2.2.2.2.2.1,(s.2.2.2.2.2.2.2.2.2.2.1,(s.2.2.2.2.2.2.2.2.2.2.2.1,([],())))))))))))))))
def zkd:=zmv stdW
theorem zun:ECok Tryz.prog 27 (.es ⟨(.pair tAState (.pair (.int .i64) .unit)),(.pair (.v tAState) (.pair (.v (.int .i64)) .unit)),fun x=>zkd x.1 x.2.1⟩):=es_z (fun W x=>zmv W x.1 x.2.1) (cc zum (cc zxk (cc zui cn))) [] [(13,⟨[(6,.row 1)],[(0,[.t (.int .i64),.t (.slc tAMember),.t (.slc tAInst),.t (.slc tAAsset),.t (.slc tAAccount),.t (.slc tAChoice),.t (.slc tAGroup),.t (.slc tAGive),.t (.slc tAPos),.t (.slc tAPos),.t (.slc tAFlow),.t (.slc tAHold)])],[.dead,.own 50 tAPos]⟩)] [(5,⟨[(6,.row 1),(18,.t (.int .i64))],[(0,[.t (.int .i64),.t (.slc tAMember),.t (.slc tAInst),.t (.slc tAAsset),.t (.slc tAAccount),.t (.slc tAChoice),.t (.slc tAGroup),.t (.slc tAGive),.t (.slc tAPos),.t (.slc tAPos),.t (.slc tAFlow),.t (.slc tAHold)])],[.dead,.own 50 tAPos]⟩)] Tryz.func27
def ztc(W:Wd)(l:List AUnit'):Option Bool:=
 W.loop (fun (z1:Int×Unit) again2=>
 W.cnd (decide (z1.1<(l.length:Int))) (
  W.join (fun (z3:Bool×Unit)=>
  W.cnd z3.1 (some false)
   ((again2 ((IntKind.i64.wrap (z1.1+1)),()))))
  fun k4=>W.idx l z1.1 fun x5=>
  W.cnd (decide (x5.1<1)) ((k4 (true,())))
   (W.idx l z1.1 fun x6=>
   W.cnd (decide (8<x6.1)) ((k4 (true,())))
   (W.idx l z1.1 fun x7=>
   W.cnd (x7.2.1==0) ((k4 (true,())))
    (
    W.cnd (decide (0<z1.1)) (W.idx l (IntKind.i64.wrap (z1.1 - 1)) fun x8=>W.idx l z1.1 fun x9=>(k4 ((decide (x9.1≤x8.1)),())))
    ((k4 (false,())))))))
  (some true))
 (0,())
def zyd:=ztc stdW
theorem yak:ECok Tryz.prog 265 (.es ⟨(.pair (.slc tAUnit) .unit),(.v .bool),fun x=>zyd x.1⟩):=es_z (fun W x=>ztc W x.1) cn [(4,[],(oN [1,3,5,7,9,11,13,15,17,19,21,23,25,27,29,31,33,35,37,39,41,43,45,47,49,51,53,55,57,59,61,63,65,67,69,71,73,75,77,79]))] [(500049,⟨[(49,.t .bool)],[],[]⟩)] [(2,⟨[(3,.t (.int .i64))],[],[]⟩)] Tryz.func265
def zkz(W:Wd)(a:AUnit')(b:AUnit'):Option Bool:=
 W.cnd (decide (a.1<b.1)) (some true)
 (
 W.cnd (a.1==b.1) (some (decide (a.2.1<b.2.1)))
  (some false))
def zfa:=zkz stdW
theorem zgv:ECok Tryz.prog 248 (.es ⟨(.pair tAUnit (.pair tAUnit .unit)),(.v .bool),fun x=>zfa x.1 x.2.1⟩):=es_z (fun W x=>zkz W x.1 x.2.1) cn [] [] [] Tryz.func248
def zsm(W:Wd)(l:List APos'):Option Bool:=
 W.loop (fun (z1:Int×Unit) again2=>
 W.cnd (decide (z1.1<(l.length:Int))) (
  W.join (fun (z3:Bool×Unit)=>
  W.cnd z3.1 (some false)
   ((again2 ((IntKind.i64.wrap (z1.1+1)),()))))
  fun k4=>W.idx l z1.1 fun x5=>
  W.cnd ((x5.2.1.length:Int)==0) (W.both ((k4 (true,()))) ((k4 (true,()))))
   (W.idx l z1.1 fun x6=>W.call (zyd x6.2.1) fun v7=>
   W.cnd (!v7) (W.both ((k4 (true,()))) ((k4 (true,()))))
   (
   W.cnd (decide (0<z1.1)) (W.idx l (IntKind.i64.wrap (z1.1 - 1)) fun x8=>W.idx l z1.1 fun x9=>W.both (W.call (zfa x8.1 x9.1) fun v10=>(k4 ((!v10),()))) (W.call (zfa x8.1 x9.1) fun v11=>(k4 ((!v11),()))))
    (W.both ((k4 (false,()))) ((k4 (false,())))))))
  (some true))
 (0,())
def zkw:=zsm stdW
theorem yai:ECok Tryz.prog 141 (.es ⟨(.pair (.slc tAPos) .unit),(.v .bool),fun x=>zkw x.1⟩):=es_z (fun W x=>zsm W x.1) (cc yak (cc zgv cn)) [(4,[],(.rd 0 (.rd 1 (.rd 2 (.rd 3 (.rd 4 (.rd 5 (.rd 6 (.rd 7 (.rd 8 (.rd 9 (.rd 10 (.rd 11 (.rd 12 (.op 13 (.rd 14 (.rd 15 (.rd 16 (.rd 17 (.rd 18 (.rd 19 (.rd 20 (.rd 21 (.rd 22 (.rd 23 (.rd 24 (.rd 26 (.rd 27 (.rd 28 (.rd 29 (.two 25 30 (oN [60,62,65,67,69]) (oN [50,62,65,67,69]))))))))))))))))))))))))))))))))] [(500044,⟨[(44,.t .bool)],[],[]⟩)] [(2,⟨[(3,.t (.int .i64))],[],[]⟩)] Tryz.func141
def zic(W:Wd)(a:zab):Option (List AUnit'):=
 W.cnd (a.2.2.1==1) (W.room ((a.1,(0,()))::[]).length 16 (some ((a.1,(0,()))::[])))
 (
 W.loop (fun (z1:Int×List AUnit'×Unit) again2=>
  W.cnd (decide (z1.1<(a.2.2.2.1.length:Int))) (W.idx a.2.2.2.1 z1.1 fun x3=>W.room (z1.2.1.length+((a.1,(x3,()))::[]).length) 16 ((again2 ((IntKind.i64.wrap (z1.1+1)),((z1.2.1++((a.1,(x3,()))::[])),())))))
  (some z1.2.1))
  (0,([],())))
def zqy:=zic stdW
theorem ycw:ECok Tryz.prog 68 (.es ⟨(.pair tAAccount .unit),(.own 47 tAUnit),fun x=>zqy x.1⟩):=es_z (fun W x=>zic W x.1) cn [(7,[],(oN [1,3,5,7,9,11,13,15,17,18,20,23]))] [] [(5,⟨[(3,.row 1),(4,.t (.int .i64))],[],[.dead,.own 47 tAUnit]⟩)] Tryz.func68
def zov(W:Wd)(a:zab)(u:AUnit'):Option Bool:=W.call (zqy a) fun v1=>
 W.loop (fun (z2:Int×List AUnit'×Unit) again3=>
 W.cnd (decide (z2.1<(z2.2.1.length:Int))) (W.idx z2.2.1 z2.1 fun _=>W.nth z2.2.1 (Int.toNat z2.1) fun x5=>
  W.cnd (Go.Vc.notIf false ((x5.1==u.1)&&(x5.2.1==u.2.1))) (some true)
  ((again3 ((IntKind.i64.wrap (z2.1+1)),z2.2))))
  (some false))
 (0,(v1,()))
def zss:=zov stdW
theorem yjh:ECok Tryz.prog 153 (.es ⟨(.pair tAAccount (.pair tAUnit .unit)),(.v .bool),fun x=>zss x.1 x.2.1⟩):=es_z (fun W x=>zov W x.1 x.2.1) (cc ycw cn) [(5,[],(oN [1,3,5,9,6,11]))] [] [(3,⟨[(5,.row 0),(6,.t (.int .i64))],[],[.own 47 tAUnit]⟩)] Tryz.func153
def zsl(W:Wd)(l:List APos')(u:AUnit'):Option (List AUnit'):=
 W.loop (fun (z1:Int×Unit) again2=>
 W.cnd (decide (z1.1<(l.length:Int))) (W.idx l z1.1 fun x3=>
  W.cnd (Go.Vc.notIf false ((x3.1.1==u.1)&&(x3.1.2.1==u.2.1))) (W.idx l z1.1 fun x4=>some x4.2.1)
  ((again2 ((IntKind.i64.wrap (z1.1+1)),()))))
  (some []))
 (0,())
def zee:=zsl stdW
theorem zqw:ECok Tryz.prog 40 (.es ⟨(.pair (.slc tAPos) (.pair tAUnit .unit)),(.v (.slc tAUnit)),fun x=>zee x.1 x.2.1⟩):=es_z (fun W x=>zsl W x.1 x.2.1) cn [(4,[],(oN [1,3,5,7,9,11,13]))] [] [(2,⟨[(5,.t (.int .i64))],[],[]⟩)] Tryz.func40
def zpa(W:Wd)(l:List AUnit')(inst:Int):Option Int:=
 W.loop (fun (z1:Int×Unit) again2=>
 W.cnd (decide (z1.1<(l.length:Int))) (W.idx l z1.1 fun x3=>
  W.cnd (x3.1==inst) (W.idx l z1.1 fun x4=>some x4.2.1)
  ((again2 ((IntKind.i64.wrap (z1.1+1)),()))))
  (some 0))
 (0,())
def zfp:=zpa stdW
theorem znk:ECok Tryz.prog 151 (.es ⟨(.pair (.slc tAUnit) (.pair (.int .i64) .unit)),(.v (.int .i64)),fun x=>zfp x.1 x.2.1⟩):=es_z (fun W x=>zpa W x.1 x.2.1) cn [] [] [(2,⟨[(5,.t (.int .i64))],[],[]⟩)] Tryz.func151
def ydx(W:Wd)(u:Int):Option zac:=
 W.loop (fun (z1:Int×List Int×Unit) again2=>
 W.cnd (decide (0<z1.1)) (W.nz 2 (W.room (z1.2.1.length+((IntKind.u8.wrap (Int.tmod z1.1 2))::[]).length) 1 (W.nz 2 ((again2 ((IntKind.u64.wrap (Int.tdiv z1.1 2)),((z1.2.1++((IntKind.u8.wrap (Int.tmod z1.1 2))::[])),())))))))
  (some (false,z1.2)))
 (u,([],()))
def zhn:=ydx stdW
theorem zwy:ECok Tryz.prog 202 (.es ⟨(.pair (.int .u64) .unit),(.v tNovationref01Big),fun x=>zhn x.1⟩):=es_z (fun W x=>ydx W x.1) cn [] [] [(2,⟨[(0,.t (.int .u64)),(3,.row 1)],[],[.dead,.own 5 (.int .u8)]⟩)] Tryz.func202
def zlj(W:Wd)(a:List Int)(b:List Int):Option (List Int):=
 W.loop (fun (z1:Int×Int×List Int×Unit) again2=>
 W.join (fun (z3:List Int×Unit)=>
  W.join (fun (z4:Int×List Int×Unit)=>
  W.join (fun (z5:Int×List Int×Unit)=>W.nz 2 (W.room (z5.2.1.length+((Int.tmod z5.1 2)::[]).length) 1 (W.nz 2 ((again2 ((IntKind.u8.wrap (Int.tdiv z5.1 2)),((IntKind.i64.wrap (z1.2.1+1)),((z5.2.1++((Int.tmod z5.1 2)::[])),()))))))))
   fun k6=>
   W.cnd (decide (z1.2.1<(b.length:Int))) (W.idx b z1.2.1 fun x7=>(k6 ((IntKind.u8.wrap (z4.1+x7)),z4.2)))
   ((k6 z4)))
  fun k8=>
  W.cnd (decide (z1.2.1<(a.length:Int))) (W.idx a z1.2.1 fun x9=>(k8 ((IntKind.u8.wrap (z1.1+x9)),z3)))
   ((k8 (z1.1,z3))))
  fun k10=>
  W.cnd (decide (z1.2.1<(a.length:Int))) ((k10 z1.2.2))
  (
  W.cnd (decide (z1.2.1<(b.length:Int))) ((k10 z1.2.2))
   (
   W.join (fun (z11:List Int×Unit)=>some z11.1)
   fun k12=>
   W.cnd (decide (0<z1.1)) (W.room (z1.2.2.1.length+(z1.1::[]).length) 1 ((k12 ((z1.2.2.1++(z1.1::[])),()))))
    ((k12 z1.2.2)))))
 (0,(0,([],())))
def zfc:=zlj stdW
theorem zli:ECok Tryz.prog 199 (.es ⟨(.pair (.slc (.int .u8)) (.pair (.slc (.int .u8)) .unit)),(.own 5 (.int .u8)),fun x=>zfc x.1 x.2.1⟩):=es_z (fun W x=>zlj W x.1 x.2.1) cn [] [(6,⟨[(5,.row 1)],[],[.dead,.own 5 (.int .u8)]⟩),(8,⟨[(5,.row 1),(6,.t (.int .u8))],[],[.dead,.own 5 (.int .u8)]⟩),(10,⟨[(5,.row 1),(6,.t (.int .u8))],[],[.dead,.own 5 (.int .u8)]⟩),(14,⟨[(5,.row 1)],[],[.dead,.own 5 (.int .u8)]⟩)] [(4,⟨[(5,.row 1),(6,.t (.int .u8)),(7,.t (.int .i64))],[],[.dead,.own 5 (.int .u8)]⟩)] Tryz.func199
def ztd(W:Wd)(n:Int):Option zac:=
 W.cnd (decide (0≤n)) (W.call (zhn (IntKind.u64.wrap n)) fun v1=>some v1)
 (W.call (zhn (IntKind.u64.wrap (IntKind.i64.wrap (0 - (IntKind.i64.wrap (n+1)))))) fun v2=>W.call (zfc v2.2.1 (1::[])) fun v3=>some (true,(v3,())))
def zdc:=ztd stdW
theorem zhm:ECok Tryz.prog 70 (.es ⟨(.pair (.int .i64) .unit),(.v tNovationref01Big),fun x=>zdc x.1⟩):=es_z (fun W x=>ztd W x.1) (cc zwy (cc zli cn)) [] [] [] Tryz.func70
def yal(W:Wd)(neg:Bool)(b:List Int):Option zac:=
 W.join (fun (z1:Int×Unit)=>
 W.cnd neg (W.bnd z1.1 b.length fun h2=>some ((decide (0<z1.1)),((b.take h2),())))
  (W.bnd z1.1 b.length fun h3=>some (false,((b.take h3),()))))
 fun k4=>
 W.loop (fun (z5:Int×Unit) again6=>
  W.cnd (decide (0<z5.1)) (W.idx b (IntKind.i64.wrap (z5.1 - 1)) fun x7=>
  W.cnd (x7==0) ((again6 ((IntKind.i64.wrap (z5.1 - 1)),())))
   ((k4 z5)))
  ((k4 z5)))
  ((b.length:Int),())
def zfb:=yal stdW
theorem zlh:ECok Tryz.prog 198 (.es ⟨(.pair .bool (.pair (.slc (.int .u8)) .unit)),(.v tNovationref01Big),fun x=>zfb x.1 x.2.1⟩):=es_z (fun W x=>yal W x.1 x.2.1) cn [] [(4,⟨[(5,.t (.int .i64))],[],[]⟩)] [(2,⟨[(5,.t (.int .i64))],[],[]⟩)] Tryz.func198
def yam(W:Wd)(a:List Int)(b:List Int):Option Bool:=
 W.cnd ((a.length:Int) != (b.length:Int)) (some (decide ((a.length:Int)<(b.length:Int))))
 (
 W.loop (fun (z1:Int×Unit) again2=>
  W.cnd (decide (0<z1.1)) (W.idx a (IntKind.i64.wrap (z1.1 - 1)) fun x3=>W.idx b (IntKind.i64.wrap (z1.1 - 1)) fun x4=>
  W.cnd (x3 != x4) (W.idx a (IntKind.i64.wrap (z1.1 - 1)) fun x5=>W.idx b (IntKind.i64.wrap (z1.1 - 1)) fun x6=>some (decide (x5<x6)))
   ((again2 ((IntKind.i64.wrap (z1.1 - 1)),()))))
  (some false))
  ((a.length:Int),()))
def zvm:=yam stdW
theorem ygm:ECok Tryz.prog 200 (.es ⟨(.pair (.slc (.int .u8)) (.pair (.slc (.int .u8)) .unit)),(.v .bool),fun x=>zvm x.1 x.2.1⟩):=es_z (fun W x=>yam W x.1 x.2.1) cn [(6,[],(oN [1,3,5,7,9,11,13,15,17,19,21])),(7,[],(oN [1,3,5,7,9,11,13,15,17,19,21,23]))] [] [(4,⟨[(5,.t (.int .i64))],[],[]⟩)] Tryz.func200
def zwv(W:Wd)(a:List Int)(b:List Int):Option (List Int):=
 W.loop (fun (z1:Int×Int×List Int×Unit) again2=>
 W.cnd (decide (z1.2.1<(a.length:Int))) (
  W.join (fun (z3:Int×List Int×Unit)=>W.idx a z1.2.1 fun x4=>
  W.join (fun (z5:Int×List Int×Unit)=>W.nz 2 (W.room (z5.2.1.length+((Int.tmod (IntKind.u8.wrap ((IntKind.u8.wrap (x4+2)) - z3.1)) 2)::[]).length) 1 ((again2 (z5.1,((IntKind.i64.wrap (z1.2.1+1)),((z5.2.1++((Int.tmod (IntKind.u8.wrap ((IntKind.u8.wrap (x4+2)) - z3.1)) 2)::[])),())))))))
   fun k6=>
   W.cnd (decide ((IntKind.u8.wrap ((IntKind.u8.wrap (x4+2)) - z3.1))<2)) ((k6 (1,z3.2)))
   ((k6 (0,z3.2))))
  fun k7=>
  W.cnd (decide (z1.2.1<(b.length:Int))) (W.idx b z1.2.1 fun x8=>(k7 ((IntKind.u8.wrap (z1.1+x8)),z1.2.2)))
   ((k7 (z1.1,z1.2.2))))
  (some z1.2.2.1))
 (0,(0,([],())))
def zlk:=zwv stdW
theorem ydb:ECok Tryz.prog 201 (.es ⟨(.pair (.slc (.int .u8)) (.pair (.slc (.int .u8)) .unit)),(.own 5 (.int .u8)),fun x=>zlk x.1 x.2.1⟩):=es_z (fun W x=>zwv W x.1 x.2.1) cn [] [(9,⟨[(5,.row 1),(8,.t (.int .u8))],[],[.dead,.own 5 (.int .u8)]⟩),(13,⟨[(5,.row 1),(6,.t (.int .u8))],[],[.dead,.own 5 (.int .u8)]⟩)] [(4,⟨[(5,.row 1),(6,.t (.int .u8)),(7,.t (.int .i64))],[],[.dead,.own 5 (.int .u8)]⟩)] Tryz.func201
def zph(W:Wd)(a:zac)(b:zac):Option zac:=
 W.cnd (Go.Vc.notIf false (a.1==b.1)) (W.call (zfc a.2.1 b.2.1) fun v1=>W.call (zfb a.1 v1) fun v2=>some v2)
 (W.call (zvm a.2.1 b.2.1) fun v3=>
 W.cnd v3 (W.call (zlk b.2.1 a.2.1) fun v4=>W.call (zfb b.1 v4) fun v5=>some v5)
  (W.call (zlk a.2.1 b.2.1) fun v6=>W.call (zfb a.1 v6) fun v7=>some v7))
def zbs:=zph stdW
theorem zea:ECok Tryz.prog 69 (.es ⟨(.pair tNovationref01Big (.pair tNovationref01Big .unit)),(.v tNovationref01Big),fun x=>zbs x.1 x.2.1⟩):=es_z (fun W x=>zph W x.1 x.2.1) (cc zli (cc zlh (cc ygm (cc ydb cn)))) [(2,[2],(oN [1,3,5,7,9,11,12,14,16])),(4,[2],(oN [1,3,5,7,9,11,12,14,16])),(5,[2],(oN [1,3,5,7,9,11,12,14,16]))] [] [] Tryz.func69
def zgw(W:Wd)(a:zac)(n:Int):Option Bool:=
 W.join (fun (z1:zac)=>some (decide ((z1.2.1.length:Int)<n)))
 fun k2=>
 W.cnd a.1 (W.both (W.call (zhn 1) fun v3=>W.call (zbs a v3) fun v4=>(k2 v4)) (W.call (zhn 1) fun v5=>W.call (zbs a v5) fun v6=>(k2 v6)))
  ((k2 a))
def znm:=zgw stdW
theorem yan:ECok Tryz.prog 280 (.es ⟨(.pair tNovationref01Big (.pair (.int .i64) .unit)),(.v .bool),fun x=>znm x.1 x.2.1⟩):=es_z (fun W x=>zgw W x.1 x.2.1) (cc zwy (cc zea cn)) [(2,[0],(.two 0 1 (oN [2,4,6]) (oN [0,4,6])))] [(3,⟨[],[(0,[.t .bool,.t (.slc (.int .u8))])],[]⟩)] [] Tryz.func280
def zlm(W:Wd)(a:zac):Option Bool:=W.call (znm a 64) fun v1=>some v1
def zfd:=zlm stdW
theorem zll:ECok Tryz.prog 156 (.es ⟨(.pair tNovationref01Big .unit),(.v .bool),fun x=>zfd x.1⟩):=es_z (fun W x=>zlm W x.1) (cc yan cn) [] [] [] Tryz.func156
def zpf(W:Wd)(a:zac):Option Int:=
 W.loop (fun (z1:AUnit') again2=>
 W.cnd (decide (0<z1.2.1)) (
  W.join (fun (z3:Int×Unit)=>(again2 (z3.1,((IntKind.i64.wrap (z1.2.1 - 1)),()))))
  fun k4=>
  W.cnd a.1 (W.idx a.2.1 (IntKind.i64.wrap (z1.2.1 - 1)) fun x5=>(k4 ((IntKind.i64.wrap ((IntKind.i64.wrap (2*z1.1)) - (IntKind.i64.wrap x5))),())))
   (W.idx a.2.1 (IntKind.i64.wrap (z1.2.1 - 1)) fun x6=>(k4 ((IntKind.i64.wrap ((IntKind.i64.wrap (2*z1.1))+(IntKind.i64.wrap x6))),()))))
  (some z1.1))
 (0,((a.2.1.length:Int),()))
def zfq:=zpf stdW
theorem znn:ECok Tryz.prog 159 (.es ⟨(.pair tNovationref01Big .unit),(.v (.int .i64)),fun x=>zfq x.1⟩):=es_z (fun W x=>zpf W x.1) cn [] [(4,⟨[(3,.t (.int .i64))],[],[]⟩)] [(3,⟨[(3,.t (.int .i64)),(4,.t (.int .i64))],[],[]⟩)] Tryz.func159
def ztb(W:Wd)(n:List zac):Option ((List AUnit')×Int×Unit):=
 W.loop (fun (z1:Int×List AUnit'×Unit) again2=>
 W.cnd (decide (z1.1<(n.length:Int))) (
  W.join (fun (z3:List AUnit'×Unit)=>(again2 ((IntKind.i64.wrap (z1.1+1)),z3)))
  fun k4=>W.idx n z1.1 fun x5=>W.call (zfd x5) fun v6=>
  W.cnd (!v6) (some ([],(7,())))
   (W.idx n z1.1 fun x7=>W.call (zfq x7) fun v8=>
   W.cnd (v8 != 0) (W.room (z1.2.1.length+(((IntKind.i64.wrap (z1.1+1)),(v8,()))::[]).length) 16 ((k4 ((z1.2.1++(((IntKind.i64.wrap (z1.1+1)),(v8,()))::[])),()))))
   ((k4 z1.2))))
  (some (z1.2.1,(0,()))))
 (0,([],()))
def zyc:=ztb stdW
theorem ymc:ECok Tryz.prog 346 (.es ⟨(.pair (.slc tNovationref01Big) .unit),(.pair (.own 52 tAUnit) (.pair (.v (.int .i64)) .unit)),fun x=>zyc x.1⟩):=es_z (fun W x=>ztb W x.1) (cc zll (cc znn cn)) [] [(4,⟨[(4,.row 1)],[],[.dead,.own 52 tAUnit]⟩)] [(3,⟨[(4,.row 1),(5,.t (.int .i64))],[],[.dead,.own 52 tAUnit]⟩)] Tryz.func346
def zpb(W:Wd)(l:List (List AUnit')):Option ((List AUnit')×Int×Unit):=W.nn 8 (W.room (Int.toNat 8) 32 (W.bnd 8 (Int.toNat 8) fun h1=>
 W.loop (fun (z2:Int×List zac×Unit) again3=>
 W.cnd (decide (z2.1<(l.length:Int))) (W.idx l z2.1 fun x4=>W.call (zyd x4) fun v5=>
  W.cnd (!v5) (some ([],(3,())))
  (
  W.loop (fun (z6:Int×List zac×Unit) again7=>
   W.cnd (decide (z6.1<8)) (
   W.join (fun (z8:List zac×Unit)=>(again7 ((IntKind.i64.wrap (z6.1+1)),z8)))
    fun k9=>W.idx z6.2.1 z6.1 fun _=>W.idx l z2.1 fun x11=>W.both (W.nth z6.2.1 (Int.toNat z6.1) fun x12=>W.call (zfp x11 (IntKind.i64.wrap (z6.1+1))) fun v13=>W.call (zdc v13) fun v14=>W.call (zbs x12 v14) fun v15=>W.idx z6.2.1 z6.1 fun _=>W.nth z6.2.1 (Int.toNat z6.1) fun _=>(k9 ((List.set z6.2.1 (Int.toNat z6.1) v15),()))) (W.call (zfp x11 (IntKind.i64.wrap (z6.1+1))) fun v18=>W.both (W.nth z6.2.1 (Int.toNat z6.1) fun x19=>W.call (zdc v18) fun v20=>W.call (zbs x19 v20) fun v21=>W.idx z6.2.1 z6.1 fun _=>W.nth z6.2.1 (Int.toNat z6.1) fun _=>(k9 ((List.set z6.2.1 (Int.toNat z6.1) v21),()))) (W.call (zdc v18) fun v24=>W.nth z6.2.1 (Int.toNat z6.1) fun x25=>W.call (zbs x25 v24) fun v26=>W.idx z6.2.1 z6.1 fun _=>W.nth z6.2.1 (Int.toNat z6.1) fun _=>(k9 ((List.set z6.2.1 (Int.toNat z6.1) v26),())))))
   ((again3 ((IntKind.i64.wrap (z2.1+1)),z6.2))))
   (0,z2.2)))
  (W.call (zyc z2.2.1) fun v29=>some v29))
 (0,((List.replicate h1 (false,([],()))),()))))
def znl:=zpb stdW
theorem yjk:ECok Tryz.prog 266 (.es ⟨(.pair (.slc (.slc tAUnit)) .unit),(.pair (.own 52 tAUnit) (.pair (.v (.int .i64)) .unit)),fun x=>znl x.1⟩):=es_z (fun W x=>zpb W x.1) (cc yak (cc znk (cc zhm (cc zea (cc ymc cn))))) [(10,[],(.rd 0 (.rd 1 (.rd 2 (.rd 3 (.rd 4 (.rd 6 (.rd 7 (.rd 8 (.rd 9 (.rd 10 (.rd 11 (.two 5 12 (oN [24,26,28,31,32]) (.two 5 13 (oN [26,28,31,32]) (oN [10,28,31,32])))))))))))))))] [(9,⟨[(4,.row 0)],[],[.own 72 tNovationref01Big]⟩)] [(3,⟨[(4,.row 0),(5,.t (.int .i64))],[],[.own 72 tNovationref01Big]⟩),(8,⟨[(4,.row 0),(6,.t (.int .i64))],[],[.own 72 tNovationref01Big]⟩)] Tryz.func266
def zhz(W:Wd)(l:List APos')(u:AUnit')(legs:List AUnit'):Option ((List APos')×Int×Unit):=W.call (zkw l) fun v1=>
 W.cnd (!v1) (some ([],(3,())))
 (W.call (zee l u) fun v2=>W.call (znl (v2::(legs::[]))) fun v3=>
 W.cnd (v3.2.1 != 0) (some ([],v3.2))
  (
  W.loop (fun (z4:List AUnit'×Bool×Int×List APos'×Unit) again5=>
  W.cnd (decide (z4.2.2.1<(l.length:Int))) (
   W.join (fun (z6:Bool×List APos'×Unit)=>(again5 (z4.1,(z6.1,((IntKind.i64.wrap (z4.2.2.1+1)),z6.2)))))
   fun k7=>
   W.join (fun (z8:Bool×List APos'×Unit)=>W.idx l z4.2.2.1 fun x9=>
    W.cnd (Go.Vc.notIf true ((x9.1.1==u.1)&&(x9.1.2.1==u.2.1))) (W.idx l z4.2.2.1 fun x10=>W.room (z8.2.1.length+(x10::[]).length) 40 ((k7 (z8.1,((z8.2.1++(x10::[])),())))))
    ((k7 z8)))
    fun k11=>
    W.join (fun (z12:Bool×List APos'×Unit)=>
    W.cnd z12.1 (W.room (z12.2.1.length+((u,(z4.1,()))::[]).length) 40 ((k11 (true,((z12.2.1++((u,(z4.1,()))::[])),())))))
     ((k11 (z4.2.1,z12.2))))
    fun k13=>
    W.cnd (!z4.2.1) (W.idx l z4.2.2.1 fun x14=>W.call (zfa x14.1 u) fun v15=>(k13 ((!v15),z4.2.2.2)))
     ((k13 (false,z4.2.2.2))))
   (
   W.join (fun (z16:List APos'×Unit)=>some (z16.1,(0,())))
   fun k17=>
   W.cnd (!z4.2.1) (W.room (z4.2.2.2.1.length+((u,(z4.1,()))::[]).length) 40 ((k17 ((z4.2.2.2.1++((u,(z4.1,()))::[])),()))))
    ((k17 z4.2.2.2))))
  (v3.1,(((v3.1.length:Int)==0),(0,([],()))))))
def zfx:=zhz stdW
theorem yct:ECok Tryz.prog 143 (.es ⟨(.pair (.slc tAPos) (.pair tAUnit (.pair (.slc tAUnit) .unit))),(.pair (.own 50 tAPos) (.pair (.v (.int .i64)) .unit)),fun x=>zfx x.1 x.2.1 x.2.2.1⟩):=es_z (fun W x=>zhz W x.1 x.2.1 x.2.2.1) (cc yai (cc zqw (cc yjk (cc zgv cn)))) [(11,[],(oN [1,3,5,7,9,11,13,15,17,18,21,23])),(14,[],(oN [1,3,5,7,9,11,13]))] [(10,⟨[(10,.row 3),(11,.t .bool)],[],[.dead,.dead,.dead,.own 50 tAPos]⟩),(14,⟨[(10,.row 3),(11,.t .bool)],[],[.dead,.dead,.dead,.own 50 tAPos]⟩),(18,⟨[(10,.row 3)],[],[.dead,.dead,.dead,.own 50 tAPos]⟩),(500048,⟨[(10,.row 3),(48,.t .bool)],[],[.dead,.dead,.dead,.own 50 tAPos]⟩)] [(9,⟨[(8,.t (.slc tAUnit)),(10,.row 3),(11,.t .bool),(12,.t (.int .i64))],[],[.dead,.dead,.dead,.own 50 tAPos]⟩)] Tryz.func143
def zlg(W:Wd)(a:List AUnit')(b:List AUnit'):Option Bool:=
 W.cnd ((a.length:Int) != (b.length:Int)) (some false)
 (
 W.loop (fun (z1:Int×Unit) again2=>
  W.cnd (decide (z1.1<(a.length:Int))) (W.idx a z1.1 fun x3=>W.idx b z1.1 fun x4=>
  W.cnd (Go.Vc.notIf true ((x3.1==x4.1)&&(x3.2.1==x4.2.1))) (some false)
   ((again2 ((IntKind.i64.wrap (z1.1+1)),()))))
  (some true))
  (0,()))
def zvl:=zlg stdW
theorem ygl:ECok Tryz.prog 144 (.es ⟨(.pair (.slc tAUnit) (.pair (.slc tAUnit) .unit)),(.v .bool),fun x=>zvl x.1 x.2.1⟩):=es_z (fun W x=>zlg W x.1 x.2.1) cn [(6,[],(oN [1,3,5,7,9,11,13,15,17]))] [] [(4,⟨[(5,.t (.int .i64))],[],[]⟩)] Tryz.func144
def zku(W:Wd)(a:List APos')(b:List APos'):Option Bool:=
 W.cnd ((a.length:Int) != (b.length:Int)) (some false)
 (
 W.loop (fun (z1:Int×Unit) again2=>
  W.cnd (decide (z1.1<(a.length:Int))) (
  W.join (fun (z3:Bool×Unit)=>
   W.cnd z3.1 (some false)
   ((again2 ((IntKind.i64.wrap (z1.1+1)),()))))
   fun k4=>W.idx a z1.1 fun x5=>W.idx b z1.1 fun x6=>
   W.cnd (Go.Vc.notIf true ((x5.1.1==x6.1.1)&&(x5.1.2.1==x6.1.2.1))) ((k4 (true,())))
   (W.idx a z1.1 fun x7=>W.idx b z1.1 fun x8=>W.call (zvl x7.2.1 x8.2.1) fun v9=>(k4 ((!v9),()))))
  (some true))
  (0,()))
def zhb:=zku stdW
theorem ygf:ECok Tryz.prog 30 (.es ⟨(.pair (.slc tAPos) (.pair (.slc tAPos) .unit)),(.v .bool),fun x=>zhb x.1 x.2.1⟩):=es_z (fun W x=>zku W x.1 x.2.1) (cc ygl cn) [(6,[],(oN [1,3,5,7,9,11,13,15,17,19,21,23,25,27,29,31,33,35,37,39,41,43,44,47,49]))] [(500041,⟨[(41,.t .bool)],[],[]⟩)] [(4,⟨[(5,.t (.int .i64))],[],[]⟩)] Tryz.func30
def zkx(W:Wd)(a:List AFlow')(b:List AFlow'):Option Bool:=
 W.cnd ((a.length:Int) != (b.length:Int)) (some false)
 (
 W.loop (fun (z1:Int×Unit) again2=>
  W.cnd (decide (z1.1<(a.length:Int))) (W.idx a z1.1 fun x3=>W.idx b z1.1 fun x4=>
  W.cnd (Go.Vc.notIf true ((x3.1.1==x4.1.1)&&((x3.1.2.1==x4.1.2.1)&&(x3.2.1==x4.2.1)))) (some false)
   ((again2 ((IntKind.i64.wrap (z1.1+1)),()))))
  (some true))
  (0,()))
def zor:=zkx stdW
theorem ygh:ECok Tryz.prog 120 (.es ⟨(.pair (.slc tAFlow) (.pair (.slc tAFlow) .unit)),(.v .bool),fun x=>zor x.1 x.2.1⟩):=es_z (fun W x=>zkx W x.1 x.2.1) cn [(6,[],(oN [1,3,5,7,9,11,13,15,17]))] [] [(4,⟨[(5,.t (.int .i64))],[],[]⟩)] Tryz.func120
def zks(W:Wd)(a:zae)(b:zae):Option Bool:=W.call (zhb a.2.2.2.2.2.2.2.2.1 b.2.2.2.2.2.2.2.2.1) fun v1=>
 W.cnd v1 (W.call (zhb a.2.2.2.2.2.2.2.2.2.1 b.2.2.2.2.2.2.2.2.2.1) fun v2=>
 W.cnd v2 (W.call (zor a.2.2.2.2.2.2.2.2.2.2.1 b.2.2.2.2.2.2.2.2.2.2.1) fun v3=>some v3)
  (some false))
 (some false)
def zjj:=zks stdW
theorem ygd:ECok Tryz.prog 29 (.es ⟨(.pair tAState (.pair tAState .unit)),(.v .bool),fun x=>zjj x.1 x.2.1⟩):=es_z (fun W x=>zks W x.1 x.2.1) (cc ygf (cc ygh cn)) [] [] [] Tryz.func29
def zqh(W:Wd)(s:zae)(id:Int):Option (List APos'):=
 W.loop (fun (z1:Int×List APos'×Unit) again2=>
 W.cnd (decide (z1.1<(s.2.2.2.2.2.2.2.2.2.1.length:Int))) (
  W.join (fun (z3:List APos'×Unit)=>(again2 ((IntKind.i64.wrap (z1.1+1)),z3)))
  fun k4=>W.idx s.2.2.2.2.2.2.2.2.2.1 z1.1 fun x5=>W.call (zkb s id x5.1) fun v6=>
  W.cnd v6 (W.room (z1.2.1.length+(x5::[]).length) 40 ((k4 ((z1.2.1++(x5::[])),()))))
   ((k4 z1.2)))
  (some z1.2.1))
 (0,([],()))
def zuo:=zqh stdW
theorem yll:ECok Tryz.prog 31 (.es ⟨(.pair tAState (.pair (.int .i64) .unit)),(.own 50 tAPos),fun x=>zuo x.1 x.2.1⟩):=es_z (fun W x=>zqh W x.1 x.2.1) (cc zxk cn) [] [(7,⟨[(5,.row 1)],[],[.dead,.own 50 tAPos]⟩)] [(3,⟨[(5,.row 1),(11,.t (.int .i64))],[],[.dead,.own 50 tAPos]⟩)] Tryz.func31
def yej(_:Wd)(i:AInst')(free10:Int):Option (Bool×(Int×Unit)):=some ((i.1==free10),(free10,()))
def ztv:=yej stdW
theorem ykp:ECok Tryz.prog 351 (.ls ⟨[.v tAInst,.ptr],[⟨3,[.v (.int .i64)]⟩],[⟨3,[.v (.int .i64)]⟩],(.q (.v .bool)),fun x=>ztv x.1 x.2.1⟩):=ls_z (fun W x=>yej W x.1 x.2.1) cn [] [] [] Tryz.func351
def zaq(W:Wd)(s:List AInst')(f0_0:Int):Option (Int×(Int×Unit)):=
 W.loop (fun (z1:AUnit') again2=>
 W.cnd (decide (z1.1<(s.length:Int))) (W.idx s z1.1 fun x3=>W.call (ztv x3 z1.2.1) fun v4=>
  W.cnd v4.1 (some (z1.1,v4.2))
  ((again2 ((IntKind.i64.wrap (z1.1+1)),v4.2))))
  (some ((-1),z1.2)))
 (0,(f0_0,()))
def zbh:=zaq stdW
theorem zdj:ECok Tryz.prog 350 (.ls ⟨[.v (.slc tAInst),.fn 351 1],[⟨3,[.v (.int .i64)]⟩],[⟨3,[.v (.int .i64)]⟩],(.q (.v (.int .i64))),fun x=>zbh x.1 x.2.1⟩):=ls_z (fun W x=>zaq W x.1 x.2.1) (cc ykp cn) [] [] [(2,⟨[(8,.t (.int .i64))],[(0,[.t (.int .i64)])],[]⟩)] Tryz.func350
def zyr(W:Wd)(l:List AInst')(id:Int):Option Int:=W.call (zbh l id) fun v1=>some v1.1
def ymx:=zyr stdW
theorem inst_at_ok:ECok Tryz.prog 270 (.es ⟨(.pair (.slc tAInst) (.pair (.int .i64) .unit)),(.v (.int .i64)),fun x=>ymx x.1 x.2.1⟩):=es_z (fun W x=>zyr W x.1 x.2.1) (cc zdj cn) [] [] [] Tryz.func270
def zcl(W:Wd)(s:List Int):Option (List Int):=W.nilq (List.isEmpty s) fun g1=>
 W.cnd (Go.Vc.notIf false g1) (some [])
 (W.room ((0:Nat)+s.length) 8 (some ([]++s)))
def zdq:=zcl stdW
theorem zhv:ECok Tryz.prog 130 (.es ⟨(.pair (.slc (.int .i64)) .unit),(.own 2 (.int .i64)),fun x=>zdq x.1⟩):=es_z (fun W x=>zcl W x.1) cn [] [] [] Tryz.func130
def ztt(W:Wd)(i:AInst'):Option AInst':=W.call (zdq i.2.2.2.2.1) fun v1=>some (i.1,(i.2.1,(i.2.2.1,(i.2.2.2.1,(v1,())))))
def zyq:=ztt stdW
theorem ymv:ECok Tryz.prog 271 (.es ⟨(.pair tAInst .unit),(.v tAInst),fun x=>zyq x.1⟩):=es_z (fun W x=>ztt W x.1) (cc zhv cn) [] [] [] Tryz.func271
def zpz(W:Wd)(l:List AInst')(id:Int):Option (AInst'×Bool×Unit):=W.call (ymx l id) fun v1=>
 W.cnd (decide (v1<0)) (some ((0,(0,(0,(0,([],()))))),(false,())))
 (W.idx l v1 fun x2=>W.call (zyq x2) fun v3=>some (v3,(true,())))
def zoa:=zpz stdW
theorem zxe:ECok Tryz.prog 146 (.es ⟨(.pair (.slc tAInst) (.pair (.int .i64) .unit)),(.pair (.v tAInst) (.pair (.v .bool) .unit)),fun x=>zoa x.1 x.2.1⟩):=es_z (fun W x=>zpz W x.1 x.2.1) (cc inst_at_ok (cc ymv cn)) [] [] [] Tryz.func146
def zth(W:Wd)(l:List AFlow'):Option Bool:=
 W.loop (fun (z1:Int×Unit) again2=>
 W.cnd (decide (z1.1<(l.length:Int))) (W.idx l z1.1 fun x3=>
  W.join (fun (z4:Bool×Unit)=>
  W.cnd z4.1 (some false)
   ((again2 ((IntKind.i64.wrap (z1.1+1)),()))))
  fun k5=>
  W.cnd (x3.2.1==0) ((k5 (true,())))
   (
   W.cnd (decide (0<z1.1)) (W.idx l (IntKind.i64.wrap (z1.1 - 1)) fun x6=>W.call (zkg x6.1 x3.1) fun v7=>(k5 ((!v7),())))
   ((k5 (false,())))))
  (some true))
 (0,())
def zpk:=zth stdW
theorem zra:ECok Tryz.prog 181 (.es ⟨(.pair (.slc tAFlow) .unit),(.v .bool),fun x=>zpk x.1⟩):=es_z (fun W x=>zth W x.1) (cc zoj cn) [(4,[],(oN [1,3,5,7,9,11,13,15,17,19,21,23,25,27,29,30,33,35,37]))] [(500030,⟨[(30,.t .bool)],[],[]⟩)] [(2,⟨[(7,.t (.int .i64))],[],[]⟩)] Tryz.func181
def zul(W:Wd)(all:Int)(qty:Int):Option Bool:=
 W.cnd (decide (0<qty)) (
 W.cnd (decide (qty≤all)) (some true)
  (
  W.cnd (decide (qty<0)) (some (decide (all≤qty)))
  (some false)))
 (
 W.cnd (decide (qty<0)) (some (decide (all≤qty)))
  (some false))
def yid:=zul stdW
theorem ynl:ECok Tryz.prog 267 (.es ⟨(.pair (.int .i64) (.pair (.int .i64) .unit)),(.v .bool),fun x=>yid x.1 x.2.1⟩):=es_z (fun W x=>zul W x.1 x.2.1) cn [] [] [] Tryz.func267
def zhu(W:Wd)(l:List zab)(id:Int):Option (Int×Bool×Unit):=
 W.loop (fun (z1:Int×Unit) again2=>
 W.cnd (decide (z1.1<(l.length:Int))) (W.idx l z1.1 fun x3=>
  W.cnd (decide (id≤x3.1)) (some (z1.1,((x3.1==id),())))
  ((again2 ((IntKind.i64.wrap (z1.1+1)),()))))
  (some ((l.length:Int),(false,()))))
 (0,())
def zqk:=zhu stdW
theorem yik:ECok Tryz.prog 397 (.es ⟨(.pair (.slc tAAccount) (.pair (.int .i64) .unit)),(.pair (.v (.int .i64)) (.pair (.v .bool) .unit)),fun x=>zqk x.1 x.2.1⟩):=es_z (fun W x=>zhu W x.1 x.2.1) cn [(5,[],(oN [1,3,5,7,9,11,13]))] [] [(2,⟨[(10,.t (.int .i64))],[],[]⟩)] Tryz.func397
def zqn(W:Wd)(l:List zab)(id:Int):Option (zab×Bool×Unit):=W.call (zqk l id) fun v1=>
 W.cnd (!v1.2.1) (some ((0,(0,(0,([],())))),(false,())))
 (W.idx l v1.1 fun x2=>W.call (zql x2) fun v3=>some (v3,(true,())))
def yco:=zqn stdW
theorem yln:ECok Tryz.prog 347 (.es ⟨(.pair (.slc tAAccount) (.pair (.int .i64) .unit)),(.pair (.v tAAccount) (.pair (.v .bool) .unit)),fun x=>yco x.1 x.2.1⟩):=es_z (fun W x=>zqn W x.1 x.2.1) (cc yik (cc ycm cn)) [] [] [] Tryz.func347
def zxb(_:Wd)(m:zai)(free10:Int):Option (Bool×(Int×Unit)):=some ((m.1==free10),(free10,()))
def zre:=zxb stdW
theorem ydc:ECok Tryz.prog 422 (.ls ⟨[.v tAMember,.ptr],[⟨3,[.v (.int .i64)]⟩],[⟨3,[.v (.int .i64)]⟩],(.q (.v .bool)),fun x=>zre x.1 x.2.1⟩):=ls_z (fun W x=>zxb W x.1 x.2.1) cn [] [] [] Tryz.func422
def zal(W:Wd)(s:List zai)(f0_0:Int):Option (Int×(Int×Unit)):=
 W.loop (fun (z1:AUnit') again2=>
 W.cnd (decide (z1.1<(s.length:Int))) (W.idx s z1.1 fun x3=>W.call (zre x3 z1.2.1) fun v4=>
  W.cnd v4.1 (some (z1.1,v4.2))
  ((again2 ((IntKind.i64.wrap (z1.1+1)),v4.2))))
  (some ((-1),z1.2)))
 (0,(f0_0,()))
def zaz:=zal stdW
theorem zcv:ECok Tryz.prog 421 (.ls ⟨[.v (.slc tAMember),.fn 422 1],[⟨3,[.v (.int .i64)]⟩],[⟨3,[.v (.int .i64)]⟩],(.q (.v (.int .i64))),fun x=>zaz x.1 x.2.1⟩):=ls_z (fun W x=>zal W x.1 x.2.1) (cc ydc cn) [] [] [(2,⟨[(8,.t (.int .i64))],[(0,[.t (.int .i64)])],[]⟩)] Tryz.func421
def zpl(W:Wd)(l:List zai)(id:Int):Option Int:=W.call (zaz l id) fun v1=>some v1.1
def ybc:=zpl stdW
theorem ykd:ECok Tryz.prog 398 (.es ⟨(.pair (.slc tAMember) (.pair (.int .i64) .unit)),(.v (.int .i64)),fun x=>ybc x.1 x.2.1⟩):=es_z (fun W x=>zpl W x.1 x.2.1) (cc zcv cn) [] [] [] Tryz.func398
def zik(W:Wd)(l:List zai)(id:Int):Option (zai×Bool×Unit):=W.call (ybc l id) fun v1=>
 W.cnd (decide (v1<0)) (some ((0,(0,(0,(0,())))),(false,())))
 (W.idx l v1 fun x2=>some (x2,(true,())))
def zlu:=zik stdW
theorem ydd:ECok Tryz.prog 348 (.es ⟨(.pair (.slc tAMember) (.pair (.int .i64) .unit)),(.pair (.v tAMember) (.pair (.v .bool) .unit)),fun x=>zlu x.1 x.2.1⟩):=es_z (fun W x=>zik W x.1 x.2.1) (cc ykd cn) [] [] [] Tryz.func348
def zlt(W:Wd)(m:zai):Option Int:=
 W.cnd (m.2.2.1 != 0) (some 15)
 (some 0)
def zpm:=zlt stdW
theorem yhb:ECok Tryz.prog 349 (.es ⟨(.pair tAMember .unit),(.v (.int .i64)),fun x=>zpm x.1⟩):=es_z (fun W x=>zlt W x.1) cn [] [] [] Tryz.func349
def zmt(W:Wd)(s:zae)(u:AUnit'):Option Int:=W.call (yco s.2.2.2.2.1 u.1) fun v1=>
 W.join (fun (z2:Bool×Unit)=>
 W.cnd z2.1 (some 11)
  (
  W.cnd (v1.1.2.2.1 != 1) (some 17)
  (W.call (zlu s.2.1 v1.1.2.1) fun v3=>
  W.cnd (!v3.2.1) (some 15)
   (W.call (zpm v3.1) fun v4=>some v4))))
 fun k5=>
 W.cnd (!v1.2.1) ((k5 (true,())))
  (W.call (zus v1.1 u) fun v6=>(k5 ((!v6),())))
def zwp:=zmt stdW
theorem yif:ECok Tryz.prog 269 (.es ⟨(.pair tAState (.pair tAUnit .unit)),(.v (.int .i64)),fun x=>zwp x.1 x.2.1⟩):=es_z (fun W x=>zmt W x.1 x.2.1) (cc yln (cc ycn (cc ydd (cc yhb cn)))) [] [(500016,⟨[(16,.t .bool)],[],[]⟩)] [] Tryz.func269
def zms(W:Wd)(s:zae)(u:AUnit')(to_:AUnit')(id:Int)(qty:Int)(price:Int):Option Int:=W.call (zoa s.2.2.1 id) fun v1=>
 W.join (fun (z2:Bool×Unit)=>
 W.cnd z2.1 (some 3)
  (
  W.cnd (!v1.2.1) (some 11)
  (
  W.join (fun (z3:Bool×Unit)=>
   W.cnd z3.1 (some 2)
   (W.call (ych s.2.2.2.2.2.2.2.2.2.1 u) fun v4=>W.call (zzs v4 id) fun v5=>W.call (yid v5 qty) fun v6=>
   W.cnd (!v6) (some 23)
    (W.call (zwp s to_) fun v7=>some v7)))
   fun k8=>
   W.cnd (qty==0) ((k8 (true,())))
   (
   W.cnd (decide (price<0)) ((k8 (true,())))
    ((k8 ((decide (2147483647<price)),())))))))
 fun k9=>W.call (zkc s) fun v10=>
 W.cnd (!v10) ((k9 (true,())))
  (W.call (zpk s.2.2.2.2.2.2.2.2.2.2.1) fun v11=>(k9 ((!v11),())))
def zwo:=zms stdW
theorem yie:ECok Tryz.prog 145 (.es ⟨(.pair tAState (.pair tAUnit (.pair tAUnit (.pair (.int .i64) (.pair (.int .i64) (.pair (.int .i64) .unit)))))),(.v (.int .i64)),fun x=>zwo x.1 x.2.1 x.2.2.1 x.2.2.2.1 x.2.2.2.2.1 x.2.2.2.2.2.1⟩):=es_z (fun W x=>zms W x.1 x.2.1 x.2.2.1 x.2.2.2.1 x.2.2.2.2.1 x.2.2.2.2.2.1) (cc zxe (cc zum (cc zra (cc yfc (cc ydn (cc ynl (cc yif cn))))))) [] [(500022,⟨[(22,.t .bool)],[],[]⟩),(500035,⟨[(35,.t .bool)],[],[]⟩)] [] Tryz.func145
def zip(W:Wd)(p:Int):Option Bool:=
 W.cnd (decide (0≤p)) (some (decide (p≤2147483647)))
 (some false)
def zey:=zip stdW
theorem zqs:ECok Tryz.prog 273 (.es ⟨(.pair (.int .i64) .unit),(.v .bool),fun x=>zey x.1⟩):=es_z (fun W x=>zip W x.1) cn [] [] [] Tryz.func273
def ztu(W:Wd)(m:Int):Option Bool:=
 W.cnd (decide (m<(-2147483647))) (some true)
 (some (decide (2147483647<m)))
def yhk:=ztu stdW
theorem ymw:ECok Tryz.prog 353 (.es ⟨(.pair (.int .i64) .unit),(.v .bool),fun x=>yhk x.1⟩):=es_z (fun W x=>ztu W x.1) cn [] [] [] Tryz.func353
def zbf(W:Wd)(s:List Int):Option (Int×(Unit)):=
 W.loop (fun (z1:Int×Unit) again2=>
 W.cnd (decide (z1.1<(s.length:Int))) (W.idx s z1.1 fun x3=>W.call (yhk x3) fun v4=>
  W.cnd v4 (some z1)
  ((again2 ((IntKind.i64.wrap (z1.1+1)),()))))
  (some ((-1),())))
 (0,())
def zbu:=zbf stdW
theorem zdz:ECok Tryz.prog 399 (.ls ⟨[.v (.slc (.int .i64)),.fn 353 0],[],[],(.q (.v (.int .i64))),fun x=>zbu x.1⟩):=ls_z (fun W x=>zbf W x.1) (cc ymw cn) [] [] [(2,⟨[(8,.t (.int .i64))],[],[]⟩)] Tryz.func399
def zay(W:Wd)(s:List Int):Option (Bool×(Unit)):=W.call (zbu s) fun v1=>some ((decide (0≤v1.1)),())
def zbn:=zay stdW
theorem zdt:ECok Tryz.prog 352 (.ls ⟨[.v (.slc (.int .i64)),.fn 353 0],[],[],(.q (.v .bool)),fun x=>zbn x.1⟩):=ls_z (fun W x=>zay W x.1) (cc zdz cn) [] [] [] Tryz.func352
def zmb(W:Wd)(i:AInst'):Option Int:=
 W.join (fun (z1:Bool×Unit)=>
 W.join (fun (z2:Bool×Unit)=>
  W.cnd z2.1 (some 2)
  (some 0))
  fun k3=>
  W.cnd (!z1.1) ((k3 (true,())))
  (W.call (zey i.2.2.1) fun v4=>
  W.cnd (!v4) ((k3 (true,())))
   (W.call (zey i.2.2.2.1) fun v5=>
   W.cnd (!v5) ((k3 (true,())))
   (
   W.cnd (decide (8<(i.2.2.2.2.1.length:Int))) ((k3 (true,())))
    (W.call (zbn i.2.2.2.2.1) fun v6=>(k3 v6))))))
 fun k7=>
 W.cnd (decide (1≤i.1)) (
  W.cnd (decide (i.1≤8)) (
  W.cnd (decide (1≤i.2.1)) ((k7 ((decide (i.2.1≤65536)),())))
   ((k7 (false,()))))
  ((k7 (false,()))))
  ((k7 (false,())))
def zqa:=zmb stdW
theorem yhl:ECok Tryz.prog 272 (.es ⟨(.pair tAInst .unit),(.v (.int .i64)),fun x=>zqa x.1⟩):=es_z (fun W x=>zmb W x.1) (cc zqs (cc zdt cn)) [] [(2,⟨[(3,.t .bool)],[],[]⟩),(500046,⟨[(46,.t .bool)],[],[]⟩)] [] Tryz.func272
def zmz(_:Wd)(w:zao):Option Bool:=some (decide (w.1<0))
def zbz:=zmz stdW
theorem zfh:ECok Tryz.prog 358 (.es ⟨(.pair tWideWide .unit),(.v .bool),fun x=>zbz x.1⟩):=es_z (fun W x=>zmz W x.1) cn [] [] [] Tryz.func358
def zfg(W:Wd)(w:zao):Option ycp:=W.call (zbz w) fun v1=>
 W.cnd (!v1) (some ((IntKind.u64.wrap w.1),w.2))
 (W.call (sub64 0 w.2.1 0) fun v2=>W.call (sub64 0 (IntKind.u64.wrap w.1) v2.2.1) fun v3=>some (v3.1,(v2.1,())))
def zdv:=zfg stdW
theorem zje:ECok Tryz.prog 354 (.es ⟨(.pair tWideWide .unit),(.v tWideSize),fun x=>zdv x.1⟩):=es_z (fun W x=>zfg W x.1) (cc zfh (cc ynz cn)) [] [] [] Tryz.func354
def zen(W:Wd)(x:Int)(y:Int):Option (AUnit'):=W.nn 32 (W.nn 32 (W.nn 32 (W.nn 32 (W.nn 32 (some ((IntKind.u64.wrap ((IntKind.u64.wrap ((IntKind.u64.wrap ((Int.fdiv x (2 ^ (Min.min (Int.toNat 32) (Go.IntKind.bits Go.IntKind.u64))))*(Int.fdiv y (2 ^ (Min.min (Int.toNat 32) (Go.IntKind.bits Go.IntKind.u64))))))+(Int.fdiv (IntKind.u64.wrap ((IntKind.u64.wrap ((Int.fdiv x (2 ^ (Min.min (Int.toNat 32) (Go.IntKind.bits Go.IntKind.u64))))*(Go.bits Go.BinOp.and Go.IntKind.u64 y 4294967295)))+(Int.fdiv (IntKind.u64.wrap ((Go.bits Go.BinOp.and Go.IntKind.u64 x 4294967295)*(Go.bits Go.BinOp.and Go.IntKind.u64 y 4294967295))) (2 ^ (Min.min (Int.toNat 32) (Go.IntKind.bits Go.IntKind.u64)))))) (2 ^ (Min.min (Int.toNat 32) (Go.IntKind.bits Go.IntKind.u64))))))+(Int.fdiv (IntKind.u64.wrap ((Go.bits Go.BinOp.and Go.IntKind.u64 (IntKind.u64.wrap ((IntKind.u64.wrap ((Int.fdiv x (2 ^ (Min.min (Int.toNat 32) (Go.IntKind.bits Go.IntKind.u64))))*(Go.bits Go.BinOp.and Go.IntKind.u64 y 4294967295)))+(Int.fdiv (IntKind.u64.wrap ((Go.bits Go.BinOp.and Go.IntKind.u64 x 4294967295)*(Go.bits Go.BinOp.and Go.IntKind.u64 y 4294967295))) (2 ^ (Min.min (Int.toNat 32) (Go.IntKind.bits Go.IntKind.u64)))))) 4294967295)+(IntKind.u64.wrap ((Go.bits Go.BinOp.and Go.IntKind.u64 x 4294967295)*(Int.fdiv y (2 ^ (Min.min (Int.toNat 32) (Go.IntKind.bits Go.IntKind.u64)))))))) (2 ^ (Min.min (Int.toNat 32) (Go.IntKind.bits Go.IntKind.u64)))))),((IntKind.u64.wrap (x*y)),())))))))
def zda:=zen stdW
theorem zil:ECok Tryz.prog 355 (.es ⟨(.pair (.int .u64) (.pair (.int .u64) .unit)),(.pair (.v (.int .u64)) (.pair (.v (.int .u64)) .unit)),fun x=>zda x.1 x.2.1⟩):=es_z (fun W x=>zen W x.1 x.2.1) cn [] [] [] Tryz.func355
def zjd(W:Wd)(s:ycp)(minus:Bool):Option (zao×Bool×Unit):=
 W.cnd (!minus) (some (((IntKind.i64.wrap s.1),s.2),((decide (s.1<9223372036854775808)),())))
 (W.call (sub64 0 s.2.1 0) fun v1=>W.call (sub64 0 s.1 v1.2.1) fun v2=>
 W.cnd (decide (s.1<9223372036854775808)) (some (((IntKind.i64.wrap v2.1),(v1.1,())),(true,())))
  (
  W.cnd (s.1==9223372036854775808) (some (((IntKind.i64.wrap v2.1),(v1.1,())),((s.2.1==0),())))
  (some (((IntKind.i64.wrap v2.1),(v1.1,())),(false,())))))
def zbr:=zjd stdW
theorem zhf:ECok Tryz.prog 357 (.es ⟨(.pair tWideSize (.pair .bool .unit)),(.pair (.v tWideWide) (.pair (.v .bool) .unit)),fun x=>zbr x.1 x.2.1⟩):=es_z (fun W x=>zjd W x.1 x.2.1) (cc ynz cn) [(2,[1],(oN [1,3,5,7,9,11,13,15,17,18,21])),(5,[1],(oN [1,3,5,7,9,11,13,15,17,19,21,23,25,27,29,31,33,34,37]))] [] [] Tryz.func357
def zru(W:Wd)(a:Int)(b:Int):Option zao:=W.call (zix a) fun v1=>W.call (zix b) fun v2=>W.call (zdv v1) fun v3=>W.call (zdv v2) fun v4=>W.call (zda v3.2.1 v4.2.1) fun v5=>W.both (W.call (zbz v1) fun v6=>W.both (W.call (zbz v2) fun v7=>W.both (W.call (zbr v5 (Go.Vc.notIf true (v6==v7))) fun v8=>some v8.1) (W.call (zbr v5 (Go.Vc.notIf true (v6==v7))) fun v9=>some v9.1)) (W.call (zbz v2) fun v10=>W.call (zbr v5 (Go.Vc.notIf true (v6==v10))) fun v11=>some v11.1)) (W.call (zbz v1) fun v12=>W.call (zbz v2) fun v13=>W.call (zbr v5 (Go.Vc.notIf true (v12==v13))) fun v14=>some v14.1)
def zxq:=zru stdW
theorem yls:ECok Tryz.prog 275 (.es ⟨(.pair (.int .i64) (.pair (.int .i64) .unit)),(.v tWideWide),fun x=>zxq x.1 x.2.1⟩):=es_z (fun W x=>zru W x.1 x.2.1) (cc zgz (cc zje (cc zil (cc zfh (cc zhf cn))))) [(2,[],(oN [1,7,2,5,8,11,12,15,17,19,21,23])),(3,[],(.rd 0 (.rd 1 (.rd 2 (.rd 3 (.rd 5 (.two 4 12 (.two 6 12 (.rd 7 (.two 8 12 (oN [19,21,23,24,26,29]) (oN [16,19,21,23,26,29]))) (oN [12,15,16,19,21,23,26,29])) (oN [8,12,15,16,19,21,23,26,29]))))))))] [] [] Tryz.func275
def zkk(W:Wd)(w:zao)(n:Int):Option (zao×Int×Unit):=W.call (zdv w) fun v1=>W.call (zix n) fun v2=>W.call (zdv v2) fun v3=>W.call (zda v1.1 v3.2.1) fun v4=>W.call (zda v1.2.1 v3.2.1) fun v5=>W.call (add64 v4.2.1 v5.1 0) fun v6=>W.call (zbz w) fun v7=>W.call (zbr (v6.1,v5.2) (Go.Vc.notIf true (v7==(decide (n<0))))) fun v8=>
 W.cnd v8.2.1 (
 W.cnd (v4.1==0) (W.call (zet v8.1 (v6.2.1==0)) fun v9=>some v9)
  (W.call (zet v8.1 false) fun v10=>some v10))
 (W.call (zet v8.1 false) fun v11=>some v11)
def zuz:=zkk stdW
theorem yfm:ECok Tryz.prog 274 (.es ⟨(.pair tWideWide (.pair (.int .i64) .unit)),(.pair (.v tWideWide) (.pair (.v (.int .i64)) .unit)),fun x=>zuz x.1 x.2.1⟩):=es_z (fun W x=>zkk W x.1 x.2.1) (cc zje (cc zgz (cc zil (cc yqg (cc zfh (cc zhf (cc zqo cn))))))) [] [] [] Tryz.func274
def zpy(W:Wd)(i:AInst')(qty:Int)(from_:Int)(to_:Int):Option (AUnit'):=
 W.join (fun (z1:Bool×Unit)=>
 W.cnd z1.1 (some (0,(2,())))
  (W.call (zxq (IntKind.i64.wrap (to_ - from_)) i.2.1) fun v2=>W.call (zuz v2 qty) fun v3=>
  W.cnd (v3.2.1 != 0) (some (0,v3.2))
  (W.call (zrw v3.1) fun v4=>some v4)))
 fun k5=>W.call (zqa i) fun v6=>
 W.cnd (v6 != 0) ((k5 (true,())))
  (W.call (zey from_) fun v7=>
  W.cnd (!v7) ((k5 (true,())))
  (W.call (zey to_) fun v8=>(k5 ((!v8),()))))
def ztw:=zpy stdW
theorem ykq:ECok Tryz.prog 147 (.es ⟨(.pair tAInst (.pair (.int .i64) (.pair (.int .i64) (.pair (.int .i64) .unit)))),(.pair (.v (.int .i64)) (.pair (.v (.int .i64)) .unit)),fun x=>ztw x.1 x.2.1 x.2.2.1 x.2.2.2.1⟩):=es_z (fun W x=>zpy W x.1 x.2.1 x.2.2.1 x.2.2.2.1) (cc yhl (cc zqs (cc yls (cc yfm (cc zzq cn))))) [] [(500024,⟨[(24,.t .bool)],[],[]⟩)] [] Tryz.func147
def zrt(W:Wd)(a:zao)(b:zao):Option (zao×Int×Unit):=W.call (zch a 0 0 0) fun v1=>W.call (zch ((Go.bits Go.BinOp.xor Go.IntKind.i64 (if true=true then (-1) else (if true=true then ((2 ^ ((Go.IntKind.bits Go.IntKind.i64) - 1)) - 1) else ((2 ^ (Go.IntKind.bits Go.IntKind.i64)) - 1))) b.1),((Go.bits Go.BinOp.xor Go.IntKind.u64 (if false=true then (-1) else (if false=true then ((2 ^ ((Go.IntKind.bits Go.IntKind.u64) - 1)) - 1) else ((2 ^ (Go.IntKind.bits Go.IntKind.u64)) - 1))) b.2.1),())) v1.2.1 v1.2.2.1 v1.2.2.2.1) fun v2=>W.call (zix 1) fun v3=>W.call (zch v3 v2.2.1 v2.2.2.1 v2.2.2.2.1) fun v4=>W.call (zdx v4.2.1 v4.2.2.1 v4.2.2.2.1) fun v5=>some v5.1
def yfn:=zrt stdW
theorem ylr:ECok Tryz.prog 306 (.es ⟨(.pair tWideWide (.pair tWideWide .unit)),(.pair (.v tWideWide) (.pair (.v (.int .i64)) .unit)),fun x=>yfn x.1 x.2.1⟩):=es_z (fun W x=>zrt W x.1 x.2.1) (cc zjc (cc zgz (cc zhw cn))) [] [] [] Tryz.func306
def zyy(W:Wd)(a:Int)(b:Int):Option (AUnit'):=W.call (zix a) fun v1=>W.call (zix b) fun v2=>W.call (yfn v1 v2) fun v3=>W.call (zjv v3.1 v3.2.1) fun v4=>some v4
def zwh:=zyy stdW
theorem yeo:ECok Tryz.prog 183 (.es ⟨(.pair (.int .i64) (.pair (.int .i64) .unit)),(.pair (.v (.int .i64)) (.pair (.v (.int .i64)) .unit)),fun x=>zwh x.1 x.2.1⟩):=es_z (fun W x=>zyy W x.1 x.2.1) (cc zgz (cc ylr (cc ztz cn))) [] [] [] Tryz.func183
def zom(W:Wd)(l:List AUnit'):Option ((List AUnit')×Int×Unit):=W.call (zxs l) fun v1=>
 W.cnd v1 (some ([],(3,())))
 (
 W.loop (fun (z2:Int×List AUnit'×Unit) again3=>
  W.cnd (decide (z2.1<(l.length:Int))) (W.idx l z2.1 fun x4=>W.call (zwh 0 x4.2.1) fun v5=>
  W.cnd (v5.2.1 != 0) (some ([],v5.2))
   (W.room (z2.2.1.length+((x4.1,(v5.1,()))::[]).length) 16 ((again3 ((IntKind.i64.wrap (z2.1+1)),((z2.2.1++((x4.1,(v5.1,()))::[])),()))))))
  (some (z2.2.1,(0,()))))
  (0,([],())))
def yfq:=zom stdW
theorem vec_Neg_ok:ECok Tryz.prog 148 (.es ⟨(.pair (.slc tAUnit) .unit),(.pair (.own 52 tAUnit) (.pair (.v (.int .i64)) .unit)),fun x=>yfq x.1⟩):=es_z (fun W x=>zom W x.1) (cc zzr (cc yeo cn)) [] [] [(5,⟨[(4,.row 1),(13,.t (.int .i64))],[],[.dead,.own 52 tAUnit]⟩)] Tryz.func148
def zgf(W:Wd)(l:List AFlow')(u:AUnit'):Option (List Int):=
 W.loop (fun (z1:Int×List Int×Unit) again2=>
 W.cnd (decide (z1.1<(l.length:Int))) (
  W.join (fun (z3:List Int×Unit)=>(again2 ((IntKind.i64.wrap (z1.1+1)),z3)))
  fun k4=>W.idx l z1.1 fun x5=>
  W.cnd (Go.Vc.notIf false ((x5.1.1==u.1)&&(x5.1.2.1==u.2.1))) (W.room (z1.2.1.length+(x5.2.1::[]).length) 8 ((k4 ((z1.2.1++(x5.2.1::[])),()))))
   ((k4 z1.2)))
  (some z1.2.1))
 (0,([],()))
def zlp:=zgf stdW
theorem zxo:ECok Tryz.prog 362 (.es ⟨(.pair (.slc tAFlow) (.pair tAUnit .unit)),(.own 2 (.int .i64)),fun x=>zlp x.1 x.2.1⟩):=es_z (fun W x=>zgf W x.1 x.2.1) cn [] [(7,⟨[(5,.row 1)],[],[.dead,.own 2 (.int .i64)]⟩)] [(3,⟨[(5,.row 1),(10,.t (.int .i64))],[],[.dead,.own 2 (.int .i64)]⟩)] Tryz.func362
def zpj(W:Wd)(l:List AFlow')(flows:List AFlow'):Option ((List AFlow')×Int×Unit):=W.call (zpk l) fun v1=>
 W.cnd (!v1) (some ([],(3,())))
 (W.call (zwl (l::(flows::[]))) fun v2=>W.call (namedO v2) fun v3=>
 W.loop (fun (z4:Int×List AUnit'×List AFlow'×Unit) again5=>
  W.cnd (decide (z4.1<(v3.length:Int))) (
  W.join (fun (z6:List AUnit'×List AFlow'×Unit)=>(again5 ((IntKind.i64.wrap (z4.1+1)),z6)))
   fun k7=>W.idx z4.2.1 z4.1 fun _=>W.nth z4.2.1 (Int.toNat z4.1) fun x9=>W.call (zlp v2 x9) fun v10=>W.call (zwg v10) fun v11=>
   W.cnd (v11.2.1 != 0) (some ([],v11.2))
   (
   W.cnd (v11.1 != 0) (W.room (z4.2.2.1.length+((x9,(v11.1,()))::[]).length) 24 ((k7 (z4.2.1,((z4.2.2.1++((x9,(v11.1,()))::[])),())))))
    ((k7 z4.2))))
  (some (z4.2.2.1,(0,()))))
  (0,(v3,([],()))))
def znq:=zpj stdW
theorem yjr:ECok Tryz.prog 278 (.es ⟨(.pair (.slc tAFlow) (.pair (.slc tAFlow) .unit)),(.pair (.own 143 tAFlow) (.pair (.v (.int .i64)) .unit)),fun x=>znq x.1 x.2.1⟩):=es_z (fun W x=>zpj W x.1 x.2.1) (cc zra (cc concat_ok (cc named_ok (cc zxo (cc yen cn))))) [] [(13,⟨[(7,.row 5),(20,.row 2)],[],[.dead,.dead,.own 47 tAUnit,.dead,.dead,.own 143 tAFlow]⟩)] [(6,⟨[(7,.row 5),(20,.row 2),(22,.t (.int .i64))],[],[.dead,.dead,.own 47 tAUnit,.dead,.dead,.own 143 tAFlow]⟩)] Tryz.func278
def zlq(W:Wd)(l:List AFlow')(from_:AUnit')(to_:AUnit')(amount:Int):Option ((List AFlow')×Int×Unit):=W.call (zwh 0 amount) fun v1=>
 W.join (fun (z2:Bool×Unit)=>
 W.cnd z2.1 (some ([],v1.2))
  (W.call (znq l ((from_,(v1.1,()))::((to_,(amount,()))::[]))) fun v3=>some v3))
 fun k4=>
 W.cnd (v1.2.1 != 0) (W.call (zpk l) fun v5=>(k4 (v5,())))
  ((k4 (false,())))
def zhd:=zlq stdW
theorem ygs:ECok Tryz.prog 149 (.es ⟨(.pair (.slc tAFlow) (.pair tAUnit (.pair tAUnit (.pair (.int .i64) .unit)))),(.pair (.own 143 tAFlow) (.pair (.v (.int .i64)) .unit)),fun x=>zhd x.1 x.2.1 x.2.2.1 x.2.2.2.1⟩):=es_z (fun W x=>zlq W x.1 x.2.1 x.2.2.1 x.2.2.2.1) (cc yeo (cc zra (cc yjr cn))) [] [(500022,⟨[(22,.t .bool)],[],[]⟩)] [] Tryz.func149
def zqi(W:Wd)(s:zae)(u:AUnit')(to_:AUnit')(id:Int)(qty:Int)(price:Int):Option (zae×Int×Unit):=W.call (zwo s u to_ id qty price) fun v1=>
 W.cnd (v1 != 0) (some ((0,([],([],([],([],([],([],([],([],([],([],([],())))))))))))),(v1,())))
 (W.call (zoa s.2.2.1 id) fun v2=>W.call (ztw v2.1 qty price v2.1.2.2.1) fun v3=>
 W.cnd (v3.2.1 != 0) (some ((0,([],([],([],([],([],([],([],([],([],([],([],())))))))))))),v3.2))
  (W.call (yfq ((id,(qty,()))::[])) fun v4=>
  W.join (fun (z5:Int×zae)=>
  W.join (fun (z6:Int×zae)=>
   W.join (fun (z7:Int×zae)=>
   W.cnd (z7.1 != 0) (some ((0,([],([],([],([],([],([],([],([],([],([],([],())))))))))))),(z7.1,())))
    (some (z7.2,(0,()))))
   fun k8=>
   W.cnd (z6.1==0) (W.call (zhd z6.2.2.2.2.2.2.2.2.2.2.2.1 u to_ v3.1) fun v9=>(k8 (v9.2.1,(z6.2.1,(z6.2.2.1,(z6.2.2.2.1,(z6.2.2.2.2.1,(z6.2.2.2.2.2.1,(z6.2.2.2.2.2.2.1,(z6.2.2.2.2.2.2.2.1,(z6.2.2.2.2.2.2.2.2.1,(z6.2.2.2.2.2.2.2.2.2.1,(z6.2.2.2.2.2.2.2.2.2.2.1,(v9.1,z6.2.2.2.2.2.2.2.2.2.2.2.2))))))))))))))
    ((k8 z6)))
   fun k10=>
   W.cnd (z5.1==0) (W.call (zef z5.2.2.2.2.2.2.2.2.2.1 to_ ((id,(qty,()))::[])) fun v11=>(k10 (v11.2.1,(z5.2.1,(z5.2.2.1,(z5.2.2.2.1,(z5.2.2.2.2.1,(z5.2.2.2.2.2.1,(z5.2.2.2.2.2.2.1,(z5.2.2.2.2.2.2.2.1,(z5.2.2.2.2.2.2.2.2.1,(v11.1,z5.2.2.2.2.2.2.2.2.2.2))))))))))))
   ((k10 z5)))
  fun k12=>
  W.cnd (v4.2.1==0) (W.call (zef s.2.2.2.2.2.2.2.2.2.1 u v4.1) fun v13=>(k12 (v13.2.1,(s.1,(s.2.1,(s.2.2.1,(s.2.2.2.1,(s.2.2.2.2.1,(s.2.2.2.2.2.1,(s.2.2.2.2.2.2.1,(s.2.2.2.2.2.2.2.1,(s.2.2.2.2.2.2.2.2.1,(v13.1,s.2.2.2.2.2.2.2.2.2.2)))))))))))))
   ((k12 (v4.2.1,s)))))
def zke:=zqi stdW
theorem zoh:ECok Tryz.prog 34 (.es ⟨(.pair tAState (.pair tAUnit (.pair tAUnit (.pair (.int .i64) (.pair (.int .i64) (.pair (.int .i64) .unit)))))),(.pair (.v tAState) (.pair (.v (.int .i64)) .unit)),fun x=>zke x.1 x.2.1 x.2.2.1 x.2.2.2.1 x.2.2.2.2.1 x.2.2.2.2.2.1⟩):=es_z (fun W x=>zqi W x.1 x.2.1 x.2.2.1 x.2.2.2.1 x.2.2.2.2.1 x.2.2.2.2.2.1) (cc yie (cc zxe (cc ykq (cc vec_Neg_ok (cc zui (cc ygs cn)))))) [] [(12,⟨[(18,.t (.int .i64))],[(0,[.t (.int .i64),.t (.slc tAMember),.t (.slc tAInst),.t (.slc tAAsset),.t (.slc tAAccount),.t (.slc tAChoice),.t (.slc tAGroup),.t (.slc tAGive),.t (.slc tAPos),.t (.slc tAPos),.t (.slc tAFlow),.t (.slc tAHold)])],[]⟩),(14,⟨[(18,.t (.int .i64))],[(0,[.t (.int .i64),.t (.slc tAMember),.t (.slc tAInst),.t (.slc tAAsset),.t (.slc tAAccount),.t (.slc tAChoice),.t (.slc tAGroup),.t (.slc tAGive),.t (.slc tAPos),.t (.slc tAPos),.t (.slc tAFlow),.t (.slc tAHold)])],[]⟩),(16,⟨[(18,.t (.int .i64))],[(0,[.t (.int .i64),.t (.slc tAMember),.t (.slc tAInst),.t (.slc tAAsset),.t (.slc tAAccount),.t (.slc tAChoice),.t (.slc tAGroup),.t (.slc tAGive),.t (.slc tAPos),.t (.slc tAPos),.t (.slc tAFlow),.t (.slc tAHold)])],[]⟩)] [] Tryz.func34
def zot(W:Wd)(l:List AFlow')(u:AUnit'):Option Int:=
 W.loop (fun (z1:Int×Unit) again2=>
 W.cnd (decide (z1.1<(l.length:Int))) (W.idx l z1.1 fun x3=>
  W.cnd (Go.Vc.notIf false ((x3.1.1==u.1)&&(x3.1.2.1==u.2.1))) (W.idx l z1.1 fun x4=>some x4.2.1)
  ((again2 ((IntKind.i64.wrap (z1.1+1)),()))))
  (some 0))
 (0,())
def zfo:=zot stdW
theorem zwu:ECok Tryz.prog 39 (.es ⟨(.pair (.slc tAFlow) (.pair tAUnit .unit)),(.v (.int .i64)),fun x=>zfo x.1 x.2.1⟩):=es_z (fun W x=>zot W x.1 x.2.1) cn [(4,[],(oN [1,3,5,7,9,11,13]))] [] [(2,⟨[(5,.t (.int .i64))],[],[]⟩)] Tryz.func39
def zim(W:Wd):Option Bool:=W.call (zkd (0,(((2,(0,(0,(0,()))))::[]),(((1,(10,(7,(0,([],())))))::[]),([],(((1,(1,(2,((2::[]),()))))::((2,(2,(1,([],()))))::[])),([],([],([],((((1,(2,())),(((1,(5,()))::[]),()))::[]),([],([],([],())))))))))))) 1) fun v1=>W.call (zke v1.1 (1,(2,())) (2,(0,())) 1 3 5) fun v2=>
 W.cnd (v1.2.1==0) (
 W.cnd (v2.2.1==0) (W.call (zuo v2.1 1) fun v3=>
  W.cnd ((v3.length:Int)==1) (W.idx v2.1.2.2.2.2.2.2.2.2.2.1 0 fun x4=>W.idx x4.2.1 0 fun x5=>
  W.cnd (x5.2.1==2) (W.call (zfo v2.1.2.2.2.2.2.2.2.2.2.2.1 (2,(0,()))) fun v6=>some (v6==60))
   (some false))
  (some false))
  (some false))
 (some false)
def zds:=zim stdW
theorem zqr:ECok Tryz.prog 33 (.es ⟨.unit,(.v .bool),fun _=>zds ⟩):=es_z (fun W x=>zim W ) (cc zun (cc zoh (cc yll (cc zwu cn)))) [] [] [] Tryz.func33
def zso(W:Wd)(l:List AFlow'):Option Bool:=
 W.loop (fun (z1:Int×Unit) again2=>
 W.cnd (decide (z1.1<(l.length:Int))) (
  W.join (fun (z3:Bool×Unit)=>
  W.cnd z3.1 (some false)
   ((again2 ((IntKind.i64.wrap (z1.1+1)),()))))
  fun k4=>W.idx l z1.1 fun x5=>
  W.cnd (x5.2.1==0) ((k4 (true,())))
   (
   W.cnd (decide (0<z1.1)) (W.idx l (IntKind.i64.wrap (z1.1 - 1)) fun x6=>W.idx l z1.1 fun x7=>W.call (zfa x6.1 x7.1) fun v8=>(k4 ((!v8),())))
   ((k4 (false,())))))
  (some true))
 (0,())
def zsp:=zso stdW
theorem yaj:ECok Tryz.prog 111 (.es ⟨(.pair (.slc tAFlow) .unit),(.v .bool),fun x=>zsp x.1⟩):=es_z (fun W x=>zso W x.1) (cc zgv cn) [(4,[],(oN [1,3,5,7,9,11,13,15,17,19,21,23,25,27,29,31,33,35,37,39,41,42,45,47,49]))] [(500034,⟨[(34,.t .bool)],[],[]⟩)] [(2,⟨[(3,.t (.int .i64))],[],[]⟩)] Tryz.func111
def zpe(W:Wd)(a:zac)(b:zac):Option zac:=W.room a.2.1.length 1 (
 W.loop (fun (z1:List Int×List Int×Int×Unit) again2=>
 W.cnd (decide (z1.2.2.1<(b.2.1.length:Int))) (
  W.join (fun (z3:List Int×Unit)=>W.room (0::[]).length 1 (W.room ((0::[]).length+z1.2.1.length) 1 ((again2 (z3.1,(((0::[])++z1.2.1),((IntKind.i64.wrap (z1.2.2.1+1)),())))))))
  fun k4=>W.idx b.2.1 z1.2.2.1 fun x5=>
  W.cnd (x5==1) (W.call (zfc z1.1 z1.2.1) fun v6=>(k4 (v6,())))
   ((k4 (z1.1,()))))
  (W.call (zfb (Go.Vc.notIf true (a.1==b.1)) z1.1) fun v7=>some v7))
 ([],(a.2.1,(0,()))))
def zho:=zpe stdW
theorem yjl:ECok Tryz.prog 279 (.es ⟨(.pair tNovationref01Big (.pair tNovationref01Big .unit)),(.v tNovationref01Big),fun x=>zho x.1 x.2.1⟩):=es_z (fun W x=>zpe W x.1 x.2.1) (cc zli (cc zlh cn)) [] [(8,⟨[(5,.t (.slc (.int .u8)))],[],[]⟩)] [(4,⟨[(5,.t (.slc (.int .u8))),(6,.t (.slc (.int .u8))),(7,.t (.int .i64))],[],[]⟩)] Tryz.func279
def zpd(W:Wd)(a:zac):Option zac:=W.call (zfb (!a.1) a.2.1) fun v1=>some v1
def zjn:=zpd stdW
theorem zwx:ECok Tryz.prog 157 (.es ⟨(.pair tNovationref01Big .unit),(.v tNovationref01Big),fun x=>zjn x.1⟩):=es_z (fun W x=>zpd W x.1) (cc zlh cn) [] [] [] Tryz.func157
def zpc(W:Wd)(a:zac)(b:zac):Option zac:=W.call (zjn b) fun v1=>W.call (zbs a v1) fun v2=>some v2
def zjm:=zpc stdW
theorem zww:ECok Tryz.prog 71 (.es ⟨(.pair tNovationref01Big (.pair tNovationref01Big .unit)),(.v tNovationref01Big),fun x=>zjm x.1 x.2.1⟩):=es_z (fun W x=>zpc W x.1 x.2.1) (cc zwx (cc zea cn)) [(1,[2],(oN [1,3,4,6,8]))] [] [] Tryz.func71
def zle(W:Wd)(i:AInst')(qty:Int)(from_:Int)(to_:Int):Option zac:=W.call (zdc qty) fun v1=>W.call (zdc i.2.1) fun v2=>W.call (zho v1 v2) fun v3=>W.call (zdc to_) fun v4=>W.call (zdc from_) fun v5=>W.call (zjm v4 v5) fun v6=>W.call (zho v3 v6) fun v7=>some v7
def zoy:=zle stdW
theorem ygk:ECok Tryz.prog 155 (.es ⟨(.pair tAInst (.pair (.int .i64) (.pair (.int .i64) (.pair (.int .i64) .unit)))),(.v tNovationref01Big),fun x=>zoy x.1 x.2.1 x.2.2.1 x.2.2.2.1⟩):=es_z (fun W x=>zle W x.1 x.2.1 x.2.2.1 x.2.2.2.1) (cc zhm (cc yjl (cc zww cn))) [(1,[1],(oN [1,5,7,13,17,2,8,10,14,18,20,22,24]))] [] [] Tryz.func155
def zia(W:Wd)(l:List AFlow'):Option (List AUnit'):=
 W.loop (fun (z1:List AUnit'×Int×Unit) again2=>
 W.cnd (decide (z1.2.1<(l.length:Int))) (
  W.join (fun (z3:List AUnit'×Unit)=>(again2 (z3.1,((IntKind.i64.wrap (z1.2.1+1)),()))))
  fun k4=>W.idx l z1.2.1 fun x5=>
  W.loop (fun (z6:Int×Bool×Int×Unit) again7=>
   W.cnd (decide (z6.2.2.1<(z1.1.length:Int))) (
   W.join (fun (z8:Int×Bool×Unit)=>(again7 (z8.1,(z8.2.1,((IntKind.i64.wrap (z6.2.2.1+1)),())))))
    fun k9=>
    W.join (fun (z10:Bool×Unit)=>W.idx z1.1 z6.2.2.1 fun x11=>W.call (zfa x11 x5.1) fun v12=>
    W.cnd v12 ((k9 ((IntKind.i64.wrap (z6.2.2.1+1)),z10)))
     ((k9 (z6.1,z10))))
    fun k13=>
    W.cnd z6.2.1 ((k13 (true,())))
     (W.idx z1.1 z6.2.2.1 fun x14=>(k13 ((Go.Vc.notIf false ((x14.1==x5.1.1)&&(x14.2.1==x5.1.2.1))),()))))
   (
   W.cnd (!z6.2.1) (W.bnd z6.1 z1.1.length fun h15=>W.room (z1.1.take h15).length 16 (W.room ((z1.1.take h15).length+(x5.1::[]).length) 16 (W.bnd z6.1 z1.1.length fun h16=>W.room (((z1.1.take h15)++(x5.1::[])).length+((z1.1.take z1.1.length).drop h16).length) 16 ((k4 ((((z1.1.take h15)++(x5.1::[]))++((z1.1.take z1.1.length).drop h16)),()))))))
    ((k4 (z1.1,())))))
   (0,(false,(0,()))))
  (some z1.1))
 ([],(0,()))
def zqx:=zia stdW
theorem ycu:ECok Tryz.prog 281 (.es ⟨(.pair (.slc tAFlow) .unit),(.v (.slc tAUnit)),fun x=>zqx x.1⟩):=es_z (fun W x=>zia W x.1) (cc zgv cn) [(11,[],(oN [1,3,5,7,9,11,13,15,17,19])),(12,[],(oN [1,3,5,7,9,10]))] [(4,⟨[(3,.t (.slc tAUnit))],[],[]⟩),(10,⟨[(6,.t (.int .i64)),(7,.t .bool)],[],[]⟩),(12,⟨[(7,.t .bool)],[],[]⟩)] [(3,⟨[(3,.t (.slc tAUnit)),(4,.t (.int .i64))],[],[]⟩),(9,⟨[(6,.t (.int .i64)),(7,.t .bool),(8,.t (.int .i64))],[],[]⟩)] Tryz.func281
def zos(W:Wd)(l:List AFlow')(flows:List AFlow'):Option ((List AFlow')×Int×Unit):=W.call (zsp l) fun v1=>
 W.cnd (!v1) (some ([],(3,())))
 (W.room l.length 24 (W.room (l.length+flows.length) 24 (W.call (zqx (l++flows)) fun v2=>
 W.loop (fun (z3:Int×List AFlow'×Unit) again4=>
  W.cnd (decide (z3.1<(v2.length:Int))) (
  W.join (fun (z5:List AFlow'×Unit)=>(again4 ((IntKind.i64.wrap (z3.1+1)),z5)))
   fun k6=>
   W.loop (fun (z7:Int×Bool×List Int×List AFlow'×Unit) again8=>
   W.cnd (decide (z7.1<((l++flows).length:Int))) (
    W.join (fun (z9:Bool×List Int×List AFlow'×Unit)=>(again8 ((IntKind.i64.wrap (z7.1+1)),z9)))
    fun k10=>W.idx (l++flows) z7.1 fun x11=>W.idx v2 z3.1 fun x12=>
    W.cnd (Go.Vc.notIf false ((x11.1.1==x12.1)&&(x11.1.2.1==x12.2.1))) (W.idx (l++flows) z7.1 fun x13=>W.both (W.call (zdc x13.2.1) fun v14=>W.call (zbs (z7.2.1,(z7.2.2.1,())) v14) fun v15=>(k10 (v15.1,(v15.2.1,z7.2.2.2)))) (W.call (zdc x13.2.1) fun v16=>W.call (zbs (z7.2.1,(z7.2.2.1,())) v16) fun v17=>(k10 (v17.1,(v17.2.1,z7.2.2.2)))))
     ((k10 z7.2)))
    (W.call (zfd (z7.2.1,(z7.2.2.1,()))) fun v18=>
    W.cnd (!v18) (some ([],(7,())))
    (W.call (zfq (z7.2.1,(z7.2.2.1,()))) fun v19=>
    W.cnd (v19 != 0) (W.idx v2 z3.1 fun x20=>W.call (zfq (z7.2.1,(z7.2.2.1,()))) fun v21=>W.room (z7.2.2.2.1.length+((x20,(v21,()))::[]).length) 24 ((k6 ((z7.2.2.2.1++((x20,(v21,()))::[])),()))))
     ((k6 z7.2.2.2)))))
   (0,(false,([],z3.2))))
  (some (z3.2.1,(0,()))))
  (0,([],())))))
def zsn:=zos stdW
theorem yjf:ECok Tryz.prog 158 (.es ⟨(.pair (.slc tAFlow) (.pair (.slc tAFlow) .unit)),(.pair (.own 143 tAFlow) (.pair (.v (.int .i64)) .unit)),fun x=>zsn x.1 x.2.1⟩):=es_z (fun W x=>zos W x.1 x.2.1) (cc yaj (cc ycu (cc zhm (cc zea (cc zll (cc znn cn)))))) [(14,[],(oN [1,3,5,7,9,11,13,15,17,19])),(15,[0],(.rd 1 (.rd 2 (.rd 3 (.rd 4 (.rd 5 (.two 0 6 (oN [12,14,16]) (oN [0,14,16])))))))),(19,[],(oN [1,3,5,7,9,11,12,15,16,18,21]))] [(9,⟨[(7,.row 1)],[],[.dead,.own 143 tAFlow]⟩),(13,⟨[(7,.row 1)],[(0,[.t .bool,.t (.slc (.int .u8))])],[.dead,.own 143 tAFlow]⟩)] [(8,⟨[(7,.row 1),(9,.t (.int .i64))],[],[.dead,.own 143 tAFlow]⟩),(12,⟨[(7,.row 1),(11,.t (.int .i64))],[(0,[.t .bool,.t (.slc (.int .u8))])],[.dead,.own 143 tAFlow]⟩)] Tryz.func158
def zkt(W:Wd)(s:zae)(u:AUnit')(to_:AUnit')(id:Int)(qty:Int)(price:Int):Option (zae×Int×Unit):=
 W.join (fun (z1:Bool×Unit)=>
 W.cnd z1.1 (some ((0,([],([],([],([],([],([],([],([],([],([],([],())))))))))))),(3,())))
  (W.call (zoz s.2.2.1 id) fun v2=>
  W.cnd (!v2.2.1) (some ((0,([],([],([],([],([],([],([],([],([],([],([],())))))))))))),(11,())))
  (
  W.join (fun (z3:Bool×Unit)=>
   W.cnd z3.1 (some ((0,([],([],([],([],([],([],([],([],([],([],([],())))))))))))),(2,())))
   (W.call (zee s.2.2.2.2.2.2.2.2.2.1 u) fun v4=>W.call (zfp v4 id) fun v5=>
   W.join (fun (z6:Bool×Unit)=>
    W.cnd z6.1 (some ((0,([],([],([],([],([],([],([],([],([],([],([],())))))))))))),(23,())))
    (W.call (zjk s.2.2.2.2.1 to_.1) fun v7=>
    W.join (fun (z8:Bool×Unit)=>
     W.cnd z8.1 (some ((0,([],([],([],([],([],([],([],([],([],([],([],())))))))))))),(11,())))
     (
     W.cnd (v7.1.2.2.1 != 1) (some ((0,([],([],([],([],([],([],([],([],([],([],([],())))))))))))),(17,())))
      (W.call (zjl s.2.1 v7.1.2.1) fun v9=>
      W.join (fun (z10:Bool×Unit)=>
      W.cnd z10.1 (some ((0,([],([],([],([],([],([],([],([],([],([],([],())))))))))))),(15,())))
       (W.call (zoy v2.1 qty price v2.1.2.2.1) fun v11=>
       W.join (fun (z12:Bool×Unit)=>
       W.cnd z12.1 (some ((0,([],([],([],([],([],([],([],([],([],([],([],())))))))))))),(7,())))
        (W.call (zfx s.2.2.2.2.2.2.2.2.2.1 u ((id,((IntKind.i64.wrap (0 - qty)),()))::[])) fun v13=>
        W.cnd (v13.2.1 != 0) (some ((0,([],([],([],([],([],([],([],([],([],([],([],())))))))))))),v13.2))
        (W.call (zfx s.2.2.2.2.2.2.2.2.1 to_ ((id,(qty,()))::[])) fun v14=>
        W.cnd (v14.2.1 != 0) (some ((0,([],([],([],([],([],([],([],([],([],([],([],())))))))))))),v14.2))
         (W.call (zjn v11) fun v15=>W.call (zfd v15) fun v16=>
         W.cnd (!v16) (some ((0,([],([],([],([],([],([],([],([],([],([],([],())))))))))))),(7,())))
         (W.call (zjn v11) fun v17=>W.call (zfq v17) fun v18=>W.call (zfq v11) fun v19=>W.call (zsn s.2.2.2.2.2.2.2.2.2.2.1 ((u,(v18,()))::((to_,(v19,()))::[]))) fun v20=>
         W.cnd (v20.2.1 != 0) (some ((0,([],([],([],([],([],([],([],([],([],([],([],())))))))))))),v20.2))
          (some ((s.1,(s.2.1,(s.2.2.1,(s.2.2.2.1,(s.2.2.2.2.1,(s.2.2.2.2.2.1,(s.2.2.2.2.2.2.1,(s.2.2.2.2.2.2.2.1,(v14.1,(v13.1,(v20.1,s.2.2.2.2.2.2.2.2.2.2.2))))))))))),(0,()))))))))
       fun k21=>W.call (zfd v11) fun v22=>
       W.cnd (!v22) ((k21 (true,())))
        ((k21 ((qty==(-9223372036854775808)),())))))
      fun k23=>
      W.cnd (!v9.2.1) ((k23 (true,())))
       ((k23 ((v9.1.2.2.1 != 0),()))))))
     fun k24=>
     W.cnd (!v7.2.1) ((k24 (true,())))
     (W.call (zss v7.1 to_) fun v25=>(k24 ((!v25),())))))
    fun k26=>
    W.cnd (decide (0<qty)) (
    W.cnd (decide (v5<qty)) ((k26 (true,())))
     (
     W.cnd (decide (qty<0)) ((k26 ((decide (qty<v5)),())))
     ((k26 (false,())))))
    (
    W.cnd (decide (qty<0)) ((k26 ((decide (qty<v5)),())))
     ((k26 (false,()))))))
   fun k27=>
   W.cnd (qty==0) ((k27 (true,())))
   (
   W.cnd (decide (price<0)) ((k27 (true,())))
    ((k27 ((decide (2147483647<price)),())))))))
 fun k28=>W.call (zkw s.2.2.2.2.2.2.2.2.1) fun v29=>
 W.cnd (!v29) ((k28 (true,())))
  (W.call (zkw s.2.2.2.2.2.2.2.2.2.1) fun v30=>
  W.cnd (!v30) ((k28 (true,())))
  (W.call (zsp s.2.2.2.2.2.2.2.2.2.2.1) fun v31=>(k28 ((!v31),()))))
def zvk:=zkt stdW
theorem yge:ECok Tryz.prog 35 (.es ⟨(.pair tAState (.pair tAUnit (.pair tAUnit (.pair (.int .i64) (.pair (.int .i64) (.pair (.int .i64) .unit)))))),(.pair (.v tAState) (.pair (.v (.int .i64)) .unit)),fun x=>zvk x.1 x.2.1 x.2.2.1 x.2.2.2.1 x.2.2.2.2.1 x.2.2.2.2.2.1⟩):=es_z (fun W x=>zkt W x.1 x.2.1 x.2.2.1 x.2.2.2.1 x.2.2.2.2.1 x.2.2.2.2.2.1) (cc yai (cc yaj (cc zta (cc zqw (cc znk (cc zst (cc yjh (cc zsw (cc ygk (cc zll (cc yct (cc zwx (cc znn (cc yjf cn)))))))))))))) [(30,[],(oN [1,3,5,7,15,17,8,10,13,18,21,22,24,27,29,31,33,35]))] [(500043,⟨[(43,.t .bool)],[],[]⟩),(500064,⟨[(64,.t .bool)],[],[]⟩),(500087,⟨[(87,.t .bool)],[],[]⟩),(500104,⟨[(104,.t .bool)],[],[]⟩),(500124,⟨[(124,.t .bool)],[],[]⟩),(500138,⟨[(138,.t .bool)],[],[]⟩)] [] Tryz.func35
def zeq(W:Wd)(s:zae)(u:AUnit')(to_:AUnit')(id:Int)(qty:Int)(price:Int):Option Bool:=W.call (znv s) fun v1=>W.call (zke v1 u to_ id qty price) fun v2=>W.call (zvk v1 u to_ id qty price) fun v3=>W.call (zjj v2.1 v3.1) fun v4=>
 W.cnd v4 (
 W.cnd (v2.2.1==v3.2.1) (W.call (zds) fun v5=>some v5)
  (some false))
 (some false)
def znx:=zeq stdW
theorem ztq:ECok Tryz.prog 7 (.es ⟨(.pair tAState (.pair tAUnit (.pair tAUnit (.pair (.int .i64) (.pair (.int .i64) (.pair (.int .i64) .unit)))))),(.v .bool),fun x=>znx x.1 x.2.1 x.2.2.1 x.2.2.2.1 x.2.2.2.2.1 x.2.2.2.2.2.1⟩):=es_z (fun W x=>zeq W x.1 x.2.1 x.2.2.1 x.2.2.2.1 x.2.2.2.2.1 x.2.2.2.2.2.1) (cc zxd (cc zoh (cc yge (cc ygd (cc zqr cn))))) [] [] [] Tryz.func7
def zkv(W:Wd)(l:List APos')(inst:Int):Option zac:=
 W.loop (fun (z1:Int×zac) again2=>
 W.cnd (decide (z1.1<(l.length:Int))) (
  W.join (fun (z3:zac)=>(again2 ((IntKind.i64.wrap (z1.1+1)),z3)))
  fun k4=>W.idx l z1.1 fun x5=>W.both (W.call (zfp x5.2.1 inst) fun v6=>W.call (zdc v6) fun v7=>W.call (zbs z1.2 v7) fun v8=>(k4 v8)) (W.call (zfp x5.2.1 inst) fun v9=>W.both (W.call (zdc v9) fun v10=>W.call (zbs z1.2 v10) fun v11=>(k4 v11)) (W.call (zdc v9) fun v12=>W.call (zbs z1.2 v12) fun v13=>(k4 v13))))
  (some z1.2))
 (0,(false,([],())))
def zhc:=zkv stdW
theorem ygg:ECok Tryz.prog 160 (.es ⟨(.pair (.slc tAPos) (.pair (.int .i64) .unit)),(.v tNovationref01Big),fun x=>zhc x.1 x.2.1⟩):=es_z (fun W x=>zkv W x.1 x.2.1) (cc znk (cc zhm (cc zea cn))) [(5,[1],(.rd 1 (.rd 2 (.rd 3 (.rd 4 (.rd 5 (.rd 6 (.two 0 7 (oN [14,16,18,20]) (.two 0 8 (oN [16,18,20]) (oN [0,18,20]))))))))))] [(4,⟨[],[(1,[.t .bool,.t (.slc (.int .u8))])],[]⟩)] [(3,⟨[(6,.t (.int .i64))],[(1,[.t .bool,.t (.slc (.int .u8))])],[]⟩)] Tryz.func160
def zlx(W:Wd)(s:zae)(inst:Int):Option zac:=W.call (zhc s.2.2.2.2.2.2.2.2.1 inst) fun v1=>W.call (zhc s.2.2.2.2.2.2.2.2.2.1 inst) fun v2=>W.call (zbs v1 v2) fun v3=>some v3
def zbe:=zlx stdW
theorem yhi:ECok Tryz.prog 37 (.es ⟨(.pair tAState (.pair (.int .i64) .unit)),(.v tNovationref01Big),fun x=>zbe x.1 x.2.1⟩):=es_z (fun W x=>zlx W x.1 x.2.1) (cc ygg (cc zea cn)) [(1,[1],(oN [1,3,5,9,11,13,6,14,16,18]))] [] [] Tryz.func37
def zpg(W:Wd)(a:zac)(b:zac):Option Int:=W.call (zjm a b) fun v1=>
 W.cnd ((v1.2.1.length:Int)==0) (some 0)
 (
 W.cnd v1.1 (some (-1))
  (some 1))
def zbw:=zpg stdW
theorem yjm:ECok Tryz.prog 36 (.es ⟨(.pair tNovationref01Big (.pair tNovationref01Big .unit)),(.v (.int .i64)),fun x=>zbw x.1 x.2.1⟩):=es_z (fun W x=>zpg W x.1 x.2.1) (cc zww cn) [] [] [] Tryz.func36
def zib(W:Wd)(l:List AFlow'):Option zac:=
 W.loop (fun (z1:Int×zac) again2=>
 W.cnd (decide (z1.1<(l.length:Int))) (
  W.join (fun (z3:zac)=>(again2 ((IntKind.i64.wrap (z1.1+1)),z3)))
  fun k4=>W.idx l z1.1 fun x5=>W.both (W.call (zdc x5.2.1) fun v6=>W.call (zbs z1.2 v6) fun v7=>(k4 v7)) (W.call (zdc x5.2.1) fun v8=>W.call (zbs z1.2 v8) fun v9=>(k4 v9)))
  (some z1.2))
 (0,(false,([],())))
def zcc:=zib stdW
theorem ycv:ECok Tryz.prog 38 (.es ⟨(.pair (.slc tAFlow) .unit),(.v tNovationref01Big),fun x=>zcc x.1⟩):=es_z (fun W x=>zib W x.1) (cc zhm (cc zea cn)) [(5,[1],(.rd 1 (.rd 2 (.rd 3 (.rd 4 (.rd 5 (.two 0 6 (oN [12,14,16]) (oN [0,14,16]))))))))] [(4,⟨[],[(1,[.t .bool,.t (.slc (.int .u8))])],[]⟩)] [(3,⟨[(4,.t (.int .i64))],[(1,[.t .bool,.t (.slc (.int .u8))])],[]⟩)] Tryz.func38
def zep(W:Wd)(s:zae)(u:AUnit')(to_:AUnit')(other:AUnit')(id:Int)(qty:Int)(price:Int):Option Bool:=W.call (znv s) fun v1=>W.call (zkd v1 id) fun v2=>W.call (zke v1 u to_ id qty price) fun v3=>
 W.loop (fun (z4:Int×Unit) again5=>
 W.cnd (decide (z4.1≤8)) (
  W.join (fun (z6:Bool×Unit)=>
  W.cnd z6.1 (some false)
   ((again5 ((IntKind.i64.wrap (z4.1+1)),()))))
  fun k7=>
  W.cnd (v2.2.1==0) (W.call (zbe v2.1 z4.1) fun v8=>W.call (zbe v1 z4.1) fun v9=>W.call (zbw v8 v9) fun v10=>
   W.cnd (v10 != 0) (W.both (W.both ((k7 (true,()))) ((k7 (true,())))) ((k7 (true,()))))
   (
   W.cnd (v3.2.1==0) (W.both (W.both (W.call (zbe v3.1 z4.1) fun v11=>W.call (zbe v1 z4.1) fun v12=>W.call (zbw v11 v12) fun v13=>(k7 ((v13 != 0),()))) (W.call (zbe v3.1 z4.1) fun v14=>W.call (zbe v1 z4.1) fun v15=>W.call (zbw v14 v15) fun v16=>(k7 ((v16 != 0),())))) (W.call (zbe v3.1 z4.1) fun v17=>W.call (zbe v1 z4.1) fun v18=>W.call (zbw v17 v18) fun v19=>(k7 ((v19 != 0),()))))
    (W.both (W.both ((k7 (false,()))) ((k7 (false,())))) ((k7 (false,()))))))
   (
   W.cnd (v3.2.1==0) (W.both (W.both (W.call (zbe v3.1 z4.1) fun v20=>W.call (zbe v1 z4.1) fun v21=>W.call (zbw v20 v21) fun v22=>(k7 ((v22 != 0),()))) (W.call (zbe v3.1 z4.1) fun v23=>W.call (zbe v1 z4.1) fun v24=>W.call (zbw v23 v24) fun v25=>(k7 ((v25 != 0),())))) (W.call (zbe v3.1 z4.1) fun v26=>W.call (zbe v1 z4.1) fun v27=>W.call (zbw v26 v27) fun v28=>(k7 ((v28 != 0),()))))
   (W.both (W.both ((k7 (false,()))) ((k7 (false,())))) ((k7 (false,()))))))
  (
  W.join (fun (z29:Bool×Unit)=>
  W.cnd z29.1 (some false)
   (
   W.join (fun (z30:Bool×Unit)=>
   W.cnd z30.1 (W.call (zds) fun v31=>some v31)
    (
    W.join (fun (z32:Bool×Unit)=>
    W.cnd z32.1 (W.call (zcc v3.1.2.2.2.2.2.2.2.2.2.2.1) fun v33=>W.call (zcc v1.2.2.2.2.2.2.2.2.2.2.1) fun v34=>W.call (zbw v33 v34) fun v35=>
     W.cnd (v35==0) (W.call (zds) fun v36=>some v36)
     (some false))
     (some false))
    fun k37=>W.call (zfo v3.1.2.2.2.2.2.2.2.2.2.2.1 other) fun v38=>W.call (zfo v1.2.2.2.2.2.2.2.2.2.2.1 other) fun v39=>
    W.cnd (v38==v39) (W.call (zee v3.1.2.2.2.2.2.2.2.2.1 other) fun v40=>W.call (zee v1.2.2.2.2.2.2.2.2.1 other) fun v41=>
     W.cnd ((v40.length:Int)==(v41.length:Int)) (W.call (zee v3.1.2.2.2.2.2.2.2.2.2.1 other) fun v42=>W.call (zee v1.2.2.2.2.2.2.2.2.2.1 other) fun v43=>(k37 (((v42.length:Int)==(v43.length:Int)),())))
     ((k37 (false,()))))
     ((k37 (false,())))))
   fun k44=>
   W.cnd (v3.2.1 != 0) ((k44 (true,())))
    (
    W.cnd (Go.Vc.notIf false ((other.1==u.1)&&(other.2.1==u.2.1))) ((k44 (true,())))
    ((k44 ((Go.Vc.notIf false ((other.1==to_.1)&&(other.2.1==to_.2.1))),()))))))
  fun k45=>
  W.cnd (v2.2.1==0) (W.call (zcc v2.1.2.2.2.2.2.2.2.2.2.2.1) fun v46=>W.call (zcc v1.2.2.2.2.2.2.2.2.2.2.1) fun v47=>W.call (zbw v46 v47) fun v48=>(k45 ((v48 != 0),())))
   ((k45 (false,())))))
 (1,())
def znw:=zep stdW
theorem ztp:ECok Tryz.prog 8 (.es ⟨(.pair tAState (.pair tAUnit (.pair tAUnit (.pair tAUnit (.pair (.int .i64) (.pair (.int .i64) (.pair (.int .i64) .unit))))))),(.v .bool),fun x=>znw x.1 x.2.1 x.2.2.1 x.2.2.2.1 x.2.2.2.2.1 x.2.2.2.2.2.1 x.2.2.2.2.2.2.1⟩):=es_z (fun W x=>zep W x.1 x.2.1 x.2.2.1 x.2.2.2.1 x.2.2.2.2.1 x.2.2.2.2.2.1 x.2.2.2.2.2.2.1) (cc zxd (cc zun (cc zoh (cc yhi (cc yjm (cc ycv (cc zqr (cc zwu (cc zqw cn))))))))) [(7,[],(.rd 0 (.rd 1 (.rd 2 (.rd 3 (.rd 4 (.rd 6 (.rd 7 (.op 5 (.op 8 (.op 9 (.rd 10 (.rd 11 (.rd 12 (.rd 13 (.rd 14 (.rd 15 (.rd 17 (.rd 20 (.two 16 19 (.two 18 19 (oN [38,42,44,47,49,51]) (oN [36,42,44,47,49,51])) (oN [32,36,42,44,47,49,51]))))))))))))))))))))),(9,[],(oN [1,3,5,7,9,13,15,10,16,18,21,23])),(13,[],(oN [1,3,5,9,11,13,6,14,17,19,21,23,25,31,33,35,26,29,36,39,41,43,45,47,49,51,57,59,61,52,55,62,65,67,69,71])),(14,[],(oN [1,3,5,7,11,13,8,14,16,19,21,23,24,27,29]))] [(14,⟨[(20,.t .bool)],[],[]⟩),(500068,⟨[(68,.t .bool)],[],[]⟩),(500080,⟨[(80,.t .bool)],[],[]⟩),(500092,⟨[(92,.t .bool)],[],[]⟩)] [(5,⟨[(19,.t (.int .i64))],[],[]⟩)] Tryz.func8
end
end Go.Proofs.YtllkmncnmlmefaaGreat

namespace Go.Proofs.YtllkmncnmlmefaaGreat
open Go Go.Vc Go.RowKit
theorem r_nat(u:Nat)(hu:u<18446744073709551616):zhn (u:Int)=some (bigS false u):=nat_is u hu
theorem r_plus{xs ys:List Int}(hx:Nrm xs)(hy:Nrm ys)(lx:xs.length≤1000)(ly:ys.length≤1000):zfc xs ys=some (bitsOf (valB xs+valB ys)):=plus_is hx hy lx ly
theorem r_less{xs ys:List Int}(hx:Nrm xs)(hy:Nrm ys)(lx:xs.length≤1000)(ly:ys.length≤1000):zvm xs ys=some (decide (valB xs<valB ys)):=less_is hx hy lx ly
theorem r_minus{xs ys:List Int}(hx:Nrm xs)(hy:Nrm ys)(lx:xs.length≤1000)(hle:valB ys≤valB xs):zlk xs ys=some (bitsK xs.length (valB xs - valB ys)):=minus_is hx hy lx hle
theorem r_trim{g:Bool}{xs:List Int}(h:bitL xs)(lx:xs.length≤1000):zfb g xs=some (bigS g (valB xs)):=trim_is h lx
theorem yci{n k K:Nat}(h:n<2 ^ k)(hk:k≤K):(bitsOf n).length≤K:=Nat.le_trans (zuj k n h) hk
theorem pw{a b k:Nat}(ha:a<2 ^ k)(hb:b<2 ^ k):a+b<2 ^ (k+1):=by rw[Nat.pow_succ]; omega
theorem zaa{α β:Type}{o:Option α}{a:α}(h:o=some a)(K:α→Option β):stdW.call o K=K a:=by subst h; rfl
theorem yfs{xs:List Int}(h:Nrm xs){k:Nat}(hl:xs.length≤k):valB xs<2 ^ k:=Nat.lt_of_lt_of_le (zvc xs h.bits) (Nat.pow_le_pow_right (by omega) hl)
theorem sum_len{a b:List Int}(ha:Nrm a)(hb:Nrm b){k:Nat}(la:a.length≤k)(lb:b.length≤k):(bitsOf (valB a+valB b)).length≤k+1:=yci (pw (yfs ha la) (yfs hb lb)) (Nat.le_refl _)
theorem r_add{x y:BigT}(hx:Nb x)(hy:Nb y)(lx:x.2.1.length≤900)(ly:y.2.1.length≤900):zbs x y=some (big (bv x+bv y)):=by
 show zph stdW x y=_
 have nx:=nb_nrm hx
 have ny:=nb_nrm hy
 unfold zph
 have eta:∀z:BigT,(some (z.1,(z.2.1,())):Option BigT)=some z:=fun z=>rfl
 by_cases h:x.1=y.1
 ·have e:notIf false (x.1==y.1)=true:=by simp[notIf,h]
  have hs:(bitsOf (valB x.2.1+valB y.2.1)).length≤1000:=Nat.le_trans (sum_len nx ny lx ly) (by omega)
  rw[e]
  show (stdW.call _ _:Option BigT)=_
  rw[zaa (r_plus nx ny (by omega) (by omega)),zaa (r_trim (zog _) hs),eta,add_same h]
 ·have e:notIf false (x.1==y.1)=false:=by simp[notIf,h]
  rw[e]
  show (stdW.call _ _:Option BigT)=_
  rw[zaa (r_less nx ny (by omega) (by omega))]
  by_cases hl:valB x.2.1<valB y.2.1
  ·rw[decide_eq_true hl]
   show (stdW.call _ _:Option BigT)=_
   rw[zaa (r_minus ny nx (by omega) (by omega)),zaa (r_trim (bitL_K _ _) (by rw[len_K]; omega)),eta,add_less ny h hl]
  ·rw[decide_eq_false hl]
   show (stdW.call _ _:Option BigT)=_
   rw[zaa (r_minus nx ny (by omega) (by omega)),zaa (r_trim (bitL_K _ _) (by rw[len_K]; omega)),eta,add_more nx h hl]
end Go.Proofs.YtllkmncnmlmefaaGreat
namespace Go.Vc
open Go Go.RowKit
variable {β:Type}
theorem zde{α S:Type}{l:List α}(hl:l.length≤9223372036854775807){f:Int×S→(Int×S→Option β)→Option β}(Inv:Nat→S→Prop)(g:List α→S→Option β){s0:S}(h0:Inv 0 s0)
  (hend:∀s (again:Int×S→Option β),Inv l.length s→f ((l.length:Int),s) again=g [] s)
  (hstep:∀i (h:i<l.length) s,Inv i s→∀again:Int×S→Option β,(∀s',Inv (i+1) s'→again (((i+1:Nat):Int),s')=g (l.drop (i+1)) s')→f ((i:Int),s) again=g (l[i]::l.drop (i+1)) s):
  stdW.loop f (0,s0)=g l s0:=by
 refine(zdr (fun z=>(l.length+1) - z.1.toNat) (fun z=>∃i:Nat,z.1=(i:Int)∧i≤l.length∧Inv i z.2) (fun z=>g (l.drop z.1.toNat) z.2) ⟨0,rfl,by omega,h0⟩ (by show l.length+1 - 0<_; omega) ?_).trans ?_
 ·rintro⟨z,s⟩ ⟨i,hi,hle,hs⟩ again ha
  dsimp only at hi hs
  subst hi
  simp only[Int.toNat_natCast]
  by_cases h:i<l.length
  ·rw[zjx l i h]
   refine hstep i h s hs again fun s' hs'=>?_
   have:=ha (((i+1:Nat):Int),s') ⟨i+1,rfl,by omega,hs'⟩ (by simp only[Int.toNat_natCast]; omega)
   simpa only[Int.toNat_natCast]using this
  ·obtain rfl:i=l.length:=by omega
   rw[List.drop_length]
   exact hend s again hs
 ·simp
theorem cnd_lt{i n:Nat}(h:i<n)(a b:Option β):stdW.cnd (decide ((i:Int)<(n:Int))) a b=a:=by rw[decide_eq_true (by omega)]; rfl
theorem zam{n:Nat}(a b:Option β):stdW.cnd (decide ((n:Int)<(n:Int))) a b=b:=by rw[decide_eq_false (by omega)]; rfl
theorem cnd_b{c:Bool}(a b:Option β):stdW.cnd c a b=if c=true then a else b:=by cases c<;>rfl
theorem cnd_y{c:Bool}(h:c=true)(a b:Option β):stdW.cnd c a b=a:=by subst h; rfl
theorem cnd_n{c:Bool}(h:c=false)(a b:Option β):stdW.cnd c a b=b:=by subst h; rfl
theorem idx_w{α:Type}{l:List α}{i:Nat}(h:i<l.length)(K:α→Option β):stdW.idx l (i:Int) K=K l[i]:=idx_eq h K
theorem nth_w{α:Type}{l:List α}{i:Nat}(h:i<l.length)(K:α→Option β):stdW.nth l (Int.toNat (i:Int)) K=K l[i]:=by
 show idxR l _ K=_
 unfold idxR
 rw[Int.toNat_natCast,List.getElem?_eq_getElem h]
theorem room_w{n b:Nat}(h:n≤281474976710656)(h2:n*b≤140737488355328)(K:Option β):stdW.room n b K=K:=yaf h h2 K
theorem nn_w{b:Int}(h:0≤b)(K:Option β):stdW.nn b K=K:=nn_eq h K
theorem both_w(a:Option β):stdW.both a a=a:=both_eq a
theorem join_w{X:Type}(k:X→Option β)(f:(X→Option β)→Option β):stdW.join k f=f k:=rfl
theorem bnd_w{i:Int}{n:Nat}(h:0≤i)(h2:i≤n)(K:Nat→Option β):stdW.bnd i n K=K i.toNat:=bnd_eq h h2 K
theorem i64_s(i:Nat)(h:i<9223372036854775807):IntKind.i64.wrap ((i:Int)+1)=((i+1:Nat):Int):=zys i h
end Go.Vc
namespace Go.Vc
variable {β:Type}
theorem loop_n{S:Type}{N:Nat}(hN:N<9223372036854775807){f:Int×S→(Int×S→Option β)→Option β}(Inv:Nat→S→Prop)(r:Option β){s0:S}(h0:Inv 0 s0)
  (hend:∀s (again:Int×S→Option β),Inv N s→f (((N:Nat):Int),s) again=r)
  (hstep:∀i,i<N→∀s,Inv i s→∀again:Int×S→Option β,(∀s',Inv (i+1) s'→again (((i+1:Nat):Int),s')=r)→f ((i:Int),s) again=r):
  stdW.loop f (0,s0)=r:=by
 refine(zdr (fun z=>(N+1) - z.1.toNat) (fun z=>∃i:Nat,z.1=(i:Int)∧i≤N∧Inv i z.2) (fun _=>r) ⟨0,rfl,by omega,h0⟩ (by show N+1 - 0<_; omega) ?_)
 rintro⟨z,s⟩ ⟨i,hi,hle,hs⟩ again ha
 dsimp only at hi hs
 subst hi
 by_cases h:i<N
 ·refine hstep i h s hs again fun s' hs'=>?_
  exact ha (((i+1:Nat):Int),s') ⟨i+1,rfl,by omega,hs'⟩ (by simp only[Int.toNat_natCast]; omega)
 ·obtain rfl:i=N:=by omega
  exact hend s again hs
def sumBy{α:Type}(f:α→Int)(l:List α):Int:=(l.map f).sum
theorem zzw{α:Type}(f:α→Int):sumBy f []=0:=rfl
theorem zcu{α:Type}(f:α→Int)(x:α)(l:List α):sumBy f (x::l)=f x+sumBy f l:=by simp[sumBy]
theorem zhk{α:Type}(f:α→Int)(a b:List α):sumBy f (a++b)=sumBy f a+sumBy f b:=by simp[sumBy]
theorem ydq{α:Type}(f:α→Int)(l:List α)(i:Nat)(h:i<l.length):sumBy f (l.take (i+1))=sumBy f (l.take i)+f l[i]:=by
 rw[show l.take (i+1)=l.take i++[l[i]] by simp,zhk,zcu,zzw]; omega
theorem zxv{α:Type}{f:α→Int}{B:Int}:∀{l:List α},(∀x∈l,-B≤f x∧f x≤B) → -(B*(l.length:Int))≤sumBy f l∧sumBy f l≤B*(l.length:Int)
 |[],_=>by simp[sumBy]
 |x::l,h=>by
  have h1:=h x (by simp)
  have h2:=zxv (l:=l) fun w hw=>h w (by simp[hw])
  rw[zcu,List.length_cons,Int.natCast_add,Int.mul_add]
  omega
theorem ynf{α:Type}(p:α→Bool)(l:List α)(i:Nat)(h:i<l.length):(l.take (i+1)).filter p=(l.take i).filter p++(if p l[i]=true then [l[i]] else []):=by
 rw[show l.take (i+1)=l.take i++[l[i]] by simp,List.filter_append]
 congr 1
 by_cases hp:p l[i]=true<;>simp[hp]
theorem call_w{α β:Type}{o:Option α}{a:α}(h:o=some a)(K:α→Option β):stdW.call o K=K a:=by subst h; rfl
end Go.Vc


namespace Go.Proofs.YtllkmncnmlmefaaGreat
open Go Go.Vc Go.RowKit
def wv(w:zao):Int:=w.1*18446744073709551616+w.2.1
def wOk(w:zao):Prop:=(-9223372036854775808≤w.1∧w.1≤9223372036854775807)∧(0≤w.2.1∧w.2.1<18446744073709551616)
def wide(z:Int):zao:=(z / 18446744073709551616,z % 18446744073709551616,())
def In128(z:Int):Prop := -170141183460469231731687303715884105728≤z∧z<170141183460469231731687303715884105728
instance (z:Int):Decidable (In128 z):=by unfold In128; infer_instance
theorem znc(z:Int):wv (wide z)=z:=by unfold wide wv; simp only; omega
theorem wv_in(w:zao)(h:wOk w):In128 (wv w):=by unfold wOk at h; unfold In128 wv; omega
theorem znd(z:Int)(h:In128 z):wOk (wide z):=by unfold In128 at h; unfold wOk wide; simp only; omega
theorem wide_inj{a b:Int}(h:wide a=wide b):a=b:=by rw[←znc a,h,znc]
theorem shr63(n:Int)(h : -9223372036854775808≤n∧n≤9223372036854775807):n.fdiv (2 ^ min (Int.toNat 63) IntKind.i64.bits)=n / 18446744073709551616:=by
 have e:(2:Int) ^ min (Int.toNat 63) IntKind.i64.bits=9223372036854775808:=by decide +kernel
 rw[e,Int.fdiv_eq_ediv_of_nonneg _ (by omega)]; omega
def fit(z:Int):zao×Int×Unit:=if In128 z then (wide z,0,()) else ((0,0,()),7,())
def I64(n:Int):Prop := -9223372036854775808≤n∧n≤9223372036854775807
theorem zrh{n:Int}(h:I64 n):In128 n:=by unfold I64 at h; unfold In128; omega
theorem r_wOf(n:Int)(h:I64 n):zix n=some (wide n):=by
 show zxp stdW n=_
 unfold zxp
 rw[nn_w (by omega),shr63 n h,IntKind.wrap_u64]; rfl
def totT(V:Int):Int×Int×Int×Unit:=(V / 340282366920938463463374607431768211456,IntKind.i64.wrap (V / 18446744073709551616),V % 18446744073709551616,())
def InTot(V:Int):Prop := -1569275433846670190958947355801916604025588861116008628224≤V∧V<1569275433846670190958947355801916604025588861116008628224
theorem ylp(z:Int):IntKind.u64.wrap (IntKind.i64.wrap z)=z % 18446744073709551616:=by
 rw[IntKind.wrap_u64,IntKind.wrap_i64]; omega
theorem zux(z:Int):IntKind.i64.wrap (z % 18446744073709551616)=IntKind.i64.wrap z:=by
 rw[IntKind.wrap_i64,IntKind.wrap_i64]; omega
theorem tot_next(V x y:Int)(hV:InTot V)(hx : -9223372036854775808≤x∧x≤9223372036854775807)(hy:0≤y∧y<18446744073709551616):
  ((IntKind.i64.wrap (V / 340282366920938463463374607431768211456+IntKind.i64.wrap (x.fdiv (2 ^ min (Int.toNat 63) IntKind.i64.bits)+IntKind.i64.wrap ((IntKind.u64.wrap (IntKind.i64.wrap (V / 18446744073709551616))+IntKind.u64.wrap x+(V % 18446744073709551616+y+0) / 18446744073709551616) / 18446744073709551616))),
   IntKind.i64.wrap ((IntKind.u64.wrap (IntKind.i64.wrap (V / 18446744073709551616))+IntKind.u64.wrap x+(V % 18446744073709551616+y+0) / 18446744073709551616) % 18446744073709551616),
   (V % 18446744073709551616+y+0) % 18446744073709551616,()):Int×Int×Int×Unit)=totT (V+(x*18446744073709551616+y)):=by
 unfold InTot at hV
 rw[ylp,zux,shr63 x hx,IntKind.wrap_u64]
 have e1:(V+(x*18446744073709551616+y)) / 18446744073709551616=V / 18446744073709551616+x+(V % 18446744073709551616+y+0) / 18446744073709551616:=by omega
 have e0:(V+(x*18446744073709551616+y)) / 340282366920938463463374607431768211456=(V / 18446744073709551616+x+(V % 18446744073709551616+y+0) / 18446744073709551616) / 18446744073709551616:=by omega
 have e3:V / 340282366920938463463374607431768211456=V / 18446744073709551616 / 18446744073709551616:=by omega
 unfold totT
 rw[e1,e0,e3]
 have hc:0≤(V % 18446744073709551616+y+0) / 18446744073709551616∧(V % 18446744073709551616+y+0) / 18446744073709551616≤1:=by omega
 generalize (V % 18446744073709551616+y+0) / 18446744073709551616=c at*
 have hu : -92233720368547758080000000000000000000≤V / 18446744073709551616∧V / 18446744073709551616<92233720368547758080000000000000000000:=by omega
 generalize V / 18446744073709551616=u at*
 have f1:(V+(x*18446744073709551616+y)) % 18446744073709551616=(V % 18446744073709551616+y+0) % 18446744073709551616:=by omega
 rw[f1]
 have g2:(u % 18446744073709551616+x % 18446744073709551616+c) / 18446744073709551616≤2∧0≤(u % 18446744073709551616+x % 18446744073709551616+c) / 18446744073709551616:=by omega
 have g1:IntKind.i64.wrap ((u % 18446744073709551616+x % 18446744073709551616+c) / 18446744073709551616)=(u % 18446744073709551616+x % 18446744073709551616+c) / 18446744073709551616:=IntWalk.i64_in _ (by omega)
 rw[g1]
 have g3:IntKind.i64.wrap (x / 18446744073709551616+(u % 18446744073709551616+x % 18446744073709551616+c) / 18446744073709551616)=x / 18446744073709551616+(u % 18446744073709551616+x % 18446744073709551616+c) / 18446744073709551616:=IntWalk.i64_in _ (by omega)
 rw[g3]
 have g4:u / 18446744073709551616+(x / 18446744073709551616+(u % 18446744073709551616+x % 18446744073709551616+c) / 18446744073709551616)=(u+x+c) / 18446744073709551616:=by omega
 rw[g4]
 have g5:IntKind.i64.wrap ((u+x+c) / 18446744073709551616)=(u+x+c) / 18446744073709551616:=IntWalk.i64_in _ (by omega)
 rw[g5]
 have g6:IntKind.i64.wrap (u % 18446744073709551616+x % 18446744073709551616+c)=IntKind.i64.wrap (u+x+c):=by rw[IntKind.wrap_i64,IntKind.wrap_i64]; omega
 rw[g6]
theorem yij{x y c:Int}(hx:0≤x)(hy:0≤y)(hc0:0≤c)(hc:c≤1):add64 x y c=some ((x+y+c) % 18446744073709551616,(x+y+c) / 18446744073709551616,()):=by unfold add64; rw[if_pos ⟨hx,hy,hc0,hc⟩]
theorem zxw{x y b:Int}(hx:0≤x)(hy:0≤y)(hy2:y<18446744073709551616)(hb0:0≤b)(hb:b≤1):sub64 x y b=some ((x - y - b) % 18446744073709551616,if x<y+b then 1 else 0,()):=by unfold sub64; rw[if_pos ⟨hx,hy,hy2,hb0,hb⟩]
theorem r_tadd(V:Int)(x:zao)(hV:InTot V)(hx:wOk x):zch x (totT V).1 (totT V).2.1 (totT V).2.2.1=some ((),totT (V+wv x)):=by
 unfold wOk at hx
 show zff stdW x (V / 340282366920938463463374607431768211456) (IntKind.i64.wrap (V / 18446744073709551616)) (V % 18446744073709551616)=_
 unfold zff wv
 rw[←tot_next V x.1 x.2.1 hV hx.1 hx.2]
 have hV':=hV
 unfold InTot at hV'
 rw[zaa (yij (by omega) (by omega) (by omega) (by omega)),zaa (yij (by rw[IntKind.wrap_u64]; omega) (by rw[IntKind.wrap_u64]; omega) (by show 0≤(V % 18446744073709551616+x.2.1+0) / 18446744073709551616; omega) (by show (V % 18446744073709551616+x.2.1+0) / 18446744073709551616≤1; omega)),nn_w (by omega)]
theorem tot_fits(V:Int)(hV:InTot V):(V / 340282366920938463463374607431768211456==(IntKind.i64.wrap (V / 18446744073709551616)).fdiv (2 ^ min (Int.toNat 63) IntKind.i64.bits))=decide (In128 V):=by
 have hr : -9223372036854775808≤IntKind.i64.wrap (V / 18446744073709551616)∧IntKind.i64.wrap (V / 18446744073709551616)≤9223372036854775807:=by
  rw[IntKind.wrap_i64]; omega
 rw[shr63 _ hr]
 unfold InTot at hV
 by_cases h:In128 V
 ·rw[decide_eq_true h]
  unfold In128 at h
  rw[IntWalk.i64_in _ (by omega)]
  first|(simp; done)|(simp; omega)|skip
 ·rw[decide_eq_false h]
  unfold In128 at h
  rw[IntKind.wrap_i64]
  simp; omega
theorem yoo(w:zao)(ok:Bool):zet w ok=some (if ok=true then (w,0,()) else ((0,0,()),7,())):=by
 show zhx stdW w ok=_
 unfold zhx
 cases ok<;>rfl
theorem r_tdone(V:Int)(hV:InTot V):zdx (totT V).1 (totT V).2.1 (totT V).2.2.1=some (fit V,totT V):=by
 show zel stdW _ _ _=_
 unfold zel
 rw[nn_w (by omega),zaa (yoo _ _)]
 have:=tot_fits V hV
 show some ((if (V / 340282366920938463463374607431768211456==(IntKind.i64.wrap (V / 18446744073709551616)).fdiv (2 ^ min (Int.toNat 63) IntKind.i64.bits))=true then _ else _),_)=_
 rw[this]
 unfold fit
 by_cases h:In128 V
 ·rw[if_pos (decide_eq_true h),if_pos h]
  have e:IntKind.i64.wrap (V / 18446744073709551616)=V / 18446744073709551616:=by unfold In128 at h; exact IntWalk.i64_in _ (by omega)
  show some (((IntKind.i64.wrap (V / 18446744073709551616),V % 18446744073709551616,()),0,()),_)=_
  rw[e]; rfl
 ·rw[decide_eq_false h,if_neg (by simp),if_neg h]
def sumW(l:List zao):Int:=(l.map wv).sum
theorem sumW_in:∀(l:List zao),(∀w∈l,wOk w) → -(170141183460469231731687303715884105728*(l.length:Int))≤sumW l∧sumW l≤170141183460469231731687303715884105728*(l.length:Int)
 |[],_=>by simp[sumW]
 |x::l,h=>by
  have h1:=wv_in x (h x (by simp))
  have h2:=sumW_in l fun w hw=>h w (by simp[hw])
  unfold In128 at h1
  simp only[sumW,List.map_cons,List.sum_cons,List.length_cons]at h2 ⊢
  omega
theorem ynu(l:List zao)(h:∀w∈l,wOk w)(hl:l.length<9223372036854775807):InTot (sumW l):=by
 have:=sumW_in l h
 unfold InTot; omega
theorem sumW_app(a b:List zao):sumW (a++b)=sumW a+sumW b:=by unfold sumW; simp
theorem sumW_one(a:zao):sumW [a]=wv a:=by unfold sumW; simp
theorem sumW_take(l:List zao)(i:Nat)(h:i<l.length):sumW (l.take (i+1))=sumW (l.take i)+wv l[i]:=by
 rw[show l.take (i+1)=l.take i++[l[i]] by simp,sumW_app,sumW_one]
theorem r_wAdd(l:List zao)(h:∀w∈l,wOk w)(hl:l.length<9223372036854775807):zxr l=some (fit (sumW l)):=by
 show zrx stdW l=_
 unfold zrx
 refine zde (l:=l) (by omega) (fun i s=>s=totT (sumW (l.take i))) (fun _ _=>some (fit (sumW l))) (by simp[sumW]; rfl) ?_ ?_
 ·rintro _ again rfl
  rw[List.take_length,zam,zaa (r_tdone _ (ynu l h hl))]
 ·rintro i hi _ rfl again ha
  rw[cnd_lt hi,idx_w hi,zaa (r_tadd _ _ (ynu _ (fun w hw=>h w (List.mem_of_mem_take hw)) (by rw[List.length_take]; omega)) (h _ (List.getElem_mem hi)))]
  dsimp only
  rw[i64_s i (by omega)]
  exact ha _ (by rw[sumW_take l i hi])
theorem r_neg{a:BigT}(h:Nb a)(la:a.2.1.length≤1000):zjn a=some (big (-(bv a))):=by
 show zpd stdW a=_
 unfold zpd
 rw[zaa (r_trim (nb_nrm h).bits la),neg_is]
theorem r_sub{a b:BigT}(ha:Nb a)(hb:Nb b)(la:a.2.1.length≤900)(lb:b.2.1.length≤900):zjm a b=some (big (bv a - bv b)):=by
 show zpc stdW a b=_
 unfold zpc
 have e:∀z:BigT,(z.1,(z.2.1,()))=z:=fun z=>rfl
 rw[zaa (r_neg hb (by omega)),zaa (r_add ha (nb_big _) la (by rw[neg_len hb]; exact lb)),bv_big]
 congr 2
theorem r_cmp{a b:BigT}(ha:Nb a)(hb:Nb b)(la:a.2.1.length≤900)(lb:b.2.1.length≤900):zbw a b=some (if bv a - bv b=0 then 0 else if bv a - bv b<0 then -1 else 1):=by
 show zpg stdW a b=_
 unfold zpg
 have e:∀z:BigT,(z.1,(z.2.1,()))=z:=fun z=>rfl
 rw[zaa (r_sub ha hb la lb)]
 by_cases h:bv a - bv b=0
 ·rw[cnd_y (by have:=(yqd (bv a - bv b)).2 h; simp[this]),if_pos h]
 ·rw[cnd_n (by have:=mt (yqd (bv a - bv b)).1 h; simpa using this),if_neg h,cnd_b]
  show (if decide (bv a - bv b<0)=true then _ else _)=_
  by_cases h2:bv a - bv b<0
  ·rw[if_pos (by simpa using h2),if_pos h2]
  ·rw[if_neg (by simpa using h2),if_neg h2]
theorem r_of{n:Int}(h:I64 n):zdc n=some (big n):=by
 show ztd stdW n=_
 unfold I64 at h
 unfold ztd
 by_cases h0:0≤n
 ·rw[cnd_y (decide_eq_true h0),u64_id n (by omega)]
  obtain⟨m,rfl⟩:=Int.eq_ofNat_of_zero_le h0
  rw[zaa (r_nat m (by omega)),bigS_f]
 ·rw[cnd_n (decide_eq_false h0),of_neg (by omega) (by omega)]
  obtain⟨m,hm⟩:=Int.eq_ofNat_of_zero_le (show 0 ≤ -(n+1) by omega)
  rw[hm,zaa (r_nat m (by omega))]
  have hl:(bitsOf m).length≤1000:=yci (show m<2 ^ 64 by omega) (by omega)
  show stdW.call (zfc (bitsOf m) [1]) _=_
  rw[zaa (r_plus (ygz m) nrm1 hl (by simp)),of_negB (by omega) (by omega) hm.symm]
  rfl
theorem zgg{z:Int}(h : -170141183460469231731687303715884105728≤z∧z≤170141183460469231731687303715884105728):(big z).2.1.length≤200:=by
 refine len_big z ?_
 have:(2:Nat) ^ 200=1606938044258990275541962092341162602522202993782792835301376:=by decide
 omega
theorem yir(xs:List Int)(i:Nat)(h:i≤xs.length):valB (xs.drop i)≤valB xs:=by
 have h1:=zvb xs i h
 have h2:valB (xs.drop i)≤2 ^ i*valB (xs.drop i):=Nat.le_mul_of_pos_left _ (Nat.two_pow_pos i)
 omega
theorem r_int{z:Int}(h:I64 z):zfq (big z)=some z:=by
 unfold I64 at h
 show zpf stdW (big z)=_
 unfold zpf
 have hb:bitL (big z).2.1:=zog _
 have hv:valB (big z).2.1=z.natAbs:=zgh _
 have hl:(big z).2.1.length≤64:=zuj 64 _ (by omega)
 have hs:(big z).1=decide (z<0):=rfl
 generalize (big z).1=sg at*
 generalize (big z).2.1=xs at*
 refine(zdr (fun z=>z.2.1.toNat) (fun y=>∃i:Nat,i≤xs.length∧y=((if z<0 then -((valB (xs.drop i):Nat):Int) else ((valB (xs.drop i):Nat):Int)),((i:Int),()))) (fun _=>some z) ⟨xs.length,Nat.le_refl _,by simp[valB]⟩ (by show ((xs.length:Nat):Int).toNat<_; omega) ?_)
 rintro _ ⟨i,hi,rfl⟩ again ha
 show stdW.cnd (decide ((0:Int)<((i:Nat):Int))) _ _=_
 by_cases h0:i=0
 ·subst h0
  rw[cnd_n (c:=decide ((0:Int)<((0:Nat):Int))) rfl,List.drop_zero,hv]
  congr 1; split<;>omega
 ·have hm:i - 1<xs.length:=by omega
  rw[cnd_y (decide_eq_true (by omega)),join_w,zgy i (by omega) (by rw[zat]; omega)]
  have hd:xs.drop (i - 1)=xs[i - 1]::xs.drop i:=by rw[List.drop_eq_getElem_cons hm,show i - 1+1=i by omega]
  have hbit:=hb _ (List.getElem_mem hm)
  have hle:=yir xs (i - 1) (by omega)
  rw[hv,hd,valB]at hle
  have hx0:0≤xs[i - 1]∧xs[i - 1]≤1:=by rcases hbit with e|e<;>rw[e]<;>omega
  have next:∀n:Int,n=(if z<0 then -((valB (xs.drop (i - 1)):Nat):Int) else ((valB (xs.drop (i - 1)):Nat):Int))→again (n,(((i - 1:Nat):Int),()))=some z:=fun n hn=>ha _ ⟨i - 1,by omega,by rw[hn]⟩ (by show ((i - 1:Nat):Int).toNat<((i:Nat):Int).toNat; omega)
  rw[hd,valB]at next
  by_cases hz:z<0
  ·rw[hs,cnd_y (decide_eq_true hz),idx_w hm]
   refine next _ ?_
   rw[if_pos hz,if_pos hz,IntWalk.i64_in xs[i - 1] (by omega),IntWalk.i64_in (2 * -((valB (xs.drop i):Nat):Int)) (by omega),IntWalk.i64_in _ (by omega)]
   omega
  ·rw[hs,cnd_n (decide_eq_false hz),idx_w hm]
   refine next _ ?_
   rw[if_neg hz,if_neg hz,IntWalk.i64_in xs[i - 1] (by omega),IntWalk.i64_in (2*((valB (xs.drop i):Nat):Int)) (by omega),IntWalk.i64_in _ (by omega)]
   omega
def sml(z:Int):Prop := -170141183460469231731687303715884105728≤z∧z≤170141183460469231731687303715884105728
instance (z:Int):Decidable (I64 z):=by unfold I64; infer_instance
theorem ypm(n:Nat):(bitsOf n).length<64↔n<9223372036854775808:=by
 constructor
 ·intro h
  have:=yfs (ygz n) (k:=63) (by omega)
  rw[zgh]at this; simpa using this
 ·intro h
  have:=zuj 63 n (by simpa using h)
  omega
theorem r_fits{z:Int}(h:sml z):zfd (big z)=some (decide (I64 z)):=by
 unfold sml at h
 have hw:znm ((big z).1,((big z).2.1,())) 64=some (decide (I64 z)):=by
  show zgw stdW (big z) 64=_
  unfold zgw
  rw[join_w]
  by_cases hz:z<0
  ·have hs:(big z).1=true:=decide_eq_true hz
   have e1:zhn 1=some (big 1):=r_nat 1 (by omega)
   have e2:zbs ((big z).1,((big z).2.1,())) ((big 1).1,((big 1).2.1,()))=some (big (z+1)):=by
    have:=r_add (nb_big z) (nb_big 1) (Nat.le_trans (zgg h) (by decide)) (Nat.le_trans (zgg (by omega)) (by decide))
    rw[bv_big,bv_big]at this; exact this
   have e3:(decide (((big (z+1)).2.1.length:Int)<64))=decide (I64 z):=by
    refine decide_eq_decide.2 ?_
    have:=ypm (z+1).natAbs
    show (((bitsOf (z+1).natAbs).length:Int)<64)↔_
    unfold I64; omega
   rw[cnd_y hs,both_w,zaa e1,zaa e2]
   show some (decide _)=_
   rw[e3]
  ·have hs:(big z).1=false:=decide_eq_false hz
   rw[cnd_n hs]
   show some (decide (((bitsOf z.natAbs).length:Int)<64))=_
   congr 1
   refine decide_eq_decide.2 ?_
   have:=ypm z.natAbs
   unfold I64; omega
 show zlm stdW (big z)=_
 unfold zlm
 rw[zaa hw]
def fits64(z:Int):Int×Int×Unit:=if I64 z then (z,0,()) else (0,7,())
theorem nif_t(c:Bool):notIf true c=!c:=by cases c<;>rfl
theorem nif_f(c:Bool):notIf false c=c:=by cases c<;>rfl
theorem r_wInt{z:Int}(_:In128 z):zrw (wide z)=some (fits64 z):=by
 show zrv stdW (wide z)=_
 unfold zrv
 have hw:IntKind.i64.wrap (wide z).2.1=IntKind.i64.wrap z:=zux z
 have hI:I64 (IntKind.i64.wrap z):=by unfold I64; rw[IntKind.wrap_i64]; omega
 rw[hw,zaa (r_wOf _ hI),nif_t]
 unfold fits64
 by_cases hz:I64 z
 ·have e:IntKind.i64.wrap z=z:=by unfold I64 at hz; exact IntWalk.i64_in _ (by omega)
  rw[if_pos hz,e,cnd_n (by simp)]
 ·rw[if_neg hz,cnd_y ?_]
  rw[Bool.not_eq_true']
  cases hc:((wide (IntKind.i64.wrap z)).1==(wide z).1&&(wide (IntKind.i64.wrap z)).2.1==(wide z).2.1) with
  |false=>rfl
  |true=>
   simp only[Bool.and_eq_true,beq_iff_eq]at hc
   have:wide (IntKind.i64.wrap z)=wide z:=Prod.ext hc.1 (Prod.ext hc.2 rfl)
   exact absurd (wide_inj this▸hI) hz
theorem yjp{z:Int}(h:In128 z):zjv (wide z) 0=some (fits64 z):=by
 show zme stdW (wide z) 0=_
 unfold zme
 rw[cnd_n (by decide),zaa (r_wInt h)]
theorem sum_in{l:List Int}(h:∀x∈l,I64 x) : -(9223372036854775808*(l.length:Int))≤l.sum∧l.sum≤9223372036854775808*(l.length:Int):=by
 have:=zxv (f:=fun x:Int=>x) (B:=9223372036854775808) (l:=l) (fun x hx=>by have:=h x hx; unfold I64 at this; omega)
 simpa[sumBy]using this
theorem sumW_wide(l:List Int):sumW (l.map wide)=l.sum:=by
 unfold sumW
 rw[List.map_map]
 have:(wv ∘ wide)=id:=funext znc
 rw[this,List.map_id]
theorem wides_ok{l:List Int}(h:∀x∈l,I64 x):∀w∈l.map wide,wOk w:=by
 intro w hw
 obtain⟨x,hx,rfl⟩:=List.mem_map.1 hw
 exact znd _ (zrh (h x hx))
theorem sum128{l:List Int}(h:∀x∈l,I64 x)(hl:l.length≤1000000):In128 l.sum:=by
 have:=sum_in h; unfold In128; omega
theorem r_wSum{l:List Int}(h:∀x∈l,I64 x)(hl:l.length≤1000000):zxr (l.map wide)=some (wide l.sum,0,()):=by
 rw[r_wAdd _ (wides_ok h) (by rw[List.length_map]; omega),sumW_wide]
 unfold fit; rw[if_pos (sum128 h hl)]
theorem r_fSum{l:List Int}(h:∀x∈l,I64 x)(hl:l.length≤1000000):zwg l=some (fits64 l.sum):=by
 show zyx stdW l=_
 unfold zyx
 rw[nn_w (by omega),room_w (by simp; omega) (by simp; omega)]
 refine loop_n (N:=l.length) (by omega) (fun i s=>s=((l.take i).map wide,())) (some (fits64 l.sum)) rfl ?_ ?_
 ·rintro _ again rfl
  rw[zam,List.take_length,zaa (r_wSum h hl),zaa (yjp (sum128 h hl))]
 ·rintro i hi _ rfl again ha
  rw[cnd_lt hi,idx_w hi,zaa (r_wOf _ (h _ (List.getElem_mem hi))),i64_s i (by omega),room_w (by simp; omega) (by simp; omega)]
  refine ha _ ?_
  rw[List.take_succ_eq_append_getElem hi,List.map_append]; rfl
theorem join_g{X β:Type}{k0:X→Option β}{f:(X→Option β)→Option β}{r:Option β}(h:∀k,k=k0→f k=r):stdW.join k0 f=r:=h k0 rfl
theorem ygn(a b:AUnit'):zkg a b=some (decide (ltA a b)):=by
 show zqm stdW a b=_
 unfold zqm
 by_cases h:a.1=b.1
 ·rw[cnd_n (by simp[h])]
  congr 1; refine decide_eq_decide.2 ?_; unfold ltA; omega
 ·rw[cnd_y (by simp[h])]
  congr 1; refine decide_eq_decide.2 ?_; unfold ltA; omega
theorem zyf(a b:AUnit'):zfa a b=some (decide (ltA a b)):=by
 show zkz stdW a b=_
 unfold zkz
 by_cases h1:a.1<b.1
 ·rw[cnd_y (decide_eq_true h1),decide_eq_true (by unfold ltA; omega)]
 ·rw[cnd_n (decide_eq_false h1)]
  by_cases h:a.1=b.1
  ·rw[cnd_y (by simp[h])]
   congr 1; refine decide_eq_decide.2 ?_; unfold ltA; omega
  ·rw[cnd_n (by simp[h]),decide_eq_false (by unfold ltA; omega)]
def PInv(l:List AFlow'):Prop:=(∀x∈l,x.2.1≠0)∧SrtA (l.map (·.1))
instance (l:List AFlow'):Decidable (PInv l):=by unfold PInv SrtA; infer_instance
def isP(l:List AFlow'):Bool:=decide (PInv l)
theorem ypq{l:List AFlow'}{i:Nat}(hi:i<l.length)(h:l[i].2.1=0):isP l=false:=
 decide_eq_false fun hp=>hp.1 _ (List.getElem_mem hi) h
theorem ypp{l:List AFlow'}{i:Nat}(hi:i<l.length)(h0:0<i)(h:¬ltA (l[i - 1]'(by omega)).1 l[i].1):isP l=false:=
 decide_eq_false fun hp=>h (by
  have:=List.pairwise_iff_getElem.1 hp.2 (i - 1) i (by simp; omega) (by simpa using hi) (by omega)
  simpa using this)
theorem zyn{l:List AFlow'}{i:Nat}(hi:i<l.length)(inv:PInv (l.take i))(h1:l[i].2.1≠0)(h2:∀h0:0<i,ltA (l[i - 1]'(by omega)).1 l[i].1):PInv (l.take (i+1)):=by
 rw[List.take_succ_eq_append_getElem hi]
 refine⟨fun x hx=>?_,?_⟩
 ·rcases List.mem_append.1 hx with hx|hx
  ·exact inv.1 x hx
  ·simp at hx; rw[hx]; exact h1
 ·show SrtA ((l.take i++[l[i]]).map (·.1))
  rw[List.map_append]
  refine List.pairwise_append.2 ⟨inv.2,by simp,fun a ha b hb=>?_⟩
  simp only[List.map_cons,List.map_nil,List.mem_singleton]at hb
  subst hb
  obtain⟨k,hk,hka⟩:=List.mem_iff_getElem.1 ha
  have hk':k<i:=by simp at hk; omega
  have h3:=h2 (by omega)
  by_cases hki:k=i - 1
  ·subst hki; rw[←hka]; simpa using h3
  ·have h4:=List.pairwise_iff_getElem.1 inv.2 k (i - 1) (by simpa using hk) (by simp; omega) (by omega)
   rw[hka]at h4
   refine ltA_tr h4 ?_
   simpa using h3
theorem isP_end{l:List AFlow'}(h:PInv (l.take l.length)):isP l=true:=by rw[List.take_length]at h; exact decide_eq_true h
theorem r_is{l:List AFlow'}(hl:l.length≤1000000):zpk l=some (isP l):=by
 show zth stdW l=_
 unfold zth
 refine loop_n (N:=l.length) (by omega) (fun i _=>PInv (l.take i)) (some (isP l)) (by simp[PInv]) ?_ ?_
 ·rintro _ again h
  rw[zam,isP_end h]
 ·rintro i hi _ inv again ha
  rw[cnd_lt hi,idx_w hi]
  refine join_g fun k hk=>?_
  have kt:k (true,())=some false:=by subst hk; rfl
  have kf:k (false,())=again (((i+1:Nat):Int),()):=by rw[←i64_s i (by omega)]; subst hk; rfl
  clear hk
  by_cases h1:l[i].2.1=0
  ·rw[cnd_y (by simpa using h1),kt,ypq hi h1]
  ·rw[cnd_n (by simpa using h1)]
   by_cases h0:0<i
   ·rw[cnd_y (decide_eq_true (by omega)),zgy i h0 (by rw[zat]; omega),idx_w (by omega),zaa (ygn _ _)]
    by_cases h2:ltA (l[i - 1]'(by omega)).1 l[i].1
    ·rw[decide_eq_true h2]
     exact kf.trans (ha _ (zyn hi inv h1 fun _=>h2))
    ·rw[decide_eq_false h2,ypp hi h0 h2]; exact kt
   ·rw[cnd_n (decide_eq_false (by omega))]
    exact kf.trans (ha _ (zyn hi inv h1 fun h=>absurd h h0))
theorem r_is17{l:List AFlow'}(hl:l.length≤1000000):zsp l=some (isP l):=by
 show zso stdW l=_
 unfold zso
 refine loop_n (N:=l.length) (by omega) (fun i _=>PInv (l.take i)) (some (isP l)) (by simp[PInv]) ?_ ?_
 ·rintro _ again h
  rw[zam,isP_end h]
 ·rintro i hi _ inv again ha
  rw[cnd_lt hi]
  refine join_g fun k hk=>?_
  have kt:k (true,())=some false:=by subst hk; rfl
  have kf:k (false,())=again (((i+1:Nat):Int),()):=by rw[←i64_s i (by omega)]; subst hk; rfl
  clear hk
  rw[idx_w hi]
  by_cases h1:l[i].2.1=0
  ·rw[cnd_y (by simpa using h1),kt,ypq hi h1]
  ·rw[cnd_n (by simpa using h1)]
   by_cases h0:0<i
   ·rw[cnd_y (decide_eq_true (by omega)),zgy i h0 (by rw[zat]; omega),idx_w (by omega),idx_w hi,zaa (zyf _ _)]
    by_cases h2:ltA (l[i - 1]'(by omega)).1 l[i].1
    ·rw[decide_eq_true h2]
     exact kf.trans (ha _ (zyn hi inv h1 fun _=>h2))
    ·rw[decide_eq_false h2,ypp hi h0 h2]; exact kt
   ·rw[cnd_n (decide_eq_false (by omega))]
    exact kf.trans (ha _ (zyn hi inv h1 fun h=>absurd h h0))
theorem eqA(a b:AUnit'):(a.1==b.1&&a.2.1==b.2.1)=decide (a=b):=by
 by_cases h:a=b
 ·subst h; simp
 ·rw[decide_eq_false h]
  cases hc:(a.1==b.1&&a.2.1==b.2.1) with
  |false=>rfl
  |true=>simp only[Bool.and_eq_true,beq_iff_eq]at hc; exact absurd (extA hc.1 hc.2) h
def getP:List AFlow'→AUnit'→Int
 |[],_=>0
 |x::l,u=>if x.1=u then x.2.1 else getP l u
theorem ymg{l:List AFlow'}{u:AUnit'}(hl:l.length≤1000000):zfo l u=some (getP l u):=by
 show zot stdW l u=_
 unfold zot
 refine zde (l:=l) (by omega) (fun _ _=>True) (fun l _=>some (getP l u)) trivial ?_ ?_
 ·rintro _ again _
  rw[zam]; rfl
 ·rintro i hi _ _ again ha
  rw[cnd_lt hi,idx_w hi,nif_f,eqA]
  unfold getP
  by_cases h:l[i].1=u
  ·rw[cnd_y (decide_eq_true h),if_pos h,idx_w hi]
  ·rw[cnd_n (decide_eq_false h),if_neg h,i64_s i (by omega)]
   exact ha _ trivial
def amt(x:AFlow'):Int:=x.2.1
def okF(l:List AFlow'):Prop:=∀x∈l,I64 (amt x)
theorem sumA_in{l:List AFlow'}(h:okF l) : -(9223372036854775808*(l.length:Int))≤sumBy amt l∧sumBy amt l≤9223372036854775808*(l.length:Int):=
 zxv fun x hx=>by have:=h x hx; unfold I64 at this; omega
theorem ynx{l:List AFlow'}(h:okF l)(hl:l.length≤1000000):sml (sumBy amt l)∧In128 (sumBy amt l):=by
 have:=sumA_in h; unfold sml In128; omega
theorem okF.take{l:List AFlow'}(h:okF l)(i:Nat):okF (l.take i):=fun x hx=>h x (List.mem_of_mem_take hx)
theorem r_addB{a b:Int}(ha:sml a)(hb:sml b):zbs (big a) (big b)=some (big (a+b)):=by
 unfold sml at*
 have:=r_add (nb_big a) (nb_big b) (Nat.le_trans (zgg ha) (by decide)) (Nat.le_trans (zgg hb) (by decide))
 rwa [bv_big,bv_big]at this
theorem big0:big 0=(false,([],())):=by unfold big; simp[bits0]
theorem ybn{n:Int}(h:I64 n):sml n:=by unfold I64 at h; unfold sml; omega
theorem yjn{l:List AFlow'}(h:okF l)(hl:l.length≤1000000):zcc l=some (big (sumBy amt l)):=by
 show zib stdW l=_
 unfold zib
 refine loop_n (N:=l.length) (by omega) (fun i s=>s=big (sumBy amt (l.take i))) (some (big (sumBy amt l))) (by rw[List.take_zero,zzw,big0]) ?_ ?_
 ·rintro _ again rfl
  rw[zam,List.take_length]
 ·rintro i hi _ rfl again ha
  have h1:=(ynx (h.take i) (by rw[List.length_take]; omega)).1
  have h2:=h _ (List.getElem_mem hi)
  rw[cnd_lt hi]
  refine join_g fun k hk=>?_
  have kk:∀v:BigT,k (v.1,(v.2.1,()))=again (((i+1:Nat):Int),v):=by intro v; rw[←i64_s i (by omega)]; subst hk; rfl
  clear hk
  rw[idx_w hi,both_w,zaa (r_of (n:=l[i].2.1) h2)]
  show stdW.call (zbs (big (sumBy amt (l.take i))) (big (l[i].2.1))) _=_
  rw[zaa (r_addB (b:=l[i].2.1) h1 (ybn h2)),kk]
  refine ha _ ?_
  rw[ydq _ _ _ hi]; rfl
def ofFlow(u:AUnit')(x:AFlow'):Bool:=decide (x.1=u)
def amts(l:List AFlow')(u:AUnit'):List Int:=(l.filter (ofFlow u)).map amt
def sumU(l:List AFlow')(u:AUnit'):Int:=(amts l u).sum
theorem yih(l:List AFlow')(u:AUnit'):(amts l u).length≤l.length:=by
 unfold amts; rw[List.length_map]; exact List.length_filter_le _ _
theorem amts_ok{l:List AFlow'}(h:okF l)(u:AUnit'):∀x∈amts l u,I64 x:=by
 intro x hx
 obtain⟨y,hy,rfl⟩:=List.mem_map.1 hx
 exact h y (List.mem_filter.1 hy).1
theorem ycl(l:List AFlow')(u:AUnit')(i:Nat)(h:i<l.length):amts (l.take (i+1)) u=amts (l.take i) u++(if l[i].1=u then [l[i].2.1] else []):=by
 unfold amts
 rw[ynf _ _ _ h,List.map_append]
 unfold ofFlow
 by_cases hu:l[i].1=u<;>simp[hu,amt]
theorem r_amounts{l:List AFlow'}{u:AUnit'}(hl:l.length≤1000000):zlp l u=some (amts l u):=by
 show zgf stdW l u=_
 unfold zgf
 refine loop_n (N:=l.length) (by omega) (fun i s=>s=(amts (l.take i) u,())) (some (amts l u)) rfl ?_ ?_
 ·rintro _ again rfl
  rw[zam,List.take_length]
 ·rintro i hi _ rfl again ha
  rw[cnd_lt hi]
  refine join_g fun k hk=>?_
  have kk:∀v:List Int,k (v,())=again (((i+1:Nat):Int),(v,())):=by intro v; rw[←i64_s i (by omega)]; subst hk; rfl
  clear hk
  have hlen:=yih (l.take i) u
  rw[List.length_take]at hlen
  rw[idx_w hi,nif_f,eqA]
  by_cases h:l[i].1=u
  ·rw[cnd_y (decide_eq_true h),room_w (by simp; omega) (by simp; omega),kk]
   refine ha _ ?_
   rw[ycl _ _ _ hi,if_pos h]
  ·rw[cnd_n (decide_eq_false h),kk]
   refine ha _ ?_
   rw[ycl _ _ _ hi,if_neg h,List.append_nil]
def payGo(all:List AFlow'):List AUnit'→List AFlow'→List AFlow'×Int×Unit
 |[],acc=>(acc,0,())
 |u::us,acc=>if I64 (sumU all u) then (if sumU all u≠0 then payGo all us (acc++[(u,sumU all u,())]) else payGo all us acc) else ([],7,())
def payP(l fl:List AFlow'):List AFlow'×Int×Unit:=if isP l=true then payGo (l++fl) (zci (l++fl)) [] else ([],3,())
theorem zsb(l:List AFlow'):(zci l).length≤l.length:=by
 unfold zci
 rw[List.length_map,ylv]
 exact Nat.le_trans (ynt _) (by simp)
theorem r_pay{l fl:List AFlow'}(h:okF l)(hf:okF fl)(hl:l.length+fl.length≤1000000):znq l fl=some (payP l fl):=by
 show zpj stdW l fl=_
 unfold zpj payP
 rw[zaa (r_is (by omega))]
 by_cases hp:isP l=true
 ·rw[hp,cnd_n (by decide),if_pos rfl]
  have hall:okF (l++fl):=fun x hx=>(List.mem_append.1 hx).elim (h x) (hf x)
  have e1:zwl (l::(fl::[]))=some (l++fl):=by
   unfold zwl
   rw[show (l::(fl::[])).flatten=l++fl by simp,if_pos (by rw[List.length_append]; omega)]
  have hlen:(l++fl).length≤1000000:=by rw[List.length_append]; exact hl
  have e2:namedO (l++fl)=some (zci (l++fl)):=by unfold namedO; rw[if_pos (by omega)]
  rw[zaa e1,zaa e2]
  have hul:=zsb (l++fl)
  generalize l++fl=all at*
  generalize zci all=us at*
  refine zde (l:=us) (by omega) (fun i (s:List AUnit'×List AFlow'×Unit)=>s.1=us∧s.2.1.length≤i) (fun us' (s:List AUnit'×List AFlow'×Unit)=>some (payGo all us' s.2.1)) ⟨rfl,Nat.le_refl _⟩ ?_ ?_
  ·rintro⟨_,acc,⟨⟩⟩ again ⟨rfl,_⟩
   rw[zam]; rfl
  ·rintro i hi ⟨us',acc,⟨⟩⟩ ⟨hus,hacc⟩ again ha
   have hus:us=us':=hus.symm
   subst hus
   simp only at hacc
   rw[cnd_lt hi]
   refine join_g fun k hk=>?_
   have kk:∀v:List AFlow',k (us,(v,()))=again (((i+1:Nat):Int),(us,(v,()))):=by intro v; rw[←i64_s i (by omega)]; subst hk; rfl
   clear hk
   show stdW.idx us (i:Int) _=_
   rw[idx_w hi]
   show stdW.nth us (Int.toNat (i:Int)) _=_
   rw[nth_w hi,zaa (r_amounts hlen)]
   show _=some (payGo all (us[i]::us.drop (i+1)) acc)
   rw[payGo]
   have e3:=r_fSum (amts_ok hall us[i]) (Nat.le_trans (yih _ _) hlen)
   change zwg (amts all us[i])=some (if I64 (sumU all us[i]) then (sumU all us[i],0,()) else (0,7,())) at e3
   by_cases hI:I64 (sumU all us[i])
   ·rw[if_pos hI]at e3
    rw[if_pos hI,zaa e3]
    show stdW.cnd ((0:Int) != 0) _ (stdW.cnd (sumU all us[i] != 0) (stdW.room (acc.length+1) 24 (k (us,(acc++[(us[i],sumU all us[i],())],())))) (k (us,(acc,()))))=_
    rw[cnd_n (by decide)]
    by_cases h0:sumU all us[i]=0
    ·rw[if_neg (by simp[h0]),cnd_n (by simp[h0])]
     exact(kk acc).trans (ha _ ⟨rfl,by simp only; omega⟩)
    ·rw[if_pos h0,cnd_y (by simp[h0]),room_w (by omega) (by omega)]
     exact(kk (acc++[(us[i],sumU all us[i],())])).trans (ha _ ⟨rfl,by simp; omega⟩)
   ·rw[if_neg hI]at e3
    rw[if_neg hI,zaa e3]
    show stdW.cnd ((7:Int) != 0) (some ([],(7,()))) _=_
    rw[cnd_y (by decide)]
 ·have hp:isP l=false:=by simpa using hp
  rw[hp,cnd_y (by decide),if_neg (by simp)]
theorem not_i(a:Int)(h : -9223372036854775808≤a∧a≤9223372036854775807):bits .xor .i64 (-1) a = -1 - a:=by
 have e1:BitVec.ofInt 64 (-1)=BitVec.allOnes 64:=by decide
 show IntKind.i64.wrap (((BitVec.ofInt 64 (-1) ^^^ BitVec.ofInt 64 a).toNat:Nat):Int)=_
 rw[e1,BitVec.allOnes_xor,BitVec.toNat_not,BitVec.toNat_ofInt,IntKind.wrap_i64]
 have:(2:Int) ^ 64=18446744073709551616:=by decide
 omega
theorem not_u(a:Int)(h:0≤a∧a<18446744073709551616):bits .xor .u64 18446744073709551615 a=18446744073709551615 - a:=by
 have e1:BitVec.ofInt 64 18446744073709551615=BitVec.allOnes 64:=by decide
 show IntKind.u64.wrap (((BitVec.ofInt 64 18446744073709551615 ^^^ BitVec.ofInt 64 a).toNat:Nat):Int)=_
 rw[e1,BitVec.allOnes_xor,BitVec.toNat_not,BitVec.toNat_ofInt,IntKind.wrap_u64]
 have:(2:Int) ^ 64=18446744073709551616:=by decide
 omega
theorem r_wSub{a b:Int}(ha:In128 a)(hb:In128 b):yfn (wide a) (wide b)=some (fit (a - b)):=by
 show zrt stdW (wide a) (wide b)=_
 unfold zrt
 have ha':=ha
 have hb':=hb
 unfold In128 at ha' hb'
 have t0:InTot 0:=by unfold InTot; omega
 have t1:InTot a:=by unfold InTot; omega
 have t2:InTot (a+(-b - 1)):=by unfold InTot; omega
 have t3:InTot (a - b):=by unfold InTot; omega
 have s1:zch (wide a) 0 0 0=some ((),totT a):=by
  have:=r_tadd 0 (wide a) t0 (znd a ha)
  rw[znc,Int.zero_add]at this
  exact this
 rw[zaa s1]
 have ec:(bits .xor .i64 (if true=true then (-1) else (if true=true then ((2 ^ ((IntKind.bits .i64) - 1)) - 1) else ((2 ^ (IntKind.bits .i64)) - 1))) (wide b).1,bits .xor .u64 (if false=true then (-1) else (if false=true then ((2 ^ ((IntKind.bits .u64) - 1)) - 1) else ((2 ^ (IntKind.bits .u64)) - 1))) (wide b).2.1,())=wide (-b - 1):=by
  have c1:(if false=true then (-1:Int) else (if false=true then ((2 ^ ((IntKind.bits .u64) - 1)) - 1) else ((2 ^ (IntKind.bits .u64)) - 1)))=18446744073709551615:=by decide
  rw[c1,if_pos rfl]
  unfold wide
  show (bits .xor .i64 (-1) (b / 18446744073709551616),bits .xor .u64 18446744073709551615 (b % 18446744073709551616),())=_
  rw[not_i _ (by omega),not_u _ (by omega)]
  refine Prod.ext ?_ (Prod.ext ?_ rfl)
  ·show -1 - b / 18446744073709551616=(-b - 1) / 18446744073709551616; omega
  ·show 18446744073709551615 - b % 18446744073709551616=(-b - 1) % 18446744073709551616; omega
 have s2:=r_tadd a (wide (-b - 1)) t1 (znd _ (by unfold In128; omega))
 rw[znc]at s2
 show stdW.call (zch _ (totT a).1 (totT a).2.1 (totT a).2.2.1) _=_
 rw[ec,zaa s2,zaa (r_wOf 1 (by unfold I64; omega))]
 have s3:=r_tadd (a+(-b - 1)) (wide 1) t2 (znd _ (by unfold In128; omega))
 rw[znc,show a+(-b - 1)+1=a - b by omega]at s3
 show stdW.call (zch (wide 1) (totT (a+(-b - 1))).1 (totT (a+(-b - 1))).2.1 (totT (a+(-b - 1))).2.2.1) _=_
 rw[zaa s3]
 show stdW.call (zdx (totT (a - b)).1 (totT (a - b)).2.1 (totT (a - b)).2.2.1) _=_
 rw[zaa (r_tdone _ t3)]
theorem r_fSub{a b:Int}(ha:I64 a)(hb:I64 b):zwh a b=some (fits64 (a - b)):=by
 show zyy stdW a b=_
 unfold zyy
 have hd:In128 (a - b):=by unfold I64 at ha hb; unfold In128; omega
 have e:fit (a - b)=(wide (a - b),0,()):=if_pos hd
 rw[zaa (r_wOf a ha),zaa (r_wOf b hb),zaa (r_wSub (zrh ha) (zrh hb)),e]
 show stdW.call (zjv (wide (a - b)) 0) _=_
 rw[zaa (yjp hd)]
def moveP(l:List AFlow')(f t:AUnit')(n:Int):List AFlow'×Int×Unit:=
 if I64 (-n) then payP l [(f,(-n,())),(t,(n,()))] else if isP l=true then ([],(7,())) else ([],(3,()))
theorem r_move{l:List AFlow'}{f t:AUnit'}{n:Int}(h:okF l)(hn:I64 n)(hl:l.length≤1000):zhd l f t n=some (moveP l f t n):=by
 show zlq stdW l f t n=_
 unfold zlq moveP
 have e:=r_fSub (a:=0) (b:=n) (by unfold I64; omega) hn
 rw[Int.zero_sub]at e
 unfold fits64 at e
 by_cases hI:I64 (-n)
 ·rw[if_pos hI]at e
  rw[if_pos hI,zaa e]
  refine join_g fun k hk=>?_
  show stdW.cnd ((0:Int) != 0) _ _=_
  rw[cnd_n (by decide)]
  subst hk
  show stdW.cnd false _ (stdW.call (znq l [(f,(-n,())),(t,(n,()))]) _)=_
  rw[cnd_n rfl,zaa (r_pay h (by
   intro x hx
   simp only[List.mem_cons,List.not_mem_nil,or_false]at hx
   rcases hx with rfl|rfl
   ·exact hI
   ·exact hn) (by simp; omega))]
 ·rw[if_neg hI]at e
  rw[if_neg hI,zaa e]
  refine join_g fun k hk=>?_
  show stdW.cnd ((7:Int) != 0) _ _=_
  rw[cnd_y (by decide),zaa (r_is (by omega))]
  subst hk
  by_cases hp:isP l=true
  ·rw[hp,if_pos rfl]; rfl
  ·have hp:isP l=false:=by simpa using hp
   rw[hp,if_neg (by simp)]
   show stdW.cnd false _ (stdW.call (znq l _) _)=_
   unfold I64 at hI hn
   have hn2:n = -9223372036854775808:=by omega
   rw[cnd_n rfl,zaa (r_pay h (by
    intro x hx
    simp only[List.mem_cons,List.not_mem_nil,or_false]at hx
    rcases hx with rfl|rfl
    ·show I64 0; unfold I64; omega
    ·show I64 n; unfold I64; omega) (by simp; omega))]
   unfold payP
   rw[hp,if_neg (by simp)]
theorem eqF(a b:AFlow'):(a.1.1==b.1.1&&(a.1.2.1==b.1.2.1&&a.2.1==b.2.1))=decide (a=b):=by
 by_cases h:a=b
 ·subst h; simp
 ·rw[decide_eq_false h]
  cases hc:(a.1.1==b.1.1&&(a.1.2.1==b.1.2.1&&a.2.1==b.2.1)) with
  |false=>rfl
  |true=>
   simp only[Bool.and_eq_true,beq_iff_eq]at hc
   exact absurd (Prod.ext (extA hc.1 hc.2.1) (Prod.ext hc.2.2 rfl)) h
theorem r_same{a:List AFlow'}(hl:a.length≤1000000):zor a a=some true:=by
 show zkx stdW a a=_
 unfold zkx
 rw[cnd_n (by simp)]
 refine loop_n (N:=a.length) (by omega) (fun _ _=>True) (some true) trivial ?_ ?_
 ·rintro _ again _
  rw[zam]
 ·rintro i hi _ _ again ha
  rw[cnd_lt hi,idx_w hi,idx_w hi,nif_t,eqF,cnd_n (by simp),i64_s i (by omega)]
  exact ha _ trivial
theorem yat(all:List AFlow'):∀(us:List AUnit') (acc:List AFlow'),(payGo all us acc).1.length≤acc.length+us.length
 |[],acc=>by simp[payGo]
 |u::us,acc=>by
  unfold payGo
  split
  ·split
   ·have:=yat all us (acc++[(u,sumU all u,())]); simp at this ⊢; omega
   ·have:=yat all us acc; simp at this ⊢; omega
  ·simp
theorem payP_len(l f:List AFlow'):(payP l f).1.length≤l.length+f.length:=by
 unfold payP
 split
 ·have:=yat (l++f) (zci (l++f)) []
  have h2:=zsb (l++f)
  simp at this h2 ⊢; omega
 ·simp
theorem r_few17(l:List AFlow')(hl:l.length≤9223372036854775807):zny l=some (l.take 20):=by
 show zpv stdW l=_
 unfold zpv
 by_cases h:20<l.length
 ·rw[cnd_y (decide_eq_true (by omega)),bnd_w (by omega) (by omega)]; rfl
 ·rw[cnd_n (decide_eq_false (by omega)),List.take_of_length_le (by omega)]
theorem okD_flows{l:DT.den (.slc tAFlow)}(h:DT.okD (.slc tAFlow) l):okF l∧l.length≤9223372036854775807:=by
 refine⟨fun x hx=>wf_i64 (h.1 x hx).2.1,?_⟩
 have:=h.2
 rwa [zat]at this
theorem ymp{X β:Type}{N:Nat}(hN:N<9223372036854775808){f:X→(X→Option β)→Option β}(st:Nat→X)(r:Option β)
  (hend:∀again:X→Option β,f (st N) again=r) (hstep:∀i,i<N→∀again:X→Option β,again (st (i+1))=r→f (st i) again=r):stdW.loop f (st 0)=r:=by
 have key:∀n i,i≤N→N - i<n→loopF n f (st i)=r:=by
  intro n
  induction n with
  |zero=>intro i _ h; omega
  |succ n ih=>
   intro i hi hn
   show f (st i) (loopF n f)=r
   by_cases h:i<N
   ·exact hstep i h _ (ih (i+1) (by omega) (by omega))
   ·have:i=N:=by omega
    subst this; exact hend _
 show loopF FU f (st 0)=r
 exact key FU 0 (Nat.zero_le _) (by rw[FU_eq]; omega)
def insL(l:List AFlow'):List AUnit':=l.foldl (fun a x=>insA x.1 a) []
theorem insL_srt(l:List AFlow'):SrtA (insL l):=(ymy l [] List.Pairwise.nil).1
theorem yek(l:List AFlow'):insL l=zci l:=ykr l
theorem insL_len(l:List AFlow'):(insL l).length≤l.length:=by rw[yek]; exact zsb l
theorem insL_step(l:List AFlow')(i:Nat)(h:i<l.length):insL (l.take (i+1))=insA l[i].1 (insL (l.take i)):=by
 unfold insL
 rw[List.take_succ_eq_append_getElem h,List.foldl_append]; rfl
theorem r_units{l:List AFlow'}(hl:l.length≤1000000):zqx l=some (zci l):=by
 show zia stdW l=_
 unfold zia
 refine ymp (N:=l.length) (by omega) (fun i=>(insL (l.take i),((i:Int),()))) (some (zci l)) ?_ ?_
 ·intro again
  show stdW.cnd (decide ((l.length:Int)<(l.length:Int))) _ _=_
  rw[zam,List.take_length,yek]
 ·intro i hi again ha
  show stdW.cnd (decide ((i:Int)<(l.length:Int))) _ _=_
  rw[cnd_lt hi]
  refine join_g fun k hk=>?_
  have kk:k (insL (l.take (i+1)),())=some (zci l):=by
   subst hk
   show again (insL (l.take (i+1)),(IntKind.i64.wrap ((i:Int)+1),()))=_
   rw[i64_s i (by omega)]; exact ha
  clear hk ha
  show stdW.idx l (i:Int) _=_
  rw[idx_w hi]
  rw[insL_step l i hi]at kk
  have hs:=insL_srt (l.take i)
  have hlen:(insL (l.take i)).length≤1000000:=Nat.le_trans (insL_len _) (by rw[List.length_take]; omega)
  generalize insL (l.take i)=out at*
  generalize l[i].1=u at*
  refine ymp (N:=out.length) (by omega) (fun j=>((((lowU u (out.take j)).length:Nat):Int),(decide (u∈out.take j),((j:Int),())))) (some (zci l)) ?_ ?_
  ·intro again2
   show stdW.cnd (decide ((out.length:Int)<(out.length:Int))) _ (stdW.cnd (!decide (u∈out.take out.length)) (stdW.bnd (((lowU u (out.take out.length)).length:Nat):Int) out.length _) (k (out,())))=_
   rw[zam,List.take_length]
   obtain⟨e1,e2⟩:=yph hs u
   have hle:(lowU u out).length≤out.length:=List.length_filter_le _ _
   by_cases hu:u∈out
   ·rw[cnd_n (by simp[hu])]
    rw[insA,if_pos hu]at kk; exact kk
   ·rw[cnd_y (by simp[hu]),bnd_w (by omega) (by omega)]
    have l1:(out.take (lowU u out).length).length≤1000000:=by rw[List.length_take]; omega
    show stdW.room (out.take (lowU u out).length).length 16 (stdW.room ((out.take (lowU u out).length).length+1) 16 (stdW.bnd (((lowU u out).length:Nat):Int) out.length _))=_
    rw[room_w (by omega) (by omega),room_w (by omega) (by omega),bnd_w (by omega) (by omega)]
    show stdW.room ((out.take (lowU u out).length++[u]).length+(out.drop (lowU u out).length).length) 16 (k ((out.take (lowU u out).length++[u])++out.drop (lowU u out).length,()))=_
    rw[room_w (by simp only[List.length_append,List.length_drop,List.length_cons,List.length_nil]; omega) (by simp only[List.length_append,List.length_drop,List.length_cons,List.length_nil]; omega),e1,e2]
    rw[insA,if_neg hu]at kk
    rw[List.append_assoc]; exact kk
  ·intro j hj again2 ha2
   show stdW.cnd (decide ((j:Int)<(out.length:Int))) _ _=_
   rw[cnd_lt hj]
   refine join_g fun k9 hk9=>?_
   have k9k:∀a b,k9 (a,(b,()))=again2 (a,(b,(((j+1:Nat):Int),()))):=by
    intro a b; rw[←i64_s j (by omega)]; subst hk9; rfl
   clear hk9
   refine join_g fun k13 hk13=>?_
   have mem:decide (u∈out.take (j+1))=(decide (u∈out.take j)||decide (out[j]=u)):=by
    rw[List.take_succ_eq_append_getElem hj]
    rw[Bool.eq_iff_iff]
    simp only[decide_eq_true_eq,Bool.or_eq_true,List.mem_append,List.mem_singleton]
    exact or_congr_right ⟨fun h=>h.symm,fun h=>h.symm⟩
   have fin:∀b,b=decide (u∈out.take (j+1))→k13 (b,())=some (zci l):=by
    rintro _ rfl
    subst hk13
    show stdW.idx out (j:Int) _=_
    rw[idx_w hj,zaa (zyf _ _)]
    rw[low_step hs u j hj]at ha2
    by_cases hlt:ltA out[j] u
    ·rw[if_pos hlt]at ha2
     rw[decide_eq_true hlt,cnd_y rfl]
     show k9 (IntKind.i64.wrap ((j:Int)+1),_)=_
     rw[i64_s j (by omega)]
     exact(k9k _ _).trans ha2
    ·rw[if_neg hlt]at ha2
     rw[decide_eq_false hlt,cnd_n rfl]
     exact(k9k _ _).trans ha2
   clear hk13
   show stdW.cnd (decide (u∈out.take j)) (k13 (true,())) (stdW.idx out (j:Int) _)=_
   by_cases h1:u∈out.take j
   ·rw[cnd_y (decide_eq_true h1)]
    exact fin _ (by rw[mem]; simp[h1])
   ·rw[cnd_n (decide_eq_false h1),idx_w hj,nif_f,eqA]
    exact fin _ (by rw[mem]; simp[h1])
theorem zlw{X β:Type}{N:Nat}(hN:N<9223372036854775808){f:X→(X→Option β)→Option β}(st:Nat→X)(r:Option β){z0:X}(hz:z0=st 0)
  (hend:∀again:X→Option β,f (st N) again=r) (hstep:∀i,i<N→∀again:X→Option β,again (st (i+1))=r→f (st i) again=r):stdW.loop f z0=r:=by
 subst hz; exact ymp hN st r hend hstep
theorem sumU_take(l:List AFlow')(u:AUnit')(i:Nat)(h:i<l.length):sumU (l.take (i+1)) u=sumU (l.take i) u+(if l[i].1=u then l[i].2.1 else 0):=by
 unfold sumU
 rw[ycl _ _ _ h,List.sum_append]
 split<;>simp
theorem ynw{l:List AFlow'}(h:okF l)(u:AUnit')(hl:l.length≤1000000):sml (sumU l u):=by
 have h1:=sum_in (amts_ok h u)
 have h2:=yih l u
 unfold sumU sml; omega
theorem r_pay17{l fl:List AFlow'}(h:okF l)(hf:okF fl)(hl:l.length+fl.length≤1000000):zsn l fl=some (payP l fl):=by
 show zos stdW l fl=_
 unfold zos payP
 rw[zaa (r_is17 (by omega))]
 by_cases hp:isP l=true
 ·rw[hp,cnd_n (by decide),if_pos rfl,room_w (by omega) (by omega),room_w (by omega) (by omega)]
  have hall:okF (l++fl):=fun x hx=>(List.mem_append.1 hx).elim (h x) (hf x)
  have hlen:(l++fl).length≤1000000:=by rw[List.length_append]; exact hl
  rw[zaa (r_units hlen)]
  have hul:=zsb (l++fl)
  generalize l++fl=all at*
  generalize zci all=us at*
  refine zde (l:=us) (by omega) (fun i (s:List AFlow'×Unit)=>s.1.length≤i) (fun us' (s:List AFlow'×Unit)=>some (payGo all us' s.1)) (Nat.le_refl _) ?_ ?_
  ·rintro⟨acc,⟨⟩⟩ again _
   rw[zam]; rfl
  ·rintro i hi ⟨acc,⟨⟩⟩ hacc again ha
   simp only at hacc
   rw[cnd_lt hi]
   refine join_g fun k hk=>?_
   have kk:∀v:List AFlow',v.length≤i+1→k (v,())=some (payGo all (us.drop (i+1)) v):=by
    intro v hv
    subst hk
    show again (IntKind.i64.wrap ((i:Int)+1),(v,()))=_
    rw[i64_s i (by omega)]
    exact ha (v,()) hv
   clear hk ha
   show _=some (payGo all (us[i]::us.drop (i+1)) acc)
   rw[payGo]
   refine zlw (N:=all.length) (by omega) (fun j=>(((j:Nat):Int),((big (sumU (all.take j) us[i])).1,((big (sumU (all.take j) us[i])).2.1,(acc,()))))) _ (by rw[List.take_zero,show sumU [] us[i]=0 from rfl,big0]; rfl) ?_ ?_
   ·intro again2
    show stdW.cnd (decide ((all.length:Int)<(all.length:Int))) _ (stdW.call (zfd (big (sumU (all.take all.length) us[i]))) _)=_
    rw[zam,List.take_length,zaa (r_fits (ynw hall us[i] hlen))]
    by_cases hI:I64 (sumU all us[i])
    ·rw[decide_eq_true hI,cnd_n (by decide),if_pos hI]
     have e:=r_int hI
     show stdW.call (zfq (big (sumU all us[i]))) _=_
     rw[zaa e]
     by_cases h0:sumU all us[i]=0
     ·rw[cnd_n (by simp[h0]),if_neg (by simp[h0])]
      exact kk acc (by omega)
     ·rw[cnd_y (by simp[h0]),if_pos h0]
      show stdW.idx us (i:Int) _=_
      rw[idx_w hi,zaa e]
      show stdW.room (acc.length+1) 24 (k (acc++[(us[i],sumU all us[i],())],()))=_
      rw[room_w (by omega) (by omega)]
      exact kk _ (by simp; omega)
    ·rw[decide_eq_false hI,cnd_y (by decide),if_neg hI]
   ·intro j hj again2 ha2
    show stdW.cnd (decide ((j:Int)<(all.length:Int))) _ _=_
    rw[cnd_lt hj]
    refine join_g fun k2 hk2=>?_
    have kk2:k2 ((big (sumU (all.take (j+1)) us[i])).1,((big (sumU (all.take (j+1)) us[i])).2.1,(acc,())))=again2 (((j+1:Nat):Int),((big (sumU (all.take (j+1)) us[i])).1,((big (sumU (all.take (j+1)) us[i])).2.1,(acc,())))):=by
     rw[←i64_s j (by omega)]; subst hk2; rfl
    rw[ha2]at kk2
    clear hk2 ha2
    show stdW.idx all (j:Int) _=_
    rw[idx_w hj]
    show stdW.idx us (i:Int) _=_
    rw[idx_w hi,nif_f,eqA]
    rw[sumU_take _ _ _ hj]at kk2
    by_cases hu:all[j].1=us[i]
    ·rw[if_pos hu]at kk2
     rw[cnd_y (decide_eq_true hu)]
     show stdW.idx all (j:Int) _=_
     have h2:I64 all[j].2.1:=hall _ (List.getElem_mem hj)
     rw[idx_w hj,both_w,zaa (r_of h2)]
     show stdW.call (zbs (big (sumU (all.take j) us[i])) (big all[j].2.1)) _=_
     rw[zaa (r_addB (ynw (hall.take j) us[i] (by rw[List.length_take]; omega)) (ybn h2))]
     exact kk2
    ·rw[if_neg hu,Int.add_zero]at kk2
     rw[cnd_n (decide_eq_false hu)]
     exact kk2
 ·have hp:isP l=false:=by simpa using hp
  rw[hp,cnd_y (by decide),if_neg (by simp)]
theorem r_cmpB{a b:Int}(ha:sml a)(hb:sml b):zbw (big a) (big b)=some (if a - b=0 then 0 else if a - b<0 then -1 else 1):=by
 unfold sml at*
 have:=r_cmp (nb_big a) (nb_big b) (Nat.le_trans (zgg ha) (by decide)) (Nat.le_trans (zgg hb) (by decide))
 rwa [bv_big,bv_big]at this
theorem ygt(all:List AFlow'):∀(us:List AUnit') (acc:List AFlow'),(payGo all us acc).2.1=0→
  (payGo all us acc).1=acc++(us.filter fun u=>decide (sumU all u≠0)).map (fun u=>(u,sumU all u,()))∧∀u∈us,I64 (sumU all u)
 |[],acc,_=>by simp[payGo]
 |u::us,acc,h=>by
  unfold payGo at h ⊢
  by_cases hI:I64 (sumU all u)
  ·rw[if_pos hI]at h ⊢
   by_cases h0:sumU all u≠0
   ·rw[if_pos h0]at h ⊢
    obtain⟨h1,h2⟩:=ygt all us _ h
    refine⟨?_,fun x hx=>?_⟩
    ·rw[h1,List.filter_cons,if_pos (by simpa using h0)]; simp
    ·rcases List.mem_cons.1 hx with rfl|hx
     ·exact hI
     ·exact h2 x hx
   ·rw[if_neg h0]at h ⊢
    obtain⟨h1,h2⟩:=ygt all us _ h
    refine⟨?_,fun x hx=>?_⟩
    ·rw[h1,List.filter_cons,if_neg (by simpa using h0)]
    ·rcases List.mem_cons.1 hx with rfl|hx
     ·exact hI
     ·exact h2 x hx
  ·rw[if_neg hI]at h; simp at h
theorem zhj(x:AFlow')(l:List AFlow')(u:AUnit'):sumU (x::l) u=(if x.1=u then amt x else 0)+sumU l u:=by
 unfold sumU amts ofFlow
 rw[List.filter_cons]
 by_cases h:x.1=u<;>simp[h]
theorem sumU_app(a b:List AFlow')(u:AUnit'):sumU (a++b) u=sumU a u+sumU b u:=by
 unfold sumU amts; rw[List.filter_append,List.map_append,List.sum_append]
theorem yix{l:List AFlow'}{u:AUnit'}(h:∀x∈l,x.1≠u):sumU l u=0:=by
 induction l with
 |nil=>rfl
 |cons x l ih=>rw[zhj,if_neg (h x (by simp)),ih fun y hy=>h y (by simp[hy])]; rfl
theorem one_of{us:List AUnit'}(hn:us.Nodup){v:AUnit'}(z:Int):sumBy (fun u=>if v=u then z else 0) us=if v∈us then z else 0:=by
 induction us with
 |nil=>rfl
 |cons u us ih=>
  obtain⟨h1,h2⟩:=List.nodup_cons.1 hn
  rw[zcu,ih h2]
  by_cases hv:v=u
  ·subst hv; rw[if_pos rfl,if_neg h1,if_pos (by simp)]; omega
  ·rw[if_neg hv]
   by_cases hm:v∈us
   ·rw[if_pos hm,if_pos (by simp[hm])]; omega
   ·rw[if_neg hm,if_neg (by simp[hm,hv])]; rfl
theorem sumBy_add{α:Type}(f g:α→Int)(l:List α):sumBy (fun x=>f x+g x) l=sumBy f l+sumBy g l:=by
 induction l with
 |nil=>rfl
 |cons x l ih=>rw[zcu,zcu,zcu,ih]; omega
theorem yiw:∀(l:List AFlow') {us:List AUnit'},us.Nodup→(∀x∈l,x.1∈us)→sumBy (sumU l) us=sumBy amt l
 |[],us,_,_=>by
  have:∀us:List AUnit',sumBy (sumU []) us=0:=by
   intro us; induction us with
   |nil=>rfl
   |cons u us ih=>rw[zcu,ih]; rfl
  rw[this]; rfl
 |x::l,us,hn,h=>by
  have e:sumU (x::l)=fun u=>(if x.1=u then amt x else 0)+sumU l u:=funext (zhj x l)
  rw[e,sumBy_add,one_of hn,if_pos (h x (by simp)),yiw l hn fun y hy=>h y (by simp[hy]),zcu]
def resP(all:List AFlow')(us:List AUnit'):List AFlow':=(us.filter fun u=>decide (sumU all u≠0)).map fun u=>(u,sumU all u,())
theorem srt_nd{us:List AUnit'}(h:SrtA us):us.Nodup:=List.Pairwise.imp (fun {a b} (hab:ltA a b) (e:a=b)=>by subst e; exact zex _ hab) h
theorem resP_sum(all:List AFlow'):sumBy amt (resP all (zci all))=sumBy amt all:=by
 have e:∀us:List AUnit',sumBy amt (resP all us)=sumBy (sumU all) us:=by
  intro us
  induction us with
  |nil=>rfl
  |cons u us ih=>
   unfold resP at ih ⊢
   rw[List.filter_cons,zcu,←ih]
   by_cases h:sumU all u=0
   ·rw[if_neg (by simp[h]),h]; omega
   ·rw[if_pos (by simp[h]),List.map_cons,zcu]; rfl
 rw[e,yiw all (srt_nd (zsa all)) fun x hx=>(zzt all x.1).2 ⟨x,hx,rfl⟩]
theorem resP_is{all:List AFlow'}{us:List AUnit'}(h:SrtA us):isP (resP all us)=true:=by
 refine decide_eq_true ⟨fun x hx=>?_,?_⟩
 ·obtain⟨u,hu,rfl⟩:=List.mem_map.1 hx
  simpa using(List.mem_filter.1 hu).2
 ·unfold resP
  rw[List.map_map]
  have:((fun x:AFlow'=>x.1) ∘ fun u=>((u,sumU all u,()):AFlow'))=id:=rfl
  rw[this,List.map_id]
  exact h.filter _
theorem getP_none{l:List AFlow'}{u:AUnit'}(h:∀x∈l,x.1≠u):getP l u=0:=by
 induction l with
 |nil=>rfl
 |cons x l ih=>rw[getP,if_neg (h x (by simp)),ih fun y hy=>h y (by simp[hy])]
theorem yhn:∀{l:List AFlow'},(l.map (·.1)).Nodup→∀u,getP l u=sumU l u
 |[],_,u=>rfl
 |x::l,h,u=>by
  obtain⟨h1,h2⟩:=List.nodup_cons.1 h
  rw[getP,zhj]
  by_cases hu:x.1=u
  ·rw[if_pos hu,if_pos hu,yix fun y hy e=>h1 (List.mem_map.2 ⟨y,hy,e.trans hu.symm⟩)]
   show amt x=_; omega
  ·rw[if_neg hu,if_neg hu,yhn h2]; omega
theorem isP_nd{l:List AFlow'}(h:isP l=true):(l.map (·.1)).Nodup:=srt_nd (of_decide_eq_true h).2
theorem resP_get(all:List AFlow')(u:AUnit'):getP (resP all (zci all)) u=sumU all u:=by
 by_cases h0:sumU all u=0
 ·rw[h0]
  refine getP_none fun x hx e=>?_
  obtain⟨v,hv,rfl⟩:=List.mem_map.1 hx
  have:=(List.mem_filter.1 hv).2
  simp only[decide_eq_true_eq]at this
  exact this (by rw[show v=u from e]; exact h0)
 ·rw[yhn (isP_nd (resP_is (zsa all)))]
  have hu:u∈zci all:=by
   rw[zzt]
   by_cases hx:∃x∈all,x.1=u
   ·exact hx
   ·exact absurd (yix fun x hx' e=>hx ⟨x,hx',e⟩) h0
  have key:∀us:List AUnit',us.Nodup→sumU (resP all us) u=if u∈us then sumU all u else 0:=by
   intro us
   induction us with
   |nil=>intro _; rfl
   |cons v us ih=>
    intro hn
    obtain⟨h1,h2⟩:=List.nodup_cons.1 hn
    have ih:=ih h2
    unfold resP at ih ⊢
    rw[List.filter_cons]
    by_cases hv:v=u
    ·subst hv
     rw[if_pos (by simpa using h0),List.map_cons,zhj,ih,if_neg h1,if_pos rfl,if_pos (by simp)]
     show sumU all v+0=_; omega
    ·have e:(if u∈v::us then sumU all u else 0)=if u∈us then sumU all u else 0:=by
      by_cases hm:u∈us
      ·rw[if_pos hm,if_pos (by simp[hm])]
      ·rw[if_neg hm,if_neg (by simp[hm,Ne.symm hv])]
     rw[e,←ih]
     by_cases hz:sumU all v=0
     ·rw[if_neg (by simp[hz])]
     ·rw[if_pos (by simp[hz]),List.map_cons,zhj,if_neg hv]; omega
  rw[key _ (srt_nd (zsa all)),if_pos hu]
theorem payP_ok{l f:List AFlow'}(h:(payP l f).2.1=0):isP l=true∧(payP l f).1=resP (l++f) (zci (l++f))∧∀u∈zci (l++f),I64 (sumU (l++f) u):=by
 unfold payP at h ⊢
 by_cases hp:isP l=true
 ·rw[if_pos hp]at h ⊢
  obtain⟨h1,h2⟩:=ygt _ _ _ h
  exact⟨hp,by rw[h1,List.nil_append]; rfl,h2⟩
 ·rw[if_neg hp]at h; simp at h
theorem resP_ok{all:List AFlow'}{us:List AUnit'}(h:∀u∈us,I64 (sumU all u)):okF (resP all us):=by
 intro x hx
 obtain⟨u,hu,rfl⟩:=List.mem_map.1 hx
 exact h u (List.mem_filter.1 hu).1
end Go.Proofs.YtllkmncnmlmefaaGreat
namespace Go.Proofs.YtllkmncnmlmefaaGreat
open Go Go.Vc Go.RowKit
end Go.Proofs.YtllkmncnmlmefaaGreat

namespace Go.Proofs.YtllkmncnmlmefaaGreat
open Go Go.Vc Go.RowKit
def szOf(z:Int):ycp:=(z / 18446744073709551616,z % 18446744073709551616,())
def w128(z:Int):zao:=(IntKind.i64.wrap (z / 18446744073709551616),z % 18446744073709551616,())
theorem w128_in(z:Int)(h:In128 z):w128 z=wide z:=by
 unfold In128 at h; unfold w128 wide; rw[IntWalk.i64_in _ (by omega)]
def absI(z:Int):Int:=if z<0 then -z else z
theorem zqz(w:zao):zbz w=some (decide (w.1<0)):=rfl
theorem r_size(x:zao)(hx:wOk x):zdv x=some (szOf (absI (wv x))):=by
 unfold wOk at hx
 show zfg stdW x=_
 unfold zfg
 rw[zaa (zqz _)]
 by_cases h:x.1<0
 ·rw[cnd_n (by simp[h]),zaa (zxw (by omega) (by omega) (by omega) (by omega) (by omega)),zaa (zxw (by omega) (by rw[IntKind.wrap_u64]; omega) (by rw[IntKind.wrap_u64]; omega) (by dsimp only; split<;>omega) (by dsimp only; split<;>omega))]
  unfold szOf absI wv
  refine congrArg some (Prod.ext ?_ (Prod.ext ?_ rfl))
  ·dsimp only; rw[IntKind.wrap_u64]; split<;>split<;>omega
  ·dsimp only; split<;>omega
 ·rw[cnd_y (by simp[h])]
  unfold szOf absI wv
  refine congrArg some (Prod.ext ?_ (Prod.ext ?_ rfl))
  ·dsimp only; rw[IntKind.wrap_u64]; split<;>omega
  ·dsimp only; split<;>omega
theorem lo_fits(z:Int)(hz:0≤z∧z<340282366920938463463374607431768211456)(h:z / 18446744073709551616=9223372036854775808):((z % 18446744073709551616)==0)=decide (In128 (-z)):=by
 by_cases h0:z % 18446744073709551616=0
 ·have:In128 (-z):=by unfold In128; omega
  rw[decide_eq_true this]; simp[h0]
 ·have:¬In128 (-z):=by unfold In128; omega
  rw[decide_eq_false this]; simp[h0]
theorem signed_raw(hi lo:Int)(m:Bool):zbr (hi,lo,()) m=(
  stdW.cnd (!m) (some (((IntKind.i64.wrap hi),lo,()),((decide (hi<9223372036854775808)),())))
  (stdW.call (sub64 0 lo 0) fun v1=>stdW.call (sub64 0 hi v1.2.1) fun v2=>
  stdW.cnd (decide (hi<9223372036854775808)) (some (((IntKind.i64.wrap v2.1),(v1.1,())),(true,())))
   (
   stdW.cnd (hi==9223372036854775808) (some (((IntKind.i64.wrap v2.1),(v1.1,())),((lo==0),())))
   (some (((IntKind.i64.wrap v2.1),(v1.1,())),(false,())))))):=rfl
theorem yol(z:Int)(m:Bool)(hz:0≤z∧z<340282366920938463463374607431768211456):zbr (szOf z) m=some (w128 (if m=true then -z else z),decide (In128 (if m=true then -z else z)),()):=by
 unfold szOf
 rw[signed_raw]
 cases m
 ·rw[cnd_y (by rfl)]
  simp only[Bool.false_eq_true,if_false]
  unfold w128
  congr 3
  unfold In128; apply decide_eq_decide.2; omega
 ·rw[cnd_n (by rfl),zaa (zxw (by omega) (by omega) (by omega) (by omega) (by omega)),zaa (zxw (by omega) (by omega) (by omega) (by dsimp only; split<;>omega) (by dsimp only; split<;>omega))]
  have e:((IntKind.i64.wrap ((0 - z / 18446744073709551616 - (if 0<z % 18446744073709551616+0 then 1 else 0)) % 18446744073709551616),((0 - z % 18446744073709551616 - 0) % 18446744073709551616,())):zao)=w128 (-z):=by
   rw[zux]; unfold w128
   refine Prod.ext ?_ (Prod.ext ?_ rfl)
   ·dsimp only; congr 1; split<;>omega
   ·dsimp only; omega
  show _=some (w128 (-z),decide (In128 (-z)),())
  rw[←e]
  by_cases h1:z / 18446744073709551616<9223372036854775808
  ·rw[cnd_y (decide_eq_true h1)]
   have:In128 (-z):=by unfold In128; omega
   rw[decide_eq_true this]
  ·rw[cnd_n (decide_eq_false h1)]
   by_cases h2:z / 18446744073709551616=9223372036854775808
   ·rw[cnd_y (by simp[h2]),lo_fits z hz h2]
   ·rw[cnd_n (by simp[h2])]
    have:¬In128 (-z):=by unfold In128; omega
    rw[decide_eq_false this]
theorem and32(a:Int)(h:0≤a∧a<18446744073709551616):bits .and .u64 a 4294967295=a % 4294967296:=by
 obtain⟨n,rfl⟩:=Int.eq_ofNat_of_zero_le h.1
 show IntKind.u64.wrap (((BitVec.ofInt 64 ((n:Nat):Int) &&& BitVec.ofInt 64 4294967295).toNat:Nat):Int)=_
 rw[BitVec.toNat_and,BitVec.toNat_ofInt,BitVec.toNat_ofInt]
 have e1:(((n:Nat):Int) % ((2 ^ 64:Nat):Int)).toNat=n:=by
  have:((2 ^ 64:Nat):Int)=18446744073709551616:=by decide
  omega
 have e2:((4294967295:Int) % ((2 ^ 64:Nat):Int)).toNat=2 ^ 32 - 1:=by decide
 rw[e1,e2,Nat.and_two_pow_sub_one_eq_mod,IntKind.wrap_u64]
 have:(2:Nat) ^ 32=4294967296:=by decide
 rw[this]; omega
theorem fdiv32(a:Int)(_:0≤a):Int.fdiv a (2 ^ (Min.min (Int.toNat 32) (IntKind.bits .u64)))=a / 4294967296:=by
 have e:(2:Int) ^ (Min.min (Int.toNat 32) (IntKind.bits .u64))=4294967296:=by decide +kernel
 rw[e,Int.fdiv_eq_ediv_of_nonneg _ (by omega)]
theorem mul_bd{a b:Int}(ha:0≤a∧a<4294967296)(hb:0≤b∧b<4294967296):0≤a*b∧a*b≤18446744065119617025:=by
 refine⟨Int.mul_nonneg ha.1 hb.1,?_⟩
 have h1:a*b≤4294967295*b:=Int.mul_le_mul_of_nonneg_right (by omega) hb.1
 omega
theorem yme{x y:Int}(hx:0≤x∧x<18446744073709551616)(hy:0≤y∧y<18446744073709551616):zda x y=some (x*y / 18446744073709551616,x*y % 18446744073709551616,()):=by
 show zen stdW x y=_
 unfold zen
 rw[nn_w (by omega),nn_w (by omega),nn_w (by omega),nn_w (by omega),nn_w (by omega)]
 simp only[fdiv32 x hx.1,fdiv32 y hy.1,and32 x hx,and32 y hy]
 have hx1:0≤x / 4294967296∧x / 4294967296<4294967296:=by omega
 have hx0:0≤x % 4294967296∧x % 4294967296<4294967296:=by omega
 have hy1:0≤y / 4294967296∧y / 4294967296<4294967296:=by omega
 have hy0:0≤y % 4294967296∧y % 4294967296<4294967296:=by omega
 have ex:x=x / 4294967296*4294967296+x % 4294967296:=by omega
 have ey:y=y / 4294967296*4294967296+y % 4294967296:=by omega
 have exy:x*y=(x / 4294967296)*(y / 4294967296)*18446744073709551616+((x / 4294967296)*(y % 4294967296)+(x % 4294967296)*(y / 4294967296))*4294967296+(x % 4294967296)*(y % 4294967296):=by
  generalize x / 4294967296=x1 at*
  generalize x % 4294967296=x0 at*
  generalize y / 4294967296=y1 at*
  generalize y % 4294967296=y0 at*
  rw[ex,ey,Int.add_mul,Int.mul_add,Int.mul_add]
  have a1:x1*4294967296*(y1*4294967296)=x1*y1*18446744073709551616:=by
   rw[Int.mul_assoc,Int.mul_left_comm 4294967296,←Int.mul_assoc]; rfl
  have a2:x1*4294967296*y0=x1*y0*4294967296:=by rw[Int.mul_assoc,Int.mul_comm 4294967296,←Int.mul_assoc]
  have a3:x0*(y1*4294967296)=x0*y1*4294967296:=by rw[←Int.mul_assoc]
  rw[a1,a2,a3,Int.add_mul]; omega
 have hD:=mul_bd hx1 hy1
 have hB:=mul_bd hx1 hy0
 have hC:=mul_bd hx0 hy1
 have hA:=mul_bd hx0 hy0
 rw[exy]
 generalize (x / 4294967296)*(y / 4294967296)=D at*
 generalize (x / 4294967296)*(y % 4294967296)=B at*
 generalize (x % 4294967296)*(y / 4294967296)=C at*
 generalize (x % 4294967296)*(y % 4294967296)=A at*
 have w1:IntKind.u64.wrap A=A:=by rw[IntKind.wrap_u64]; omega
 have w2:IntKind.u64.wrap B=B:=by rw[IntKind.wrap_u64]; omega
 have w3:IntKind.u64.wrap C=C:=by rw[IntKind.wrap_u64]; omega
 have w4:IntKind.u64.wrap D=D:=by rw[IntKind.wrap_u64]; omega
 rw[w1,w2,w3,w4,fdiv32 A (by omega)]
 have w5:IntKind.u64.wrap (B+A / 4294967296)=B+A / 4294967296:=by rw[IntKind.wrap_u64]; omega
 rw[w5,fdiv32 _ (by omega),and32 _ (by omega)]
 have w6:IntKind.u64.wrap ((B+A / 4294967296) % 4294967296+C)=(B+A / 4294967296) % 4294967296+C:=by rw[IntKind.wrap_u64]; omega
 rw[w6,fdiv32 _ (by omega)]
 have w7:IntKind.u64.wrap (D+(B+A / 4294967296) / 4294967296)=D+(B+A / 4294967296) / 4294967296:=by rw[IntKind.wrap_u64]; omega
 rw[w7,IntKind.wrap_u64,IntKind.wrap_u64]
 congr 1
 refine Prod.ext ?_ (Prod.ext ?_ rfl)
 ·show (D+(B+A / 4294967296) / 4294967296+((B+A / 4294967296) % 4294967296+C) / 4294967296) % 18446744073709551616=_; omega
 ·first|rfl|(show _ % 18446744073709551616=_; omega)
theorem zut(a b:Int):(if (decide (a<0) != decide (b<0))=true then -(absI a*absI b) else absI a*absI b)=a*b:=by
 unfold absI
 by_cases ha:a<0<;>by_cases hb:b<0<;>simp[ha,hb,Int.neg_mul,Int.mul_neg]
theorem abs_bd{a:Int}(h:I64 a):0≤absI a∧absI a≤9223372036854775808:=by unfold I64 at h; unfold absI; split<;>omega
theorem prod_bd{a b A B:Int}(ha:0≤a∧a≤A)(hb:0≤b∧b≤B):0≤a*b∧a*b≤A*B:=
 ⟨Int.mul_nonneg ha.1 hb.1,Int.mul_le_mul ha.2 hb.2 hb.1 (by omega)⟩
theorem yfl(z:Int):decide ((wide z).1<0)=decide (z<0):=by
 refine decide_eq_decide.2 ?_
 show z / 18446744073709551616<0↔_; omega
theorem zmp{β:Type}{a b r:Option β}(ha:a=r)(hb:b=r):stdW.both a b=r:=by rw[ha,hb]; exact both_w r
theorem r_wMul{a b:Int}(ha:I64 a)(hb:I64 b):zxq a b=some (wide (a*b)):=by
 show zru stdW a b=_
 unfold zru
 have xa:=abs_bd ha
 have xb:=abs_bd hb
 have s1:=r_size (wide a) (znd a (zrh ha))
 have s2:=r_size (wide b) (znd b (zrh hb))
 rw[znc]at s1 s2
 have hp:=prod_bd xa xb
 have m1:zda (szOf (absI a)).2.1 (szOf (absI b)).2.1=some (szOf (absI a*absI b)):=by
  show zda (absI a % 18446744073709551616) (absI b % 18446744073709551616)=_
  rw[Int.emod_eq_of_lt xa.1 (by omega),Int.emod_eq_of_lt xb.1 (by omega),yme (by omega) (by omega)]; rfl
 rw[zaa (r_wOf a ha),zaa (r_wOf b hb),zaa s1,zaa s2,zaa m1]
 have hz:0≤absI a*absI b∧absI a*absI b<340282366920938463463374607431768211456:=by
  have:(9223372036854775808:Int)*9223372036854775808=85070591730234615865843651857942052864:=by decide
  omega
 have g:(stdW.call (zbr (szOf (absI a*absI b)) (notIf true (decide ((wide a).1<0)==decide ((wide b).1<0)))) fun v8=>some v8.1)=some (wide (a*b)):=by
  have e1:notIf true (decide (a<0)==decide (b<0))=(decide (a<0) != decide (b<0)):=by rw[nif_t]; rfl
  rw[yfl,yfl,e1,zaa (yol _ _ hz),zut]
  show some (w128 (a*b))=_
  rw[w128_in]
  have:=zut a b
  have h2:(9223372036854775808:Int)*9223372036854775808=85070591730234615865843651857942052864:=by decide
  unfold In128
  split at this<;>omega
 refine zmp ?_ ?_
 ·rw[zaa (zqz _)]
  refine zmp ?_ ?_
  ·rw[zaa (zqz _),both_w]; exact g
  ·rw[zaa (zqz _)]; exact g
 ·rw[zaa (zqz _),zaa (zqz _)]; exact g
theorem r_wTimes{v n:Int}(hv:I64 v)(hn:I64 n):zuz (wide v) n=some (wide (v*n),0,()):=by
 show zkk stdW (wide v) n=_
 unfold zkk
 have xa:=abs_bd hv
 have xb:=abs_bd hn
 have s1:=r_size (wide v) (znd v (zrh hv))
 have s2:=r_size (wide n) (znd n (zrh hn))
 rw[znc]at s1 s2
 have hp:=prod_bd xa xb
 have hc:(9223372036854775808:Int)*9223372036854775808=85070591730234615865843651857942052864:=by decide
 have e0:(szOf (absI v)).1=0:=by show absI v / 18446744073709551616=0; omega
 have e1:(szOf (absI v)).2.1=absI v:=by show absI v % 18446744073709551616=_; omega
 have e2:(szOf (absI n)).2.1=absI n:=by show absI n % 18446744073709551616=_; omega
 rw[zaa s1,zaa (r_wOf n hn),zaa s2,e0,e1,e2,zaa (yme (x:=0) (by omega) (by omega)),zaa (yme (x:=absI v) (by omega) (by omega)),Int.zero_mul]
 have a1:add64 (0 % 18446744073709551616:Int) (absI v*absI n / 18446744073709551616) 0=some (absI v*absI n / 18446744073709551616,0,()):=by
  rw[yij (by omega) (by omega) (by omega) (by omega)]
  congr 1
  refine Prod.ext ?_ (Prod.ext ?_ rfl)
  ·show ((0:Int) % 18446744073709551616+absI v*absI n / 18446744073709551616+0) % 18446744073709551616=absI v*absI n / 18446744073709551616; omega
  ·show ((0:Int) % 18446744073709551616+absI v*absI n / 18446744073709551616+0) / 18446744073709551616=0; omega
 show stdW.call (add64 (0 % 18446744073709551616:Int) (absI v*absI n / 18446744073709551616) 0) _=_
 rw[zaa a1,zaa (zqz _),yfl]
 have e3:notIf true (decide (v<0)==decide (n<0))=(decide (v<0) != decide (n<0)):=by rw[nif_t]; rfl
 show stdW.call (zbr (szOf (absI v*absI n)) (notIf true (decide (v<0)==decide (n<0)))) _=_
 have hI:In128 (v*n):=by
  have:=zut v n
  unfold In128
  split at this<;>omega
 rw[e3,zaa (yol _ _ (by omega)),zut]
 show stdW.cnd (decide (In128 (v*n))) (stdW.cnd ((0 / 18446744073709551616:Int)==0) (stdW.call (zet (w128 (v*n)) ((0:Int)==0)) fun v9=>some v9) _) _=_
 rw[cnd_y (decide_eq_true hI),cnd_y (by decide),zaa (yoo _ _),w128_in _ hI]
 rfl
def findI(t:List AInst')(id:Int):Option AInst':=t.find? fun i=>i.1==id
def zeroI:AInst':=(0,(0,(0,(0,([],())))))
theorem nilq_w{β:Type}(e:Bool)(f:Bool→Option β):stdW.nilq e f=nilF e f:=rfl
theorem r_clone{s:List Int}(h:s.length≤1000000):zdq s=some s:=by
 show zcl stdW s=_
 unfold zcl
 rw[nilq_w]
 refine ymn ?_ fun he=>?_
 ·show stdW.cnd (notIf false false) _ _=_
  rw[cnd_n (by decide),room_w (by omega) (by omega)]; rfl
 ·have:s=[]:=by simpa using he
  subst this; rfl
theorem r_index{s:List AInst'}{id:Int}(hl:s.length≤1000000):zbh s id=some ((match s.findIdx? (fun i=>i.1==id) with|some k=>((k:Nat):Int)|none => -1),(id,())):=by
 show zaq stdW s id=_
 unfold zaq
 refine loop_n (N:=s.length) (by omega) (fun i z=>z=(id,())∧∀j,∀h:j<s.length,j<i→(s[j].1==id)=false) _ ⟨rfl,fun j _ h=>by omega⟩ ?_ ?_
 ·rintro _ again ⟨rfl,hno⟩
  rw[zam]
  have:s.findIdx? (fun i=>i.1==id)=none:=by
   rw[List.findIdx?_eq_none_iff]
   intro x hx
   obtain⟨j,hj,rfl⟩:=List.mem_iff_getElem.1 hx
   exact hno j hj hj
  rw[this]
 ·rintro i hi _ ⟨rfl,hno⟩ again ha
  have e:ztv (s[i].1,(s[i].2.1,(s[i].2.2.1,(s[i].2.2.2.1,(s[i].2.2.2.2.1,()))))) id=some ((s[i].1==id),(id,())):=rfl
  rw[cnd_lt hi,idx_w hi]
  show stdW.call (ztv (s[i].1,(s[i].2.1,(s[i].2.2.1,(s[i].2.2.2.1,(s[i].2.2.2.2.1,()))))) id) _=_
  rw[zaa e]
  by_cases h:(s[i].1==id)=true
  ·rw[cnd_y h]
   have:s.findIdx? (fun i=>i.1==id)=some i:=by
    rw[List.findIdx?_eq_some_iff_getElem]
    exact⟨hi,h,fun j hj=>by rw[hno j (by omega) hj]; simp⟩
   rw[this]
  ·have h:(s[i].1==id)=false:=by simpa using h
   rw[cnd_n h]
   show again (IntKind.i64.wrap ((i:Int)+1),(id,()))=_
   rw[i64_s i (by omega)]
   exact ha _ ⟨rfl,fun j hj hji=>by
    by_cases hji2:j=i
    ·subst hji2; exact h
    ·exact hno j hj (by omega)⟩
theorem r_find{t:List AInst'}{id:Int}(hl:t.length≤1000000)(hm:∀i∈t,i.2.2.2.2.1.length≤1000000):zoa t id=some (match findI t id with|some i=>(i,(true,()))|none=>(zeroI,(false,()))):=by
 show zpz stdW t id=_
 unfold zpz
 have e0:ymx t id=some (match t.findIdx? (fun i=>i.1==id) with|some k=>((k:Nat):Int)|none => -1):=by
  show zyr stdW t id=_
  unfold zyr
  rw[zaa (r_index hl)]
 rw[zaa e0]
 unfold findI
 cases h:t.findIdx? (fun i=>i.1==id) with
 |none=>
  have:t.find? (fun i=>i.1==id)=none:=by
   rw[List.findIdx?_eq_none_iff]at h
   rw[List.find?_eq_none]
   intro x hx; simp[h x hx]
  rw[this]
  show stdW.cnd (decide ((-1:Int)<0)) _ _=_
  rw[cnd_y (by decide)]; rfl
 |some k=>
  have hk:=List.findIdx?_eq_some_iff_getElem.1 h
  obtain⟨hk1,hk2,hk3⟩:=hk
  have:t.find? (fun i=>i.1==id)=some t[k]:=by
   rw[List.find?_eq_some_iff_getElem]
   exact⟨hk2,k,hk1,rfl,fun j hj=>by simpa using hk3 j hj⟩
  rw[this]
  show stdW.cnd (decide (((k:Nat):Int)<0)) _ (stdW.idx t ((k:Nat):Int) _)=_
  rw[cnd_n (decide_eq_false (by omega)),idx_w hk1]
  have e1:zyq t[k]=some t[k]:=by
   show ztt stdW t[k]=_
   unfold ztt
   rw[zaa (r_clone (hm _ (List.getElem_mem hk1)))]
  show stdW.call (zyq t[k]) _=_
  rw[zaa e1]
end Go.Proofs.YtllkmncnmlmefaaGreat