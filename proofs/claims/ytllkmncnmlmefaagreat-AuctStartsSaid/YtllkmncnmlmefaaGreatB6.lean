import Derived.Test.YtllkmncnmlmefaaGreatB5
namespace Go.Proofs.YtllkmncnmlmefaaGreat
open Go Go.Vc Go.RowKit
set_option maxRecDepth 100000
@[reducible] def tAUnit:DT:=(.pair (.int .i64) (.pair (.int .i64) .unit))
abbrev AUnit':=Int×Int×Unit
@[reducible] def tAFlow:DT:=(.pair tAUnit (.pair (.int .i64) .unit))
abbrev AFlow':=AUnit'×Int×Unit
@[reducible] def tAPos:DT:=(.pair tAUnit (.pair (.slc tAUnit) .unit))
abbrev APos':=AUnit'×(List AUnit')×Unit
@[reducible] def tAMember:DT:=(.pair (.int .i64) (.pair (.int .i64) (.pair (.int .i64) (.pair (.int .i64) .unit))))
abbrev zah:=Int×Int×Int×Int×Unit
@[reducible] def tAInst:DT:=(.pair (.int .i64) (.pair (.int .i64) (.pair (.int .i64) (.pair (.int .i64) (.pair (.slc (.int .i64)) .unit)))))
abbrev AInst':=Int×Int×Int×Int×(List Int)×Unit
@[reducible] def tAAsset:DT:=(.pair (.int .i64) (.pair (.int .i64) (.pair (.int .i64) .unit)))
abbrev zjp:=Int×Int×Int×Unit
@[reducible] def tAAccount:DT:=(.pair (.int .i64) (.pair (.int .i64) (.pair (.int .i64) (.pair (.slc (.int .i64)) .unit))))
abbrev zab:=Int×Int×Int×(List Int)×Unit
@[reducible] def tAChoice:DT:=(.pair tAUnit (.pair tAUnit (.pair .bool .unit)))
abbrev zrc:=AUnit'×AUnit'×Bool×Unit
@[reducible] def tAGroup:DT:=(.pair (.int .i64) (.pair tAUnit (.pair (.int .i64) (.pair (.int .i64) (.pair (.int .i64) .unit)))))
abbrev zxj:=Int×AUnit'×Int×Int×Int×Unit
@[reducible] def tAGive:DT:=(.pair (.int .i64) (.pair tAUnit (.pair tAUnit (.pair tAUnit (.pair (.int .i64) (.pair (.int .i64) (.pair (.int .i64) (.pair (.int .i64) .unit))))))))
abbrev AGive':=Int×AUnit'×AUnit'×AUnit'×Int×Int×Int×Int×Unit
@[reducible] def tAHold:DT:=(.pair tAUnit (.pair (.slc tAAsset) .unit))
abbrev AHold':=AUnit'×(List zjp)×Unit
@[reducible] def tAState:DT:=(.pair (.int .i64) (.pair (.slc tAMember) (.pair (.slc tAInst) (.pair (.slc tAAsset) (.pair (.slc tAAccount) (.pair (.slc tAChoice) (.pair (.slc tAGroup) (.pair (.slc tAGive) (.pair (.slc tAPos) (.pair (.slc tAPos) (.pair (.slc tAFlow) (.pair (.slc tAHold) .unit))))))))))))
abbrev zae:=Int×(List zah)×(List AInst')×(List zjp)×(List zab)×(List zrc)×(List zxj)×(List AGive')×(List APos')×(List APos')×(List AFlow')×(List AHold')×Unit
@[reducible] def tWideWide:DT:=(.pair (.int .i64) (.pair (.int .u64) .unit))
abbrev zao:=Int×Int×Unit
@[reducible] def tNovationref01Big:DT:=(.pair .bool (.pair (.slc (.int .u8)) .unit))
abbrev zac:=Bool×(List Int)×Unit
@[reducible] def tWideSize:DT:=(.pair (.int .u64) (.pair (.int .u64) .unit))
abbrev ydl:=Int×Int×Unit
noncomputable section
def ziz(W:Wd)(a:zab):Option zab:=
 W.join (fun (z1:zab)=>some z1)
 fun k2=>
 W.cnd (decide (20<(a.2.2.2.1.length:Int))) (W.bnd 20 a.2.2.2.1.length fun h3=>(k2 (a.1,(a.2.1,(a.2.2.1,((a.2.2.2.1.take h3),()))))))
  ((k2 a))
def zrz:=ziz stdW
theorem yea:ECok Tryz.prog 77 (.es ⟨(.pair tAAccount .unit),(.v tAAccount),fun x=>zrz x.1⟩):=es_z (fun W x=>ziz W x.1) cn [] [(3,⟨[],[(0,[.t (.int .i64),.t (.int .i64),.t (.int .i64),.t (.slc (.int .i64))])],[]⟩)] [] Tryz.func77
def ztq(W:Wd)(m:zah):Option Bool:=
 W.cnd (decide (0<m.1)) (
 W.cnd (decide (m.1<9)) (
  W.cnd (decide (0≤m.2.1)) (
  W.cnd (decide (m.2.1≤4611686018427387904)) (
   W.cnd (decide (0≤m.2.2.1)) (
   W.cnd (decide (m.2.2.1<4)) (
    W.cnd (decide (0≤m.2.2.2.1)) (some (decide (m.2.2.2.1≤2097152)))
    (some false))
    (some false))
   (some false))
   (some false))
  (some false))
  (some false))
 (some false)
def yhe:=ztq stdW
theorem ymr:ECok Tryz.prog 241 (.es ⟨(.pair tAMember .unit),(.v .bool),fun x=>yhe x.1⟩):=es_z (fun W x=>ztq W x.1) cn [] [] [] Tryz.func241
def zln(W:Wd)(l:List zah)(id:Int):Option (zah×Bool×Unit):=
 W.loop (fun (z1:Int×Unit) again2=>
 W.cnd (decide (z1.1<(l.length:Int))) (W.idx l z1.1 fun x3=>
  W.cnd (x3.1==id) (W.idx l z1.1 fun x4=>some (x4,(true,())))
  ((again2 ((IntKind.i64.wrap (z1.1+1)),()))))
  (some ((0,(0,(0,(0,())))),(false,()))))
 (0,())
def zjy:=zln stdW
theorem ztr:ECok Tryz.prog 154 (.es ⟨(.pair (.slc tAMember) (.pair (.int .i64) .unit)),(.pair (.v tAMember) (.pair (.v .bool) .unit)),fun x=>zjy x.1 x.2.1⟩):=es_z (fun W x=>zln W x.1 x.2.1) cn [] [] [(2,⟨[(6,.t (.int .i64))],[],[]⟩)] Tryz.func154
def zpl(W:Wd)(l:List zah)(m:zah):Option ((List zah)×Int×Unit):=W.call (yhe m) fun v1=>
 W.cnd (!v1) (some ([],(2,())))
 (W.call (zjy l m.1) fun v2=>
 W.cnd v2.2.1 (some ([],(12,())))
  (
  W.join (fun (z3:Int×Unit)=>W.bnd z3.1 l.length fun h4=>W.room (l.take h4).length 32 (W.room ((l.take h4).length+(m::[]).length) 32 (W.bnd z3.1 l.length fun h5=>W.room (((l.take h4)++(m::[])).length+((l.take l.length).drop h5).length) 32 (some ((((l.take h4)++(m::[]))++((l.take l.length).drop h5)),(0,()))))))
  fun k6=>
  W.loop (fun (z7:Int×Unit) again8=>
   W.cnd (decide (z7.1<(l.length:Int))) (W.idx l z7.1 fun x9=>
   W.cnd (decide (x9.1<m.1)) ((again8 ((IntKind.i64.wrap (z7.1+1)),())))
    ((k6 z7)))
   ((k6 z7)))
   (0,())))
def ztp:=zpl stdW
theorem yka:ECok Tryz.prog 254 (.es ⟨(.pair (.slc tAMember) (.pair tAMember .unit)),(.pair (.own 118 tAMember) (.pair (.v (.int .i64)) .unit)),fun x=>ztp x.1 x.2.1⟩):=es_z (fun W x=>zpl W x.1 x.2.1) (cc ymr (cc ztr cn)) [(8,[],(oN [1,3,5,7,9,11,13,15,17,19,21,23,25,27]))] [(10,⟨[(9,.t (.int .i64))],[],[]⟩)] [(8,⟨[(9,.t (.int .i64))],[],[]⟩)] Tryz.func254
def ziq(W:Wd)(l:List zah):Option (List zah):=
 W.join (fun (z1:List zah×Unit)=>some z1.1)
 fun k2=>
 W.loop (fun (z3:List zah×Int×Unit) again4=>
  W.cnd (decide (z3.2.1<(l.length:Int))) (
  W.cnd (decide (z3.2.1<10)) (
   W.join (fun (z5:List zah×Unit)=>(again4 (z5.1,((IntKind.i64.wrap (z3.2.1+1)),()))))
   fun k6=>W.idx l z3.2.1 fun x7=>W.call (ztp z3.1 x7) fun v8=>
   W.cnd (v8.2.1==0) ((k6 (v8.1,())))
    ((k6 (z3.1,()))))
   ((k2 (z3.1,()))))
  ((k2 (z3.1,()))))
  ([],(0,()))
def zlm:=ziq stdW
theorem ydu:ECok Tryz.prog 135 (.es ⟨(.pair (.slc tAMember) .unit),(.v (.slc tAMember)),fun x=>zlm x.1⟩):=es_z (fun W x=>ziq W x.1) (cc yka cn) [] [(4,⟨[(3,.t (.slc tAMember))],[],[]⟩),(8,⟨[(3,.t (.slc tAMember))],[],[]⟩)] [(3,⟨[(3,.t (.slc tAMember)),(4,.t (.int .i64))],[],[]⟩)] Tryz.func135
def zir(W:Wd)(p:Int):Option Bool:=
 W.cnd (decide (0≤p)) (some (decide (p<2147483648)))
 (some false)
def zlp:=zir stdW
theorem ydv:ECok Tryz.prog 336 (.es ⟨(.pair (.int .i64) .unit),(.v .bool),fun x=>zlp x.1⟩):=es_z (fun W x=>zir W x.1) cn [] [] [] Tryz.func336
def ztt(W:Wd)(i:AInst'):Option Bool:=
 W.join (fun (z1:Bool×Unit)=>
 W.cnd z1.1 (some false)
  (
  W.loop (fun (z2:Int×Unit) again3=>
  W.cnd (decide (z2.1<(i.2.2.2.2.1.length:Int))) (
   W.join (fun (z4:Bool×Unit)=>
   W.cnd z4.1 (some false)
    ((again3 ((IntKind.i64.wrap (z2.1+1)),()))))
   fun k5=>W.idx i.2.2.2.2.1 z2.1 fun x6=>
   W.cnd (decide (x6<(-2147483647))) ((k5 (true,())))
    (W.idx i.2.2.2.2.1 z2.1 fun x7=>(k5 ((decide (2147483647<x7)),()))))
   (some true))
  (0,())))
 fun k8=>
 W.cnd (decide (i.1<1)) ((k8 (true,())))
  (
  W.cnd (decide (8<i.1)) ((k8 (true,())))
  (
  W.cnd (decide (i.2.1<1)) ((k8 (true,())))
   (
   W.cnd (decide (65536<i.2.1)) ((k8 (true,())))
   (W.call (zlp i.2.2.1) fun v9=>
   W.cnd (!v9) ((k8 (true,())))
    (W.call (zlp i.2.2.2.1) fun v10=>
    W.cnd (!v10) ((k8 (true,())))
    ((k8 ((decide (8<(i.2.2.2.2.1.length:Int))),()))))))))
def ztu:=ztt stdW
theorem yms:ECok Tryz.prog 242 (.es ⟨(.pair tAInst .unit),(.v .bool),fun x=>ztu x.1⟩):=es_z (fun W x=>ztt W x.1) (cc ydv cn) [] [(500039,⟨[(39,.t .bool)],[],[]⟩),(500060,⟨[(60,.t .bool)],[],[]⟩)] [(4,⟨[(3,.t (.int .i64))],[],[]⟩)] Tryz.func242
def zls(W:Wd)(l:List AInst')(id:Int):Option (AInst'×Bool×Unit):=
 W.loop (fun (z1:Int×Unit) again2=>
 W.cnd (decide (z1.1<(l.length:Int))) (W.idx l z1.1 fun x3=>
  W.cnd (x3.1==id) (W.idx l z1.1 fun x4=>some (x4,(true,())))
  ((again2 ((IntKind.i64.wrap (z1.1+1)),()))))
  (some ((0,(0,(0,(0,([],()))))),(false,()))))
 (0,())
def zpo:=zls stdW
theorem ztv:ECok Tryz.prog 150 (.es ⟨(.pair (.slc tAInst) (.pair (.int .i64) .unit)),(.pair (.v tAInst) (.pair (.v .bool) .unit)),fun x=>zpo x.1 x.2.1⟩):=es_z (fun W x=>zls W x.1 x.2.1) cn [] [] [(2,⟨[(6,.t (.int .i64))],[],[]⟩)] Tryz.func150
def zpm(W:Wd)(l:List AInst')(i:AInst'):Option ((List AInst')×Int×Unit):=W.call (ztu i) fun v1=>
 W.cnd (!v1) (some ([],(2,())))
 (W.call (zpo l i.1) fun v2=>
 W.cnd v2.2.1 (some ([],(12,())))
  (
  W.join (fun (z3:Int×Unit)=>W.bnd z3.1 l.length fun h4=>W.room (l.take h4).length 56 (W.room ((l.take h4).length+(i::[]).length) 56 (W.bnd z3.1 l.length fun h5=>W.room (((l.take h4)++(i::[])).length+((l.take l.length).drop h5).length) 56 (some ((((l.take h4)++(i::[]))++((l.take l.length).drop h5)),(0,()))))))
  fun k6=>
  W.loop (fun (z7:Int×Unit) again8=>
   W.cnd (decide (z7.1<(l.length:Int))) (W.idx l z7.1 fun x9=>
   W.cnd (decide (x9.1<i.1)) ((again8 ((IntKind.i64.wrap (z7.1+1)),())))
    ((k6 z7)))
   ((k6 z7)))
   (0,())))
def zts:=zpm stdW
theorem ykb:ECok Tryz.prog 340 (.es ⟨(.pair (.slc tAInst) (.pair tAInst .unit)),(.pair (.own 124 tAInst) (.pair (.v (.int .i64)) .unit)),fun x=>zts x.1 x.2.1⟩):=es_z (fun W x=>zpm W x.1 x.2.1) (cc yms (cc ztv cn)) [(8,[],(oN [1,3,5,7,9,11,13,15,17,19,21,23,25,27]))] [(10,⟨[(9,.t (.int .i64))],[],[]⟩)] [(8,⟨[(9,.t (.int .i64))],[],[]⟩)] Tryz.func340
def zis(W:Wd)(l:List AInst'):Option (List AInst'):=
 W.join (fun (z1:List AInst'×Unit)=>some z1.1)
 fun k2=>
 W.loop (fun (z3:List AInst'×Int×Unit) again4=>
  W.cnd (decide (z3.2.1<(l.length:Int))) (
  W.cnd (decide (z3.2.1<10)) (
   W.join (fun (z5:List AInst'×Unit)=>(again4 (z5.1,((IntKind.i64.wrap (z3.2.1+1)),()))))
   fun k6=>W.idx l z3.2.1 fun x7=>W.call (zts z3.1 x7) fun v8=>
   W.cnd (v8.2.1==0) ((k6 (v8.1,())))
    ((k6 (z3.1,()))))
   ((k2 (z3.1,()))))
  ((k2 (z3.1,()))))
  ([],(0,()))
def zlq:=zis stdW
theorem ydw:ECok Tryz.prog 255 (.es ⟨(.pair (.slc tAInst) .unit),(.v (.slc tAInst)),fun x=>zlq x.1⟩):=es_z (fun W x=>zis W x.1) (cc ykb cn) [] [(4,⟨[(3,.t (.slc tAInst))],[],[]⟩),(8,⟨[(3,.t (.slc tAInst))],[],[]⟩)] [(3,⟨[(3,.t (.slc tAInst)),(4,.t (.int .i64))],[],[]⟩)] Tryz.func255
def zja(W:Wd)(l:List AInst'):Option (List AInst'):=
 W.join (fun (z1:List AInst'×Unit)=>W.call (zlq z1.1) fun v2=>some v2)
 fun k3=>
 W.loop (fun (z4:Int×List AInst'×Unit) again5=>
  W.cnd (decide (z4.1<(l.length:Int))) (
  W.cnd (decide (z4.1<10)) (W.idx l z4.1 fun x6=>
   W.join (fun (z7:Int×Int×Int×Int×List Int×List AInst'×Unit)=>W.room (z7.2.2.2.2.2.1.length+((z7.1,(z7.2.1,(z7.2.2.1,(z7.2.2.2.1,(z7.2.2.2.2.1,())))))::[]).length) 56 ((again5 ((IntKind.i64.wrap (z4.1+1)),((z7.2.2.2.2.2.1++((z7.1,(z7.2.1,(z7.2.2.1,(z7.2.2.2.1,(z7.2.2.2.2.1,())))))::[])),())))))
   fun k8=>
   W.cnd (decide (9<(x6.2.2.2.2.1.length:Int))) (W.bnd 9 x6.2.2.2.2.1.length fun h9=>(k8 (x6.1,(x6.2.1,(x6.2.2.1,(x6.2.2.2.1,((x6.2.2.2.2.1.take h9),z4.2)))))))
    ((k8 (x6.1,(x6.2.1,(x6.2.2.1,(x6.2.2.2.1,(x6.2.2.2.2.1,z4.2))))))))
   ((k3 z4.2)))
  ((k3 z4.2)))
  (0,([],()))
def zmm:=zja stdW
theorem yeb:ECok Tryz.prog 136 (.es ⟨(.pair (.slc tAInst) .unit),(.v (.slc tAInst)),fun x=>zmm x.1⟩):=es_z (fun W x=>zja W x.1) (cc ydw cn) [] [(8,⟨[(3,.row 1)],[(0,[.t (.int .i64),.t (.int .i64),.t (.int .i64),.t (.int .i64),.t (.slc (.int .i64))])],[.dead,.own 124 tAInst]⟩),(9,⟨[(3,.row 1)],[],[.dead,.own 124 tAInst]⟩)] [(3,⟨[(3,.row 1),(4,.t (.int .i64))],[],[.dead,.own 124 tAInst]⟩)] Tryz.func136
def ztn(W:Wd)(a:zab):Option Bool:=
 W.join (fun (z1:Bool×Unit)=>
 W.cnd z1.1 (some false)
  (
  W.join (fun (z2:Bool×Unit)=>
  W.cnd z2.1 (some false)
   (
   W.loop (fun (z3:Int×Unit) again4=>
   W.cnd (decide (z3.1<(a.2.2.2.1.length:Int))) (
    W.join (fun (z5:Bool×Unit)=>
    W.cnd z5.1 (some false)
     ((again4 ((IntKind.i64.wrap (z3.1+1)),()))))
    fun k6=>W.idx a.2.2.2.1 z3.1 fun x7=>
    W.cnd (decide (x7<1)) ((k6 (true,())))
     (W.idx a.2.2.2.1 z3.1 fun x8=>
     W.cnd (decide (16<x8)) ((k6 (true,())))
     (
     W.cnd (decide (0<z3.1)) (W.idx a.2.2.2.1 z3.1 fun x9=>W.idx a.2.2.2.1 (IntKind.i64.wrap (z3.1 - 1)) fun x10=>(k6 ((decide (x9≤x10)),())))
      ((k6 (false,()))))))
    (some true))
   (0,())))
  fun k11=>
  W.cnd (a.2.2.1==1) (
   W.cnd (decide (0<(a.2.2.2.1.length:Int))) ((k11 (true,())))
   (
   W.cnd (a.2.2.1==4) ((k11 ((decide (1<(a.2.2.2.1.length:Int))),())))
    ((k11 (false,())))))
   (
   W.cnd (a.2.2.1==4) ((k11 ((decide (1<(a.2.2.2.1.length:Int))),())))
   ((k11 (false,()))))))
 fun k12=>
 W.cnd (decide (a.1<1)) ((k12 (true,())))
  (
  W.cnd (decide (16<a.1)) ((k12 (true,())))
  (
  W.cnd (decide (a.2.1<1)) ((k12 (true,())))
   (
   W.cnd (decide (8<a.2.1)) ((k12 (true,())))
   (
   W.cnd (decide (a.2.2.1<1)) ((k12 (true,())))
    ((k12 ((decide (4<a.2.2.1)),())))))))
def yhd:=ztn stdW
theorem ymq:ECok Tryz.prog 244 (.es ⟨(.pair tAAccount .unit),(.v .bool),fun x=>yhd x.1⟩):=es_z (fun W x=>ztn W x.1) cn [(8,[],(oN [1,3,5,7,9,11,13,15,17,19,21,23,25,27,29,31,33,35,37,39,41,43,45,47,49,51,53,55,57,59,61,63]))] [(500031,⟨[(31,.t .bool)],[],[]⟩),(500051,⟨[(51,.t .bool)],[],[]⟩),(500090,⟨[(90,.t .bool)],[],[]⟩)] [(6,⟨[(3,.t (.int .i64))],[],[]⟩)] Tryz.func244
def zgg(W:Wd)(l:List zab)(id:Int):Option (zab×Bool×Unit):=
 W.loop (fun (z1:Int×Unit) again2=>
 W.cnd (decide (z1.1<(l.length:Int))) (W.idx l z1.1 fun x3=>
  W.cnd (x3.1==id) (W.idx l z1.1 fun x4=>some (x4,(true,())))
  ((again2 ((IntKind.i64.wrap (z1.1+1)),()))))
  (some ((0,(0,(0,([],())))),(false,()))))
 (0,())
def zjx:=zgg stdW
theorem zto:ECok Tryz.prog 152 (.es ⟨(.pair (.slc tAAccount) (.pair (.int .i64) .unit)),(.pair (.v tAAccount) (.pair (.v .bool) .unit)),fun x=>zjx x.1 x.2.1⟩):=es_z (fun W x=>zgg W x.1 x.2.1) cn [] [] [(2,⟨[(6,.t (.int .i64))],[],[]⟩)] Tryz.func152
def zpj(W:Wd)(l:List zab)(a:zab):Option ((List zab)×Int×Unit):=W.call (yhd a) fun v1=>
 W.cnd (!v1) (some ([],(2,())))
 (W.call (zjx l a.1) fun v2=>
 W.cnd v2.2.1 (some ([],(12,())))
  (
  W.join (fun (z3:Int×Unit)=>W.bnd z3.1 l.length fun h4=>W.room (l.take h4).length 48 (W.room ((l.take h4).length+(a::[]).length) 48 (W.bnd z3.1 l.length fun h5=>W.room (((l.take h4)++(a::[])).length+((l.take l.length).drop h5).length) 48 (some ((((l.take h4)++(a::[]))++((l.take l.length).drop h5)),(0,()))))))
  fun k6=>
  W.loop (fun (z7:Int×Unit) again8=>
   W.cnd (decide (z7.1<(l.length:Int))) (W.idx l z7.1 fun x9=>
   W.cnd (decide (x9.1<a.1)) ((again8 ((IntKind.i64.wrap (z7.1+1)),())))
    ((k6 z7)))
   ((k6 z7)))
   (0,())))
def ztm:=zpj stdW
theorem yjz:ECok Tryz.prog 256 (.es ⟨(.pair (.slc tAAccount) (.pair tAAccount .unit)),(.pair (.own 60 tAAccount) (.pair (.v (.int .i64)) .unit)),fun x=>ztm x.1 x.2.1⟩):=es_z (fun W x=>zpj W x.1 x.2.1) (cc ymq (cc zto cn)) [(8,[],(oN [1,3,5,7,9,11,13,15,17,19,21,23,25,27]))] [(10,⟨[(9,.t (.int .i64))],[],[]⟩)] [(8,⟨[(9,.t (.int .i64))],[],[]⟩)] Tryz.func256
def zip(W:Wd)(l:List zab):Option (List zab):=
 W.join (fun (z1:List zab×Unit)=>some z1.1)
 fun k2=>
 W.loop (fun (z3:List zab×Int×Unit) again4=>
  W.cnd (decide (z3.2.1<(l.length:Int))) (
  W.cnd (decide (z3.2.1<20)) (
   W.join (fun (z5:List zab×Unit)=>(again4 (z5.1,((IntKind.i64.wrap (z3.2.1+1)),()))))
   fun k6=>W.idx l z3.2.1 fun x7=>W.call (ztm z3.1 x7) fun v8=>
   W.cnd (v8.2.1==0) ((k6 (v8.1,())))
    ((k6 (z3.1,()))))
   ((k2 (z3.1,()))))
  ((k2 (z3.1,()))))
  ([],(0,()))
def zlk:=zip stdW
theorem ydt:ECok Tryz.prog 137 (.es ⟨(.pair (.slc tAAccount) .unit),(.v (.slc tAAccount)),fun x=>zlk x.1⟩):=es_z (fun W x=>zip W x.1) (cc yjz cn) [] [(4,⟨[(3,.t (.slc tAAccount))],[],[]⟩),(8,⟨[(3,.t (.slc tAAccount))],[],[]⟩)] [(3,⟨[(3,.t (.slc tAAccount)),(4,.t (.int .i64))],[],[]⟩)] Tryz.func137
def zqk(W:Wd)(l:List AUnit'):Option (List AUnit'):=
 W.cnd (decide (12<(l.length:Int))) (W.bnd 12 l.length fun h1=>some (l.take h1))
 (some l)
def ycg:=zqk stdW
theorem ylc:ECok Tryz.prog 204 (.es ⟨(.pair (.slc tAUnit) .unit),(.v (.slc tAUnit)),fun x=>ycg x.1⟩):=es_z (fun W x=>zqk W x.1) cn [] [] [] Tryz.func204
def zqi(W:Wd)(l:List APos'):Option (List APos'):=
 W.join (fun (z1:List APos'×Unit)=>some z1.1)
 fun k2=>
 W.loop (fun (z3:Int×List APos'×Unit) again4=>
  W.cnd (decide (z3.1<(l.length:Int))) (
  W.cnd (decide (z3.1<12)) (W.idx l z3.1 fun x5=>W.idx l z3.1 fun x6=>W.call (ycg x6.2.1) fun v7=>W.room (z3.2.1.length+((x5.1,(v7,()))::[]).length) 40 ((again4 ((IntKind.i64.wrap (z3.1+1)),((z3.2.1++((x5.1,(v7,()))::[])),())))))
   ((k2 z3.2)))
  ((k2 z3.2)))
  (0,([],()))
def zgw:=zqi stdW
theorem yla:ECok Tryz.prog 74 (.es ⟨(.pair (.slc tAPos) .unit),(.own 50 tAPos),fun x=>zgw x.1⟩):=es_z (fun W x=>zqi W x.1) (cc ylc cn) [(5,[],(oN [1,3,5,7,9,11,13,15,17,19,21,22,25,26,28,31]))] [(6,⟨[(3,.row 1)],[],[.dead,.own 50 tAPos]⟩)] [(3,⟨[(3,.row 1),(4,.t (.int .i64))],[],[.dead,.own 50 tAPos]⟩)] Tryz.func74
def zqj(W:Wd)(l:List AFlow'):Option (List AFlow'):=
 W.cnd (decide (20<(l.length:Int))) (W.bnd 20 l.length fun h1=>some (l.take h1))
 (some l)
def zoo:=zqj stdW
theorem ylb:ECok Tryz.prog 75 (.es ⟨(.pair (.slc tAFlow) .unit),(.v (.slc tAFlow)),fun x=>zoo x.1⟩):=es_z (fun W x=>zqj W x.1) cn [] [] [] Tryz.func75
def zqh(W:Wd)(s:zae):Option zae:=
 W.join (fun (z1:List zab×Unit)=>W.call (zlm s.2.1) fun v2=>W.call (zmm s.2.2.1) fun v3=>W.call (zlk z1.1) fun v4=>W.call (zgw s.2.2.2.2.2.2.2.2.1) fun v5=>W.call (zgw s.2.2.2.2.2.2.2.2.2.1) fun v6=>W.call (zoo s.2.2.2.2.2.2.2.2.2.2.1) fun v7=>some (0,(v2,(v3,([],(v4,([],([],([],(v5,(v6,(v7,([],())))))))))))))
 fun k8=>
 W.loop (fun (z9:Int×List zab×Unit) again10=>
  W.cnd (decide (z9.1<(s.2.2.2.2.1.length:Int))) (
  W.cnd (decide (z9.1<20)) (W.idx s.2.2.2.2.1 z9.1 fun x11=>W.call (zrz x11) fun v12=>W.room (z9.2.1.length+(v12::[]).length) 48 ((again10 ((IntKind.i64.wrap (z9.1+1)),((z9.2.1++(v12::[])),())))))
   ((k8 z9.2)))
  ((k8 z9.2)))
  (0,([],()))
def zkg:=zqh stdW
theorem zol:ECok Tryz.prog 26 (.es ⟨(.pair tAState .unit),(.v tAState),fun x=>zkg x.1⟩):=es_z (fun W x=>zqh W x.1) (cc yea (cc ydu (cc yeb (cc ydt (cc yla (cc ylb cn)))))) [(6,[1],(oN [1,3,7,9,13,17,19,23,25,29,31,4,10,14,20,26,32,35,36]))] [(6,⟨[(3,.row 1)],[],[.dead,.own 60 tAAccount]⟩)] [(3,⟨[(3,.row 1),(4,.t (.int .i64))],[],[.dead,.own 60 tAAccount]⟩)] Tryz.func26
def ygn(W:Wd)(l:List AUnit'):Option Bool:=
 W.loop (fun (z1:AUnit') again2=>
 W.cnd (decide (z1.2.1<(l.length:Int))) (W.idx l z1.2.1 fun x3=>
  W.join (fun (z4:Bool×Unit)=>
  W.cnd z4.1 (some false)
   ((again2 (x3.1,((IntKind.i64.wrap (z1.2.1+1)),())))))
  fun k5=>
  W.cnd (decide (x3.1≤z1.1)) ((k5 (true,())))
   (
   W.cnd (decide (8<x3.1)) ((k5 (true,())))
   ((k5 ((x3.2.1==0),())))))
  (some true))
 (0,(0,()))
def vec_Is:=ygn stdW
theorem yjl:ECok Tryz.prog 341 (.es ⟨(.pair (.slc tAUnit) .unit),(.v .bool),fun x=>vec_Is x.1⟩):=es_z (fun W x=>ygn W x.1) cn [] [(500025,⟨[(25,.t .bool)],[],[]⟩)] [(3,⟨[(3,.t (.int .i64)),(8,.t (.int .i64))],[],[]⟩)] Tryz.func341
def zra(W:Wd)(a:AUnit')(b:AUnit'):Option Bool:=
 W.cnd (a.1 != b.1) (some (decide (a.1<b.1)))
 (some (decide (a.2.1<b.2.1)))
def zks:=zra stdW
theorem zoz:ECok Tryz.prog 304 (.es ⟨(.pair tAUnit (.pair tAUnit .unit)),(.v .bool),fun x=>zks x.1 x.2.1⟩):=es_z (fun W x=>zra W x.1 x.2.1) cn [] [] [] Tryz.func304
def yae(W:Wd)(l:List APos'):Option Bool:=
 W.loop (fun (z1:Int×Unit) again2=>
 W.cnd (decide (z1.1<(l.length:Int))) (W.idx l z1.1 fun x3=>
  W.join (fun (z4:Bool×Unit)=>
  W.cnd z4.1 (some false)
   ((again2 ((IntKind.i64.wrap (z1.1+1)),()))))
  fun k5=>
  W.cnd ((x3.2.1.length:Int)==0) (W.both ((k5 (true,()))) ((k5 (true,()))))
   (W.call (vec_Is x3.2.1) fun v6=>
   W.cnd (!v6) (W.both ((k5 (true,()))) ((k5 (true,()))))
   (
   W.cnd (decide (0<z1.1)) (W.idx l (IntKind.i64.wrap (z1.1 - 1)) fun x7=>W.both (W.call (zks x7.1 x3.1) fun v8=>(k5 ((!v8),()))) (W.call (zks x7.1 x3.1) fun v9=>(k5 ((!v9),()))))
    (W.both ((k5 (false,()))) ((k5 (false,())))))))
  (some true))
 (0,())
def zsh:=yae stdW
theorem yfz:ECok Tryz.prog 257 (.es ⟨(.pair (.slc tAPos) .unit),(.v .bool),fun x=>zsh x.1⟩):=es_z (fun W x=>yae W x.1) (cc yjl (cc zoz cn)) [(4,[],(.rd 0 (.rd 1 (.rd 2 (.rd 3 (.rd 4 (.rd 5 (.rd 6 (.op 7 (.rd 8 (.rd 9 (.rd 10 (.rd 11 (.rd 12 (.rd 13 (.rd 14 (.rd 15 (.rd 16 (.rd 17 (.rd 18 (.rd 20 (.two 19 21 (oN [42,44,47,49,51]) (oN [38,44,47,49,51])))))))))))))))))))))))] [(500037,⟨[(37,.t .bool)],[],[]⟩)] [(2,⟨[(7,.t (.int .i64))],[],[]⟩)] Tryz.func257
def znh(W:Wd)(s:zae):Option Bool:=W.call (zsh s.2.2.2.2.2.2.2.2.1) fun v1=>
 W.cnd v1 (W.call (zsh s.2.2.2.2.2.2.2.2.2.1) fun v2=>some v2)
 (some false)
def zkp:=znh stdW
theorem zvg:ECok Tryz.prog 138 (.es ⟨(.pair tAState .unit),(.v .bool),fun x=>zkp x.1⟩):=es_z (fun W x=>znh W x.1) (cc yfz cn) [] [] [] Tryz.func138
def zdp(W:Wd)(s:List Int):Option (List Int):=W.nilq (List.isEmpty s) fun g1=>
 W.cnd (Go.Vc.notIf false g1) (some [])
 (W.room ((0:Nat)+s.length) 8 (some ([]++s)))
def zfc:=zdp stdW
theorem znq:ECok Tryz.prog 131 (.es ⟨(.pair (.slc (.int .i64)) .unit),(.own 3 (.int .i64)),fun x=>zfc x.1⟩):=es_z (fun W x=>zdp W x.1) cn [] [] [] Tryz.func131
def zkr(W:Wd)(a:zab):Option zab:=W.call (zfc a.2.2.2.1) fun v1=>some (a.1,(a.2.1,(a.2.2.1,(v1,()))))
def zqz:=zkr stdW
theorem ydi:ECok Tryz.prog 386 (.es ⟨(.pair tAAccount .unit),(.v tAAccount),fun x=>zqz x.1⟩):=es_z (fun W x=>zkr W x.1) (cc znq cn) [] [] [] Tryz.func386
def zjh(W:Wd)(l:List zab):Option (List zab):=
 W.loop (fun (z1:Int×List zab×Unit) again2=>
 W.cnd (decide (z1.1<(l.length:Int))) (W.idx l z1.1 fun x3=>W.call (zqz x3) fun v4=>W.room (z1.2.1.length+(v4::[]).length) 48 ((again2 ((IntKind.i64.wrap (z1.1+1)),((z1.2.1++(v4::[])),())))))
  (some z1.2.1))
 (0,([],()))
def zsk:=zjh stdW
theorem yeg:ECok Tryz.prog 314 (.es ⟨(.pair (.slc tAAccount) .unit),(.own 60 tAAccount),fun x=>zsk x.1⟩):=es_z (fun W x=>zjh W x.1) (cc ydi cn) [] [] [(3,⟨[(3,.row 1),(8,.t (.int .i64))],[],[.dead,.own 60 tAAccount]⟩)] Tryz.func314
def ygc(W:Wd)(a:zab)(free10:Int):Option (Bool×(Int×Unit)):=some ((a.2.1 != free10),(free10,()))
def zvi:=ygc stdW
theorem zyh:ECok Tryz.prog 315 (.ls ⟨[.v tAAccount,.ptr],[⟨3,[.v (.int .i64)]⟩],[⟨3,[.v (.int .i64)]⟩],(.q (.v .bool)),fun x=>zvi x.1 x.2.1⟩):=ls_z (fun W x=>ygc W x.1 x.2.1) cn [] [] [] Tryz.func315
def zag(W:Wd)(s:List zab)(f0_0:Int):Option (Int×(Int×Unit)):=
 W.loop (fun (z1:AUnit') again2=>
 W.cnd (decide (z1.1<(s.length:Int))) (W.idx s z1.1 fun x3=>W.call (zvi x3 z1.2.1) fun v4=>
  W.cnd v4.1 (some (z1.1,v4.2))
  ((again2 ((IntKind.i64.wrap (z1.1+1)),v4.2))))
  (some ((-1),z1.2)))
 (0,(f0_0,()))
def zan:=zag stdW
theorem zda:ECok Tryz.prog 342 (.ls ⟨[.v (.slc tAAccount),.fn 315 1],[⟨3,[.v (.int .i64)]⟩],[⟨3,[.v (.int .i64)]⟩],(.q (.v (.int .i64))),fun x=>zan x.1 x.2.1⟩):=ls_z (fun W x=>zag W x.1 x.2.1) (cc zyh cn) [] [] [(2,⟨[(8,.t (.int .i64))],[(0,[.t (.int .i64)])],[]⟩)] Tryz.func342
def zal(W:Wd)(del0_0:Int)(s:List zab):Option ((List zab)×(Int×Unit)):=W.call (zan s del0_0) fun v1=>
 W.cnd (v1.1==(-1)) (some (s,v1.2))
 (
 W.loop (fun (z2:Int×Int×Int×List zab×Unit) again3=>
  W.cnd (decide (z2.2.1<(z2.2.2.2.1.length:Int))) (
  W.join (fun (z4:Int×Int×List zab×Unit)=>(again3 (z4.1,((IntKind.i64.wrap (z2.2.1+1)),z4.2))))
   fun k5=>W.idx z2.2.2.2.1 z2.2.1 fun x6=>W.nth z2.2.2.2.1 (Int.toNat z2.2.1) fun x7=>W.call (zvi x7 z2.2.2.1) fun v8=>
   W.cnd (!v8.1) (W.idx z2.2.2.2.1 z2.1 fun x9=>W.nth z2.2.2.2.1 (Int.toNat z2.1) fun x10=>(k5 ((IntKind.i64.wrap (z2.1+1)),(v8.2.1,((List.set z2.2.2.2.1 (Int.toNat z2.1) x7),())))))
   ((k5 (z2.1,(v8.2.1,z2.2.2.2)))))
  (W.bnd z2.1 z2.2.2.2.1.length fun h11=>W.bnd (h11:Int) z2.2.2.2.1.length fun h12=>W.bnd z2.1 ((z2.2.2.2.1.take h12)++(List.replicate (z2.2.2.2.1.length - h12) (0,(0,(0,([],())))))).length fun h13=>some ((((z2.2.2.2.1.take h12)++(List.replicate (z2.2.2.2.1.length - h12) (0,(0,(0,([],())))))).take h13),(z2.2.2.1,()))))
  (v1.1,((IntKind.i64.wrap (v1.1+1)),(v1.2.1,(s,())))))
def zax:=zal stdW
theorem zcx:ECok Tryz.prog 313 (.ls ⟨[.row 60 tAAccount,.fn 315 1],[⟨3,[.v (.int .i64)]⟩],[⟨3,[.v (.int .i64)]⟩],(.q (.v (.slc tAAccount))),fun x=>zax x.1 x.2.1⟩):=ls_z (fun W x=>zal W x.1 x.2.1) (cb zda (cc zyh cn)) [] [(6,⟨[(0,.row 0),(5,.t (.int .i64))],[(0,[.t (.int .i64)])],[.own 60 tAAccount]⟩)] [(5,⟨[(0,.row 0),(5,.t (.int .i64)),(6,.t (.int .i64))],[(0,[.t (.int .i64)])],[.own 60 tAAccount]⟩)] Tryz.func313
def yah(W:Wd)(l:List zab)(member:Int):Option (List zab):=W.call (zsk l) fun v1=>W.call (zax member v1) fun v2=>some v2.1
def yof:=yah stdW
theorem acct_Of_ok:ECok Tryz.prog 192 (.es ⟨(.pair (.slc tAAccount) (.pair (.int .i64) .unit)),(.v (.slc tAAccount)),fun x=>yof x.1 x.2.1⟩):=es_z (fun W x=>yah W x.1 x.2.1) (cc yeg (cc zcx cn)) [] [] [] Tryz.func192
def znk(W:Wd)(a:zab):Option (List AUnit'):=
 W.cnd (a.2.2.1==1) (some ((a.1,(0,()))::[]))
 (
 W.loop (fun (z1:Int×List AUnit'×Unit) again2=>
  W.cnd (decide (z1.1<(a.2.2.2.1.length:Int))) (W.idx a.2.2.2.1 z1.1 fun x3=>W.room (z1.2.1.length+((a.1,(x3,()))::[]).length) 16 ((again2 ((IntKind.i64.wrap (z1.1+1)),((z1.2.1++((a.1,(x3,()))::[])),())))))
  (some z1.2.1))
  (0,([],())))
def zxh:=znk stdW
theorem yjh:ECok Tryz.prog 316 (.es ⟨(.pair tAAccount .unit),(.own 47 tAUnit),fun x=>zxh x.1⟩):=es_z (fun W x=>znk W x.1) cn [] [] [(5,⟨[(3,.row 1),(16,.t (.int .i64))],[],[.dead,.own 47 tAUnit]⟩)] Tryz.func316
def zbx(W:Wd)(s:List AUnit')(v:AUnit'):Option Int:=
 W.loop (fun (z1:Int×Unit) again2=>
 W.cnd (decide (z1.1<(s.length:Int))) (W.idx s z1.1 fun x3=>
  W.cnd (Go.Vc.notIf false ((v.1==x3.1)&&(v.2.1==x3.2.1))) (some z1.1)
  ((again2 ((IntKind.i64.wrap (z1.1+1)),()))))
  (some (-1)))
 (0,())
def zct:=zbx stdW
theorem zgb:ECok Tryz.prog 395 (.es ⟨(.pair (.slc tAUnit) (.pair tAUnit .unit)),(.v (.int .i64)),fun x=>zct x.1 x.2.1⟩):=es_z (fun W x=>zbx W x.1 x.2.1) cn [(4,[],(oN [1,3,5,7,9,11]))] [] [(2,⟨[(8,.t (.int .i64))],[],[]⟩)] Tryz.func395
def zbn(W:Wd)(s:List AUnit')(v:AUnit'):Option Bool:=W.call (zct s v) fun v1=>some (decide (0≤v1))
def zck:=zbn stdW
theorem zfb:ECok Tryz.prog 343 (.es ⟨(.pair (.slc tAUnit) (.pair tAUnit .unit)),(.v .bool),fun x=>zck x.1 x.2.1⟩):=es_z (fun W x=>zbn W x.1 x.2.1) (cc zgb cn) [] [] [] Tryz.func343
def zvj(W:Wd)(a:zab)(u:AUnit'):Option Bool:=W.call (zxh a) fun v1=>W.call (zck v1 u) fun v2=>some v2
def zvk:=zvj stdW
theorem ydj:ECok Tryz.prog 260 (.es ⟨(.pair tAAccount (.pair tAUnit .unit)),(.v .bool),fun x=>zvk x.1 x.2.1⟩):=es_z (fun W x=>zvj W x.1 x.2.1) (cc yjh (cc zfb cn)) [(1,[],(oN [1,5,2,6,9]))] [] [] Tryz.func260
def zjg(W:Wd)(a:zab)(free10:Int)(free11:Int):Option (Bool×(AUnit')):=W.call (zvk a (free10,(free11,()))) fun v1=>some (v1,(free10,(free11,())))
def zsi:=zjg stdW
theorem yef:ECok Tryz.prog 259 (.ls ⟨[.v tAAccount,.ptr],[⟨47,[.v (.int .i64),.v (.int .i64)]⟩],[⟨47,[.v (.int .i64),.v (.int .i64)]⟩],(.q (.v .bool)),fun x=>zsi x.1 x.2.1 x.2.2.1⟩):=ls_z (fun W x=>zjg W x.1 x.2.1 x.2.2.1) (cc ydj cn) [] [] [] Tryz.func259
def zaj(W:Wd)(s:List zab)(f0_0:Int)(f0_1:Int):Option (Int×(AUnit')):=
 W.loop (fun (z1:zjp) again2=>
 W.cnd (decide (z1.1<(s.length:Int))) (W.idx s z1.1 fun x3=>W.call (zsi x3 z1.2.1 z1.2.2.1) fun v4=>
  W.cnd v4.1 (some (z1.1,v4.2))
  ((again2 ((IntKind.i64.wrap (z1.1+1)),v4.2))))
  (some ((-1),z1.2)))
 (0,(f0_0,(f0_1,())))
def zav:=zaj stdW
theorem zcv:ECok Tryz.prog 342 (.ls ⟨[.v (.slc tAAccount),.fn 259 1],[⟨47,[.v (.int .i64),.v (.int .i64)]⟩],[⟨47,[.v (.int .i64),.v (.int .i64)]⟩],(.q (.v (.int .i64))),fun x=>zav x.1 x.2.1 x.2.2.1⟩):=ls_z (fun W x=>zaj W x.1 x.2.1 x.2.2.1) (cc yef cn) [] [] [(2,⟨[(8,.t (.int .i64))],[(0,[.t (.int .i64),.t (.int .i64)])],[]⟩)] Tryz.func342
def zai(W:Wd)(s:List zab)(f0_0:Int)(f0_1:Int):Option (Bool×(AUnit')):=W.call (zav s f0_0 f0_1) fun v1=>some ((decide (0≤v1.1)),v1.2)
def zas:=zai stdW
theorem zco:ECok Tryz.prog 258 (.ls ⟨[.v (.slc tAAccount),.fn 259 1],[⟨47,[.v (.int .i64),.v (.int .i64)]⟩],[⟨47,[.v (.int .i64),.v (.int .i64)]⟩],(.q (.v .bool)),fun x=>zas x.1 x.2.1 x.2.2.1⟩):=ls_z (fun W x=>zai W x.1 x.2.1 x.2.2.1) (cc zcv cn) [] [] [] Tryz.func258
def zqu(W:Wd)(s:zae)(id:Int)(u:AUnit'):Option Bool:=W.call (yof s.2.2.2.2.1 id) fun v1=>W.call (zas v1 u.1 u.2.1) fun v2=>some v2.1
def zko:=zqu stdW
theorem zyf:ECok Tryz.prog 139 (.es ⟨(.pair tAState (.pair (.int .i64) (.pair tAUnit .unit))),(.v .bool),fun x=>zko x.1 x.2.1 x.2.2.1⟩):=es_z (fun W x=>zqu W x.1 x.2.1 x.2.2.1) (cc acct_Of_ok (cc zco cn)) [] [] [] Tryz.func139
def zcd(W:Wd)(s:List AUnit'):Option (List AUnit'):=W.nilq (List.isEmpty s) fun g1=>
 W.cnd (Go.Vc.notIf false g1) (some [])
 (W.room ((0:Nat)+s.length) 16 (some ([]++s)))
def zbr:=zcd stdW
theorem zds:ECok Tryz.prog 253 (.es ⟨(.pair (.slc tAUnit) .unit),(.own 52 tAUnit),fun x=>zbr x.1⟩):=es_z (fun W x=>zcd W x.1) cn [] [] [] Tryz.func253
def yad(W:Wd)(l:List APos')(u:AUnit'):Option (List AUnit'):=
 W.loop (fun (z1:Int×Unit) again2=>
 W.cnd (decide (z1.1<(l.length:Int))) (W.idx l z1.1 fun x3=>
  W.cnd (Go.Vc.notIf false ((x3.1.1==u.1)&&(x3.1.2.1==u.2.1))) (W.call (zbr x3.2.1) fun v4=>some v4)
  ((again2 ((IntKind.i64.wrap (z1.1+1)),()))))
  (some []))
 (0,())
def ydd:=yad stdW
theorem yfy:ECok Tryz.prog 163 (.es ⟨(.pair (.slc tAPos) (.pair tAUnit .unit)),(.own 52 tAUnit),fun x=>ydd x.1 x.2.1⟩):=es_z (fun W x=>yad W x.1 x.2.1) (cc zds cn) [] [] [(2,⟨[(9,.t (.int .i64))],[],[]⟩)] Tryz.func163
def zss(W:Wd)(l:List AUnit'):Option Bool:=W.call (vec_Is l) fun v1=>some (!v1)
def zyo:=zss stdW
theorem yam:ECok Tryz.prog 277 (.es ⟨(.pair (.slc tAUnit) .unit),(.v .bool),fun x=>zyo x.1⟩):=es_z (fun W x=>zss W x.1) (cc yjl cn) [] [] [] Tryz.func277
def zaw(W:Wd)(s:List (List AUnit')):Option (Int×(Unit)):=
 W.loop (fun (z1:Int×Unit) again2=>
 W.cnd (decide (z1.1<(s.length:Int))) (W.idx s z1.1 fun x3=>W.call (zyo x3) fun v4=>
  W.cnd v4 (some z1)
  ((again2 ((IntKind.i64.wrap (z1.1+1)),()))))
  (some ((-1),())))
 (0,())
def zbo:=zaw stdW
theorem zdt:ECok Tryz.prog 370 (.ls ⟨[.v (.slc (.slc tAUnit)),.fn 277 0],[],[],(.q (.v (.int .i64))),fun x=>zbo x.1⟩):=ls_z (fun W x=>zaw W x.1) (cc yam cn) [] [] [(2,⟨[(8,.t (.int .i64))],[],[]⟩)] Tryz.func370
def zar(W:Wd)(s:List (List AUnit')):Option (Bool×(Unit)):=W.call (zbo s) fun v1=>some ((decide (0≤v1.1)),())
def zbk:=zar stdW
theorem zdo:ECok Tryz.prog 285 (.ls ⟨[.v (.slc (.slc tAUnit)),.fn 277 0],[],[],(.q (.v .bool)),fun x=>zbk x.1⟩):=ls_z (fun W x=>zar W x.1) (cc zdt cn) [] [] [] Tryz.func285
def zyp(W:Wd)(l:List AUnit')(inst:Int):Option Int:=
 W.loop (fun (z1:Int×Unit) again2=>
 W.cnd (decide (z1.1<(l.length:Int))) (W.idx l z1.1 fun x3=>
  W.cnd (x3.1==inst) (some x3.2.1)
  ((again2 ((IntKind.i64.wrap (z1.1+1)),()))))
  (some 0))
 (0,())
def yan:=zyp stdW
theorem yej:ECok Tryz.prog 268 (.es ⟨(.pair (.slc tAUnit) (.pair (.int .i64) .unit)),(.v (.int .i64)),fun x=>yan x.1 x.2.1⟩):=es_z (fun W x=>zyp W x.1 x.2.1) cn [] [] [(2,⟨[(9,.t (.int .i64))],[],[]⟩)] Tryz.func268
def zyl(W:Wd)(n:Int):Option zao:=W.nn 63 (some ((Int.fdiv n (2 ^ (Min.min (Int.toNat 63) (Go.IntKind.bits Go.IntKind.i64)))),((IntKind.u64.wrap n),())))
def zjj:=zyl stdW
theorem zhj:ECok Tryz.prog 300 (.es ⟨(.pair (.int .i64) .unit),(.v tWideWide),fun x=>zjj x.1⟩):=es_z (fun W x=>zyl W x.1) cn [] [] [] Tryz.func300
def zfn(W:Wd)(w:zao)(t0:Int)(t1:Int)(t2:Int):Option (Unit×(zjp)):=W.call (add64 t2 w.2.1 0) fun v1=>W.call (add64 (IntKind.u64.wrap t1) (IntKind.u64.wrap w.1) v1.2.1) fun v2=>W.nn 63 (some ((),((IntKind.i64.wrap (t0+(IntKind.i64.wrap ((Int.fdiv w.1 (2 ^ (Min.min (Int.toNat 63) (Go.IntKind.bits Go.IntKind.i64))))+(IntKind.i64.wrap v2.2.1))))),((IntKind.i64.wrap v2.1),(v1.1,())))))
def zcm:=zfn stdW
theorem zjq:ECok Tryz.prog 376 (.ls ⟨[.ptr,.v tWideWide],[⟨405,[.v (.int .i64),.v (.int .i64),.v (.int .u64)]⟩],[⟨405,[.v (.int .i64),.v (.int .i64),.v (.int .u64)]⟩],(.q .unit),fun x=>zcm x.1 x.2.1 x.2.2.1 x.2.2.2.1⟩):=ls_z (fun W x=>zfn W x.1 x.2.1 x.2.2.1 x.2.2.2.1) (cc yqy cn) [(1,[],(oN [1,3,5,7,9,11,13,14,17,19,21,23,25])),(2,[],(oN [1,3,5,7,9,11,13,15,17,19,20,23,25,27,29,31])),(3,[0],(oN [1,3,5,9,11,13,15,17,19,6,21,23,25,26]))] [] [] Tryz.func376
def zih(W:Wd)(w:zao)(ok:Bool):Option (zao×Int×Unit):=
 W.cnd (!ok) (some ((0,(0,())),(7,())))
 (some (w,(0,())))
def zfa:=zih stdW
theorem zrd:ECok Tryz.prog 359 (.es ⟨(.pair tWideWide (.pair .bool .unit)),(.pair (.v tWideWide) (.pair (.v (.int .i64)) .unit)),fun x=>zfa x.1 x.2.1⟩):=es_z (fun W x=>zih W x.1 x.2.1) cn [] [] [] Tryz.func359
def zer(W:Wd)(t0:Int)(t1:Int)(t2:Int):Option ((zao×Int×Unit)×(zjp)):=W.nn 63 (W.call (zfa (t1,(t2,())) (t0==(Int.fdiv t1 (2 ^ (Min.min (Int.toNat 63) (Go.IntKind.bits Go.IntKind.i64)))))) fun v1=>some (v1,(t0,(t1,(t2,())))))
def zea:=zer stdW
theorem zig:ECok Tryz.prog 377 (.ls ⟨[.ptr],[⟨405,[.v (.int .i64),.v (.int .i64),.v (.int .u64)]⟩],[⟨405,[.v (.int .i64),.v (.int .i64),.v (.int .u64)]⟩],(.q (.pair (.v tWideWide) (.pair (.v (.int .i64)) .unit))),fun x=>zea x.1 x.2.1 x.2.2.1⟩):=ls_z (fun W x=>zer W x.1 x.2.1 x.2.2.1) (cc zrd cn) [(1,[1],(oN [1,3,5,7,9,11,13,15,17,19,21,23,25,27,29,30,33,35,36,39]))] [] [] Tryz.func377
def zsq(W:Wd)(l:List zao):Option (zao×Int×Unit):=
 W.loop (fun (z1:zah) again2=>
 W.cnd (decide (z1.1<(l.length:Int))) (W.idx l z1.1 fun x3=>W.call (zcm x3 z1.2.1 z1.2.2.1 z1.2.2.2.1) fun v4=>(again2 ((IntKind.i64.wrap (z1.1+1)),v4.2)))
  (W.call (zea z1.2.1 z1.2.2.1 z1.2.2.2.1) fun v5=>some v5.1))
 (0,(0,(0,(0,()))))
def zyn:=zsq stdW
theorem ymj:ECok Tryz.prog 302 (.es ⟨(.pair (.slc tWideWide) .unit),(.pair (.v tWideWide) (.pair (.v (.int .i64)) .unit)),fun x=>zyn x.1⟩):=es_z (fun W x=>zsq W x.1) (cc zjq (cc zig cn)) [] [] [(3,⟨[(9,.t (.int .i64))],[(1,[.t (.int .i64),.t (.int .i64),.t (.int .u64)])],[]⟩)] Tryz.func302
def zso(W:Wd)(w:zao):Option (AUnit'):=W.call (zjj (IntKind.i64.wrap w.2.1)) fun v1=>
 W.cnd (Go.Vc.notIf true ((v1.1==w.1)&&(v1.2.1==w.2.1))) (some (0,(7,())))
 (some ((IntKind.i64.wrap w.2.1),(0,())))
def zsp:=zso stdW
theorem yal:ECok Tryz.prog 276 (.es ⟨(.pair tWideWide .unit),(.pair (.v (.int .i64)) (.pair (.v (.int .i64)) .unit)),fun x=>zsp x.1⟩):=es_z (fun W x=>zso W x.1) (cc zhj cn) [(2,[],(oN [1,5,2,7]))] [] [] Tryz.func276
def zms(W:Wd)(w:zao)(e:Int):Option (AUnit'):=
 W.cnd (e != 0) (some (0,(e,())))
 (W.call (zsp w) fun v1=>some v1)
def zki:=zms stdW
theorem zut:ECok Tryz.prog 301 (.es ⟨(.pair tWideWide (.pair (.int .i64) .unit)),(.pair (.v (.int .i64)) (.pair (.v (.int .i64)) .unit)),fun x=>zki x.1 x.2.1⟩):=es_z (fun W x=>zms W x.1 x.2.1) (cc yal cn) [] [] [] Tryz.func301
def zzt(W:Wd)(l:List Int):Option (AUnit'):=W.nn (l.length:Int) (W.room (Int.toNat (l.length:Int)) 16 (
 W.loop (fun (z1:Int×List AUnit'×Unit) again2=>
 W.cnd (decide (z1.1<(l.length:Int))) (W.idx l z1.1 fun x3=>W.call (zjj x3) fun v4=>W.room (z1.2.1.length+(v4::[]).length) 16 ((again2 ((IntKind.i64.wrap (z1.1+1)),((z1.2.1++(v4::[])),())))))
  (W.call (zyn z1.2.1) fun v5=>W.call (zki v5.1 v5.2.1) fun v6=>some v6))
 (0,([],()))))
def zwx:=zzt stdW
theorem yfk:ECok Tryz.prog 179 (.es ⟨(.pair (.slc (.int .i64)) .unit),(.pair (.v (.int .i64)) (.pair (.v (.int .i64)) .unit)),fun x=>zwx x.1⟩):=es_z (fun W x=>zzt W x.1) (cc zhj (cc ymj (cc zut cn))) [] [] [(3,⟨[(4,.row 0),(12,.t (.int .i64))],[],[.own 317 tWideWide]⟩)] Tryz.func179
def zyq(W:Wd)(l:List (List AUnit')):Option ((List AUnit')×Int×Unit):=W.call (zbk l) fun v1=>
 W.cnd v1.1 (some ([],(3,())))
 (
 W.loop (fun (z2:Int×List AUnit'×Unit) again3=>
  W.cnd (decide (z2.1≤8)) (
  W.join (fun (z4:List AUnit'×Unit)=>(again3 ((IntKind.i64.wrap (z2.1+1)),z4)))
   fun k5=>
   W.loop (fun (z6:Int×List AUnit'×List Int×Unit) again7=>
   W.cnd (decide (z6.1<(l.length:Int))) (W.idx l z6.1 fun x8=>W.call (yan x8 z2.1) fun v9=>W.room (z6.2.2.1.length+(v9::[]).length) 8 ((again7 ((IntKind.i64.wrap (z6.1+1)),(z6.2.1,((z6.2.2.1++(v9::[])),()))))))
    (W.call (zwx z6.2.2.1) fun v10=>
    W.cnd (v10.2.1 != 0) (some ([],v10.2))
    (
    W.cnd (v10.1 != 0) (W.room (z6.2.1.length+((z2.1,(v10.1,()))::[]).length) 16 ((k5 ((z6.2.1++((z2.1,(v10.1,()))::[])),()))))
     ((k5 (z6.2.1,()))))))
   (0,(z2.2.1,([],()))))
  (some (z2.2.1,(0,()))))
  (1,([],())))
def ymk:=zyq stdW
theorem vec_Add_ok:ECok Tryz.prog 162 (.es ⟨(.pair (.slc (.slc tAUnit)) .unit),(.pair (.own 52 tAUnit) (.pair (.v (.int .i64)) .unit)),fun x=>ymk x.1⟩):=es_z (fun W x=>zyq W x.1) (cc zdo (cc yej (cc yfk cn))) [] [(6,⟨[(4,.row 3)],[],[.dead,.dead,.dead,.own 52 tAUnit]⟩)] [(5,⟨[(4,.row 3),(5,.t (.int .i64))],[],[.dead,.dead,.dead,.own 52 tAUnit]⟩),(9,⟨[(4,.row 3),(6,.row 5),(19,.t (.int .i64))],[],[.dead,.dead,.dead,.own 52 tAUnit,.dead,.own 2 (.int .i64)]⟩)] Tryz.func162
def znd(W:Wd)(l:List APos')(u:AUnit'):Option (Int×Bool×Unit):=
 W.loop (fun (z1:Int×Unit) again2=>
 W.cnd (decide (z1.1<(l.length:Int))) (W.idx l z1.1 fun x3=>W.call (zks x3.1 u) fun v4=>
  W.cnd (!v4) (some (z1.1,((Go.Vc.notIf false ((x3.1.1==u.1)&&(x3.1.2.1==u.2.1))),())))
  ((again2 ((IntKind.i64.wrap (z1.1+1)),()))))
  (some ((l.length:Int),(false,()))))
 (0,())
def zxd:=znd stdW
theorem yix:ECok Tryz.prog 261 (.es ⟨(.pair (.slc tAPos) (.pair tAUnit .unit)),(.pair (.v (.int .i64)) (.pair (.v .bool) .unit)),fun x=>zxd x.1 x.2.1⟩):=es_z (fun W x=>znd W x.1 x.2.1) (cc zoz cn) [(5,[],(oN [1,3,5,7,9,11,13]))] [] [(2,⟨[(10,.t (.int .i64))],[],[]⟩)] Tryz.func261
def zjf(W:Wd)(l:List APos'):Option (List APos'):=
 W.loop (fun (z1:Int×List APos'×Unit) again2=>
 W.cnd (decide (z1.1<(l.length:Int))) (W.idx l z1.1 fun x3=>W.call (zbr x3.2.1) fun v4=>W.room (z1.2.1.length+((x3.1,(v4,()))::[]).length) 40 ((again2 ((IntKind.i64.wrap (z1.1+1)),((z1.2.1++((x3.1,(v4,()))::[])),())))))
  (some z1.2.1))
 (0,([],()))
def zsg:=zjf stdW
theorem yee:ECok Tryz.prog 262 (.es ⟨(.pair (.slc tAPos) .unit),(.own 50 tAPos),fun x=>zsg x.1⟩):=es_z (fun W x=>zjf W x.1) (cc zds cn) [(5,[],(oN [1,3,5,7,9,10,13,14,16,19]))] [] [(3,⟨[(3,.row 2),(8,.t (.int .i64))],[],[.dead,.dead,.own 50 tAPos]⟩)] Tryz.func262
def zne(W:Wd)(l:List APos')(u:AUnit')(legs:List AUnit'):Option ((List APos')×Int×Unit):=W.call (zsh l) fun v1=>
 W.cnd (!v1) (some ([],(3,())))
 (W.call (ydd l u) fun v2=>W.call (ymk (v2::(legs::[]))) fun v3=>
 W.cnd (v3.2.1 != 0) (some ([],v3.2))
  (W.call (zxd l u) fun v4=>W.call (zsg l) fun v5=>
  W.join (fun (z6:List AUnit'×List APos'×Unit)=>
  W.join (fun (z7:List APos'×Unit)=>some (z7.1,(0,())))
   fun k8=>
   W.cnd (decide (0<(z6.1.length:Int))) (W.call (insO z6.2.1 v4.1 ((u,(z6.1,()))::[])) fun v9=>(k8 v9))
   ((k8 z6.2)))
  fun k10=>
  W.cnd v4.2.1 (W.call (delO v5 v4.1 (IntKind.i64.wrap (v4.1+1))) fun v11=>(k10 (v3.1,v11)))
   ((k10 (v3.1,(v5,()))))))
def zel:=zne stdW
theorem zvc:ECok Tryz.prog 140 (.es ⟨(.pair (.slc tAPos) (.pair tAUnit (.pair (.slc tAUnit) .unit))),(.pair (.own 50 tAPos) (.pair (.v (.int .i64)) .unit)),fun x=>zel x.1 x.2.1 x.2.2.1⟩):=es_z (fun W x=>zne W x.1 x.2.1 x.2.2.1) (cc yfz (cc yfy (cc vec_Add_ok (cc yix (cc yee (cc delete_ok (cc insert_ok cn))))))) [] [(10,⟨[(8,.row 2),(12,.row 3)],[],[.dead,.dead,.own 52 tAUnit,.own 50 tAPos]⟩),(12,⟨[(12,.row 3)],[],[.dead,.dead,.dead,.own 50 tAPos]⟩)] [] Tryz.func140
def znj(W:Wd)(s:zae)(id:Int):Option (zae×Int×Unit):=W.call (zkp s) fun v1=>
 W.cnd (!v1) (some ((0,([],([],([],([],([],([],([],([],([],([],([],())))))))))))),(3,())))
 (
 W.loop (fun (z2:Int×Int×List zah×List AInst'×List zjp×List zab×List zrc×List zxj×List AGive'×List APos'×List APos'×List AFlow'×List AHold'×List APos'×Unit) again3=>
  W.cnd (decide (z2.1<(s.2.2.2.2.2.2.2.2.1.length:Int))) (
  W.join (fun (z4:Int×List zah×List AInst'×List zjp×List zab×List zrc×List zxj×List AGive'×List APos'×List APos'×List AFlow'×List AHold'×List APos'×Unit)=>(again3 ((IntKind.i64.wrap (z2.1+1)),z4)))
   fun k5=>W.idx s.2.2.2.2.2.2.2.2.1 z2.1 fun x6=>W.call (zko (z2.2.1,(z2.2.2.1,(z2.2.2.2.1,(z2.2.2.2.2.1,(z2.2.2.2.2.2.1,(z2.2.2.2.2.2.2.1,(z2.2.2.2.2.2.2.2.1,(z2.2.2.2.2.2.2.2.2.1,(z2.2.2.2.2.2.2.2.2.2.1,(z2.2.2.2.2.2.2.2.2.2.2.1,(z2.2.2.2.2.2.2.2.2.2.2.2.1,(z2.2.2.2.2.2.2.2.2.2.2.2.2.1,())))))))))))) id x6.1) fun v7=>
   W.cnd (!v7) (W.room (z2.2.2.2.2.2.2.2.2.2.2.2.2.2.1.length+(x6::[]).length) 40 ((k5 (z2.2.1,(z2.2.2.1,(z2.2.2.2.1,(z2.2.2.2.2.1,(z2.2.2.2.2.2.1,(z2.2.2.2.2.2.2.1,(z2.2.2.2.2.2.2.2.1,(z2.2.2.2.2.2.2.2.2.1,(z2.2.2.2.2.2.2.2.2.2.1,(z2.2.2.2.2.2.2.2.2.2.2.1,(z2.2.2.2.2.2.2.2.2.2.2.2.1,(z2.2.2.2.2.2.2.2.2.2.2.2.2.1,((z2.2.2.2.2.2.2.2.2.2.2.2.2.2.1++(x6::[])),()))))))))))))))))
   (W.call (zel z2.2.2.2.2.2.2.2.2.2.2.1 x6.1 x6.2.1) fun v8=>
   W.cnd (v8.2.1 != 0) (some ((0,([],([],([],([],([],([],([],([],([],([],([],())))))))))))),v8.2))
    ((k5 (z2.2.1,(z2.2.2.1,(z2.2.2.2.1,(z2.2.2.2.2.1,(z2.2.2.2.2.2.1,(z2.2.2.2.2.2.2.1,(z2.2.2.2.2.2.2.2.1,(z2.2.2.2.2.2.2.2.2.1,(z2.2.2.2.2.2.2.2.2.2.1,(v8.1,z2.2.2.2.2.2.2.2.2.2.2.2))))))))))))))
  (some ((z2.2.1,(z2.2.2.1,(z2.2.2.2.1,(z2.2.2.2.2.1,(z2.2.2.2.2.2.1,(z2.2.2.2.2.2.2.1,(z2.2.2.2.2.2.2.2.1,(z2.2.2.2.2.2.2.2.2.1,(z2.2.2.2.2.2.2.2.2.2.2.2.2.2.1,(z2.2.2.2.2.2.2.2.2.2.2.1,(z2.2.2.2.2.2.2.2.2.2.2.2.1,(z2.2.2.2.2.2.2.2.2.2.2.2.2.1,())))))))))))),(0,()))))
  (0,(s.1,(s.2.1,(s.2.2.1,(s.2.2.2.1,(s.2.2.2.2.1,(s.2.2.2.2.2.1,(s.2.2.2.2.2.2.1,(s.2.2.2.2.2.2.2.1,(s.2.2.2.2.2.2.2.2.1,(s.2.2.2.2.2.2.2.2.2.1,(s.2.2.2.2.2.2.2.2.2.2.1,(s.2.2.2.2.2.2.2.2.2.2.2.1,([],())))))))))))))))
def zho:=znj stdW
theorem zni:ECok Tryz.prog 27 (.es ⟨(.pair tAState (.pair (.int .i64) .unit)),(.pair (.v tAState) (.pair (.v (.int .i64)) .unit)),fun x=>zho x.1 x.2.1⟩):=es_z (fun W x=>znj W x.1 x.2.1) (cc zvg (cc zyf (cc zvc cn))) [] [(13,⟨[(6,.row 1)],[(0,[.t (.int .i64),.t (.slc tAMember),.t (.slc tAInst),.t (.slc tAAsset),.t (.slc tAAccount),.t (.slc tAChoice),.t (.slc tAGroup),.t (.slc tAGive),.t (.slc tAPos),.t (.slc tAPos),.t (.slc tAFlow),.t (.slc tAHold)])],[.dead,.own 50 tAPos]⟩)] [(5,⟨[(6,.row 1),(18,.t (.int .i64))],[(0,[.t (.int .i64),.t (.slc tAMember),.t (.slc tAInst),.t (.slc tAAsset),.t (.slc tAAccount),.t (.slc tAChoice),.t (.slc tAGroup),.t (.slc tAGive),.t (.slc tAPos),.t (.slc tAPos),.t (.slc tAFlow),.t (.slc tAHold)])],[.dead,.own 50 tAPos]⟩)] Tryz.func27
def ztx(W:Wd)(l:List AUnit'):Option Bool:=
 W.loop (fun (z1:Int×Unit) again2=>
 W.cnd (decide (z1.1<(l.length:Int))) (
  W.join (fun (z3:Bool×Unit)=>
  W.cnd z3.1 (some false)
   ((again2 ((IntKind.i64.wrap (z1.1+1)),()))))
  fun k4=>W.idx l z1.1 fun x5=>
  W.cnd (decide (x5.1<1)) ((k4 (true,())))
   (W.idx l z1.1 fun x6=>
   W.cnd (decide (8<x6.1)) ((k4 (true,())))
   (W.idx l z1.1 fun x7=>
   W.cnd (x7.2.1==0) ((k4 (true,())))
    (
    W.cnd (decide (0<z1.1)) (W.idx l (IntKind.i64.wrap (z1.1 - 1)) fun x8=>W.idx l z1.1 fun x9=>(k4 ((decide (x9.1≤x8.1)),())))
    ((k4 (false,())))))))
  (some true))
 (0,())
def zyy:=ztx stdW
theorem ybe:ECok Tryz.prog 265 (.es ⟨(.pair (.slc tAUnit) .unit),(.v .bool),fun x=>zyy x.1⟩):=es_z (fun W x=>ztx W x.1) cn [(4,[],(oN [1,3,5,7,9,11,13,15,17,19,21,23,25,27,29,31,33,35,37,39,41,43,45,47,49,51,53,55,57,59,61,63,65,67,69,71,73,75,77,79]))] [(500049,⟨[(49,.t .bool)],[],[]⟩)] [(2,⟨[(3,.t (.int .i64))],[],[]⟩)] Tryz.func265
def zll(W:Wd)(a:AUnit')(b:AUnit'):Option Bool:=
 W.cnd (decide (a.1<b.1)) (some true)
 (
 W.cnd (a.1==b.1) (some (decide (a.2.1<b.2.1)))
  (some false))
def zfi:=zll stdW
theorem zhd:ECok Tryz.prog 248 (.es ⟨(.pair tAUnit (.pair tAUnit .unit)),(.v .bool),fun x=>zfi x.1 x.2.1⟩):=es_z (fun W x=>zll W x.1 x.2.1) cn [] [] [] Tryz.func248
def zti(W:Wd)(l:List APos'):Option Bool:=
 W.loop (fun (z1:Int×Unit) again2=>
 W.cnd (decide (z1.1<(l.length:Int))) (
  W.join (fun (z3:Bool×Unit)=>
  W.cnd z3.1 (some false)
   ((again2 ((IntKind.i64.wrap (z1.1+1)),()))))
  fun k4=>W.idx l z1.1 fun x5=>
  W.cnd ((x5.2.1.length:Int)==0) (W.both ((k4 (true,()))) ((k4 (true,()))))
   (W.idx l z1.1 fun x6=>W.call (zyy x6.2.1) fun v7=>
   W.cnd (!v7) (W.both ((k4 (true,()))) ((k4 (true,()))))
   (
   W.cnd (decide (0<z1.1)) (W.idx l (IntKind.i64.wrap (z1.1 - 1)) fun x8=>W.idx l z1.1 fun x9=>W.both (W.call (zfi x8.1 x9.1) fun v10=>(k4 ((!v10),()))) (W.call (zfi x8.1 x9.1) fun v11=>(k4 ((!v11),()))))
    (W.both ((k4 (false,()))) ((k4 (false,())))))))
  (some true))
 (0,())
def zes:=zti stdW
theorem zro:ECok Tryz.prog 141 (.es ⟨(.pair (.slc tAPos) .unit),(.v .bool),fun x=>zes x.1⟩):=es_z (fun W x=>zti W x.1) (cc ybe (cc zhd cn)) [(4,[],(.rd 0 (.rd 1 (.rd 2 (.rd 3 (.rd 4 (.rd 5 (.rd 6 (.rd 7 (.rd 8 (.rd 9 (.rd 10 (.rd 11 (.rd 12 (.op 13 (.rd 14 (.rd 15 (.rd 16 (.rd 17 (.rd 18 (.rd 19 (.rd 20 (.rd 21 (.rd 22 (.rd 23 (.rd 24 (.rd 26 (.rd 27 (.rd 28 (.rd 29 (.two 25 30 (oN [60,62,65,67,69]) (oN [50,62,65,67,69]))))))))))))))))))))))))))))))))] [(500044,⟨[(44,.t .bool)],[],[]⟩)] [(2,⟨[(3,.t (.int .i64))],[],[]⟩)] Tryz.func141
def zio(W:Wd)(a:zab):Option (List AUnit'):=
 W.cnd (a.2.2.1==1) (W.room ((a.1,(0,()))::[]).length 16 (some ((a.1,(0,()))::[])))
 (
 W.loop (fun (z1:Int×List AUnit'×Unit) again2=>
  W.cnd (decide (z1.1<(a.2.2.2.1.length:Int))) (W.idx a.2.2.2.1 z1.1 fun x3=>W.room (z1.2.1.length+((a.1,(x3,()))::[]).length) 16 ((again2 ((IntKind.i64.wrap (z1.1+1)),((z1.2.1++((a.1,(x3,()))::[])),())))))
  (some z1.2.1))
  (0,([],())))
def zrq:=zio stdW
theorem yds:ECok Tryz.prog 68 (.es ⟨(.pair tAAccount .unit),(.own 47 tAUnit),fun x=>zrq x.1⟩):=es_z (fun W x=>zio W x.1) cn [(7,[],(oN [1,3,5,7,9,11,13,15,17,18,20,23]))] [] [(5,⟨[(3,.row 1),(4,.t (.int .i64))],[],[.dead,.own 47 tAUnit]⟩)] Tryz.func68
def zpk(W:Wd)(a:zab)(u:AUnit'):Option Bool:=W.call (zrq a) fun v1=>
 W.loop (fun (z2:Int×List AUnit'×Unit) again3=>
 W.cnd (decide (z2.1<(z2.2.1.length:Int))) (W.idx z2.2.1 z2.1 fun x4=>W.nth z2.2.1 (Int.toNat z2.1) fun x5=>
  W.cnd (Go.Vc.notIf false ((x5.1==u.1)&&(x5.2.1==u.2.1))) (some true)
  ((again3 ((IntKind.i64.wrap (z2.1+1)),z2.2))))
  (some false))
 (0,(v1,()))
def znz:=zpk stdW
theorem zxq:ECok Tryz.prog 153 (.es ⟨(.pair tAAccount (.pair tAUnit .unit)),(.v .bool),fun x=>znz x.1 x.2.1⟩):=es_z (fun W x=>zpk W x.1 x.2.1) (cc yds cn) [(5,[],(oN [1,3,5,9,6,11]))] [] [(3,⟨[(5,.row 0),(6,.t (.int .i64))],[],[.own 47 tAUnit]⟩)] Tryz.func153
def zik(W:Wd)(s:zae)(u:AUnit')(id:Int):Option Bool:=
 W.loop (fun (z1:Int×Unit) again2=>
 W.cnd (decide (z1.1<(s.2.2.2.2.1.length:Int))) (
  W.join (fun (z3:Bool×Unit)=>
  W.cnd z3.1 (some true)
   ((again2 ((IntKind.i64.wrap (z1.1+1)),()))))
  fun k4=>W.idx s.2.2.2.2.1 z1.1 fun x5=>
  W.cnd (x5.2.1==id) (W.idx s.2.2.2.2.1 z1.1 fun x6=>W.call (znz x6 u) fun v7=>(k4 (v7,())))
   ((k4 (false,()))))
  (some false))
 (0,())
def zgf:=zik stdW
theorem zrf:ECok Tryz.prog 142 (.es ⟨(.pair tAState (.pair tAUnit (.pair (.int .i64) .unit))),(.v .bool),fun x=>zgf x.1 x.2.1 x.2.2.1⟩):=es_z (fun W x=>zik W x.1 x.2.1 x.2.2.1) (cc zxq cn) [(4,[],(oN [1,3,5,7,9,11,13,15,17,19,21,23,25,27,29,30,33]))] [(500031,⟨[(31,.t .bool)],[],[]⟩)] [(2,⟨[(7,.t (.int .i64))],[],[]⟩)] Tryz.func142
def zth(W:Wd)(l:List APos')(u:AUnit'):Option (List AUnit'):=
 W.loop (fun (z1:Int×Unit) again2=>
 W.cnd (decide (z1.1<(l.length:Int))) (W.idx l z1.1 fun x3=>
  W.cnd (Go.Vc.notIf false ((x3.1.1==u.1)&&(x3.1.2.1==u.2.1))) (W.idx l z1.1 fun x4=>some x4.2.1)
  ((again2 ((IntKind.i64.wrap (z1.1+1)),()))))
  (some []))
 (0,())
def zei:=zth stdW
theorem zrn:ECok Tryz.prog 40 (.es ⟨(.pair (.slc tAPos) (.pair tAUnit .unit)),(.v (.slc tAUnit)),fun x=>zei x.1 x.2.1⟩):=es_z (fun W x=>zth W x.1 x.2.1) cn [(4,[],(oN [1,3,5,7,9,11,13]))] [] [(2,⟨[(5,.t (.int .i64))],[],[]⟩)] Tryz.func40
def zpp(W:Wd)(l:List AUnit')(inst:Int):Option Int:=
 W.loop (fun (z1:Int×Unit) again2=>
 W.cnd (decide (z1.1<(l.length:Int))) (W.idx l z1.1 fun x3=>
  W.cnd (x3.1==inst) (W.idx l z1.1 fun x4=>some x4.2.1)
  ((again2 ((IntKind.i64.wrap (z1.1+1)),()))))
  (some 0))
 (0,())
def zfx:=zpp stdW
theorem zoa:ECok Tryz.prog 151 (.es ⟨(.pair (.slc tAUnit) (.pair (.int .i64) .unit)),(.v (.int .i64)),fun x=>zfx x.1 x.2.1⟩):=es_z (fun W x=>zpp W x.1 x.2.1) cn [] [] [(2,⟨[(5,.t (.int .i64))],[],[]⟩)] Tryz.func151
def yeu(W:Wd)(u:Int):Option zac:=
 W.loop (fun (z1:Int×List Int×Unit) again2=>
 W.cnd (decide (0<z1.1)) (W.nz 2 (W.room (z1.2.1.length+((IntKind.u8.wrap (Int.tmod z1.1 2))::[]).length) 1 (W.nz 2 ((again2 ((IntKind.u64.wrap (Int.tdiv z1.1 2)),((z1.2.1++((IntKind.u8.wrap (Int.tmod z1.1 2))::[])),())))))))
  (some (false,z1.2)))
 (u,([],()))
def zhw:=yeu stdW
theorem zxu:ECok Tryz.prog 202 (.es ⟨(.pair (.int .u64) .unit),(.v tNovationref01Big),fun x=>zhw x.1⟩):=es_z (fun W x=>yeu W x.1) cn [] [] [(2,⟨[(0,.t (.int .u64)),(3,.row 1)],[],[.dead,.own 5 (.int .u8)]⟩)] Tryz.func202
def zlw(W:Wd)(a:List Int)(b:List Int):Option (List Int):=
 W.loop (fun (z1:Int×Int×List Int×Unit) again2=>
 W.join (fun (z3:List Int×Unit)=>
  W.join (fun (z4:Int×List Int×Unit)=>
  W.join (fun (z5:Int×List Int×Unit)=>W.nz 2 (W.room (z5.2.1.length+((Int.tmod z5.1 2)::[]).length) 1 (W.nz 2 ((again2 ((IntKind.u8.wrap (Int.tdiv z5.1 2)),((IntKind.i64.wrap (z1.2.1+1)),((z5.2.1++((Int.tmod z5.1 2)::[])),()))))))))
   fun k6=>
   W.cnd (decide (z1.2.1<(b.length:Int))) (W.idx b z1.2.1 fun x7=>(k6 ((IntKind.u8.wrap (z4.1+x7)),z4.2)))
   ((k6 z4)))
  fun k8=>
  W.cnd (decide (z1.2.1<(a.length:Int))) (W.idx a z1.2.1 fun x9=>(k8 ((IntKind.u8.wrap (z1.1+x9)),z3)))
   ((k8 (z1.1,z3))))
  fun k10=>
  W.cnd (decide (z1.2.1<(a.length:Int))) ((k10 z1.2.2))
  (
  W.cnd (decide (z1.2.1<(b.length:Int))) ((k10 z1.2.2))
   (
   W.join (fun (z11:List Int×Unit)=>some z11.1)
   fun k12=>
   W.cnd (decide (0<z1.1)) (W.room (z1.2.2.1.length+(z1.1::[]).length) 1 ((k12 ((z1.2.2.1++(z1.1::[])),()))))
    ((k12 z1.2.2)))))
 (0,(0,([],())))
def zfk:=zlw stdW
theorem zlv:ECok Tryz.prog 199 (.es ⟨(.pair (.slc (.int .u8)) (.pair (.slc (.int .u8)) .unit)),(.own 5 (.int .u8)),fun x=>zfk x.1 x.2.1⟩):=es_z (fun W x=>zlw W x.1 x.2.1) cn [] [(6,⟨[(5,.row 1)],[],[.dead,.own 5 (.int .u8)]⟩),(8,⟨[(5,.row 1),(6,.t (.int .u8))],[],[.dead,.own 5 (.int .u8)]⟩),(10,⟨[(5,.row 1),(6,.t (.int .u8))],[],[.dead,.own 5 (.int .u8)]⟩),(14,⟨[(5,.row 1)],[],[.dead,.own 5 (.int .u8)]⟩)] [(4,⟨[(5,.row 1),(6,.t (.int .u8)),(7,.t (.int .i64))],[],[.dead,.own 5 (.int .u8)]⟩)] Tryz.func199
def zty(W:Wd)(n:Int):Option zac:=
 W.cnd (decide (0≤n)) (W.call (zhw (IntKind.u64.wrap n)) fun v1=>some v1)
 (W.call (zhw (IntKind.u64.wrap (IntKind.i64.wrap (0 - (IntKind.i64.wrap (n+1)))))) fun v2=>W.call (zfk v2.2.1 (1::[])) fun v3=>some (true,(v3,())))
def zdg:=zty stdW
theorem zhv:ECok Tryz.prog 70 (.es ⟨(.pair (.int .i64) .unit),(.v tNovationref01Big),fun x=>zdg x.1⟩):=es_z (fun W x=>zty W x.1) (cc zxu (cc zlv cn)) [] [] [] Tryz.func70
def ybf(W:Wd)(neg:Bool)(b:List Int):Option zac:=
 W.join (fun (z1:Int×Unit)=>
 W.cnd neg (W.bnd z1.1 b.length fun h2=>some ((decide (0<z1.1)),((b.take h2),())))
  (W.bnd z1.1 b.length fun h3=>some (false,((b.take h3),()))))
 fun k4=>
 W.loop (fun (z5:Int×Unit) again6=>
  W.cnd (decide (0<z5.1)) (W.idx b (IntKind.i64.wrap (z5.1 - 1)) fun x7=>
  W.cnd (x7==0) ((again6 ((IntKind.i64.wrap (z5.1 - 1)),())))
   ((k4 z5)))
  ((k4 z5)))
  ((b.length:Int),())
def zfj:=ybf stdW
theorem zlu:ECok Tryz.prog 198 (.es ⟨(.pair .bool (.pair (.slc (.int .u8)) .unit)),(.v tNovationref01Big),fun x=>zfj x.1 x.2.1⟩):=es_z (fun W x=>ybf W x.1 x.2.1) cn [] [(4,⟨[(5,.t (.int .i64))],[],[]⟩)] [(2,⟨[(5,.t (.int .i64))],[],[]⟩)] Tryz.func198
def ybg(W:Wd)(a:List Int)(b:List Int):Option Bool:=
 W.cnd ((a.length:Int) != (b.length:Int)) (some (decide ((a.length:Int)<(b.length:Int))))
 (
 W.loop (fun (z1:Int×Unit) again2=>
  W.cnd (decide (0<z1.1)) (W.idx a (IntKind.i64.wrap (z1.1 - 1)) fun x3=>W.idx b (IntKind.i64.wrap (z1.1 - 1)) fun x4=>
  W.cnd (x3 != x4) (W.idx a (IntKind.i64.wrap (z1.1 - 1)) fun x5=>W.idx b (IntKind.i64.wrap (z1.1 - 1)) fun x6=>some (decide (x5<x6)))
   ((again2 ((IntKind.i64.wrap (z1.1 - 1)),()))))
  (some false))
  ((a.length:Int),()))
def zwe:=ybg stdW
theorem yhh:ECok Tryz.prog 200 (.es ⟨(.pair (.slc (.int .u8)) (.pair (.slc (.int .u8)) .unit)),(.v .bool),fun x=>zwe x.1 x.2.1⟩):=es_z (fun W x=>ybg W x.1 x.2.1) cn [(6,[],(oN [1,3,5,7,9,11,13,15,17,19,21])),(7,[],(oN [1,3,5,7,9,11,13,15,17,19,21,23]))] [] [(4,⟨[(5,.t (.int .i64))],[],[]⟩)] Tryz.func200
def zxr(W:Wd)(a:List Int)(b:List Int):Option (List Int):=
 W.loop (fun (z1:Int×Int×List Int×Unit) again2=>
 W.cnd (decide (z1.2.1<(a.length:Int))) (
  W.join (fun (z3:Int×List Int×Unit)=>W.idx a z1.2.1 fun x4=>
  W.join (fun (z5:Int×List Int×Unit)=>W.nz 2 (W.room (z5.2.1.length+((Int.tmod (IntKind.u8.wrap ((IntKind.u8.wrap (x4+2)) - z3.1)) 2)::[]).length) 1 ((again2 (z5.1,((IntKind.i64.wrap (z1.2.1+1)),((z5.2.1++((Int.tmod (IntKind.u8.wrap ((IntKind.u8.wrap (x4+2)) - z3.1)) 2)::[])),())))))))
   fun k6=>
   W.cnd (decide ((IntKind.u8.wrap ((IntKind.u8.wrap (x4+2)) - z3.1))<2)) ((k6 (1,z3.2)))
   ((k6 (0,z3.2))))
  fun k7=>
  W.cnd (decide (z1.2.1<(b.length:Int))) (W.idx b z1.2.1 fun x8=>(k7 ((IntKind.u8.wrap (z1.1+x8)),z1.2.2)))
   ((k7 (z1.1,z1.2.2))))
  (some z1.2.2.1))
 (0,(0,([],())))
def zlx:=zxr stdW
theorem ydx:ECok Tryz.prog 201 (.es ⟨(.pair (.slc (.int .u8)) (.pair (.slc (.int .u8)) .unit)),(.own 5 (.int .u8)),fun x=>zlx x.1 x.2.1⟩):=es_z (fun W x=>zxr W x.1 x.2.1) cn [] [(9,⟨[(5,.row 1),(8,.t (.int .u8))],[],[.dead,.own 5 (.int .u8)]⟩),(13,⟨[(5,.row 1),(6,.t (.int .u8))],[],[.dead,.own 5 (.int .u8)]⟩)] [(4,⟨[(5,.row 1),(6,.t (.int .u8)),(7,.t (.int .i64))],[],[.dead,.own 5 (.int .u8)]⟩)] Tryz.func201
def zpw(W:Wd)(a:zac)(b:zac):Option zac:=
 W.cnd (Go.Vc.notIf false (a.1==b.1)) (W.call (zfk a.2.1 b.2.1) fun v1=>W.call (zfj a.1 v1) fun v2=>some v2)
 (W.call (zwe a.2.1 b.2.1) fun v3=>
 W.cnd v3 (W.call (zlx b.2.1 a.2.1) fun v4=>W.call (zfj b.1 v4) fun v5=>some v5)
  (W.call (zlx a.2.1 b.2.1) fun v6=>W.call (zfj a.1 v6) fun v7=>some v7))
def zbv:=zpw stdW
theorem zee:ECok Tryz.prog 69 (.es ⟨(.pair tNovationref01Big (.pair tNovationref01Big .unit)),(.v tNovationref01Big),fun x=>zbv x.1 x.2.1⟩):=es_z (fun W x=>zpw W x.1 x.2.1) (cc zlv (cc zlu (cc yhh (cc ydx cn)))) [(2,[2],(oN [1,3,5,7,9,11,12,14,16])),(4,[2],(oN [1,3,5,7,9,11,12,14,16])),(5,[2],(oN [1,3,5,7,9,11,12,14,16]))] [] [] Tryz.func69
def zhe(W:Wd)(a:zac)(n:Int):Option Bool:=
 W.join (fun (z1:zac)=>some (decide ((z1.2.1.length:Int)<n)))
 fun k2=>
 W.cnd a.1 (W.both (W.call (zhw 1) fun v3=>W.call (zbv a v3) fun v4=>(k2 v4)) (W.call (zhw 1) fun v5=>W.call (zbv a v5) fun v6=>(k2 v6)))
  ((k2 a))
def zoc:=zhe stdW
theorem ybh:ECok Tryz.prog 280 (.es ⟨(.pair tNovationref01Big (.pair (.int .i64) .unit)),(.v .bool),fun x=>zoc x.1 x.2.1⟩):=es_z (fun W x=>zhe W x.1 x.2.1) (cc zxu (cc zee cn)) [(2,[0],(.two 0 1 (oN [2,4,6]) (oN [0,4,6])))] [(3,⟨[],[(0,[.t .bool,.t (.slc (.int .u8))])],[]⟩)] [] Tryz.func280
def zlz(W:Wd)(a:zac):Option Bool:=W.call (zoc a 64) fun v1=>some v1
def zfl:=zlz stdW
theorem zly:ECok Tryz.prog 156 (.es ⟨(.pair tNovationref01Big .unit),(.v .bool),fun x=>zfl x.1⟩):=es_z (fun W x=>zlz W x.1) (cc ybh cn) [] [] [] Tryz.func156
def zpu(W:Wd)(a:zac):Option Int:=
 W.loop (fun (z1:AUnit') again2=>
 W.cnd (decide (0<z1.2.1)) (
  W.join (fun (z3:Int×Unit)=>(again2 (z3.1,((IntKind.i64.wrap (z1.2.1 - 1)),()))))
  fun k4=>
  W.cnd a.1 (W.idx a.2.1 (IntKind.i64.wrap (z1.2.1 - 1)) fun x5=>(k4 ((IntKind.i64.wrap ((IntKind.i64.wrap (2*z1.1)) - (IntKind.i64.wrap x5))),())))
   (W.idx a.2.1 (IntKind.i64.wrap (z1.2.1 - 1)) fun x6=>(k4 ((IntKind.i64.wrap ((IntKind.i64.wrap (2*z1.1))+(IntKind.i64.wrap x6))),()))))
  (some z1.1))
 (0,((a.2.1.length:Int),()))
def zfy:=zpu stdW
theorem zod:ECok Tryz.prog 159 (.es ⟨(.pair tNovationref01Big .unit),(.v (.int .i64)),fun x=>zfy x.1⟩):=es_z (fun W x=>zpu W x.1) cn [] [(4,⟨[(3,.t (.int .i64))],[],[]⟩)] [(3,⟨[(3,.t (.int .i64)),(4,.t (.int .i64))],[],[]⟩)] Tryz.func159
def ztw(W:Wd)(n:List zac):Option ((List AUnit')×Int×Unit):=
 W.loop (fun (z1:Int×List AUnit'×Unit) again2=>
 W.cnd (decide (z1.1<(n.length:Int))) (
  W.join (fun (z3:List AUnit'×Unit)=>(again2 ((IntKind.i64.wrap (z1.1+1)),z3)))
  fun k4=>W.idx n z1.1 fun x5=>W.call (zfl x5) fun v6=>
  W.cnd (!v6) (some ([],(7,())))
   (W.idx n z1.1 fun x7=>W.call (zfy x7) fun v8=>
   W.cnd (v8 != 0) (W.room (z1.2.1.length+(((IntKind.i64.wrap (z1.1+1)),(v8,()))::[]).length) 16 ((k4 ((z1.2.1++(((IntKind.i64.wrap (z1.1+1)),(v8,()))::[])),()))))
   ((k4 z1.2))))
  (some (z1.2.1,(0,()))))
 (0,([],()))
def zyx:=ztw stdW
theorem ymt:ECok Tryz.prog 346 (.es ⟨(.pair (.slc tNovationref01Big) .unit),(.pair (.own 52 tAUnit) (.pair (.v (.int .i64)) .unit)),fun x=>zyx x.1⟩):=es_z (fun W x=>ztw W x.1) (cc zly (cc zod cn)) [] [(4,⟨[(4,.row 1)],[],[.dead,.own 52 tAUnit]⟩)] [(3,⟨[(4,.row 1),(5,.t (.int .i64))],[],[.dead,.own 52 tAUnit]⟩)] Tryz.func346
def zpq(W:Wd)(l:List (List AUnit')):Option ((List AUnit')×Int×Unit):=W.nn 8 (W.room (Int.toNat 8) 32 (W.bnd 8 (Int.toNat 8) fun h1=>
 W.loop (fun (z2:Int×List zac×Unit) again3=>
 W.cnd (decide (z2.1<(l.length:Int))) (W.idx l z2.1 fun x4=>W.call (zyy x4) fun v5=>
  W.cnd (!v5) (some ([],(3,())))
  (
  W.loop (fun (z6:Int×List zac×Unit) again7=>
   W.cnd (decide (z6.1<8)) (
   W.join (fun (z8:List zac×Unit)=>(again7 ((IntKind.i64.wrap (z6.1+1)),z8)))
    fun k9=>W.idx z6.2.1 z6.1 fun x10=>W.idx l z2.1 fun x11=>W.both (W.nth z6.2.1 (Int.toNat z6.1) fun x12=>W.call (zfx x11 (IntKind.i64.wrap (z6.1+1))) fun v13=>W.call (zdg v13) fun v14=>W.call (zbv x12 v14) fun v15=>W.idx z6.2.1 z6.1 fun x16=>W.nth z6.2.1 (Int.toNat z6.1) fun x17=>(k9 ((List.set z6.2.1 (Int.toNat z6.1) v15),()))) (W.call (zfx x11 (IntKind.i64.wrap (z6.1+1))) fun v18=>W.both (W.nth z6.2.1 (Int.toNat z6.1) fun x19=>W.call (zdg v18) fun v20=>W.call (zbv x19 v20) fun v21=>W.idx z6.2.1 z6.1 fun x22=>W.nth z6.2.1 (Int.toNat z6.1) fun x23=>(k9 ((List.set z6.2.1 (Int.toNat z6.1) v21),()))) (W.call (zdg v18) fun v24=>W.nth z6.2.1 (Int.toNat z6.1) fun x25=>W.call (zbv x25 v24) fun v26=>W.idx z6.2.1 z6.1 fun x27=>W.nth z6.2.1 (Int.toNat z6.1) fun x28=>(k9 ((List.set z6.2.1 (Int.toNat z6.1) v26),())))))
   ((again3 ((IntKind.i64.wrap (z2.1+1)),z6.2))))
   (0,z2.2)))
  (W.call (zyx z2.2.1) fun v29=>some v29))
 (0,((List.replicate h1 (false,([],()))),()))))
def zob:=zpq stdW
theorem ykc:ECok Tryz.prog 266 (.es ⟨(.pair (.slc (.slc tAUnit)) .unit),(.pair (.own 52 tAUnit) (.pair (.v (.int .i64)) .unit)),fun x=>zob x.1⟩):=es_z (fun W x=>zpq W x.1) (cc ybe (cc zoa (cc zhv (cc zee (cc ymt cn))))) [(10,[],(.rd 0 (.rd 1 (.rd 2 (.rd 3 (.rd 4 (.rd 6 (.rd 7 (.rd 8 (.rd 9 (.rd 10 (.rd 11 (.two 5 12 (oN [24,26,28,31,32]) (.two 5 13 (oN [26,28,31,32]) (oN [10,28,31,32])))))))))))))))] [(9,⟨[(4,.row 0)],[],[.own 72 tNovationref01Big]⟩)] [(3,⟨[(4,.row 0),(5,.t (.int .i64))],[],[.own 72 tNovationref01Big]⟩),(8,⟨[(4,.row 0),(6,.t (.int .i64))],[],[.own 72 tNovationref01Big]⟩)] Tryz.func266
def zil(W:Wd)(l:List APos')(u:AUnit')(legs:List AUnit'):Option ((List APos')×Int×Unit):=W.call (zes l) fun v1=>
 W.cnd (!v1) (some ([],(3,())))
 (W.call (zei l u) fun v2=>W.call (zob (v2::(legs::[]))) fun v3=>
 W.cnd (v3.2.1 != 0) (some ([],v3.2))
  (
  W.loop (fun (z4:List AUnit'×Bool×Int×List APos'×Unit) again5=>
  W.cnd (decide (z4.2.2.1<(l.length:Int))) (
   W.join (fun (z6:Bool×List APos'×Unit)=>(again5 (z4.1,(z6.1,((IntKind.i64.wrap (z4.2.2.1+1)),z6.2)))))
   fun k7=>
   W.join (fun (z8:Bool×List APos'×Unit)=>W.idx l z4.2.2.1 fun x9=>
    W.cnd (Go.Vc.notIf true ((x9.1.1==u.1)&&(x9.1.2.1==u.2.1))) (W.idx l z4.2.2.1 fun x10=>W.room (z8.2.1.length+(x10::[]).length) 40 ((k7 (z8.1,((z8.2.1++(x10::[])),())))))
    ((k7 z8)))
    fun k11=>
    W.join (fun (z12:Bool×List APos'×Unit)=>
    W.cnd z12.1 (W.room (z12.2.1.length+((u,(z4.1,()))::[]).length) 40 ((k11 (true,((z12.2.1++((u,(z4.1,()))::[])),())))))
     ((k11 (z4.2.1,z12.2))))
    fun k13=>
    W.cnd (!z4.2.1) (W.idx l z4.2.2.1 fun x14=>W.call (zfi x14.1 u) fun v15=>(k13 ((!v15),z4.2.2.2)))
     ((k13 (false,z4.2.2.2))))
   (
   W.join (fun (z16:List APos'×Unit)=>some (z16.1,(0,())))
   fun k17=>
   W.cnd (!z4.2.1) (W.room (z4.2.2.2.1.length+((u,(z4.1,()))::[]).length) 40 ((k17 ((z4.2.2.2.1++((u,(z4.1,()))::[])),()))))
    ((k17 z4.2.2.2))))
  (v3.1,(((v3.1.length:Int)==0),(0,([],()))))))
def zed:=zil stdW
theorem zrg:ECok Tryz.prog 143 (.es ⟨(.pair (.slc tAPos) (.pair tAUnit (.pair (.slc tAUnit) .unit))),(.pair (.own 50 tAPos) (.pair (.v (.int .i64)) .unit)),fun x=>zed x.1 x.2.1 x.2.2.1⟩):=es_z (fun W x=>zil W x.1 x.2.1 x.2.2.1) (cc zro (cc zrn (cc ykc (cc zhd cn)))) [(11,[],(oN [1,3,5,7,9,11,13,15,17,18,21,23])),(14,[],(oN [1,3,5,7,9,11,13]))] [(10,⟨[(10,.row 3),(11,.t .bool)],[],[.dead,.dead,.dead,.own 50 tAPos]⟩),(14,⟨[(10,.row 3),(11,.t .bool)],[],[.dead,.dead,.dead,.own 50 tAPos]⟩),(18,⟨[(10,.row 3)],[],[.dead,.dead,.dead,.own 50 tAPos]⟩),(500048,⟨[(10,.row 3),(48,.t .bool)],[],[.dead,.dead,.dead,.own 50 tAPos]⟩)] [(9,⟨[(8,.t (.slc tAUnit)),(10,.row 3),(11,.t .bool),(12,.t (.int .i64))],[],[.dead,.dead,.dead,.own 50 tAPos]⟩)] Tryz.func143
def zij(W:Wd)(s:zae)(id:Int):Option (zae×Int×Unit):=
 W.join (fun (z1:Bool×Unit)=>
 W.cnd z1.1 (some ((0,([],([],([],([],([],([],([],([],([],([],([],())))))))))))),(3,())))
  (
  W.loop (fun (z2:Int×Int×List zah×List AInst'×List zjp×List zab×List zrc×List zxj×List AGive'×List APos'×List APos'×List AFlow'×List AHold'×List APos'×Unit) again3=>
  W.cnd (decide (z2.1<(z2.2.2.2.2.2.2.2.2.2.1.length:Int))) (
   W.join (fun (z4:Int×List zah×List AInst'×List zjp×List zab×List zrc×List zxj×List AGive'×List APos'×List APos'×List AFlow'×List AHold'×List APos'×Unit)=>(again3 ((IntKind.i64.wrap (z2.1+1)),z4)))
   fun k5=>W.idx z2.2.2.2.2.2.2.2.2.2.1 z2.1 fun x6=>W.call (zgf (z2.2.1,(z2.2.2.1,(z2.2.2.2.1,(z2.2.2.2.2.1,(z2.2.2.2.2.2.1,(z2.2.2.2.2.2.2.1,(z2.2.2.2.2.2.2.2.1,(z2.2.2.2.2.2.2.2.2.1,(z2.2.2.2.2.2.2.2.2.2.1,(z2.2.2.2.2.2.2.2.2.2.2.1,(z2.2.2.2.2.2.2.2.2.2.2.2.1,(z2.2.2.2.2.2.2.2.2.2.2.2.2.1,())))))))))))) x6.1 id) fun v7=>
   W.cnd v7 (W.call (zed z2.2.2.2.2.2.2.2.2.2.2.1 x6.1 x6.2.1) fun v8=>
    W.cnd (v8.2.1 != 0) (some ((0,([],([],([],([],([],([],([],([],([],([],([],())))))))))))),v8.2))
    ((k5 (z2.2.1,(z2.2.2.1,(z2.2.2.2.1,(z2.2.2.2.2.1,(z2.2.2.2.2.2.1,(z2.2.2.2.2.2.2.1,(z2.2.2.2.2.2.2.2.1,(z2.2.2.2.2.2.2.2.2.1,(z2.2.2.2.2.2.2.2.2.2.1,(v8.1,z2.2.2.2.2.2.2.2.2.2.2.2)))))))))))))
    (W.room (z2.2.2.2.2.2.2.2.2.2.2.2.2.2.1.length+(x6::[]).length) 40 ((k5 (z2.2.1,(z2.2.2.1,(z2.2.2.2.1,(z2.2.2.2.2.1,(z2.2.2.2.2.2.1,(z2.2.2.2.2.2.2.1,(z2.2.2.2.2.2.2.2.1,(z2.2.2.2.2.2.2.2.2.1,(z2.2.2.2.2.2.2.2.2.2.1,(z2.2.2.2.2.2.2.2.2.2.2.1,(z2.2.2.2.2.2.2.2.2.2.2.2.1,(z2.2.2.2.2.2.2.2.2.2.2.2.2.1,((z2.2.2.2.2.2.2.2.2.2.2.2.2.2.1++(x6::[])),())))))))))))))))))
   (some ((z2.2.1,(z2.2.2.1,(z2.2.2.2.1,(z2.2.2.2.2.1,(z2.2.2.2.2.2.1,(z2.2.2.2.2.2.2.1,(z2.2.2.2.2.2.2.2.1,(z2.2.2.2.2.2.2.2.2.1,(z2.2.2.2.2.2.2.2.2.2.2.2.2.2.1,(z2.2.2.2.2.2.2.2.2.2.2.1,(z2.2.2.2.2.2.2.2.2.2.2.2.1,(z2.2.2.2.2.2.2.2.2.2.2.2.2.1,())))))))))))),(0,()))))
  (0,(s.1,(s.2.1,(s.2.2.1,(s.2.2.2.1,(s.2.2.2.2.1,(s.2.2.2.2.2.1,(s.2.2.2.2.2.2.1,(s.2.2.2.2.2.2.2.1,(s.2.2.2.2.2.2.2.2.1,(s.2.2.2.2.2.2.2.2.2.1,(s.2.2.2.2.2.2.2.2.2.2.1,(s.2.2.2.2.2.2.2.2.2.2.2.1,([],()))))))))))))))))
 fun k9=>W.call (zes s.2.2.2.2.2.2.2.2.1) fun v10=>
 W.cnd (!v10) ((k9 (true,())))
  (W.call (zes s.2.2.2.2.2.2.2.2.2.1) fun v11=>(k9 ((!v11),())))
def zrm:=zij stdW
theorem ydp:ECok Tryz.prog 28 (.es ⟨(.pair tAState (.pair (.int .i64) .unit)),(.pair (.v tAState) (.pair (.v (.int .i64)) .unit)),fun x=>zrm x.1 x.2.1⟩):=es_z (fun W x=>zij W x.1 x.2.1) (cc zro (cc zrf (cc zrg cn))) [] [(6,⟨[(6,.row 1)],[(0,[.t (.int .i64),.t (.slc tAMember),.t (.slc tAInst),.t (.slc tAAsset),.t (.slc tAAccount),.t (.slc tAChoice),.t (.slc tAGroup),.t (.slc tAGive),.t (.slc tAPos),.t (.slc tAPos),.t (.slc tAFlow),.t (.slc tAHold)])],[.dead,.own 50 tAPos]⟩),(500020,⟨[(20,.t .bool)],[],[]⟩)] [(5,⟨[(6,.row 1),(7,.t (.int .i64))],[(0,[.t (.int .i64),.t (.slc tAMember),.t (.slc tAInst),.t (.slc tAAsset),.t (.slc tAAccount),.t (.slc tAChoice),.t (.slc tAGroup),.t (.slc tAGive),.t (.slc tAPos),.t (.slc tAPos),.t (.slc tAFlow),.t (.slc tAHold)])],[.dead,.own 50 tAPos]⟩)] Tryz.func28
def zlt(W:Wd)(a:List AUnit')(b:List AUnit'):Option Bool:=
 W.cnd ((a.length:Int) != (b.length:Int)) (some false)
 (
 W.loop (fun (z1:Int×Unit) again2=>
  W.cnd (decide (z1.1<(a.length:Int))) (W.idx a z1.1 fun x3=>W.idx b z1.1 fun x4=>
  W.cnd (Go.Vc.notIf true ((x3.1==x4.1)&&(x3.2.1==x4.2.1))) (some false)
   ((again2 ((IntKind.i64.wrap (z1.1+1)),()))))
  (some true))
  (0,()))
def zwd:=zlt stdW
theorem yhg:ECok Tryz.prog 144 (.es ⟨(.pair (.slc tAUnit) (.pair (.slc tAUnit) .unit)),(.v .bool),fun x=>zwd x.1 x.2.1⟩):=es_z (fun W x=>zlt W x.1 x.2.1) cn [(6,[],(oN [1,3,5,7,9,11,13,15,17]))] [] [(4,⟨[(5,.t (.int .i64))],[],[]⟩)] Tryz.func144
def zlh(W:Wd)(a:List APos')(b:List APos'):Option Bool:=
 W.cnd ((a.length:Int) != (b.length:Int)) (some false)
 (
 W.loop (fun (z1:Int×Unit) again2=>
  W.cnd (decide (z1.1<(a.length:Int))) (
  W.join (fun (z3:Bool×Unit)=>
   W.cnd z3.1 (some false)
   ((again2 ((IntKind.i64.wrap (z1.1+1)),()))))
   fun k4=>W.idx a z1.1 fun x5=>W.idx b z1.1 fun x6=>
   W.cnd (Go.Vc.notIf true ((x5.1.1==x6.1.1)&&(x5.1.2.1==x6.1.2.1))) ((k4 (true,())))
   (W.idx a z1.1 fun x7=>W.idx b z1.1 fun x8=>W.call (zwd x7.2.1 x8.2.1) fun v9=>(k4 ((!v9),()))))
  (some true))
  (0,()))
def zbf:=zlh stdW
theorem ztg:ECok Tryz.prog 30 (.es ⟨(.pair (.slc tAPos) (.pair (.slc tAPos) .unit)),(.v .bool),fun x=>zbf x.1 x.2.1⟩):=es_z (fun W x=>zlh W x.1 x.2.1) (cc yhg cn) [(6,[],(oN [1,3,5,7,9,11,13,15,17,19,21,23,25,27,29,31,33,35,37,39,41,43,44,47,49]))] [(500041,⟨[(41,.t .bool)],[],[]⟩)] [(4,⟨[(5,.t (.int .i64))],[],[]⟩)] Tryz.func30
def zlj(W:Wd)(a:List AFlow')(b:List AFlow'):Option Bool:=
 W.cnd ((a.length:Int) != (b.length:Int)) (some false)
 (
 W.loop (fun (z1:Int×Unit) again2=>
  W.cnd (decide (z1.1<(a.length:Int))) (W.idx a z1.1 fun x3=>W.idx b z1.1 fun x4=>
  W.cnd (Go.Vc.notIf true ((x3.1.1==x4.1.1)&&((x3.1.2.1==x4.1.2.1)&&(x3.2.1==x4.2.1)))) (some false)
   ((again2 ((IntKind.i64.wrap (z1.1+1)),()))))
  (some true))
  (0,()))
def zpg:=zlj stdW
theorem yhc:ECok Tryz.prog 120 (.es ⟨(.pair (.slc tAFlow) (.pair (.slc tAFlow) .unit)),(.v .bool),fun x=>zpg x.1 x.2.1⟩):=es_z (fun W x=>zlj W x.1 x.2.1) cn [(6,[],(oN [1,3,5,7,9,11,13,15,17]))] [] [(4,⟨[(5,.t (.int .i64))],[],[]⟩)] Tryz.func120
def zle(W:Wd)(a:zae)(b:zae):Option Bool:=W.call (zbf a.2.2.2.2.2.2.2.2.1 b.2.2.2.2.2.2.2.2.1) fun v1=>
 W.cnd v1 (W.call (zbf a.2.2.2.2.2.2.2.2.2.1 b.2.2.2.2.2.2.2.2.2.1) fun v2=>
 W.cnd v2 (W.call (zpg a.2.2.2.2.2.2.2.2.2.2.1 b.2.2.2.2.2.2.2.2.2.2.1) fun v3=>some v3)
  (some false))
 (some false)
def zhl:=zle stdW
theorem ztf:ECok Tryz.prog 29 (.es ⟨(.pair tAState (.pair tAState .unit)),(.v .bool),fun x=>zhl x.1 x.2.1⟩):=es_z (fun W x=>zle W x.1 x.2.1) (cc ztg (cc yhc cn)) [] [] [] Tryz.func29
def zqv(W:Wd)(s:zae)(id:Int):Option (List APos'):=
 W.loop (fun (z1:Int×List APos'×Unit) again2=>
 W.cnd (decide (z1.1<(s.2.2.2.2.2.2.2.2.2.1.length:Int))) (
  W.join (fun (z3:List APos'×Unit)=>(again2 ((IntKind.i64.wrap (z1.1+1)),z3)))
  fun k4=>W.idx s.2.2.2.2.2.2.2.2.2.1 z1.1 fun x5=>W.call (zko s id x5.1) fun v6=>
  W.cnd v6 (W.room (z1.2.1.length+(x5::[]).length) 40 ((k4 ((z1.2.1++(x5::[])),()))))
   ((k4 z1.2)))
  (some z1.2.1))
 (0,([],()))
def zbw:=zqv stdW
theorem zyg:ECok Tryz.prog 31 (.es ⟨(.pair tAState (.pair (.int .i64) .unit)),(.own 50 tAPos),fun x=>zbw x.1 x.2.1⟩):=es_z (fun W x=>zqv W x.1 x.2.1) (cc zyf cn) [] [(7,⟨[(5,.row 1)],[],[.dead,.own 50 tAPos]⟩)] [(3,⟨[(5,.row 1),(11,.t (.int .i64))],[],[.dead,.own 50 tAPos]⟩)] Tryz.func31
def zlf(W:Wd)(s:zae)(id:Int):Option (List APos'):=
 W.loop (fun (z1:Int×List APos'×Unit) again2=>
 W.cnd (decide (z1.1<(s.2.2.2.2.2.2.2.2.2.1.length:Int))) (
  W.join (fun (z3:List APos'×Unit)=>(again2 ((IntKind.i64.wrap (z1.1+1)),z3)))
  fun k4=>W.idx s.2.2.2.2.2.2.2.2.2.1 z1.1 fun x5=>W.call (zgf s x5.1 id) fun v6=>
  W.cnd v6 (W.idx s.2.2.2.2.2.2.2.2.2.1 z1.1 fun x7=>W.room (z1.2.1.length+(x7::[]).length) 40 ((k4 ((z1.2.1++(x7::[])),()))))
   ((k4 z1.2)))
  (some z1.2.1))
 (0,([],()))
def zbp:=zlf stdW
theorem ygz:ECok Tryz.prog 32 (.es ⟨(.pair tAState (.pair (.int .i64) .unit)),(.own 50 tAPos),fun x=>zbp x.1 x.2.1⟩):=es_z (fun W x=>zlf W x.1 x.2.1) (cc zrf cn) [(5,[],(oN [1,3,5,7,9,11,13,15,16]))] [(4,⟨[(5,.row 1)],[],[.dead,.own 50 tAPos]⟩)] [(3,⟨[(5,.row 1),(6,.t (.int .i64))],[],[.dead,.own 50 tAPos]⟩)] Tryz.func32
def yfg(W:Wd)(i:AInst')(free10:Int):Option (Bool×(Int×Unit)):=some ((i.1==free10),(free10,()))
def zup:=yfg stdW
theorem ylg:ECok Tryz.prog 351 (.ls ⟨[.v tAInst,.ptr],[⟨3,[.v (.int .i64)]⟩],[⟨3,[.v (.int .i64)]⟩],(.q (.v .bool)),fun x=>zup x.1 x.2.1⟩):=ls_z (fun W x=>yfg W x.1 x.2.1) cn [] [] [] Tryz.func351
def zaq(W:Wd)(s:List AInst')(f0_0:Int):Option (Int×(Int×Unit)):=
 W.loop (fun (z1:AUnit') again2=>
 W.cnd (decide (z1.1<(s.length:Int))) (W.idx s z1.1 fun x3=>W.call (zup x3 z1.2.1) fun v4=>
  W.cnd v4.1 (some (z1.1,v4.2))
  ((again2 ((IntKind.i64.wrap (z1.1+1)),v4.2))))
  (some ((-1),z1.2)))
 (0,(f0_0,()))
def zbj:=zaq stdW
theorem zdn:ECok Tryz.prog 350 (.ls ⟨[.v (.slc tAInst),.fn 351 1],[⟨3,[.v (.int .i64)]⟩],[⟨3,[.v (.int .i64)]⟩],(.q (.v (.int .i64))),fun x=>zbj x.1 x.2.1⟩):=ls_z (fun W x=>zaq W x.1 x.2.1) (cc ylg cn) [] [] [(2,⟨[(8,.t (.int .i64))],[(0,[.t (.int .i64)])],[]⟩)] Tryz.func350
def zzn(W:Wd)(l:List AInst')(id:Int):Option Int:=W.call (zbj l id) fun v1=>some v1.1
def yno:=zzn stdW
theorem inst_at_ok:ECok Tryz.prog 270 (.es ⟨(.pair (.slc tAInst) (.pair (.int .i64) .unit)),(.v (.int .i64)),fun x=>yno x.1 x.2.1⟩):=es_z (fun W x=>zzn W x.1 x.2.1) (cc zdn cn) [] [] [] Tryz.func270
def zcq(W:Wd)(s:List Int):Option (List Int):=W.nilq (List.isEmpty s) fun g1=>
 W.cnd (Go.Vc.notIf false g1) (some [])
 (W.room ((0:Nat)+s.length) 8 (some ([]++s)))
def zdu:=zcq stdW
theorem zif:ECok Tryz.prog 130 (.es ⟨(.pair (.slc (.int .i64)) .unit),(.own 2 (.int .i64)),fun x=>zdu x.1⟩):=es_z (fun W x=>zcq W x.1) cn [] [] [] Tryz.func130
def zun(W:Wd)(i:AInst'):Option AInst':=W.call (zdu i.2.2.2.2.1) fun v1=>some (i.1,(i.2.1,(i.2.2.1,(i.2.2.2.1,(v1,())))))
def zzm:=zun stdW
theorem ynm:ECok Tryz.prog 271 (.es ⟨(.pair tAInst .unit),(.v tAInst),fun x=>zzm x.1⟩):=es_z (fun W x=>zun W x.1) (cc zif cn) [] [] [] Tryz.func271
def zqn(W:Wd)(l:List AInst')(id:Int):Option (AInst'×Bool×Unit):=W.call (yno l id) fun v1=>
 W.cnd (decide (v1<0)) (some ((0,(0,(0,(0,([],()))))),(false,())))
 (W.idx l v1 fun x2=>W.call (zzm x2) fun v3=>some (v3,(true,())))
def zoq:=zqn stdW
theorem zxz:ECok Tryz.prog 146 (.es ⟨(.pair (.slc tAInst) (.pair (.int .i64) .unit)),(.pair (.v tAInst) (.pair (.v .bool) .unit)),fun x=>zoq x.1 x.2.1⟩):=es_z (fun W x=>zqn W x.1 x.2.1) (cc inst_at_ok (cc ynm cn)) [] [] [] Tryz.func146
def zub(W:Wd)(l:List AFlow'):Option Bool:=
 W.loop (fun (z1:Int×Unit) again2=>
 W.cnd (decide (z1.1<(l.length:Int))) (W.idx l z1.1 fun x3=>
  W.join (fun (z4:Bool×Unit)=>
  W.cnd z4.1 (some false)
   ((again2 ((IntKind.i64.wrap (z1.1+1)),()))))
  fun k5=>
  W.cnd (x3.2.1==0) ((k5 (true,())))
   (
   W.cnd (decide (0<z1.1)) (W.idx l (IntKind.i64.wrap (z1.1 - 1)) fun x6=>W.call (zks x6.1 x3.1) fun v7=>(k5 ((!v7),())))
   ((k5 (false,())))))
  (some true))
 (0,())
def zpz:=zub stdW
theorem zrs:ECok Tryz.prog 181 (.es ⟨(.pair (.slc tAFlow) .unit),(.v .bool),fun x=>zpz x.1⟩):=es_z (fun W x=>zub W x.1) (cc zoz cn) [(4,[],(oN [1,3,5,7,9,11,13,15,17,19,21,23,25,27,29,30,33,35,37]))] [(500030,⟨[(30,.t .bool)],[],[]⟩)] [(2,⟨[(7,.t (.int .i64))],[],[]⟩)] Tryz.func181
def zvf(W:Wd)(all:Int)(qty:Int):Option Bool:=
 W.cnd (decide (0<qty)) (
 W.cnd (decide (qty≤all)) (some true)
  (
  W.cnd (decide (qty<0)) (some (decide (all≤qty)))
  (some false)))
 (
 W.cnd (decide (qty<0)) (some (decide (all≤qty)))
  (some false))
def yiz:=zvf stdW
theorem yod:ECok Tryz.prog 267 (.es ⟨(.pair (.int .i64) (.pair (.int .i64) .unit)),(.v .bool),fun x=>yiz x.1 x.2.1⟩):=es_z (fun W x=>zvf W x.1 x.2.1) cn [] [] [] Tryz.func267
def zie(W:Wd)(l:List zab)(id:Int):Option (Int×Bool×Unit):=
 W.loop (fun (z1:Int×Unit) again2=>
 W.cnd (decide (z1.1<(l.length:Int))) (W.idx l z1.1 fun x3=>
  W.cnd (decide (id≤x3.1)) (some (z1.1,((x3.1==id),())))
  ((again2 ((IntKind.i64.wrap (z1.1+1)),()))))
  (some ((l.length:Int),(false,()))))
 (0,())
def zqy:=zie stdW
theorem yjg:ECok Tryz.prog 397 (.es ⟨(.pair (.slc tAAccount) (.pair (.int .i64) .unit)),(.pair (.v (.int .i64)) (.pair (.v .bool) .unit)),fun x=>zqy x.1 x.2.1⟩):=es_z (fun W x=>zie W x.1 x.2.1) cn [(5,[],(oN [1,3,5,7,9,11,13]))] [] [(2,⟨[(10,.t (.int .i64))],[],[]⟩)] Tryz.func397
def zrb(W:Wd)(l:List zab)(id:Int):Option (zab×Bool×Unit):=W.call (zqy l id) fun v1=>
 W.cnd (!v1.2.1) (some ((0,(0,(0,([],())))),(false,())))
 (W.idx l v1.1 fun x2=>W.call (zqz x2) fun v3=>some (v3,(true,())))
def ydk:=zrb stdW
theorem ymd:ECok Tryz.prog 347 (.es ⟨(.pair (.slc tAAccount) (.pair (.int .i64) .unit)),(.pair (.v tAAccount) (.pair (.v .bool) .unit)),fun x=>ydk x.1 x.2.1⟩):=es_z (fun W x=>zrb W x.1 x.2.1) (cc yjg (cc ydi cn)) [] [] [] Tryz.func347
def zxx(W:Wd)(m:zah)(free10:Int):Option (Bool×(Int×Unit)):=some ((m.1==free10),(free10,()))
def zrw:=zxx stdW
theorem ydy:ECok Tryz.prog 422 (.ls ⟨[.v tAMember,.ptr],[⟨3,[.v (.int .i64)]⟩],[⟨3,[.v (.int .i64)]⟩],(.q (.v .bool)),fun x=>zrw x.1 x.2.1⟩):=ls_z (fun W x=>zxx W x.1 x.2.1) cn [] [] [] Tryz.func422
def zam(W:Wd)(s:List zah)(f0_0:Int):Option (Int×(Int×Unit)):=
 W.loop (fun (z1:AUnit') again2=>
 W.cnd (decide (z1.1<(s.length:Int))) (W.idx s z1.1 fun x3=>W.call (zrw x3 z1.2.1) fun v4=>
  W.cnd v4.1 (some (z1.1,v4.2))
  ((again2 ((IntKind.i64.wrap (z1.1+1)),v4.2))))
  (some ((-1),z1.2)))
 (0,(f0_0,()))
def zaz:=zam stdW
theorem zcz:ECok Tryz.prog 421 (.ls ⟨[.v (.slc tAMember),.fn 422 1],[⟨3,[.v (.int .i64)]⟩],[⟨3,[.v (.int .i64)]⟩],(.q (.v (.int .i64))),fun x=>zaz x.1 x.2.1⟩):=ls_z (fun W x=>zam W x.1 x.2.1) (cc ydy cn) [] [] [(2,⟨[(8,.t (.int .i64))],[(0,[.t (.int .i64)])],[]⟩)] Tryz.func421
def zqa(W:Wd)(l:List zah)(id:Int):Option Int:=W.call (zaz l id) fun v1=>some v1.1
def yby:=zqa stdW
theorem yku:ECok Tryz.prog 398 (.es ⟨(.pair (.slc tAMember) (.pair (.int .i64) .unit)),(.v (.int .i64)),fun x=>yby x.1 x.2.1⟩):=es_z (fun W x=>zqa W x.1 x.2.1) (cc zcz cn) [] [] [] Tryz.func398
def ziw(W:Wd)(l:List zah)(id:Int):Option (zah×Bool×Unit):=W.call (yby l id) fun v1=>
 W.cnd (decide (v1<0)) (some ((0,(0,(0,(0,())))),(false,())))
 (W.idx l v1 fun x2=>some (x2,(true,())))
def zmh:=ziw stdW
theorem ydz:ECok Tryz.prog 348 (.es ⟨(.pair (.slc tAMember) (.pair (.int .i64) .unit)),(.pair (.v tAMember) (.pair (.v .bool) .unit)),fun x=>zmh x.1 x.2.1⟩):=es_z (fun W x=>ziw W x.1 x.2.1) (cc yku cn) [] [] [] Tryz.func348
def zmg(W:Wd)(m:zah):Option Int:=
 W.cnd (m.2.2.1 != 0) (some 15)
 (some 0)
def zqb:=zmg stdW
theorem yhx:ECok Tryz.prog 349 (.es ⟨(.pair tAMember .unit),(.v (.int .i64)),fun x=>zqb x.1⟩):=es_z (fun W x=>zmg W x.1) cn [] [] [] Tryz.func349
def zng(W:Wd)(s:zae)(u:AUnit'):Option Int:=W.call (ydk s.2.2.2.2.1 u.1) fun v1=>
 W.join (fun (z2:Bool×Unit)=>
 W.cnd z2.1 (some 11)
  (
  W.cnd (v1.1.2.2.1 != 1) (some 17)
  (W.call (zmh s.2.1 v1.1.2.1) fun v3=>
  W.cnd (!v3.2.1) (some 15)
   (W.call (zqb v3.1) fun v4=>some v4))))
 fun k5=>
 W.cnd (!v1.2.1) ((k5 (true,())))
  (W.call (zvk v1.1 u) fun v6=>(k5 ((!v6),())))
def zxg:=zng stdW
theorem yjb:ECok Tryz.prog 269 (.es ⟨(.pair tAState (.pair tAUnit .unit)),(.v (.int .i64)),fun x=>zxg x.1 x.2.1⟩):=es_z (fun W x=>zng W x.1 x.2.1) (cc ymd (cc ydj (cc ydz (cc yhx cn)))) [] [(500016,⟨[(16,.t .bool)],[],[]⟩)] [] Tryz.func269
def znf(W:Wd)(s:zae)(u:AUnit')(to_:AUnit')(id:Int)(qty:Int)(price:Int):Option Int:=W.call (zoq s.2.2.1 id) fun v1=>
 W.join (fun (z2:Bool×Unit)=>
 W.cnd z2.1 (some 3)
  (
  W.cnd (!v1.2.1) (some 11)
  (
  W.join (fun (z3:Bool×Unit)=>
   W.cnd z3.1 (some 2)
   (W.call (ydd s.2.2.2.2.2.2.2.2.2.1 u) fun v4=>W.call (yan v4 id) fun v5=>W.call (yiz v5 qty) fun v6=>
   W.cnd (!v6) (some 23)
    (W.call (zxg s to_) fun v7=>some v7)))
   fun k8=>
   W.cnd (qty==0) ((k8 (true,())))
   (
   W.cnd (decide (price<0)) ((k8 (true,())))
    ((k8 ((decide (2147483647<price)),())))))))
 fun k9=>W.call (zkp s) fun v10=>
 W.cnd (!v10) ((k9 (true,())))
  (W.call (zpz s.2.2.2.2.2.2.2.2.2.2.1) fun v11=>(k9 ((!v11),())))
def zxf:=znf stdW
theorem yja:ECok Tryz.prog 145 (.es ⟨(.pair tAState (.pair tAUnit (.pair tAUnit (.pair (.int .i64) (.pair (.int .i64) (.pair (.int .i64) .unit)))))),(.v (.int .i64)),fun x=>zxf x.1 x.2.1 x.2.2.1 x.2.2.2.1 x.2.2.2.2.1 x.2.2.2.2.2.1⟩):=es_z (fun W x=>znf W x.1 x.2.1 x.2.2.1 x.2.2.2.1 x.2.2.2.2.1 x.2.2.2.2.2.1) (cc zxz (cc zvg (cc zrs (cc yfy (cc yej (cc yod (cc yjb cn))))))) [] [(500022,⟨[(22,.t .bool)],[],[]⟩),(500035,⟨[(35,.t .bool)],[],[]⟩)] [] Tryz.func145
def zjb(W:Wd)(p:Int):Option Bool:=
 W.cnd (decide (0≤p)) (some (decide (p≤2147483647)))
 (some false)
def zfg:=zjb stdW
theorem zri:ECok Tryz.prog 273 (.es ⟨(.pair (.int .i64) .unit),(.v .bool),fun x=>zfg x.1⟩):=es_z (fun W x=>zjb W x.1) cn [] [] [] Tryz.func273
def zuo(W:Wd)(m:Int):Option Bool:=
 W.cnd (decide (m<(-2147483647))) (some true)
 (some (decide (2147483647<m)))
def yig:=zuo stdW
theorem ynn:ECok Tryz.prog 353 (.es ⟨(.pair (.int .i64) .unit),(.v .bool),fun x=>yig x.1⟩):=es_z (fun W x=>zuo W x.1) cn [] [] [] Tryz.func353
def zbh(W:Wd)(s:List Int):Option (Int×(Unit)):=
 W.loop (fun (z1:Int×Unit) again2=>
 W.cnd (decide (z1.1<(s.length:Int))) (W.idx s z1.1 fun x3=>W.call (yig x3) fun v4=>
  W.cnd v4 (some z1)
  ((again2 ((IntKind.i64.wrap (z1.1+1)),()))))
  (some ((-1),())))
 (0,())
def zby:=zbh stdW
theorem zec:ECok Tryz.prog 399 (.ls ⟨[.v (.slc (.int .i64)),.fn 353 0],[],[],(.q (.v (.int .i64))),fun x=>zby x.1⟩):=ls_z (fun W x=>zbh W x.1) (cc ynn cn) [] [] [(2,⟨[(8,.t (.int .i64))],[],[]⟩)] Tryz.func399
def zay(W:Wd)(s:List Int):Option (Bool×(Unit)):=W.call (zby s) fun v1=>some ((decide (0≤v1.1)),())
def zbq:=zay stdW
theorem zdw:ECok Tryz.prog 352 (.ls ⟨[.v (.slc (.int .i64)),.fn 353 0],[],[],(.q (.v .bool)),fun x=>zbq x.1⟩):=ls_z (fun W x=>zay W x.1) (cc zec cn) [] [] [] Tryz.func352
def zmp(W:Wd)(i:AInst'):Option Int:=
 W.join (fun (z1:Bool×Unit)=>
 W.join (fun (z2:Bool×Unit)=>
  W.cnd z2.1 (some 2)
  (some 0))
  fun k3=>
  W.cnd (!z1.1) ((k3 (true,())))
  (W.call (zfg i.2.2.1) fun v4=>
  W.cnd (!v4) ((k3 (true,())))
   (W.call (zfg i.2.2.2.1) fun v5=>
   W.cnd (!v5) ((k3 (true,())))
   (
   W.cnd (decide (8<(i.2.2.2.2.1.length:Int))) ((k3 (true,())))
    (W.call (zbq i.2.2.2.2.1) fun v6=>(k3 v6))))))
 fun k7=>
 W.cnd (decide (1≤i.1)) (
  W.cnd (decide (i.1≤8)) (
  W.cnd (decide (1≤i.2.1)) ((k7 ((decide (i.2.1≤65536)),())))
   ((k7 (false,()))))
  ((k7 (false,()))))
  ((k7 (false,())))
def zqo:=zmp stdW
theorem yih:ECok Tryz.prog 272 (.es ⟨(.pair tAInst .unit),(.v (.int .i64)),fun x=>zqo x.1⟩):=es_z (fun W x=>zmp W x.1) (cc zri (cc zdw cn)) [] [(2,⟨[(3,.t .bool)],[],[]⟩),(500046,⟨[(46,.t .bool)],[],[]⟩)] [] Tryz.func272
def znn(W:Wd)(w:zao):Option Bool:=some (decide (w.1<0))
def zcf:=znn stdW
theorem zfp:ECok Tryz.prog 358 (.es ⟨(.pair tWideWide .unit),(.v .bool),fun x=>zcf x.1⟩):=es_z (fun W x=>znn W x.1) cn [] [] [] Tryz.func358
def zfo(W:Wd)(w:zao):Option ydl:=W.call (zcf w) fun v1=>
 W.cnd (!v1) (some ((IntKind.u64.wrap w.1),w.2))
 (W.call (sub64 0 w.2.1 0) fun v2=>W.call (sub64 0 (IntKind.u64.wrap w.1) v2.2.1) fun v3=>some (v3.1,(v2.1,())))
def zdy:=zfo stdW
theorem zjs:ECok Tryz.prog 354 (.es ⟨(.pair tWideWide .unit),(.v tWideSize),fun x=>zdy x.1⟩):=es_z (fun W x=>zfo W x.1) (cc zfp (cc yor cn)) [] [] [] Tryz.func354
def zeu(W:Wd)(x:Int)(y:Int):Option (AUnit'):=W.nn 32 (W.nn 32 (W.nn 32 (W.nn 32 (W.nn 32 (some ((IntKind.u64.wrap ((IntKind.u64.wrap ((IntKind.u64.wrap ((Int.fdiv x (2 ^ (Min.min (Int.toNat 32) (Go.IntKind.bits Go.IntKind.u64))))*(Int.fdiv y (2 ^ (Min.min (Int.toNat 32) (Go.IntKind.bits Go.IntKind.u64))))))+(Int.fdiv (IntKind.u64.wrap ((IntKind.u64.wrap ((Int.fdiv x (2 ^ (Min.min (Int.toNat 32) (Go.IntKind.bits Go.IntKind.u64))))*(Go.bits Go.BinOp.and Go.IntKind.u64 y 4294967295)))+(Int.fdiv (IntKind.u64.wrap ((Go.bits Go.BinOp.and Go.IntKind.u64 x 4294967295)*(Go.bits Go.BinOp.and Go.IntKind.u64 y 4294967295))) (2 ^ (Min.min (Int.toNat 32) (Go.IntKind.bits Go.IntKind.u64)))))) (2 ^ (Min.min (Int.toNat 32) (Go.IntKind.bits Go.IntKind.u64))))))+(Int.fdiv (IntKind.u64.wrap ((Go.bits Go.BinOp.and Go.IntKind.u64 (IntKind.u64.wrap ((IntKind.u64.wrap ((Int.fdiv x (2 ^ (Min.min (Int.toNat 32) (Go.IntKind.bits Go.IntKind.u64))))*(Go.bits Go.BinOp.and Go.IntKind.u64 y 4294967295)))+(Int.fdiv (IntKind.u64.wrap ((Go.bits Go.BinOp.and Go.IntKind.u64 x 4294967295)*(Go.bits Go.BinOp.and Go.IntKind.u64 y 4294967295))) (2 ^ (Min.min (Int.toNat 32) (Go.IntKind.bits Go.IntKind.u64)))))) 4294967295)+(IntKind.u64.wrap ((Go.bits Go.BinOp.and Go.IntKind.u64 x 4294967295)*(Int.fdiv y (2 ^ (Min.min (Int.toNat 32) (Go.IntKind.bits Go.IntKind.u64)))))))) (2 ^ (Min.min (Int.toNat 32) (Go.IntKind.bits Go.IntKind.u64)))))),((IntKind.u64.wrap (x*y)),())))))))
def zde:=zeu stdW
theorem zix:ECok Tryz.prog 355 (.es ⟨(.pair (.int .u64) (.pair (.int .u64) .unit)),(.pair (.v (.int .u64)) (.pair (.v (.int .u64)) .unit)),fun x=>zde x.1 x.2.1⟩):=es_z (fun W x=>zeu W x.1 x.2.1) cn [] [] [] Tryz.func355
def zjr(W:Wd)(s:ydl)(minus:Bool):Option (zao×Bool×Unit):=
 W.cnd (!minus) (some (((IntKind.i64.wrap s.1),s.2),((decide (s.1<9223372036854775808)),())))
 (W.call (sub64 0 s.2.1 0) fun v1=>W.call (sub64 0 s.1 v1.2.1) fun v2=>
 W.cnd (decide (s.1<9223372036854775808)) (some (((IntKind.i64.wrap v2.1),(v1.1,())),(true,())))
  (
  W.cnd (s.1==9223372036854775808) (some (((IntKind.i64.wrap v2.1),(v1.1,())),((s.2.1==0),())))
  (some (((IntKind.i64.wrap v2.1),(v1.1,())),(false,())))))
def zbu:=zjr stdW
theorem zhp:ECok Tryz.prog 357 (.es ⟨(.pair tWideSize (.pair .bool .unit)),(.pair (.v tWideWide) (.pair (.v .bool) .unit)),fun x=>zbu x.1 x.2.1⟩):=es_z (fun W x=>zjr W x.1 x.2.1) (cc yor cn) [(2,[1],(oN [1,3,5,7,9,11,13,15,17,18,21])),(5,[1],(oN [1,3,5,7,9,11,13,15,17,19,21,23,25,27,29,31,33,34,37]))] [] [] Tryz.func357
def zsn(W:Wd)(a:Int)(b:Int):Option zao:=W.call (zjj a) fun v1=>W.call (zjj b) fun v2=>W.call (zdy v1) fun v3=>W.call (zdy v2) fun v4=>W.call (zde v3.2.1 v4.2.1) fun v5=>W.both (W.call (zcf v1) fun v6=>W.both (W.call (zcf v2) fun v7=>W.both (W.call (zbu v5 (Go.Vc.notIf true (v6==v7))) fun v8=>some v8.1) (W.call (zbu v5 (Go.Vc.notIf true (v6==v7))) fun v9=>some v9.1)) (W.call (zcf v2) fun v10=>W.call (zbu v5 (Go.Vc.notIf true (v6==v10))) fun v11=>some v11.1)) (W.call (zcf v1) fun v12=>W.call (zcf v2) fun v13=>W.call (zbu v5 (Go.Vc.notIf true (v12==v13))) fun v14=>some v14.1)
def zym:=zsn stdW
theorem ymi:ECok Tryz.prog 275 (.es ⟨(.pair (.int .i64) (.pair (.int .i64) .unit)),(.v tWideWide),fun x=>zym x.1 x.2.1⟩):=es_z (fun W x=>zsn W x.1 x.2.1) (cc zhj (cc zjs (cc zix (cc zfp (cc zhp cn))))) [(2,[],(oN [1,7,2,5,8,11,12,15,17,19,21,23])),(3,[],(.rd 0 (.rd 1 (.rd 2 (.rd 3 (.rd 5 (.two 4 12 (.two 6 12 (.rd 7 (.two 8 12 (oN [19,21,23,24,26,29]) (oN [16,19,21,23,26,29]))) (oN [12,15,16,19,21,23,26,29])) (oN [8,12,15,16,19,21,23,26,29]))))))))] [] [] Tryz.func275
def zkw(W:Wd)(w:zao)(n:Int):Option (zao×Int×Unit):=W.call (zdy w) fun v1=>W.call (zjj n) fun v2=>W.call (zdy v2) fun v3=>W.call (zde v1.1 v3.2.1) fun v4=>W.call (zde v1.2.1 v3.2.1) fun v5=>W.call (add64 v4.2.1 v5.1 0) fun v6=>W.call (zcf w) fun v7=>W.call (zbu (v6.1,v5.2) (Go.Vc.notIf true (v7==(decide (n<0))))) fun v8=>
 W.cnd v8.2.1 (
 W.cnd (v4.1==0) (W.call (zfa v8.1 (v6.2.1==0)) fun v9=>some v9)
  (W.call (zfa v8.1 false) fun v10=>some v10))
 (W.call (zfa v8.1 false) fun v11=>some v11)
def zvr:=zkw stdW
theorem ygi:ECok Tryz.prog 274 (.es ⟨(.pair tWideWide (.pair (.int .i64) .unit)),(.pair (.v tWideWide) (.pair (.v (.int .i64)) .unit)),fun x=>zvr x.1 x.2.1⟩):=es_z (fun W x=>zkw W x.1 x.2.1) (cc zjs (cc zhj (cc zix (cc yqy (cc zfp (cc zhp (cc zrd cn))))))) [] [] [] Tryz.func274
def zqm(W:Wd)(i:AInst')(qty:Int)(from_:Int)(to_:Int):Option (AUnit'):=
 W.join (fun (z1:Bool×Unit)=>
 W.cnd z1.1 (some (0,(2,())))
  (W.call (zym (IntKind.i64.wrap (to_ - from_)) i.2.1) fun v2=>W.call (zvr v2 qty) fun v3=>
  W.cnd (v3.2.1 != 0) (some (0,v3.2))
  (W.call (zsp v3.1) fun v4=>some v4)))
 fun k5=>W.call (zqo i) fun v6=>
 W.cnd (v6 != 0) ((k5 (true,())))
  (W.call (zfg from_) fun v7=>
  W.cnd (!v7) ((k5 (true,())))
  (W.call (zfg to_) fun v8=>(k5 ((!v8),()))))
def zuq:=zqm stdW
theorem ylh:ECok Tryz.prog 147 (.es ⟨(.pair tAInst (.pair (.int .i64) (.pair (.int .i64) (.pair (.int .i64) .unit)))),(.pair (.v (.int .i64)) (.pair (.v (.int .i64)) .unit)),fun x=>zuq x.1 x.2.1 x.2.2.1 x.2.2.2.1⟩):=es_z (fun W x=>zqm W x.1 x.2.1 x.2.2.1 x.2.2.2.1) (cc yih (cc zri (cc ymi (cc ygi (cc yal cn))))) [] [(500024,⟨[(24,.t .bool)],[],[]⟩)] [] Tryz.func147
def zsm(W:Wd)(a:zao)(b:zao):Option (zao×Int×Unit):=W.call (zcm a 0 0 0) fun v1=>W.call (zcm ((Go.bits Go.BinOp.xor Go.IntKind.i64 (if true=true then (-1) else (if true=true then ((2 ^ ((Go.IntKind.bits Go.IntKind.i64) - 1)) - 1) else ((2 ^ (Go.IntKind.bits Go.IntKind.i64)) - 1))) b.1),((Go.bits Go.BinOp.xor Go.IntKind.u64 (if false=true then (-1) else (if false=true then ((2 ^ ((Go.IntKind.bits Go.IntKind.u64) - 1)) - 1) else ((2 ^ (Go.IntKind.bits Go.IntKind.u64)) - 1))) b.2.1),())) v1.2.1 v1.2.2.1 v1.2.2.2.1) fun v2=>W.call (zjj 1) fun v3=>W.call (zcm v3 v2.2.1 v2.2.2.1 v2.2.2.2.1) fun v4=>W.call (zea v4.2.1 v4.2.2.1 v4.2.2.2.1) fun v5=>some v5.1
def ygj:=zsm stdW
theorem ymh:ECok Tryz.prog 306 (.es ⟨(.pair tWideWide (.pair tWideWide .unit)),(.pair (.v tWideWide) (.pair (.v (.int .i64)) .unit)),fun x=>ygj x.1 x.2.1⟩):=es_z (fun W x=>zsm W x.1 x.2.1) (cc zjq (cc zhj (cc zig cn))) [] [] [] Tryz.func306
def zzu(W:Wd)(a:Int)(b:Int):Option (AUnit'):=W.call (zjj a) fun v1=>W.call (zjj b) fun v2=>W.call (ygj v1 v2) fun v3=>W.call (zki v3.1 v3.2.1) fun v4=>some v4
def zwy:=zzu stdW
theorem yfl:ECok Tryz.prog 183 (.es ⟨(.pair (.int .i64) (.pair (.int .i64) .unit)),(.pair (.v (.int .i64)) (.pair (.v (.int .i64)) .unit)),fun x=>zwy x.1 x.2.1⟩):=es_z (fun W x=>zzu W x.1 x.2.1) (cc zhj (cc ymh (cc zut cn))) [] [] [] Tryz.func183
def zpb(W:Wd)(l:List AUnit'):Option ((List AUnit')×Int×Unit):=W.call (zyo l) fun v1=>
 W.cnd v1 (some ([],(3,())))
 (
 W.loop (fun (z2:Int×List AUnit'×Unit) again3=>
  W.cnd (decide (z2.1<(l.length:Int))) (W.idx l z2.1 fun x4=>W.call (zwy 0 x4.2.1) fun v5=>
  W.cnd (v5.2.1 != 0) (some ([],v5.2))
   (W.room (z2.2.1.length+((x4.1,(v5.1,()))::[]).length) 16 ((again3 ((IntKind.i64.wrap (z2.1+1)),((z2.2.1++((x4.1,(v5.1,()))::[])),()))))))
  (some (z2.2.1,(0,()))))
  (0,([],())))
def ygm:=zpb stdW
theorem vec_Neg_ok:ECok Tryz.prog 148 (.es ⟨(.pair (.slc tAUnit) .unit),(.pair (.own 52 tAUnit) (.pair (.v (.int .i64)) .unit)),fun x=>ygm x.1⟩):=es_z (fun W x=>zpb W x.1) (cc yam (cc yfl cn)) [] [] [(5,⟨[(4,.row 1),(13,.t (.int .i64))],[],[.dead,.own 52 tAUnit]⟩)] Tryz.func148
def zgn(W:Wd)(l:List AFlow')(u:AUnit'):Option (List Int):=
 W.loop (fun (z1:Int×List Int×Unit) again2=>
 W.cnd (decide (z1.1<(l.length:Int))) (
  W.join (fun (z3:List Int×Unit)=>(again2 ((IntKind.i64.wrap (z1.1+1)),z3)))
  fun k4=>W.idx l z1.1 fun x5=>
  W.cnd (Go.Vc.notIf false ((x5.1.1==u.1)&&(x5.1.2.1==u.2.1))) (W.room (z1.2.1.length+(x5.2.1::[]).length) 8 ((k4 ((z1.2.1++(x5.2.1::[])),()))))
   ((k4 z1.2)))
  (some z1.2.1))
 (0,([],()))
def zmc:=zgn stdW
theorem zyk:ECok Tryz.prog 362 (.es ⟨(.pair (.slc tAFlow) (.pair tAUnit .unit)),(.own 2 (.int .i64)),fun x=>zmc x.1 x.2.1⟩):=es_z (fun W x=>zgn W x.1 x.2.1) cn [] [(7,⟨[(5,.row 1)],[],[.dead,.own 2 (.int .i64)]⟩)] [(3,⟨[(5,.row 1),(10,.t (.int .i64))],[],[.dead,.own 2 (.int .i64)]⟩)] Tryz.func362
def zpy(W:Wd)(l:List AFlow')(flows:List AFlow'):Option ((List AFlow')×Int×Unit):=W.call (zpz l) fun v1=>
 W.cnd (!v1) (some ([],(3,())))
 (W.call (zxc (l::(flows::[]))) fun v2=>W.call (namedO v2) fun v3=>
 W.loop (fun (z4:Int×List AUnit'×List AFlow'×Unit) again5=>
  W.cnd (decide (z4.1<(v3.length:Int))) (
  W.join (fun (z6:List AUnit'×List AFlow'×Unit)=>(again5 ((IntKind.i64.wrap (z4.1+1)),z6)))
   fun k7=>W.idx z4.2.1 z4.1 fun x8=>W.nth z4.2.1 (Int.toNat z4.1) fun x9=>W.call (zmc v2 x9) fun v10=>W.call (zwx v10) fun v11=>
   W.cnd (v11.2.1 != 0) (some ([],v11.2))
   (
   W.cnd (v11.1 != 0) (W.room (z4.2.2.1.length+((x9,(v11.1,()))::[]).length) 24 ((k7 (z4.2.1,((z4.2.2.1++((x9,(v11.1,()))::[])),())))))
    ((k7 z4.2))))
  (some (z4.2.2.1,(0,()))))
  (0,(v3,([],()))))
def zog:=zpy stdW
theorem yki:ECok Tryz.prog 278 (.es ⟨(.pair (.slc tAFlow) (.pair (.slc tAFlow) .unit)),(.pair (.own 143 tAFlow) (.pair (.v (.int .i64)) .unit)),fun x=>zog x.1 x.2.1⟩):=es_z (fun W x=>zpy W x.1 x.2.1) (cc zrs (cc concat_ok (cc named_ok (cc zyk (cc yfk cn))))) [] [(13,⟨[(7,.row 5),(20,.row 2)],[],[.dead,.dead,.own 47 tAUnit,.dead,.dead,.own 143 tAFlow]⟩)] [(6,⟨[(7,.row 5),(20,.row 2),(22,.t (.int .i64))],[],[.dead,.dead,.own 47 tAUnit,.dead,.dead,.own 143 tAFlow]⟩)] Tryz.func278
def zmd(W:Wd)(l:List AFlow')(from_:AUnit')(to_:AUnit')(amount:Int):Option ((List AFlow')×Int×Unit):=W.call (zwy 0 amount) fun v1=>
 W.join (fun (z2:Bool×Unit)=>
 W.cnd z2.1 (some ([],v1.2))
  (W.call (zog l ((from_,(v1.1,()))::((to_,(amount,()))::[]))) fun v3=>some v3))
 fun k4=>
 W.cnd (v1.2.1 != 0) (W.call (zpz l) fun v5=>(k4 (v5,())))
  ((k4 (false,())))
def zhn:=zmd stdW
theorem yho:ECok Tryz.prog 149 (.es ⟨(.pair (.slc tAFlow) (.pair tAUnit (.pair tAUnit (.pair (.int .i64) .unit)))),(.pair (.own 143 tAFlow) (.pair (.v (.int .i64)) .unit)),fun x=>zhn x.1 x.2.1 x.2.2.1 x.2.2.2.1⟩):=es_z (fun W x=>zmd W x.1 x.2.1 x.2.2.1 x.2.2.2.1) (cc yfl (cc zrs (cc yki cn))) [] [(500022,⟨[(22,.t .bool)],[],[]⟩)] [] Tryz.func149
def zqw(W:Wd)(s:zae)(u:AUnit')(to_:AUnit')(id:Int)(qty:Int)(price:Int):Option (zae×Int×Unit):=W.call (zxf s u to_ id qty price) fun v1=>
 W.cnd (v1 != 0) (some ((0,([],([],([],([],([],([],([],([],([],([],([],())))))))))))),(v1,())))
 (W.call (zoq s.2.2.1 id) fun v2=>W.call (zuq v2.1 qty price v2.1.2.2.1) fun v3=>
 W.cnd (v3.2.1 != 0) (some ((0,([],([],([],([],([],([],([],([],([],([],([],())))))))))))),v3.2))
  (W.call (ygm ((id,(qty,()))::[])) fun v4=>
  W.join (fun (z5:Int×zae)=>
  W.join (fun (z6:Int×zae)=>
   W.join (fun (z7:Int×zae)=>
   W.cnd (z7.1 != 0) (some ((0,([],([],([],([],([],([],([],([],([],([],([],())))))))))))),(z7.1,())))
    (some (z7.2,(0,()))))
   fun k8=>
   W.cnd (z6.1==0) (W.call (zhn z6.2.2.2.2.2.2.2.2.2.2.2.1 u to_ v3.1) fun v9=>(k8 (v9.2.1,(z6.2.1,(z6.2.2.1,(z6.2.2.2.1,(z6.2.2.2.2.1,(z6.2.2.2.2.2.1,(z6.2.2.2.2.2.2.1,(z6.2.2.2.2.2.2.2.1,(z6.2.2.2.2.2.2.2.2.1,(z6.2.2.2.2.2.2.2.2.2.1,(z6.2.2.2.2.2.2.2.2.2.2.1,(v9.1,z6.2.2.2.2.2.2.2.2.2.2.2.2))))))))))))))
    ((k8 z6)))
   fun k10=>
   W.cnd (z5.1==0) (W.call (zel z5.2.2.2.2.2.2.2.2.2.1 to_ ((id,(qty,()))::[])) fun v11=>(k10 (v11.2.1,(z5.2.1,(z5.2.2.1,(z5.2.2.2.1,(z5.2.2.2.2.1,(z5.2.2.2.2.2.1,(z5.2.2.2.2.2.2.1,(z5.2.2.2.2.2.2.2.1,(z5.2.2.2.2.2.2.2.2.1,(v11.1,z5.2.2.2.2.2.2.2.2.2.2))))))))))))
   ((k10 z5)))
  fun k12=>
  W.cnd (v4.2.1==0) (W.call (zel s.2.2.2.2.2.2.2.2.2.1 u v4.1) fun v13=>(k12 (v13.2.1,(s.1,(s.2.1,(s.2.2.1,(s.2.2.2.1,(s.2.2.2.2.1,(s.2.2.2.2.2.1,(s.2.2.2.2.2.2.1,(s.2.2.2.2.2.2.2.1,(s.2.2.2.2.2.2.2.2.1,(v13.1,s.2.2.2.2.2.2.2.2.2.2)))))))))))))
   ((k12 (v4.2.1,s)))))
def zkq:=zqw stdW
theorem zox:ECok Tryz.prog 34 (.es ⟨(.pair tAState (.pair tAUnit (.pair tAUnit (.pair (.int .i64) (.pair (.int .i64) (.pair (.int .i64) .unit)))))),(.pair (.v tAState) (.pair (.v (.int .i64)) .unit)),fun x=>zkq x.1 x.2.1 x.2.2.1 x.2.2.2.1 x.2.2.2.2.1 x.2.2.2.2.2.1⟩):=es_z (fun W x=>zqw W x.1 x.2.1 x.2.2.1 x.2.2.2.1 x.2.2.2.2.1 x.2.2.2.2.2.1) (cc yja (cc zxz (cc ylh (cc vec_Neg_ok (cc zvc (cc yho cn)))))) [] [(12,⟨[(18,.t (.int .i64))],[(0,[.t (.int .i64),.t (.slc tAMember),.t (.slc tAInst),.t (.slc tAAsset),.t (.slc tAAccount),.t (.slc tAChoice),.t (.slc tAGroup),.t (.slc tAGive),.t (.slc tAPos),.t (.slc tAPos),.t (.slc tAFlow),.t (.slc tAHold)])],[]⟩),(14,⟨[(18,.t (.int .i64))],[(0,[.t (.int .i64),.t (.slc tAMember),.t (.slc tAInst),.t (.slc tAAsset),.t (.slc tAAccount),.t (.slc tAChoice),.t (.slc tAGroup),.t (.slc tAGive),.t (.slc tAPos),.t (.slc tAPos),.t (.slc tAFlow),.t (.slc tAHold)])],[]⟩),(16,⟨[(18,.t (.int .i64))],[(0,[.t (.int .i64),.t (.slc tAMember),.t (.slc tAInst),.t (.slc tAAsset),.t (.slc tAAccount),.t (.slc tAChoice),.t (.slc tAGroup),.t (.slc tAGive),.t (.slc tAPos),.t (.slc tAPos),.t (.slc tAFlow),.t (.slc tAHold)])],[]⟩)] [] Tryz.func34
def zpi(W:Wd)(l:List AFlow')(u:AUnit'):Option Int:=
 W.loop (fun (z1:Int×Unit) again2=>
 W.cnd (decide (z1.1<(l.length:Int))) (W.idx l z1.1 fun x3=>
  W.cnd (Go.Vc.notIf false ((x3.1.1==u.1)&&(x3.1.2.1==u.2.1))) (W.idx l z1.1 fun x4=>some x4.2.1)
  ((again2 ((IntKind.i64.wrap (z1.1+1)),()))))
  (some 0))
 (0,())
def zfw:=zpi stdW
theorem zxp:ECok Tryz.prog 39 (.es ⟨(.pair (.slc tAFlow) (.pair tAUnit .unit)),(.v (.int .i64)),fun x=>zfw x.1 x.2.1⟩):=es_z (fun W x=>zpi W x.1 x.2.1) cn [(4,[],(oN [1,3,5,7,9,11,13]))] [] [(2,⟨[(5,.t (.int .i64))],[],[]⟩)] Tryz.func39
def ziy(W:Wd):Option Bool:=W.call (zho (0,(((2,(0,(0,(0,()))))::[]),(((1,(10,(7,(0,([],())))))::[]),([],(((1,(1,(2,((2::[]),()))))::((2,(2,(1,([],()))))::[])),([],([],([],((((1,(2,())),(((1,(5,()))::[]),()))::[]),([],([],([],())))))))))))) 1) fun v1=>W.call (zkq v1.1 (1,(2,())) (2,(0,())) 1 3 5) fun v2=>
 W.cnd (v1.2.1==0) (
 W.cnd (v2.2.1==0) (W.call (zbw v2.1 1) fun v3=>
  W.cnd ((v3.length:Int)==1) (W.idx v2.1.2.2.2.2.2.2.2.2.2.1 0 fun x4=>W.idx x4.2.1 0 fun x5=>
  W.cnd (x5.2.1==2) (W.call (zfw v2.1.2.2.2.2.2.2.2.2.2.2.1 (2,(0,()))) fun v6=>some (v6==60))
   (some false))
  (some false))
  (some false))
 (some false)
def zba:=ziy stdW
theorem zjn:ECok Tryz.prog 33 (.es ⟨.unit,(.v .bool),fun x=>zba ⟩):=es_z (fun W x=>ziy W ) (cc zni (cc zox (cc zyg (cc zxp cn)))) [] [] [] Tryz.func33
def zej(W:Wd)(s:zae)(id:Int):Option Bool:=W.call (zkg s) fun v1=>W.call (zho v1 id) fun v2=>W.call (zrm v1 id) fun v3=>W.call (zhl v2.1 v3.1) fun v4=>
 W.cnd v4 (
 W.cnd (v2.2.1==v3.2.1) (W.both (W.both (W.call (zbw v1 id) fun v5=>W.call (zbp v1 id) fun v6=>W.call (zbf v5 v6) fun v7=>
   W.cnd v7 (W.both (W.both (W.call (zbw v2.1 id) fun v8=>W.call (zbp v3.1 id) fun v9=>W.call (zbf v8 v9) fun v10=>
    W.cnd v10 (W.call (zba) fun v11=>some v11)
     (some false)) (W.call (zbw v2.1 id) fun v12=>W.call (zbp v3.1 id) fun v13=>W.call (zbf v12 v13) fun v14=>
    W.cnd v14 (W.call (zba) fun v15=>some v15)
     (some false))) (W.call (zbw v2.1 id) fun v16=>W.call (zbp v3.1 id) fun v17=>W.call (zbf v16 v17) fun v18=>
    W.cnd v18 (W.call (zba) fun v19=>some v19)
    (some false)))
   (W.both (W.both (some false) (some false)) (some false))) (W.call (zbw v1 id) fun v20=>W.call (zbp v1 id) fun v21=>W.call (zbf v20 v21) fun v22=>
   W.cnd v22 (W.both (W.both (W.call (zbw v2.1 id) fun v23=>W.call (zbp v3.1 id) fun v24=>W.call (zbf v23 v24) fun v25=>
    W.cnd v25 (W.call (zba) fun v26=>some v26)
     (some false)) (W.call (zbw v2.1 id) fun v27=>W.call (zbp v3.1 id) fun v28=>W.call (zbf v27 v28) fun v29=>
    W.cnd v29 (W.call (zba) fun v30=>some v30)
     (some false))) (W.call (zbw v2.1 id) fun v31=>W.call (zbp v3.1 id) fun v32=>W.call (zbf v31 v32) fun v33=>
    W.cnd v33 (W.call (zba) fun v34=>some v34)
    (some false)))
   (W.both (W.both (some false) (some false)) (some false)))) (W.call (zbw v1 id) fun v35=>W.call (zbp v1 id) fun v36=>W.call (zbf v35 v36) fun v37=>
  W.cnd v37 (W.both (W.both (W.call (zbw v2.1 id) fun v38=>W.call (zbp v3.1 id) fun v39=>W.call (zbf v38 v39) fun v40=>
    W.cnd v40 (W.call (zba) fun v41=>some v41)
    (some false)) (W.call (zbw v2.1 id) fun v42=>W.call (zbp v3.1 id) fun v43=>W.call (zbf v42 v43) fun v44=>
    W.cnd v44 (W.call (zba) fun v45=>some v45)
    (some false))) (W.call (zbw v2.1 id) fun v46=>W.call (zbp v3.1 id) fun v47=>W.call (zbf v46 v47) fun v48=>
   W.cnd v48 (W.call (zba) fun v49=>some v49)
    (some false)))
   (W.both (W.both (some false) (some false)) (some false))))
  (W.both (W.both (W.both (W.both (some false) (some false)) (some false)) (W.both (W.both (some false) (some false)) (some false))) (W.both (W.both (some false) (some false)) (some false))))
 (W.both (W.both (W.both (W.both (some false) (some false)) (some false)) (W.both (W.both (some false) (some false)) (some false))) (W.both (W.both (some false) (some false)) (some false)))
def znp:=zej stdW
theorem zry:ECok Tryz.prog 6 (.es ⟨(.pair tAState (.pair (.int .i64) .unit)),(.v .bool),fun x=>znp x.1 x.2.1⟩):=es_z (fun W x=>zej W x.1 x.2.1) (cc zol (cc zni (cc ydp (cc ztf (cc zyg (cc ygz (cc ztg (cc zjn cn)))))))) [(4,[],(.rd 0 (.rd 1 (.op 2 (.rd 3 (.rd 4 (.rd 5 (.rd 6 (.rd 7 (.rd 8 (.rd 10 (.rd 13 (.two 9 12 (.two 11 12 (.op 12 (.op 14 (.op 15 (.rd 16 (.rd 17 (.rd 19 (.rd 22 (.two 18 21 (.two 20 21 (oN [42,46,48,51,53,54,57,59]) (oN [40,46,48,51,53,54,57,59])) (oN [36,40,46,48,51,53,54,57,59]))))))))) (.op 11 (.op 14 (.op 15 (.rd 16 (.rd 17 (.rd 19 (.rd 22 (.two 18 21 (.two 20 21 (oN [42,46,48,51,53,54,57,59]) (oN [40,46,48,51,53,54,57,59])) (oN [36,40,46,48,51,53,54,57,59])))))))))) (.op 9 (.op 11 (.op 14 (.op 15 (.rd 16 (.rd 17 (.rd 19 (.rd 22 (.two 18 21 (.two 20 21 (oN [42,46,48,51,53,54,57,59]) (oN [40,46,48,51,53,54,57,59])) (oN [36,40,46,48,51,53,54,57,59])))))))))))))))))))))))] [] [] Tryz.func6
def ztk(W:Wd)(l:List AFlow'):Option Bool:=
 W.loop (fun (z1:Int×Unit) again2=>
 W.cnd (decide (z1.1<(l.length:Int))) (
  W.join (fun (z3:Bool×Unit)=>
  W.cnd z3.1 (some false)
   ((again2 ((IntKind.i64.wrap (z1.1+1)),()))))
  fun k4=>W.idx l z1.1 fun x5=>
  W.cnd (x5.2.1==0) ((k4 (true,())))
   (
   W.cnd (decide (0<z1.1)) (W.idx l (IntKind.i64.wrap (z1.1 - 1)) fun x6=>W.idx l z1.1 fun x7=>W.call (zfi x6.1 x7.1) fun v8=>(k4 ((!v8),())))
   ((k4 (false,())))))
  (some true))
 (0,())
def ztl:=ztk stdW
theorem ybd:ECok Tryz.prog 111 (.es ⟨(.pair (.slc tAFlow) .unit),(.v .bool),fun x=>ztl x.1⟩):=es_z (fun W x=>ztk W x.1) (cc zhd cn) [(4,[],(oN [1,3,5,7,9,11,13,15,17,19,21,23,25,27,29,31,33,35,37,39,41,42,45,47,49]))] [(500034,⟨[(34,.t .bool)],[],[]⟩)] [(2,⟨[(3,.t (.int .i64))],[],[]⟩)] Tryz.func111
def zpt(W:Wd)(a:zac)(b:zac):Option zac:=W.room a.2.1.length 1 (
 W.loop (fun (z1:List Int×List Int×Int×Unit) again2=>
 W.cnd (decide (z1.2.2.1<(b.2.1.length:Int))) (
  W.join (fun (z3:List Int×Unit)=>W.room (0::[]).length 1 (W.room ((0::[]).length+z1.2.1.length) 1 ((again2 (z3.1,(((0::[])++z1.2.1),((IntKind.i64.wrap (z1.2.2.1+1)),())))))))
  fun k4=>W.idx b.2.1 z1.2.2.1 fun x5=>
  W.cnd (x5==1) (W.call (zfk z1.1 z1.2.1) fun v6=>(k4 (v6,())))
   ((k4 (z1.1,()))))
  (W.call (zfj (Go.Vc.notIf true (a.1==b.1)) z1.1) fun v7=>some v7))
 ([],(a.2.1,(0,()))))
def zhx:=zpt stdW
theorem ykd:ECok Tryz.prog 279 (.es ⟨(.pair tNovationref01Big (.pair tNovationref01Big .unit)),(.v tNovationref01Big),fun x=>zhx x.1 x.2.1⟩):=es_z (fun W x=>zpt W x.1 x.2.1) (cc zlv (cc zlu cn)) [] [(8,⟨[(5,.t (.slc (.int .u8)))],[],[]⟩)] [(4,⟨[(5,.t (.slc (.int .u8))),(6,.t (.slc (.int .u8))),(7,.t (.int .i64))],[],[]⟩)] Tryz.func279
def zps(W:Wd)(a:zac):Option zac:=W.call (zfj (!a.1) a.2.1) fun v1=>some v1
def zka:=zps stdW
theorem zxt:ECok Tryz.prog 157 (.es ⟨(.pair tNovationref01Big .unit),(.v tNovationref01Big),fun x=>zka x.1⟩):=es_z (fun W x=>zps W x.1) (cc zlu cn) [] [] [] Tryz.func157
def zpr(W:Wd)(a:zac)(b:zac):Option zac:=W.call (zka b) fun v1=>W.call (zbv a v1) fun v2=>some v2
def zjz:=zpr stdW
theorem zxs:ECok Tryz.prog 71 (.es ⟨(.pair tNovationref01Big (.pair tNovationref01Big .unit)),(.v tNovationref01Big),fun x=>zjz x.1 x.2.1⟩):=es_z (fun W x=>zpr W x.1 x.2.1) (cc zxt (cc zee cn)) [(1,[2],(oN [1,3,4,6,8]))] [] [] Tryz.func71
def zlr(W:Wd)(i:AInst')(qty:Int)(from_:Int)(to_:Int):Option zac:=W.call (zdg qty) fun v1=>W.call (zdg i.2.1) fun v2=>W.call (zhx v1 v2) fun v3=>W.call (zdg to_) fun v4=>W.call (zdg from_) fun v5=>W.call (zjz v4 v5) fun v6=>W.call (zhx v3 v6) fun v7=>some v7
def zpn:=zlr stdW
theorem yhf:ECok Tryz.prog 155 (.es ⟨(.pair tAInst (.pair (.int .i64) (.pair (.int .i64) (.pair (.int .i64) .unit)))),(.v tNovationref01Big),fun x=>zpn x.1 x.2.1 x.2.2.1 x.2.2.2.1⟩):=es_z (fun W x=>zlr W x.1 x.2.1 x.2.2.1 x.2.2.2.1) (cc zhv (cc ykd (cc zxs cn))) [(1,[1],(oN [1,5,7,13,17,2,8,10,14,18,20,22,24]))] [] [] Tryz.func155
def zim(W:Wd)(l:List AFlow'):Option (List AUnit'):=
 W.loop (fun (z1:List AUnit'×Int×Unit) again2=>
 W.cnd (decide (z1.2.1<(l.length:Int))) (
  W.join (fun (z3:List AUnit'×Unit)=>(again2 (z3.1,((IntKind.i64.wrap (z1.2.1+1)),()))))
  fun k4=>W.idx l z1.2.1 fun x5=>
  W.loop (fun (z6:Int×Bool×Int×Unit) again7=>
   W.cnd (decide (z6.2.2.1<(z1.1.length:Int))) (
   W.join (fun (z8:Int×Bool×Unit)=>(again7 (z8.1,(z8.2.1,((IntKind.i64.wrap (z6.2.2.1+1)),())))))
    fun k9=>
    W.join (fun (z10:Bool×Unit)=>W.idx z1.1 z6.2.2.1 fun x11=>W.call (zfi x11 x5.1) fun v12=>
    W.cnd v12 ((k9 ((IntKind.i64.wrap (z6.2.2.1+1)),z10)))
     ((k9 (z6.1,z10))))
    fun k13=>
    W.cnd z6.2.1 ((k13 (true,())))
     (W.idx z1.1 z6.2.2.1 fun x14=>(k13 ((Go.Vc.notIf false ((x14.1==x5.1.1)&&(x14.2.1==x5.1.2.1))),()))))
   (
   W.cnd (!z6.2.1) (W.bnd z6.1 z1.1.length fun h15=>W.room (z1.1.take h15).length 16 (W.room ((z1.1.take h15).length+(x5.1::[]).length) 16 (W.bnd z6.1 z1.1.length fun h16=>W.room (((z1.1.take h15)++(x5.1::[])).length+((z1.1.take z1.1.length).drop h16).length) 16 ((k4 ((((z1.1.take h15)++(x5.1::[]))++((z1.1.take z1.1.length).drop h16)),()))))))
    ((k4 (z1.1,())))))
   (0,(false,(0,()))))
  (some z1.1))
 ([],(0,()))
def zrp:=zim stdW
theorem ydq:ECok Tryz.prog 281 (.es ⟨(.pair (.slc tAFlow) .unit),(.v (.slc tAUnit)),fun x=>zrp x.1⟩):=es_z (fun W x=>zim W x.1) (cc zhd cn) [(11,[],(oN [1,3,5,7,9,11,13,15,17,19])),(12,[],(oN [1,3,5,7,9,10]))] [(4,⟨[(3,.t (.slc tAUnit))],[],[]⟩),(10,⟨[(6,.t (.int .i64)),(7,.t .bool)],[],[]⟩),(12,⟨[(7,.t .bool)],[],[]⟩)] [(3,⟨[(3,.t (.slc tAUnit)),(4,.t (.int .i64))],[],[]⟩),(9,⟨[(6,.t (.int .i64)),(7,.t .bool),(8,.t (.int .i64))],[],[]⟩)] Tryz.func281
def zph(W:Wd)(l:List AFlow')(flows:List AFlow'):Option ((List AFlow')×Int×Unit):=W.call (ztl l) fun v1=>
 W.cnd (!v1) (some ([],(3,())))
 (W.room l.length 24 (W.room (l.length+flows.length) 24 (W.call (zrp (l++flows)) fun v2=>
 W.loop (fun (z3:Int×List AFlow'×Unit) again4=>
  W.cnd (decide (z3.1<(v2.length:Int))) (
  W.join (fun (z5:List AFlow'×Unit)=>(again4 ((IntKind.i64.wrap (z3.1+1)),z5)))
   fun k6=>
   W.loop (fun (z7:Int×Bool×List Int×List AFlow'×Unit) again8=>
   W.cnd (decide (z7.1<((l++flows).length:Int))) (
    W.join (fun (z9:Bool×List Int×List AFlow'×Unit)=>(again8 ((IntKind.i64.wrap (z7.1+1)),z9)))
    fun k10=>W.idx (l++flows) z7.1 fun x11=>W.idx v2 z3.1 fun x12=>
    W.cnd (Go.Vc.notIf false ((x11.1.1==x12.1)&&(x11.1.2.1==x12.2.1))) (W.idx (l++flows) z7.1 fun x13=>W.both (W.call (zdg x13.2.1) fun v14=>W.call (zbv (z7.2.1,(z7.2.2.1,())) v14) fun v15=>(k10 (v15.1,(v15.2.1,z7.2.2.2)))) (W.call (zdg x13.2.1) fun v16=>W.call (zbv (z7.2.1,(z7.2.2.1,())) v16) fun v17=>(k10 (v17.1,(v17.2.1,z7.2.2.2)))))
     ((k10 z7.2)))
    (W.call (zfl (z7.2.1,(z7.2.2.1,()))) fun v18=>
    W.cnd (!v18) (some ([],(7,())))
    (W.call (zfy (z7.2.1,(z7.2.2.1,()))) fun v19=>
    W.cnd (v19 != 0) (W.idx v2 z3.1 fun x20=>W.call (zfy (z7.2.1,(z7.2.2.1,()))) fun v21=>W.room (z7.2.2.2.1.length+((x20,(v21,()))::[]).length) 24 ((k6 ((z7.2.2.2.1++((x20,(v21,()))::[])),()))))
     ((k6 z7.2.2.2)))))
   (0,(false,([],z3.2))))
  (some (z3.2.1,(0,()))))
  (0,([],())))))
def ztj:=zph stdW
theorem yjy:ECok Tryz.prog 158 (.es ⟨(.pair (.slc tAFlow) (.pair (.slc tAFlow) .unit)),(.pair (.own 143 tAFlow) (.pair (.v (.int .i64)) .unit)),fun x=>ztj x.1 x.2.1⟩):=es_z (fun W x=>zph W x.1 x.2.1) (cc ybd (cc ydq (cc zhv (cc zee (cc zly (cc zod cn)))))) [(14,[],(oN [1,3,5,7,9,11,13,15,17,19])),(15,[0],(.rd 1 (.rd 2 (.rd 3 (.rd 4 (.rd 5 (.two 0 6 (oN [12,14,16]) (oN [0,14,16])))))))),(19,[],(oN [1,3,5,7,9,11,12,15,16,18,21]))] [(9,⟨[(7,.row 1)],[],[.dead,.own 143 tAFlow]⟩),(13,⟨[(7,.row 1)],[(0,[.t .bool,.t (.slc (.int .u8))])],[.dead,.own 143 tAFlow]⟩)] [(8,⟨[(7,.row 1),(9,.t (.int .i64))],[],[.dead,.own 143 tAFlow]⟩),(12,⟨[(7,.row 1),(11,.t (.int .i64))],[(0,[.t .bool,.t (.slc (.int .u8))])],[.dead,.own 143 tAFlow]⟩)] Tryz.func158
def zlg(W:Wd)(s:zae)(u:AUnit')(to_:AUnit')(id:Int)(qty:Int)(price:Int):Option (zae×Int×Unit):=
 W.join (fun (z1:Bool×Unit)=>
 W.cnd z1.1 (some ((0,([],([],([],([],([],([],([],([],([],([],([],())))))))))))),(3,())))
  (W.call (zpo s.2.2.1 id) fun v2=>
  W.cnd (!v2.2.1) (some ((0,([],([],([],([],([],([],([],([],([],([],([],())))))))))))),(11,())))
  (
  W.join (fun (z3:Bool×Unit)=>
   W.cnd z3.1 (some ((0,([],([],([],([],([],([],([],([],([],([],([],())))))))))))),(2,())))
   (W.call (zei s.2.2.2.2.2.2.2.2.2.1 u) fun v4=>W.call (zfx v4 id) fun v5=>
   W.join (fun (z6:Bool×Unit)=>
    W.cnd z6.1 (some ((0,([],([],([],([],([],([],([],([],([],([],([],())))))))))))),(23,())))
    (W.call (zjx s.2.2.2.2.1 to_.1) fun v7=>
    W.join (fun (z8:Bool×Unit)=>
     W.cnd z8.1 (some ((0,([],([],([],([],([],([],([],([],([],([],([],())))))))))))),(11,())))
     (
     W.cnd (v7.1.2.2.1 != 1) (some ((0,([],([],([],([],([],([],([],([],([],([],([],())))))))))))),(17,())))
      (W.call (zjy s.2.1 v7.1.2.1) fun v9=>
      W.join (fun (z10:Bool×Unit)=>
      W.cnd z10.1 (some ((0,([],([],([],([],([],([],([],([],([],([],([],())))))))))))),(15,())))
       (W.call (zpn v2.1 qty price v2.1.2.2.1) fun v11=>
       W.join (fun (z12:Bool×Unit)=>
       W.cnd z12.1 (some ((0,([],([],([],([],([],([],([],([],([],([],([],())))))))))))),(7,())))
        (W.call (zed s.2.2.2.2.2.2.2.2.2.1 u ((id,((IntKind.i64.wrap (0 - qty)),()))::[])) fun v13=>
        W.cnd (v13.2.1 != 0) (some ((0,([],([],([],([],([],([],([],([],([],([],([],())))))))))))),v13.2))
        (W.call (zed s.2.2.2.2.2.2.2.2.1 to_ ((id,(qty,()))::[])) fun v14=>
        W.cnd (v14.2.1 != 0) (some ((0,([],([],([],([],([],([],([],([],([],([],([],())))))))))))),v14.2))
         (W.call (zka v11) fun v15=>W.call (zfl v15) fun v16=>
         W.cnd (!v16) (some ((0,([],([],([],([],([],([],([],([],([],([],([],())))))))))))),(7,())))
         (W.call (zka v11) fun v17=>W.call (zfy v17) fun v18=>W.call (zfy v11) fun v19=>W.call (ztj s.2.2.2.2.2.2.2.2.2.2.1 ((u,(v18,()))::((to_,(v19,()))::[]))) fun v20=>
         W.cnd (v20.2.1 != 0) (some ((0,([],([],([],([],([],([],([],([],([],([],([],())))))))))))),v20.2))
          (some ((s.1,(s.2.1,(s.2.2.1,(s.2.2.2.1,(s.2.2.2.2.1,(s.2.2.2.2.2.1,(s.2.2.2.2.2.2.1,(s.2.2.2.2.2.2.2.1,(v14.1,(v13.1,(v20.1,s.2.2.2.2.2.2.2.2.2.2.2))))))))))),(0,()))))))))
       fun k21=>W.call (zfl v11) fun v22=>
       W.cnd (!v22) ((k21 (true,())))
        ((k21 ((qty==(-9223372036854775808)),())))))
      fun k23=>
      W.cnd (!v9.2.1) ((k23 (true,())))
       ((k23 ((v9.1.2.2.1 != 0),()))))))
     fun k24=>
     W.cnd (!v7.2.1) ((k24 (true,())))
     (W.call (znz v7.1 to_) fun v25=>(k24 ((!v25),())))))
    fun k26=>
    W.cnd (decide (0<qty)) (
    W.cnd (decide (v5<qty)) ((k26 (true,())))
     (
     W.cnd (decide (qty<0)) ((k26 ((decide (qty<v5)),())))
     ((k26 (false,())))))
    (
    W.cnd (decide (qty<0)) ((k26 ((decide (qty<v5)),())))
     ((k26 (false,()))))))
   fun k27=>
   W.cnd (qty==0) ((k27 (true,())))
   (
   W.cnd (decide (price<0)) ((k27 (true,())))
    ((k27 ((decide (2147483647<price)),())))))))
 fun k28=>W.call (zes s.2.2.2.2.2.2.2.2.1) fun v29=>
 W.cnd (!v29) ((k28 (true,())))
  (W.call (zes s.2.2.2.2.2.2.2.2.2.1) fun v30=>
  W.cnd (!v30) ((k28 (true,())))
  (W.call (ztl s.2.2.2.2.2.2.2.2.2.2.1) fun v31=>(k28 ((!v31),()))))
def zwc:=zlg stdW
theorem yha:ECok Tryz.prog 35 (.es ⟨(.pair tAState (.pair tAUnit (.pair tAUnit (.pair (.int .i64) (.pair (.int .i64) (.pair (.int .i64) .unit)))))),(.pair (.v tAState) (.pair (.v (.int .i64)) .unit)),fun x=>zwc x.1 x.2.1 x.2.2.1 x.2.2.2.1 x.2.2.2.2.1 x.2.2.2.2.2.1⟩):=es_z (fun W x=>zlg W x.1 x.2.1 x.2.2.1 x.2.2.2.1 x.2.2.2.2.1 x.2.2.2.2.2.1) (cc zro (cc ybd (cc ztv (cc zrn (cc zoa (cc zto (cc zxq (cc ztr (cc yhf (cc zly (cc zrg (cc zxt (cc zod (cc yjy cn)))))))))))))) [(30,[],(oN [1,3,5,7,15,17,8,10,13,18,21,22,24,27,29,31,33,35]))] [(500043,⟨[(43,.t .bool)],[],[]⟩),(500064,⟨[(64,.t .bool)],[],[]⟩),(500087,⟨[(87,.t .bool)],[],[]⟩),(500104,⟨[(104,.t .bool)],[],[]⟩),(500124,⟨[(124,.t .bool)],[],[]⟩),(500138,⟨[(138,.t .bool)],[],[]⟩)] [] Tryz.func35
def zex(W:Wd)(s:zae)(u:AUnit')(to_:AUnit')(id:Int)(qty:Int)(price:Int):Option Bool:=W.call (zkg s) fun v1=>W.call (zkq v1 u to_ id qty price) fun v2=>W.call (zwc v1 u to_ id qty price) fun v3=>W.call (zhl v2.1 v3.1) fun v4=>
 W.cnd v4 (
 W.cnd (v2.2.1==v3.2.1) (W.call (zba) fun v5=>some v5)
  (some false))
 (some false)
def zon:=zex stdW
theorem zuk:ECok Tryz.prog 7 (.es ⟨(.pair tAState (.pair tAUnit (.pair tAUnit (.pair (.int .i64) (.pair (.int .i64) (.pair (.int .i64) .unit)))))),(.v .bool),fun x=>zon x.1 x.2.1 x.2.2.1 x.2.2.2.1 x.2.2.2.2.1 x.2.2.2.2.2.1⟩):=es_z (fun W x=>zex W x.1 x.2.1 x.2.2.1 x.2.2.2.1 x.2.2.2.2.1 x.2.2.2.2.2.1) (cc zol (cc zox (cc yha (cc ztf (cc zjn cn))))) [] [] [] Tryz.func7
def zli(W:Wd)(l:List APos')(inst:Int):Option zac:=
 W.loop (fun (z1:Int×zac) again2=>
 W.cnd (decide (z1.1<(l.length:Int))) (
  W.join (fun (z3:zac)=>(again2 ((IntKind.i64.wrap (z1.1+1)),z3)))
  fun k4=>W.idx l z1.1 fun x5=>W.both (W.call (zfx x5.2.1 inst) fun v6=>W.call (zdg v6) fun v7=>W.call (zbv z1.2 v7) fun v8=>(k4 v8)) (W.call (zfx x5.2.1 inst) fun v9=>W.both (W.call (zdg v9) fun v10=>W.call (zbv z1.2 v10) fun v11=>(k4 v11)) (W.call (zdg v9) fun v12=>W.call (zbv z1.2 v12) fun v13=>(k4 v13))))
  (some z1.2))
 (0,(false,([],())))
def zhm:=zli stdW
theorem yhb:ECok Tryz.prog 160 (.es ⟨(.pair (.slc tAPos) (.pair (.int .i64) .unit)),(.v tNovationref01Big),fun x=>zhm x.1 x.2.1⟩):=es_z (fun W x=>zli W x.1 x.2.1) (cc zoa (cc zhv (cc zee cn))) [(5,[1],(.rd 1 (.rd 2 (.rd 3 (.rd 4 (.rd 5 (.rd 6 (.two 0 7 (oN [14,16,18,20]) (.two 0 8 (oN [16,18,20]) (oN [0,18,20]))))))))))] [(4,⟨[],[(1,[.t .bool,.t (.slc (.int .u8))])],[]⟩)] [(3,⟨[(6,.t (.int .i64))],[(1,[.t .bool,.t (.slc (.int .u8))])],[]⟩)] Tryz.func160
def zml(W:Wd)(s:zae)(inst:Int):Option zac:=W.call (zhm s.2.2.2.2.2.2.2.2.1 inst) fun v1=>W.call (zhm s.2.2.2.2.2.2.2.2.2.1 inst) fun v2=>W.call (zbv v1 v2) fun v3=>some v3
def zbg:=zml stdW
theorem yie:ECok Tryz.prog 37 (.es ⟨(.pair tAState (.pair (.int .i64) .unit)),(.v tNovationref01Big),fun x=>zbg x.1 x.2.1⟩):=es_z (fun W x=>zml W x.1 x.2.1) (cc yhb (cc zee cn)) [(1,[1],(oN [1,3,5,9,11,13,6,14,16,18]))] [] [] Tryz.func37
def zpv(W:Wd)(a:zac)(b:zac):Option Int:=W.call (zjz a b) fun v1=>
 W.cnd ((v1.2.1.length:Int)==0) (some 0)
 (
 W.cnd v1.1 (some (-1))
  (some 1))
def zcb:=zpv stdW
theorem yke:ECok Tryz.prog 36 (.es ⟨(.pair tNovationref01Big (.pair tNovationref01Big .unit)),(.v (.int .i64)),fun x=>zcb x.1 x.2.1⟩):=es_z (fun W x=>zpv W x.1 x.2.1) (cc zxs cn) [] [] [] Tryz.func36
def zin(W:Wd)(l:List AFlow'):Option zac:=
 W.loop (fun (z1:Int×zac) again2=>
 W.cnd (decide (z1.1<(l.length:Int))) (
  W.join (fun (z3:zac)=>(again2 ((IntKind.i64.wrap (z1.1+1)),z3)))
  fun k4=>W.idx l z1.1 fun x5=>W.both (W.call (zdg x5.2.1) fun v6=>W.call (zbv z1.2 v6) fun v7=>(k4 v7)) (W.call (zdg x5.2.1) fun v8=>W.call (zbv z1.2 v8) fun v9=>(k4 v9)))
  (some z1.2))
 (0,(false,([],())))
def zci:=zin stdW
theorem ydr:ECok Tryz.prog 38 (.es ⟨(.pair (.slc tAFlow) .unit),(.v tNovationref01Big),fun x=>zci x.1⟩):=es_z (fun W x=>zin W x.1) (cc zhv (cc zee cn)) [(5,[1],(.rd 1 (.rd 2 (.rd 3 (.rd 4 (.rd 5 (.two 0 6 (oN [12,14,16]) (oN [0,14,16]))))))))] [(4,⟨[],[(1,[.t .bool,.t (.slc (.int .u8))])],[]⟩)] [(3,⟨[(4,.t (.int .i64))],[(1,[.t .bool,.t (.slc (.int .u8))])],[]⟩)] Tryz.func38
def zew(W:Wd)(s:zae)(u:AUnit')(to_:AUnit')(other:AUnit')(id:Int)(qty:Int)(price:Int):Option Bool:=W.call (zkg s) fun v1=>W.call (zho v1 id) fun v2=>W.call (zkq v1 u to_ id qty price) fun v3=>
 W.loop (fun (z4:Int×Unit) again5=>
 W.cnd (decide (z4.1≤8)) (
  W.join (fun (z6:Bool×Unit)=>
  W.cnd z6.1 (some false)
   ((again5 ((IntKind.i64.wrap (z4.1+1)),()))))
  fun k7=>
  W.cnd (v2.2.1==0) (W.call (zbg v2.1 z4.1) fun v8=>W.call (zbg v1 z4.1) fun v9=>W.call (zcb v8 v9) fun v10=>
   W.cnd (v10 != 0) (W.both (W.both ((k7 (true,()))) ((k7 (true,())))) ((k7 (true,()))))
   (
   W.cnd (v3.2.1==0) (W.both (W.both (W.call (zbg v3.1 z4.1) fun v11=>W.call (zbg v1 z4.1) fun v12=>W.call (zcb v11 v12) fun v13=>(k7 ((v13 != 0),()))) (W.call (zbg v3.1 z4.1) fun v14=>W.call (zbg v1 z4.1) fun v15=>W.call (zcb v14 v15) fun v16=>(k7 ((v16 != 0),())))) (W.call (zbg v3.1 z4.1) fun v17=>W.call (zbg v1 z4.1) fun v18=>W.call (zcb v17 v18) fun v19=>(k7 ((v19 != 0),()))))
    (W.both (W.both ((k7 (false,()))) ((k7 (false,())))) ((k7 (false,()))))))
   (
   W.cnd (v3.2.1==0) (W.both (W.both (W.call (zbg v3.1 z4.1) fun v20=>W.call (zbg v1 z4.1) fun v21=>W.call (zcb v20 v21) fun v22=>(k7 ((v22 != 0),()))) (W.call (zbg v3.1 z4.1) fun v23=>W.call (zbg v1 z4.1) fun v24=>W.call (zcb v23 v24) fun v25=>(k7 ((v25 != 0),())))) (W.call (zbg v3.1 z4.1) fun v26=>W.call (zbg v1 z4.1) fun v27=>W.call (zcb v26 v27) fun v28=>(k7 ((v28 != 0),()))))
   (W.both (W.both ((k7 (false,()))) ((k7 (false,())))) ((k7 (false,()))))))
  (
  W.join (fun (z29:Bool×Unit)=>
  W.cnd z29.1 (some false)
   (
   W.join (fun (z30:Bool×Unit)=>
   W.cnd z30.1 (W.call (zba) fun v31=>some v31)
    (
    W.join (fun (z32:Bool×Unit)=>
    W.cnd z32.1 (W.call (zci v3.1.2.2.2.2.2.2.2.2.2.2.1) fun v33=>W.call (zci v1.2.2.2.2.2.2.2.2.2.2.1) fun v34=>W.call (zcb v33 v34) fun v35=>
     W.cnd (v35==0) (W.call (zba) fun v36=>some v36)
     (some false))
     (some false))
    fun k37=>W.call (zfw v3.1.2.2.2.2.2.2.2.2.2.2.1 other) fun v38=>W.call (zfw v1.2.2.2.2.2.2.2.2.2.2.1 other) fun v39=>
    W.cnd (v38==v39) (W.call (zei v3.1.2.2.2.2.2.2.2.2.1 other) fun v40=>W.call (zei v1.2.2.2.2.2.2.2.2.1 other) fun v41=>
     W.cnd ((v40.length:Int)==(v41.length:Int)) (W.call (zei v3.1.2.2.2.2.2.2.2.2.2.1 other) fun v42=>W.call (zei v1.2.2.2.2.2.2.2.2.2.1 other) fun v43=>(k37 (((v42.length:Int)==(v43.length:Int)),())))
     ((k37 (false,()))))
     ((k37 (false,())))))
   fun k44=>
   W.cnd (v3.2.1 != 0) ((k44 (true,())))
    (
    W.cnd (Go.Vc.notIf false ((other.1==u.1)&&(other.2.1==u.2.1))) ((k44 (true,())))
    ((k44 ((Go.Vc.notIf false ((other.1==to_.1)&&(other.2.1==to_.2.1))),()))))))
  fun k45=>
  W.cnd (v2.2.1==0) (W.call (zci v2.1.2.2.2.2.2.2.2.2.2.2.1) fun v46=>W.call (zci v1.2.2.2.2.2.2.2.2.2.2.1) fun v47=>W.call (zcb v46 v47) fun v48=>(k45 ((v48 != 0),())))
   ((k45 (false,())))))
 (1,())
def zom:=zew stdW
theorem zuj:ECok Tryz.prog 8 (.es ⟨(.pair tAState (.pair tAUnit (.pair tAUnit (.pair tAUnit (.pair (.int .i64) (.pair (.int .i64) (.pair (.int .i64) .unit))))))),(.v .bool),fun x=>zom x.1 x.2.1 x.2.2.1 x.2.2.2.1 x.2.2.2.2.1 x.2.2.2.2.2.1 x.2.2.2.2.2.2.1⟩):=es_z (fun W x=>zew W x.1 x.2.1 x.2.2.1 x.2.2.2.1 x.2.2.2.2.1 x.2.2.2.2.2.1 x.2.2.2.2.2.2.1) (cc zol (cc zni (cc zox (cc yie (cc yke (cc ydr (cc zjn (cc zxp (cc zrn cn))))))))) [(7,[],(.rd 0 (.rd 1 (.rd 2 (.rd 3 (.rd 4 (.rd 6 (.rd 7 (.op 5 (.op 8 (.op 9 (.rd 10 (.rd 11 (.rd 12 (.rd 13 (.rd 14 (.rd 15 (.rd 17 (.rd 20 (.two 16 19 (.two 18 19 (oN [38,42,44,47,49,51]) (oN [36,42,44,47,49,51])) (oN [32,36,42,44,47,49,51]))))))))))))))))))))),(9,[],(oN [1,3,5,7,9,13,15,10,16,18,21,23])),(13,[],(oN [1,3,5,9,11,13,6,14,17,19,21,23,25,31,33,35,26,29,36,39,41,43,45,47,49,51,57,59,61,52,55,62,65,67,69,71])),(14,[],(oN [1,3,5,7,11,13,8,14,16,19,21,23,24,27,29]))] [(14,⟨[(20,.t .bool)],[],[]⟩),(500068,⟨[(68,.t .bool)],[],[]⟩),(500080,⟨[(80,.t .bool)],[],[]⟩),(500092,⟨[(92,.t .bool)],[],[]⟩)] [(5,⟨[(19,.t (.int .i64))],[],[]⟩)] Tryz.func8
end
end Go.Proofs.YtllkmncnmlmefaaGreat

namespace Go.Proofs.YtllkmncnmlmefaaGreat
open Go Go.Vc Go.RowKit
theorem r_nat(u:Nat)(hu:u<18446744073709551616):zhw (u:Int)=some (bigS false u):=nat_is u hu
theorem r_plus{xs ys:List Int}(hx:Nrm xs)(hy:Nrm ys)(lx:xs.length≤1000)(ly:ys.length≤1000):zfk xs ys=some (bitsOf (valB xs+valB ys)):=plus_is hx hy lx ly
theorem r_less{xs ys:List Int}(hx:Nrm xs)(hy:Nrm ys)(lx:xs.length≤1000)(ly:ys.length≤1000):zwe xs ys=some (decide (valB xs<valB ys)):=less_is hx hy lx ly
theorem r_minus{xs ys:List Int}(hx:Nrm xs)(hy:Nrm ys)(lx:xs.length≤1000)(hle:valB ys≤valB xs):zlx xs ys=some (bitsK xs.length (valB xs - valB ys)):=minus_is hx hy lx hle
theorem r_trim{g:Bool}{xs:List Int}(h:bitL xs)(lx:xs.length≤1000):zfj g xs=some (bigS g (valB xs)):=trim_is h lx
theorem yde{n k K:Nat}(h:n<2 ^ k)(hk:k≤K):(bitsOf n).length≤K:=Nat.le_trans (zvd k n h) hk
theorem pw{a b k:Nat}(ha:a<2 ^ k)(hb:b<2 ^ k):a+b<2 ^ (k+1):=by rw[Nat.pow_succ]; omega
theorem zaa{α β:Type}{o:Option α}{a:α}(h:o=some a)(K:α→Option β):stdW.call o K=K a:=by subst h; rfl
theorem ygo{xs:List Int}(h:Nrm xs){k:Nat}(hl:xs.length≤k):valB xs<2 ^ k:=Nat.lt_of_lt_of_le (zvu xs h.bits) (Nat.pow_le_pow_right (by omega) hl)
theorem sum_len{a b:List Int}(ha:Nrm a)(hb:Nrm b){k:Nat}(la:a.length≤k)(lb:b.length≤k):(bitsOf (valB a+valB b)).length≤k+1:=yde (pw (ygo ha la) (ygo hb lb)) (Nat.le_refl _)
theorem r_add{x y:BigT}(hx:Nb x)(hy:Nb y)(lx:x.2.1.length≤900)(ly:y.2.1.length≤900):zbv x y=some (big (bv x+bv y)):=by
 show zpw stdW x y=_
 have nx:=nb_nrm hx
 have ny:=nb_nrm hy
 unfold zpw
 have eta:∀z:BigT,(some (z.1,(z.2.1,())):Option BigT)=some z:=fun z=>rfl
 by_cases h:x.1=y.1
 ·have e:notIf false (x.1==y.1)=true:=by simp[notIf,h]
  have hs:(bitsOf (valB x.2.1+valB y.2.1)).length≤1000:=Nat.le_trans (sum_len nx ny lx ly) (by omega)
  rw[e]
  show (stdW.call _ _:Option BigT)=_
  rw[zaa (r_plus nx ny (by omega) (by omega)),zaa (r_trim (zow _) hs),eta,add_same h]
 ·have e:notIf false (x.1==y.1)=false:=by simp[notIf,h]
  rw[e]
  show (stdW.call _ _:Option BigT)=_
  rw[zaa (r_less nx ny (by omega) (by omega))]
  by_cases hl:valB x.2.1<valB y.2.1
  ·rw[decide_eq_true hl]
   show (stdW.call _ _:Option BigT)=_
   rw[zaa (r_minus ny nx (by omega) (by omega)),zaa (r_trim (bitL_K _ _) (by rw[len_K]; omega)),eta,add_less ny h hl]
  ·rw[decide_eq_false hl]
   show (stdW.call _ _:Option BigT)=_
   rw[zaa (r_minus nx ny (by omega) (by omega)),zaa (r_trim (bitL_K _ _) (by rw[len_K]; omega)),eta,add_more nx h hl]
end Go.Proofs.YtllkmncnmlmefaaGreat
namespace Go.Vc
open Go Go.RowKit
variable {β:Type}
theorem zdi{α S:Type}{l:List α}(hl:l.length≤9223372036854775807){f:Int×S→(Int×S→Option β)→Option β}(Inv:Nat→S→Prop)(g:List α→S→Option β){s0:S}(h0:Inv 0 s0)
  (hend:∀s (again:Int×S→Option β),Inv l.length s→f ((l.length:Int),s) again=g [] s)
  (hstep:∀i (h:i<l.length) s,Inv i s→∀again:Int×S→Option β,(∀s',Inv (i+1) s'→again (((i+1:Nat):Int),s')=g (l.drop (i+1)) s')→f ((i:Int),s) again=g (l[i]::l.drop (i+1)) s):
  stdW.loop f (0,s0)=g l s0:=by
 refine(zdv (fun z=>(l.length+1) - z.1.toNat) (fun z=>∃i:Nat,z.1=(i:Int)∧i≤l.length∧Inv i z.2) (fun z=>g (l.drop z.1.toNat) z.2) ⟨0,rfl,by omega,h0⟩ (by show l.length+1 - 0<_; omega) ?_).trans ?_
 ·rintro⟨z,s⟩ ⟨i,hi,hle,hs⟩ again ha
  dsimp only at hi hs
  subst hi
  simp only[Int.toNat_natCast]
  by_cases h:i<l.length
  ·rw[zkk l i h]
   refine hstep i h s hs again fun s' hs'=>?_
   have:=ha (((i+1:Nat):Int),s') ⟨i+1,rfl,by omega,hs'⟩ (by simp only[Int.toNat_natCast]; omega)
   simpa only[Int.toNat_natCast]using this
  ·obtain rfl:i=l.length:=by omega
   rw[List.drop_length]
   exact hend s again hs
 ·simp
theorem cnd_lt{i n:Nat}(h:i<n)(a b:Option β):stdW.cnd (decide ((i:Int)<(n:Int))) a b=a:=by rw[decide_eq_true (by omega)]; rfl
theorem zak{n:Nat}(a b:Option β):stdW.cnd (decide ((n:Int)<(n:Int))) a b=b:=by rw[decide_eq_false (by omega)]; rfl
theorem cnd_b{c:Bool}(a b:Option β):stdW.cnd c a b=if c=true then a else b:=by cases c<;>rfl
theorem cnd_y{c:Bool}(h:c=true)(a b:Option β):stdW.cnd c a b=a:=by subst h; rfl
theorem cnd_n{c:Bool}(h:c=false)(a b:Option β):stdW.cnd c a b=b:=by subst h; rfl
theorem idx_w{α:Type}{l:List α}{i:Nat}(h:i<l.length)(K:α→Option β):stdW.idx l (i:Int) K=K l[i]:=idx_eq h K
theorem nth_w{α:Type}{l:List α}{i:Nat}(h:i<l.length)(K:α→Option β):stdW.nth l (Int.toNat (i:Int)) K=K l[i]:=by
 show idxR l _ K=_
 unfold idxR
 rw[Int.toNat_natCast,List.getElem?_eq_getElem h]
theorem room_w{n b:Nat}(h:n≤281474976710656)(h2:n*b≤140737488355328)(K:Option β):stdW.room n b K=K:=yba h h2 K
theorem nn_w{b:Int}(h:0≤b)(K:Option β):stdW.nn b K=K:=nn_eq h K
theorem both_w(a:Option β):stdW.both a a=a:=both_eq a
theorem join_w{X:Type}(k:X→Option β)(f:(X→Option β)→Option β):stdW.join k f=f k:=rfl
theorem bnd_w{i:Int}{n:Nat}(h:0≤i)(h2:i≤n)(K:Nat→Option β):stdW.bnd i n K=K i.toNat:=bnd_eq h h2 K
theorem i64_s(i:Nat)(h:i<9223372036854775807):IntKind.i64.wrap ((i:Int)+1)=((i+1:Nat):Int):=zzo i h
end Go.Vc
namespace Go.Vc
variable {β:Type}
theorem loop_n{S:Type}{N:Nat}(hN:N<9223372036854775807){f:Int×S→(Int×S→Option β)→Option β}(Inv:Nat→S→Prop)(r:Option β){s0:S}(h0:Inv 0 s0)
  (hend:∀s (again:Int×S→Option β),Inv N s→f (((N:Nat):Int),s) again=r)
  (hstep:∀i,i<N→∀s,Inv i s→∀again:Int×S→Option β,(∀s',Inv (i+1) s'→again (((i+1:Nat):Int),s')=r)→f ((i:Int),s) again=r):
  stdW.loop f (0,s0)=r:=by
 refine(zdv (fun z=>(N+1) - z.1.toNat) (fun z=>∃i:Nat,z.1=(i:Int)∧i≤N∧Inv i z.2) (fun _=>r) ⟨0,rfl,by omega,h0⟩ (by show N+1 - 0<_; omega) ?_)
 rintro⟨z,s⟩ ⟨i,hi,hle,hs⟩ again ha
 dsimp only at hi hs
 subst hi
 by_cases h:i<N
 ·refine hstep i h s hs again fun s' hs'=>?_
  exact ha (((i+1:Nat):Int),s') ⟨i+1,rfl,by omega,hs'⟩ (by simp only[Int.toNat_natCast]; omega)
 ·obtain rfl:i=N:=by omega
  exact hend s again hs
def sumBy{α:Type}(f:α→Int)(l:List α):Int:=(l.map f).sum
theorem yar{α:Type}(f:α→Int):sumBy f []=0:=rfl
theorem zcy{α:Type}(f:α→Int)(x:α)(l:List α):sumBy f (x::l)=f x+sumBy f l:=by simp[sumBy]
theorem zht{α:Type}(f:α→Int)(a b:List α):sumBy f (a++b)=sumBy f a+sumBy f b:=by simp[sumBy]
theorem yem{α:Type}(f:α→Int)(l:List α)(i:Nat)(h:i<l.length):sumBy f (l.take (i+1))=sumBy f (l.take i)+f l[i]:=by
 rw[show l.take (i+1)=l.take i++[l[i]] by simp,zht,zcy,yar]; omega
theorem zyr{α:Type}{f:α→Int}{B:Int}:∀{l:List α},(∀x∈l,-B≤f x∧f x≤B) → -(B*(l.length:Int))≤sumBy f l∧sumBy f l≤B*(l.length:Int)
 |[],_=>by simp[sumBy]
 |x::l,h=>by
  have h1:=h x (by simp)
  have h2:=zyr (l:=l) fun w hw=>h w (by simp[hw])
  rw[zcy,List.length_cons,Int.natCast_add,Int.mul_add]
  omega
theorem ynw{α:Type}(p:α→Bool)(l:List α)(i:Nat)(h:i<l.length):(l.take (i+1)).filter p=(l.take i).filter p++(if p l[i]=true then [l[i]] else []):=by
 rw[show l.take (i+1)=l.take i++[l[i]] by simp,List.filter_append]
 congr 1
 by_cases hp:p l[i]=true<;>simp[hp]
theorem call_w{α β:Type}{o:Option α}{a:α}(h:o=some a)(K:α→Option β):stdW.call o K=K a:=by subst h; rfl
end Go.Vc


namespace Go.Proofs.YtllkmncnmlmefaaGreat
open Go Go.Vc Go.RowKit
def wv(w:zao):Int:=w.1*18446744073709551616+w.2.1
def wOk(w:zao):Prop:=(-9223372036854775808≤w.1∧w.1≤9223372036854775807)∧(0≤w.2.1∧w.2.1<18446744073709551616)
def wide(z:Int):zao:=(z / 18446744073709551616,z % 18446744073709551616,())
def In128(z:Int):Prop := -170141183460469231731687303715884105728≤z∧z<170141183460469231731687303715884105728
instance (z:Int):Decidable (In128 z):=by unfold In128; infer_instance
theorem znr(z:Int):wv (wide z)=z:=by unfold wide wv; simp only; omega
theorem wv_in(w:zao)(h:wOk w):In128 (wv w):=by unfold wOk at h; unfold In128 wv; omega
theorem zns(z:Int)(h:In128 z):wOk (wide z):=by unfold In128 at h; unfold wOk wide; simp only; omega
theorem wide_inj{a b:Int}(h:wide a=wide b):a=b:=by rw[←znr a,h,znr]
theorem shr63(n:Int)(h : -9223372036854775808≤n∧n≤9223372036854775807):n.fdiv (2 ^ min (Int.toNat 63) IntKind.i64.bits)=n / 18446744073709551616:=by
 have e:(2:Int) ^ min (Int.toNat 63) IntKind.i64.bits=9223372036854775808:=by decide +kernel
 rw[e,Int.fdiv_eq_ediv_of_nonneg _ (by omega)]; omega
def fit(z:Int):zao×Int×Unit:=if In128 z then (wide z,0,()) else ((0,0,()),7,())
def I64(n:Int):Prop := -9223372036854775808≤n∧n≤9223372036854775807
theorem zsa{n:Int}(h:I64 n):In128 n:=by unfold I64 at h; unfold In128; omega
theorem r_wOf(n:Int)(h:I64 n):zjj n=some (wide n):=by
 show zyl stdW n=_
 unfold zyl
 rw[nn_w (by omega),shr63 n h,IntKind.wrap_u64]; rfl
def totT(V:Int):Int×Int×Int×Unit:=(V / 340282366920938463463374607431768211456,IntKind.i64.wrap (V / 18446744073709551616),V % 18446744073709551616,())
def InTot(V:Int):Prop := -1569275433846670190958947355801916604025588861116008628224≤V∧V<1569275433846670190958947355801916604025588861116008628224
theorem ymf(z:Int):IntKind.u64.wrap (IntKind.i64.wrap z)=z % 18446744073709551616:=by
 rw[IntKind.wrap_u64,IntKind.wrap_i64]; omega
theorem zvp(z:Int):IntKind.i64.wrap (z % 18446744073709551616)=IntKind.i64.wrap z:=by
 rw[IntKind.wrap_i64,IntKind.wrap_i64]; omega
theorem tot_next(V x y:Int)(hV:InTot V)(hx : -9223372036854775808≤x∧x≤9223372036854775807)(hy:0≤y∧y<18446744073709551616):
  ((IntKind.i64.wrap (V / 340282366920938463463374607431768211456+IntKind.i64.wrap (x.fdiv (2 ^ min (Int.toNat 63) IntKind.i64.bits)+IntKind.i64.wrap ((IntKind.u64.wrap (IntKind.i64.wrap (V / 18446744073709551616))+IntKind.u64.wrap x+(V % 18446744073709551616+y+0) / 18446744073709551616) / 18446744073709551616))),
   IntKind.i64.wrap ((IntKind.u64.wrap (IntKind.i64.wrap (V / 18446744073709551616))+IntKind.u64.wrap x+(V % 18446744073709551616+y+0) / 18446744073709551616) % 18446744073709551616),
   (V % 18446744073709551616+y+0) % 18446744073709551616,()):Int×Int×Int×Unit)=totT (V+(x*18446744073709551616+y)):=by
 unfold InTot at hV
 rw[ymf,zvp,shr63 x hx,IntKind.wrap_u64]
 have e1:(V+(x*18446744073709551616+y)) / 18446744073709551616=V / 18446744073709551616+x+(V % 18446744073709551616+y+0) / 18446744073709551616:=by omega
 have e0:(V+(x*18446744073709551616+y)) / 340282366920938463463374607431768211456=(V / 18446744073709551616+x+(V % 18446744073709551616+y+0) / 18446744073709551616) / 18446744073709551616:=by omega
 have e3:V / 340282366920938463463374607431768211456=V / 18446744073709551616 / 18446744073709551616:=by omega
 unfold totT
 rw[e1,e0,e3]
 have hc:0≤(V % 18446744073709551616+y+0) / 18446744073709551616∧(V % 18446744073709551616+y+0) / 18446744073709551616≤1:=by omega
 generalize (V % 18446744073709551616+y+0) / 18446744073709551616=c at*
 have hu : -92233720368547758080000000000000000000≤V / 18446744073709551616∧V / 18446744073709551616<92233720368547758080000000000000000000:=by omega
 generalize V / 18446744073709551616=u at*
 have f1:(V+(x*18446744073709551616+y)) % 18446744073709551616=(V % 18446744073709551616+y+0) % 18446744073709551616:=by omega
 rw[f1]
 have g2:(u % 18446744073709551616+x % 18446744073709551616+c) / 18446744073709551616≤2∧0≤(u % 18446744073709551616+x % 18446744073709551616+c) / 18446744073709551616:=by omega
 have g1:IntKind.i64.wrap ((u % 18446744073709551616+x % 18446744073709551616+c) / 18446744073709551616)=(u % 18446744073709551616+x % 18446744073709551616+c) / 18446744073709551616:=IntWalk.i64_in _ (by omega)
 rw[g1]
 have g3:IntKind.i64.wrap (x / 18446744073709551616+(u % 18446744073709551616+x % 18446744073709551616+c) / 18446744073709551616)=x / 18446744073709551616+(u % 18446744073709551616+x % 18446744073709551616+c) / 18446744073709551616:=IntWalk.i64_in _ (by omega)
 rw[g3]
 have g4:u / 18446744073709551616+(x / 18446744073709551616+(u % 18446744073709551616+x % 18446744073709551616+c) / 18446744073709551616)=(u+x+c) / 18446744073709551616:=by omega
 rw[g4]
 have g5:IntKind.i64.wrap ((u+x+c) / 18446744073709551616)=(u+x+c) / 18446744073709551616:=IntWalk.i64_in _ (by omega)
 rw[g5]
 have g6:IntKind.i64.wrap (u % 18446744073709551616+x % 18446744073709551616+c)=IntKind.i64.wrap (u+x+c):=by rw[IntKind.wrap_i64,IntKind.wrap_i64]; omega
 rw[g6]
theorem yjf{x y c:Int}(hx:0≤x)(hy:0≤y)(hc0:0≤c)(hc:c≤1):add64 x y c=some ((x+y+c) % 18446744073709551616,(x+y+c) / 18446744073709551616,()):=by unfold add64; rw[if_pos ⟨hx,hy,hc0,hc⟩]
theorem zys{x y b:Int}(hx:0≤x)(hy:0≤y)(hy2:y<18446744073709551616)(hb0:0≤b)(hb:b≤1):sub64 x y b=some ((x - y - b) % 18446744073709551616,if x<y+b then 1 else 0,()):=by unfold sub64; rw[if_pos ⟨hx,hy,hy2,hb0,hb⟩]
theorem r_tadd(V:Int)(x:zao)(hV:InTot V)(hx:wOk x):zcm x (totT V).1 (totT V).2.1 (totT V).2.2.1=some ((),totT (V+wv x)):=by
 unfold wOk at hx
 show zfn stdW x (V / 340282366920938463463374607431768211456) (IntKind.i64.wrap (V / 18446744073709551616)) (V % 18446744073709551616)=_
 unfold zfn wv
 rw[←tot_next V x.1 x.2.1 hV hx.1 hx.2]
 have hV':=hV
 unfold InTot at hV'
 rw[zaa (yjf (by omega) (by omega) (by omega) (by omega)),zaa (yjf (by rw[IntKind.wrap_u64]; omega) (by rw[IntKind.wrap_u64]; omega) (by show 0≤(V % 18446744073709551616+x.2.1+0) / 18446744073709551616; omega) (by show (V % 18446744073709551616+x.2.1+0) / 18446744073709551616≤1; omega)),nn_w (by omega)]
theorem tot_fits(V:Int)(hV:InTot V):(V / 340282366920938463463374607431768211456==(IntKind.i64.wrap (V / 18446744073709551616)).fdiv (2 ^ min (Int.toNat 63) IntKind.i64.bits))=decide (In128 V):=by
 have hr : -9223372036854775808≤IntKind.i64.wrap (V / 18446744073709551616)∧IntKind.i64.wrap (V / 18446744073709551616)≤9223372036854775807:=by
  rw[IntKind.wrap_i64]; omega
 rw[shr63 _ hr]
 unfold InTot at hV
 by_cases h:In128 V
 ·rw[decide_eq_true h]
  unfold In128 at h
  rw[IntWalk.i64_in _ (by omega)]
  first|(simp; done)|(simp; omega)|skip
 ·rw[decide_eq_false h]
  unfold In128 at h
  rw[IntKind.wrap_i64]
  simp; omega
theorem ype(w:zao)(ok:Bool):zfa w ok=some (if ok=true then (w,0,()) else ((0,0,()),7,())):=by
 show zih stdW w ok=_
 unfold zih
 cases ok<;>rfl
theorem r_tdone(V:Int)(hV:InTot V):zea (totT V).1 (totT V).2.1 (totT V).2.2.1=some (fit V,totT V):=by
 show zer stdW _ _ _=_
 unfold zer
 rw[nn_w (by omega),zaa (ype _ _)]
 have:=tot_fits V hV
 show some ((if (V / 340282366920938463463374607431768211456==(IntKind.i64.wrap (V / 18446744073709551616)).fdiv (2 ^ min (Int.toNat 63) IntKind.i64.bits))=true then _ else _),_)=_
 rw[this]
 unfold fit
 by_cases h:In128 V
 ·rw[if_pos (decide_eq_true h),if_pos h]
  have e:IntKind.i64.wrap (V / 18446744073709551616)=V / 18446744073709551616:=by unfold In128 at h; exact IntWalk.i64_in _ (by omega)
  show some (((IntKind.i64.wrap (V / 18446744073709551616),V % 18446744073709551616,()),0,()),_)=_
  rw[e]; rfl
 ·rw[decide_eq_false h,if_neg (by simp),if_neg h]
def sumW(l:List zao):Int:=(l.map wv).sum
theorem sumW_in:∀(l:List zao),(∀w∈l,wOk w) → -(170141183460469231731687303715884105728*(l.length:Int))≤sumW l∧sumW l≤170141183460469231731687303715884105728*(l.length:Int)
 |[],_=>by simp[sumW]
 |x::l,h=>by
  have h1:=wv_in x (h x (by simp))
  have h2:=sumW_in l fun w hw=>h w (by simp[hw])
  unfold In128 at h1
  simp only[sumW,List.map_cons,List.sum_cons,List.length_cons]at h2 ⊢
  omega
theorem yom(l:List zao)(h:∀w∈l,wOk w)(hl:l.length<9223372036854775807):InTot (sumW l):=by
 have:=sumW_in l h
 unfold InTot; omega
theorem sumW_app(a b:List zao):sumW (a++b)=sumW a+sumW b:=by unfold sumW; simp
theorem sumW_one(a:zao):sumW [a]=wv a:=by unfold sumW; simp
theorem sumW_take(l:List zao)(i:Nat)(h:i<l.length):sumW (l.take (i+1))=sumW (l.take i)+wv l[i]:=by
 rw[show l.take (i+1)=l.take i++[l[i]] by simp,sumW_app,sumW_one]
theorem r_wAdd(l:List zao)(h:∀w∈l,wOk w)(hl:l.length<9223372036854775807):zyn l=some (fit (sumW l)):=by
 show zsq stdW l=_
 unfold zsq
 refine zdi (l:=l) (by omega) (fun i s=>s=totT (sumW (l.take i))) (fun _ _=>some (fit (sumW l))) (by simp[sumW]; rfl) ?_ ?_
 ·rintro _ again rfl
  rw[List.take_length,zak,zaa (r_tdone _ (yom l h hl))]
 ·rintro i hi _ rfl again ha
  rw[cnd_lt hi,idx_w hi,zaa (r_tadd _ _ (yom _ (fun w hw=>h w (List.mem_of_mem_take hw)) (by rw[List.length_take]; omega)) (h _ (List.getElem_mem hi)))]
  dsimp only
  rw[i64_s i (by omega)]
  exact ha _ (by rw[sumW_take l i hi])
theorem r_neg{a:BigT}(h:Nb a)(la:a.2.1.length≤1000):zka a=some (big (-(bv a))):=by
 show zps stdW a=_
 unfold zps
 rw[zaa (r_trim (nb_nrm h).bits la),neg_is]
theorem r_sub{a b:BigT}(ha:Nb a)(hb:Nb b)(la:a.2.1.length≤900)(lb:b.2.1.length≤900):zjz a b=some (big (bv a - bv b)):=by
 show zpr stdW a b=_
 unfold zpr
 have e:∀z:BigT,(z.1,(z.2.1,()))=z:=fun z=>rfl
 rw[zaa (r_neg hb (by omega)),zaa (r_add ha (nb_big _) la (by rw[neg_len hb]; exact lb)),bv_big]
 congr 2
theorem r_cmp{a b:BigT}(ha:Nb a)(hb:Nb b)(la:a.2.1.length≤900)(lb:b.2.1.length≤900):zcb a b=some (if bv a - bv b=0 then 0 else if bv a - bv b<0 then -1 else 1):=by
 show zpv stdW a b=_
 unfold zpv
 have e:∀z:BigT,(z.1,(z.2.1,()))=z:=fun z=>rfl
 rw[zaa (r_sub ha hb la lb)]
 by_cases h:bv a - bv b=0
 ·rw[cnd_y (by have:=(yqv (bv a - bv b)).2 h; simp[this]),if_pos h]
 ·rw[cnd_n (by have:=mt (yqv (bv a - bv b)).1 h; simpa using this),if_neg h,cnd_b]
  show (if decide (bv a - bv b<0)=true then _ else _)=_
  by_cases h2:bv a - bv b<0
  ·rw[if_pos (by simpa using h2),if_pos h2]
  ·rw[if_neg (by simpa using h2),if_neg h2]
theorem r_of{n:Int}(h:I64 n):zdg n=some (big n):=by
 show zty stdW n=_
 unfold I64 at h
 unfold zty
 by_cases h0:0≤n
 ·rw[cnd_y (decide_eq_true h0),u64_id n (by omega)]
  obtain⟨m,rfl⟩:=Int.eq_ofNat_of_zero_le h0
  rw[zaa (r_nat m (by omega)),bigS_f]
 ·rw[cnd_n (decide_eq_false h0),of_neg (by omega) (by omega)]
  obtain⟨m,hm⟩:=Int.eq_ofNat_of_zero_le (show 0 ≤ -(n+1) by omega)
  rw[hm,zaa (r_nat m (by omega))]
  have hl:(bitsOf m).length≤1000:=yde (show m<2 ^ 64 by omega) (by omega)
  show stdW.call (zfk (bitsOf m) [1]) _=_
  rw[zaa (r_plus (yhv m) nrm1 hl (by simp)),of_negB (by omega) (by omega) hm.symm]
  rfl
theorem zgo{z:Int}(h : -170141183460469231731687303715884105728≤z∧z≤170141183460469231731687303715884105728):(big z).2.1.length≤200:=by
 refine len_big z ?_
 have:(2:Nat) ^ 200=1606938044258990275541962092341162602522202993782792835301376:=by decide
 omega
theorem yjm(xs:List Int)(i:Nat)(h:i≤xs.length):valB (xs.drop i)≤valB xs:=by
 have h1:=zvt xs i h
 have h2:valB (xs.drop i)≤2 ^ i*valB (xs.drop i):=Nat.le_mul_of_pos_left _ (Nat.two_pow_pos i)
 omega
theorem r_int{z:Int}(h:I64 z):zfy (big z)=some z:=by
 unfold I64 at h
 show zpu stdW (big z)=_
 unfold zpu
 have hb:bitL (big z).2.1:=zow _
 have hv:valB (big z).2.1=z.natAbs:=zgp _
 have hl:(big z).2.1.length≤64:=zvd 64 _ (by omega)
 have hs:(big z).1=decide (z<0):=rfl
 generalize (big z).1=sg at*
 generalize (big z).2.1=xs at*
 refine(zdv (fun z=>z.2.1.toNat) (fun y=>∃i:Nat,i≤xs.length∧y=((if z<0 then -((valB (xs.drop i):Nat):Int) else ((valB (xs.drop i):Nat):Int)),((i:Int),()))) (fun _=>some z) ⟨xs.length,Nat.le_refl _,by simp[valB]⟩ (by show ((xs.length:Nat):Int).toNat<_; omega) ?_)
 rintro _ ⟨i,hi,rfl⟩ again ha
 show stdW.cnd (decide ((0:Int)<((i:Nat):Int))) _ _=_
 by_cases h0:i=0
 ·subst h0
  rw[cnd_n (c:=decide ((0:Int)<((0:Nat):Int))) rfl,List.drop_zero,hv]
  congr 1; split<;>omega
 ·have hm:i - 1<xs.length:=by omega
  rw[cnd_y (decide_eq_true (by omega)),join_w,zhh i (by omega) (by rw[zat]; omega)]
  have hd:xs.drop (i - 1)=xs[i - 1]::xs.drop i:=by rw[List.drop_eq_getElem_cons hm,show i - 1+1=i by omega]
  have hbit:=hb _ (List.getElem_mem hm)
  have hle:=yjm xs (i - 1) (by omega)
  rw[hv,hd,valB]at hle
  have hx0:0≤xs[i - 1]∧xs[i - 1]≤1:=by rcases hbit with e|e<;>rw[e]<;>omega
  have next:∀n:Int,n=(if z<0 then -((valB (xs.drop (i - 1)):Nat):Int) else ((valB (xs.drop (i - 1)):Nat):Int))→again (n,(((i - 1:Nat):Int),()))=some z:=fun n hn=>ha _ ⟨i - 1,by omega,by rw[hn]⟩ (by show ((i - 1:Nat):Int).toNat<((i:Nat):Int).toNat; omega)
  rw[hd,valB]at next
  by_cases hz:z<0
  ·rw[hs,cnd_y (decide_eq_true hz),idx_w hm]
   refine next _ ?_
   rw[if_pos hz,if_pos hz,IntWalk.i64_in xs[i - 1] (by omega),IntWalk.i64_in (2 * -((valB (xs.drop i):Nat):Int)) (by omega),IntWalk.i64_in _ (by omega)]
   omega
  ·rw[hs,cnd_n (decide_eq_false hz),idx_w hm]
   refine next _ ?_
   rw[if_neg hz,if_neg hz,IntWalk.i64_in xs[i - 1] (by omega),IntWalk.i64_in (2*((valB (xs.drop i):Nat):Int)) (by omega),IntWalk.i64_in _ (by omega)]
   omega
def sml(z:Int):Prop := -170141183460469231731687303715884105728≤z∧z≤170141183460469231731687303715884105728
instance (z:Int):Decidable (I64 z):=by unfold I64; infer_instance
theorem yqe(n:Nat):(bitsOf n).length<64↔n<9223372036854775808:=by
 constructor
 ·intro h
  have:=ygo (yhv n) (k:=63) (by omega)
  rw[zgp]at this; simpa using this
 ·intro h
  have:=zvd 63 n (by simpa using h)
  omega
theorem r_fits{z:Int}(h:sml z):zfl (big z)=some (decide (I64 z)):=by
 unfold sml at h
 have hw:zoc ((big z).1,((big z).2.1,())) 64=some (decide (I64 z)):=by
  show zhe stdW (big z) 64=_
  unfold zhe
  rw[join_w]
  by_cases hz:z<0
  ·have hs:(big z).1=true:=decide_eq_true hz
   have e1:zhw 1=some (big 1):=r_nat 1 (by omega)
   have e2:zbv ((big z).1,((big z).2.1,())) ((big 1).1,((big 1).2.1,()))=some (big (z+1)):=by
    have:=r_add (nb_big z) (nb_big 1) (Nat.le_trans (zgo h) (by decide)) (Nat.le_trans (zgo (by omega)) (by decide))
    rw[bv_big,bv_big]at this; exact this
   have e3:(decide (((big (z+1)).2.1.length:Int)<64))=decide (I64 z):=by
    refine decide_eq_decide.2 ?_
    have:=yqe (z+1).natAbs
    show (((bitsOf (z+1).natAbs).length:Int)<64)↔_
    unfold I64; omega
   rw[cnd_y hs,both_w,zaa e1,zaa e2]
   show some (decide _)=_
   rw[e3]
  ·have hs:(big z).1=false:=decide_eq_false hz
   rw[cnd_n hs]
   show some (decide (((bitsOf z.natAbs).length:Int)<64))=_
   congr 1
   refine decide_eq_decide.2 ?_
   have:=yqe z.natAbs
   unfold I64; omega
 show zlz stdW (big z)=_
 unfold zlz
 rw[zaa hw]
def fits64(z:Int):Int×Int×Unit:=if I64 z then (z,0,()) else (0,7,())
theorem nif_t(c:Bool):notIf true c=!c:=by cases c<;>rfl
theorem nif_f(c:Bool):notIf false c=c:=by cases c<;>rfl
theorem r_wInt{z:Int}(h:In128 z):zsp (wide z)=some (fits64 z):=by
 show zso stdW (wide z)=_
 unfold zso
 have hw:IntKind.i64.wrap (wide z).2.1=IntKind.i64.wrap z:=zvp z
 have hI:I64 (IntKind.i64.wrap z):=by unfold I64; rw[IntKind.wrap_i64]; omega
 rw[hw,zaa (r_wOf _ hI),nif_t]
 unfold fits64
 by_cases hz:I64 z
 ·have e:IntKind.i64.wrap z=z:=by unfold I64 at hz; exact IntWalk.i64_in _ (by omega)
  rw[if_pos hz,e,cnd_n (by simp)]
 ·rw[if_neg hz,cnd_y ?_]
  rw[Bool.not_eq_true']
  cases hc:((wide (IntKind.i64.wrap z)).1==(wide z).1&&(wide (IntKind.i64.wrap z)).2.1==(wide z).2.1) with
  |false=>rfl
  |true=>
   simp only[Bool.and_eq_true,beq_iff_eq]at hc
   have:wide (IntKind.i64.wrap z)=wide z:=Prod.ext hc.1 (Prod.ext hc.2 rfl)
   exact absurd (wide_inj this▸hI) hz
theorem ykg{z:Int}(h:In128 z):zki (wide z) 0=some (fits64 z):=by
 show zms stdW (wide z) 0=_
 unfold zms
 rw[cnd_n (by decide),zaa (r_wInt h)]
theorem sum_in{l:List Int}(h:∀x∈l,I64 x) : -(9223372036854775808*(l.length:Int))≤l.sum∧l.sum≤9223372036854775808*(l.length:Int):=by
 have:=zyr (f:=fun x:Int=>x) (B:=9223372036854775808) (l:=l) (fun x hx=>by have:=h x hx; unfold I64 at this; omega)
 simpa[sumBy]using this
theorem sumW_wide(l:List Int):sumW (l.map wide)=l.sum:=by
 unfold sumW
 rw[List.map_map]
 have:(wv ∘ wide)=id:=funext znr
 rw[this,List.map_id]
theorem wides_ok{l:List Int}(h:∀x∈l,I64 x):∀w∈l.map wide,wOk w:=by
 intro w hw
 obtain⟨x,hx,rfl⟩:=List.mem_map.1 hw
 exact zns _ (zsa (h x hx))
theorem sum128{l:List Int}(h:∀x∈l,I64 x)(hl:l.length≤1000000):In128 l.sum:=by
 have:=sum_in h; unfold In128; omega
theorem r_wSum{l:List Int}(h:∀x∈l,I64 x)(hl:l.length≤1000000):zyn (l.map wide)=some (wide l.sum,0,()):=by
 rw[r_wAdd _ (wides_ok h) (by rw[List.length_map]; omega),sumW_wide]
 unfold fit; rw[if_pos (sum128 h hl)]
theorem r_fSum{l:List Int}(h:∀x∈l,I64 x)(hl:l.length≤1000000):zwx l=some (fits64 l.sum):=by
 show zzt stdW l=_
 unfold zzt
 rw[nn_w (by omega),room_w (by simp; omega) (by simp; omega)]
 refine loop_n (N:=l.length) (by omega) (fun i s=>s=((l.take i).map wide,())) (some (fits64 l.sum)) rfl ?_ ?_
 ·rintro _ again rfl
  rw[zak,List.take_length,zaa (r_wSum h hl),zaa (ykg (sum128 h hl))]
 ·rintro i hi _ rfl again ha
  rw[cnd_lt hi,idx_w hi,zaa (r_wOf _ (h _ (List.getElem_mem hi))),i64_s i (by omega),room_w (by simp; omega) (by simp; omega)]
  refine ha _ ?_
  rw[List.take_succ_eq_append_getElem hi,List.map_append]; rfl
theorem join_g{X β:Type}{k0:X→Option β}{f:(X→Option β)→Option β}{r:Option β}(h:∀k,k=k0→f k=r):stdW.join k0 f=r:=h k0 rfl
theorem yhj(a b:AUnit'):zks a b=some (decide (ltA a b)):=by
 show zra stdW a b=_
 unfold zra
 by_cases h:a.1=b.1
 ·rw[cnd_n (by simp[h])]
  congr 1; refine decide_eq_decide.2 ?_; unfold ltA; omega
 ·rw[cnd_y (by simp[h])]
  congr 1; refine decide_eq_decide.2 ?_; unfold ltA; omega
theorem zzb(a b:AUnit'):zfi a b=some (decide (ltA a b)):=by
 show zll stdW a b=_
 unfold zll
 by_cases h1:a.1<b.1
 ·rw[cnd_y (decide_eq_true h1),decide_eq_true (by unfold ltA; omega)]
 ·rw[cnd_n (decide_eq_false h1)]
  by_cases h:a.1=b.1
  ·rw[cnd_y (by simp[h])]
   congr 1; refine decide_eq_decide.2 ?_; unfold ltA; omega
  ·rw[cnd_n (by simp[h]),decide_eq_false (by unfold ltA; omega)]
def PInv(l:List AFlow'):Prop:=(∀x∈l,x.2.1≠0)∧SrtA (l.map (·.1))
instance (l:List AFlow'):Decidable (PInv l):=by unfold PInv SrtA; infer_instance
def isP(l:List AFlow'):Bool:=decide (PInv l)
theorem yqi{l:List AFlow'}{i:Nat}(hi:i<l.length)(h:l[i].2.1=0):isP l=false:=
 decide_eq_false fun hp=>hp.1 _ (List.getElem_mem hi) h
theorem yqh{l:List AFlow'}{i:Nat}(hi:i<l.length)(h0:0<i)(h:¬ltA (l[i - 1]'(by omega)).1 l[i].1):isP l=false:=
 decide_eq_false fun hp=>h (by
  have:=List.pairwise_iff_getElem.1 hp.2 (i - 1) i (by simp; omega) (by simpa using hi) (by omega)
  simpa using this)
theorem zzj{l:List AFlow'}{i:Nat}(hi:i<l.length)(inv:PInv (l.take i))(h1:l[i].2.1≠0)(h2:∀h0:0<i,ltA (l[i - 1]'(by omega)).1 l[i].1):PInv (l.take (i+1)):=by
 rw[List.take_succ_eq_append_getElem hi]
 refine⟨fun x hx=>?_,?_⟩
 ·rcases List.mem_append.1 hx with hx|hx
  ·exact inv.1 x hx
  ·simp at hx; rw[hx]; exact h1
 ·show SrtA ((l.take i++[l[i]]).map (·.1))
  rw[List.map_append]
  refine List.pairwise_append.2 ⟨inv.2,by simp,fun a ha b hb=>?_⟩
  simp only[List.map_cons,List.map_nil,List.mem_singleton]at hb
  subst hb
  obtain⟨k,hk,hka⟩:=List.mem_iff_getElem.1 ha
  have hk':k<i:=by simp at hk; omega
  have h3:=h2 (by omega)
  by_cases hki:k=i - 1
  ·subst hki; rw[←hka]; simpa using h3
  ·have h4:=List.pairwise_iff_getElem.1 inv.2 k (i - 1) (by simpa using hk) (by simp; omega) (by omega)
   rw[hka]at h4
   refine ltA_tr h4 ?_
   simpa using h3
theorem isP_end{l:List AFlow'}(h:PInv (l.take l.length)):isP l=true:=by rw[List.take_length]at h; exact decide_eq_true h
theorem r_is{l:List AFlow'}(hl:l.length≤1000000):zpz l=some (isP l):=by
 show zub stdW l=_
 unfold zub
 refine loop_n (N:=l.length) (by omega) (fun i _=>PInv (l.take i)) (some (isP l)) (by simp[PInv]) ?_ ?_
 ·rintro _ again h
  rw[zak,isP_end h]
 ·rintro i hi _ inv again ha
  rw[cnd_lt hi,idx_w hi]
  refine join_g fun k hk=>?_
  have kt:k (true,())=some false:=by subst hk; rfl
  have kf:k (false,())=again (((i+1:Nat):Int),()):=by rw[←i64_s i (by omega)]; subst hk; rfl
  clear hk
  by_cases h1:l[i].2.1=0
  ·rw[cnd_y (by simpa using h1),kt,yqi hi h1]
  ·rw[cnd_n (by simpa using h1)]
   by_cases h0:0<i
   ·rw[cnd_y (decide_eq_true (by omega)),zhh i h0 (by rw[zat]; omega),idx_w (by omega),zaa (yhj _ _)]
    by_cases h2:ltA (l[i - 1]'(by omega)).1 l[i].1
    ·rw[decide_eq_true h2]
     exact kf.trans (ha _ (zzj hi inv h1 fun _=>h2))
    ·rw[decide_eq_false h2,yqh hi h0 h2]; exact kt
   ·rw[cnd_n (decide_eq_false (by omega))]
    exact kf.trans (ha _ (zzj hi inv h1 fun h=>absurd h h0))
theorem r_is17{l:List AFlow'}(hl:l.length≤1000000):ztl l=some (isP l):=by
 show ztk stdW l=_
 unfold ztk
 refine loop_n (N:=l.length) (by omega) (fun i _=>PInv (l.take i)) (some (isP l)) (by simp[PInv]) ?_ ?_
 ·rintro _ again h
  rw[zak,isP_end h]
 ·rintro i hi _ inv again ha
  rw[cnd_lt hi]
  refine join_g fun k hk=>?_
  have kt:k (true,())=some false:=by subst hk; rfl
  have kf:k (false,())=again (((i+1:Nat):Int),()):=by rw[←i64_s i (by omega)]; subst hk; rfl
  clear hk
  rw[idx_w hi]
  by_cases h1:l[i].2.1=0
  ·rw[cnd_y (by simpa using h1),kt,yqi hi h1]
  ·rw[cnd_n (by simpa using h1)]
   by_cases h0:0<i
   ·rw[cnd_y (decide_eq_true (by omega)),zhh i h0 (by rw[zat]; omega),idx_w (by omega),idx_w hi,zaa (zzb _ _)]
    by_cases h2:ltA (l[i - 1]'(by omega)).1 l[i].1
    ·rw[decide_eq_true h2]
     exact kf.trans (ha _ (zzj hi inv h1 fun _=>h2))
    ·rw[decide_eq_false h2,yqh hi h0 h2]; exact kt
   ·rw[cnd_n (decide_eq_false (by omega))]
    exact kf.trans (ha _ (zzj hi inv h1 fun h=>absurd h h0))
theorem eqA(a b:AUnit'):(a.1==b.1&&a.2.1==b.2.1)=decide (a=b):=by
 by_cases h:a=b
 ·subst h; simp
 ·rw[decide_eq_false h]
  cases hc:(a.1==b.1&&a.2.1==b.2.1) with
  |false=>rfl
  |true=>simp only[Bool.and_eq_true,beq_iff_eq]at hc; exact absurd (extA hc.1 hc.2) h
def getP:List AFlow'→AUnit'→Int
 |[],_=>0
 |x::l,u=>if x.1=u then x.2.1 else getP l u
theorem ymx{l:List AFlow'}{u:AUnit'}(hl:l.length≤1000000):zfw l u=some (getP l u):=by
 show zpi stdW l u=_
 unfold zpi
 refine zdi (l:=l) (by omega) (fun _ _=>True) (fun l _=>some (getP l u)) trivial ?_ ?_
 ·rintro _ again _
  rw[zak]; rfl
 ·rintro i hi _ _ again ha
  rw[cnd_lt hi,idx_w hi,nif_f,eqA]
  unfold getP
  by_cases h:l[i].1=u
  ·rw[cnd_y (decide_eq_true h),if_pos h,idx_w hi]
  ·rw[cnd_n (decide_eq_false h),if_neg h,i64_s i (by omega)]
   exact ha _ trivial
def amt(x:AFlow'):Int:=x.2.1
def okF(l:List AFlow'):Prop:=∀x∈l,I64 (amt x)
theorem sumA_in{l:List AFlow'}(h:okF l) : -(9223372036854775808*(l.length:Int))≤sumBy amt l∧sumBy amt l≤9223372036854775808*(l.length:Int):=
 zyr fun x hx=>by have:=h x hx; unfold I64 at this; omega
theorem yop{l:List AFlow'}(h:okF l)(hl:l.length≤1000000):sml (sumBy amt l)∧In128 (sumBy amt l):=by
 have:=sumA_in h; unfold sml In128; omega
theorem okF.take{l:List AFlow'}(h:okF l)(i:Nat):okF (l.take i):=fun x hx=>h x (List.mem_of_mem_take hx)
theorem r_addB{a b:Int}(ha:sml a)(hb:sml b):zbv (big a) (big b)=some (big (a+b)):=by
 unfold sml at*
 have:=r_add (nb_big a) (nb_big b) (Nat.le_trans (zgo ha) (by decide)) (Nat.le_trans (zgo hb) (by decide))
 rwa [bv_big,bv_big]at this
theorem big0:big 0=(false,([],())):=by unfold big; simp[bits0]
theorem ycj{n:Int}(h:I64 n):sml n:=by unfold I64 at h; unfold sml; omega
theorem ykf{l:List AFlow'}(h:okF l)(hl:l.length≤1000000):zci l=some (big (sumBy amt l)):=by
 show zin stdW l=_
 unfold zin
 refine loop_n (N:=l.length) (by omega) (fun i s=>s=big (sumBy amt (l.take i))) (some (big (sumBy amt l))) (by rw[List.take_zero,yar,big0]) ?_ ?_
 ·rintro _ again rfl
  rw[zak,List.take_length]
 ·rintro i hi _ rfl again ha
  have h1:=(yop (h.take i) (by rw[List.length_take]; omega)).1
  have h2:=h _ (List.getElem_mem hi)
  rw[cnd_lt hi]
  refine join_g fun k hk=>?_
  have kk:∀v:BigT,k (v.1,(v.2.1,()))=again (((i+1:Nat):Int),v):=by intro v; rw[←i64_s i (by omega)]; subst hk; rfl
  clear hk
  rw[idx_w hi,both_w,zaa (r_of (n:=l[i].2.1) h2)]
  show stdW.call (zbv (big (sumBy amt (l.take i))) (big (l[i].2.1))) _=_
  rw[zaa (r_addB (b:=l[i].2.1) h1 (ycj h2)),kk]
  refine ha _ ?_
  rw[yem _ _ _ hi]; rfl
def ofFlow(u:AUnit')(x:AFlow'):Bool:=decide (x.1=u)
def amts(l:List AFlow')(u:AUnit'):List Int:=(l.filter (ofFlow u)).map amt
def sumU(l:List AFlow')(u:AUnit'):Int:=(amts l u).sum
theorem yjd(l:List AFlow')(u:AUnit'):(amts l u).length≤l.length:=by
 unfold amts; rw[List.length_map]; exact List.length_filter_le _ _
theorem amts_ok{l:List AFlow'}(h:okF l)(u:AUnit'):∀x∈amts l u,I64 x:=by
 intro x hx
 obtain⟨y,hy,rfl⟩:=List.mem_map.1 hx
 exact h y (List.mem_filter.1 hy).1
theorem ydh(l:List AFlow')(u:AUnit')(i:Nat)(h:i<l.length):amts (l.take (i+1)) u=amts (l.take i) u++(if l[i].1=u then [l[i].2.1] else []):=by
 unfold amts
 rw[ynw _ _ _ h,List.map_append]
 unfold ofFlow
 by_cases hu:l[i].1=u<;>simp[hu,amt]
theorem r_amounts{l:List AFlow'}{u:AUnit'}(hl:l.length≤1000000):zmc l u=some (amts l u):=by
 show zgn stdW l u=_
 unfold zgn
 refine loop_n (N:=l.length) (by omega) (fun i s=>s=(amts (l.take i) u,())) (some (amts l u)) rfl ?_ ?_
 ·rintro _ again rfl
  rw[zak,List.take_length]
 ·rintro i hi _ rfl again ha
  rw[cnd_lt hi]
  refine join_g fun k hk=>?_
  have kk:∀v:List Int,k (v,())=again (((i+1:Nat):Int),(v,())):=by intro v; rw[←i64_s i (by omega)]; subst hk; rfl
  clear hk
  have hlen:=yjd (l.take i) u
  rw[List.length_take]at hlen
  rw[idx_w hi,nif_f,eqA]
  by_cases h:l[i].1=u
  ·rw[cnd_y (decide_eq_true h),room_w (by simp; omega) (by simp; omega),kk]
   refine ha _ ?_
   rw[ydh _ _ _ hi,if_pos h]
  ·rw[cnd_n (decide_eq_false h),kk]
   refine ha _ ?_
   rw[ydh _ _ _ hi,if_neg h,List.append_nil]
def payGo(all:List AFlow'):List AUnit'→List AFlow'→List AFlow'×Int×Unit
 |[],acc=>(acc,0,())
 |u::us,acc=>if I64 (sumU all u) then (if sumU all u≠0 then payGo all us (acc++[(u,sumU all u,())]) else payGo all us acc) else ([],7,())
def payP(l fl:List AFlow'):List AFlow'×Int×Unit:=if isP l=true then payGo (l++fl) (zcn (l++fl)) [] else ([],3,())
theorem zsu(l:List AFlow'):(zcn l).length≤l.length:=by
 unfold zcn
 rw[List.length_map,ymm]
 exact Nat.le_trans (yol _) (by simp)
theorem r_pay{l fl:List AFlow'}(h:okF l)(hf:okF fl)(hl:l.length+fl.length≤1000000):zog l fl=some (payP l fl):=by
 show zpy stdW l fl=_
 unfold zpy payP
 rw[zaa (r_is (by omega))]
 by_cases hp:isP l=true
 ·rw[hp,cnd_n (by decide),if_pos rfl]
  have hall:okF (l++fl):=fun x hx=>(List.mem_append.1 hx).elim (h x) (hf x)
  have e1:zxc (l::(fl::[]))=some (l++fl):=by
   unfold zxc
   rw[show (l::(fl::[])).flatten=l++fl by simp,if_pos (by rw[List.length_append]; omega)]
  have hlen:(l++fl).length≤1000000:=by rw[List.length_append]; exact hl
  have e2:namedO (l++fl)=some (zcn (l++fl)):=by unfold namedO; rw[if_pos (by omega)]
  rw[zaa e1,zaa e2]
  have hul:=zsu (l++fl)
  generalize l++fl=all at*
  generalize zcn all=us at*
  refine zdi (l:=us) (by omega) (fun i (s:List AUnit'×List AFlow'×Unit)=>s.1=us∧s.2.1.length≤i) (fun us' (s:List AUnit'×List AFlow'×Unit)=>some (payGo all us' s.2.1)) ⟨rfl,Nat.le_refl _⟩ ?_ ?_
  ·rintro⟨_,acc,⟨⟩⟩ again ⟨rfl,_⟩
   rw[zak]; rfl
  ·rintro i hi ⟨us',acc,⟨⟩⟩ ⟨hus,hacc⟩ again ha
   have hus:us=us':=hus.symm
   subst hus
   simp only at hacc
   rw[cnd_lt hi]
   refine join_g fun k hk=>?_
   have kk:∀v:List AFlow',k (us,(v,()))=again (((i+1:Nat):Int),(us,(v,()))):=by intro v; rw[←i64_s i (by omega)]; subst hk; rfl
   clear hk
   show stdW.idx us (i:Int) _=_
   rw[idx_w hi]
   show stdW.nth us (Int.toNat (i:Int)) _=_
   rw[nth_w hi,zaa (r_amounts hlen)]
   show _=some (payGo all (us[i]::us.drop (i+1)) acc)
   rw[payGo]
   have e3:=r_fSum (amts_ok hall us[i]) (Nat.le_trans (yjd _ _) hlen)
   change zwx (amts all us[i])=some (if I64 (sumU all us[i]) then (sumU all us[i],0,()) else (0,7,())) at e3
   by_cases hI:I64 (sumU all us[i])
   ·rw[if_pos hI]at e3
    rw[if_pos hI,zaa e3]
    show stdW.cnd ((0:Int) != 0) _ (stdW.cnd (sumU all us[i] != 0) (stdW.room (acc.length+1) 24 (k (us,(acc++[(us[i],sumU all us[i],())],())))) (k (us,(acc,()))))=_
    rw[cnd_n (by decide)]
    by_cases h0:sumU all us[i]=0
    ·rw[if_neg (by simp[h0]),cnd_n (by simp[h0])]
     exact(kk acc).trans (ha _ ⟨rfl,by simp only; omega⟩)
    ·rw[if_pos h0,cnd_y (by simp[h0]),room_w (by omega) (by omega)]
     exact(kk (acc++[(us[i],sumU all us[i],())])).trans (ha _ ⟨rfl,by simp; omega⟩)
   ·rw[if_neg hI]at e3
    rw[if_neg hI,zaa e3]
    show stdW.cnd ((7:Int) != 0) (some ([],(7,()))) _=_
    rw[cnd_y (by decide)]
 ·have hp:isP l=false:=by simpa using hp
  rw[hp,cnd_y (by decide),if_neg (by simp)]
theorem not_i(a:Int)(h : -9223372036854775808≤a∧a≤9223372036854775807):bits .xor .i64 (-1) a = -1 - a:=by
 have e1:BitVec.ofInt 64 (-1)=BitVec.allOnes 64:=by decide
 show IntKind.i64.wrap (((BitVec.ofInt 64 (-1) ^^^ BitVec.ofInt 64 a).toNat:Nat):Int)=_
 rw[e1,BitVec.allOnes_xor,BitVec.toNat_not,BitVec.toNat_ofInt,IntKind.wrap_i64]
 have:(2:Int) ^ 64=18446744073709551616:=by decide
 omega
theorem not_u(a:Int)(h:0≤a∧a<18446744073709551616):bits .xor .u64 18446744073709551615 a=18446744073709551615 - a:=by
 have e1:BitVec.ofInt 64 18446744073709551615=BitVec.allOnes 64:=by decide
 show IntKind.u64.wrap (((BitVec.ofInt 64 18446744073709551615 ^^^ BitVec.ofInt 64 a).toNat:Nat):Int)=_
 rw[e1,BitVec.allOnes_xor,BitVec.toNat_not,BitVec.toNat_ofInt,IntKind.wrap_u64]
 have:(2:Int) ^ 64=18446744073709551616:=by decide
 omega
theorem r_wSub{a b:Int}(ha:In128 a)(hb:In128 b):ygj (wide a) (wide b)=some (fit (a - b)):=by
 show zsm stdW (wide a) (wide b)=_
 unfold zsm
 have ha':=ha
 have hb':=hb
 unfold In128 at ha' hb'
 have t0:InTot 0:=by unfold InTot; omega
 have t1:InTot a:=by unfold InTot; omega
 have t2:InTot (a+(-b - 1)):=by unfold InTot; omega
 have t3:InTot (a - b):=by unfold InTot; omega
 have s1:zcm (wide a) 0 0 0=some ((),totT a):=by
  have:=r_tadd 0 (wide a) t0 (zns a ha)
  rw[znr,Int.zero_add]at this
  exact this
 rw[zaa s1]
 have ec:(bits .xor .i64 (if true=true then (-1) else (if true=true then ((2 ^ ((IntKind.bits .i64) - 1)) - 1) else ((2 ^ (IntKind.bits .i64)) - 1))) (wide b).1,bits .xor .u64 (if false=true then (-1) else (if false=true then ((2 ^ ((IntKind.bits .u64) - 1)) - 1) else ((2 ^ (IntKind.bits .u64)) - 1))) (wide b).2.1,())=wide (-b - 1):=by
  have c1:(if false=true then (-1:Int) else (if false=true then ((2 ^ ((IntKind.bits .u64) - 1)) - 1) else ((2 ^ (IntKind.bits .u64)) - 1)))=18446744073709551615:=by decide
  rw[c1,if_pos rfl]
  unfold wide
  show (bits .xor .i64 (-1) (b / 18446744073709551616),bits .xor .u64 18446744073709551615 (b % 18446744073709551616),())=_
  rw[not_i _ (by omega),not_u _ (by omega)]
  refine Prod.ext ?_ (Prod.ext ?_ rfl)
  ·show -1 - b / 18446744073709551616=(-b - 1) / 18446744073709551616; omega
  ·show 18446744073709551615 - b % 18446744073709551616=(-b - 1) % 18446744073709551616; omega
 have s2:=r_tadd a (wide (-b - 1)) t1 (zns _ (by unfold In128; omega))
 rw[znr]at s2
 show stdW.call (zcm _ (totT a).1 (totT a).2.1 (totT a).2.2.1) _=_
 rw[ec,zaa s2,zaa (r_wOf 1 (by unfold I64; omega))]
 have s3:=r_tadd (a+(-b - 1)) (wide 1) t2 (zns _ (by unfold In128; omega))
 rw[znr,show a+(-b - 1)+1=a - b by omega]at s3
 show stdW.call (zcm (wide 1) (totT (a+(-b - 1))).1 (totT (a+(-b - 1))).2.1 (totT (a+(-b - 1))).2.2.1) _=_
 rw[zaa s3]
 show stdW.call (zea (totT (a - b)).1 (totT (a - b)).2.1 (totT (a - b)).2.2.1) _=_
 rw[zaa (r_tdone _ t3)]
theorem r_fSub{a b:Int}(ha:I64 a)(hb:I64 b):zwy a b=some (fits64 (a - b)):=by
 show zzu stdW a b=_
 unfold zzu
 have hd:In128 (a - b):=by unfold I64 at ha hb; unfold In128; omega
 have e:fit (a - b)=(wide (a - b),0,()):=if_pos hd
 rw[zaa (r_wOf a ha),zaa (r_wOf b hb),zaa (r_wSub (zsa ha) (zsa hb)),e]
 show stdW.call (zki (wide (a - b)) 0) _=_
 rw[zaa (ykg hd)]
def moveP(l:List AFlow')(f t:AUnit')(n:Int):List AFlow'×Int×Unit:=
 if I64 (-n) then payP l [(f,(-n,())),(t,(n,()))] else if isP l=true then ([],(7,())) else ([],(3,()))
theorem r_move{l:List AFlow'}{f t:AUnit'}{n:Int}(h:okF l)(hn:I64 n)(hl:l.length≤1000):zhn l f t n=some (moveP l f t n):=by
 show zmd stdW l f t n=_
 unfold zmd moveP
 have e:=r_fSub (a:=0) (b:=n) (by unfold I64; omega) hn
 rw[Int.zero_sub]at e
 unfold fits64 at e
 by_cases hI:I64 (-n)
 ·rw[if_pos hI]at e
  rw[if_pos hI,zaa e]
  refine join_g fun k hk=>?_
  show stdW.cnd ((0:Int) != 0) _ _=_
  rw[cnd_n (by decide)]
  subst hk
  show stdW.cnd false _ (stdW.call (zog l [(f,(-n,())),(t,(n,()))]) _)=_
  rw[cnd_n rfl,zaa (r_pay h (by
   intro x hx
   simp only[List.mem_cons,List.not_mem_nil,or_false]at hx
   rcases hx with rfl|rfl
   ·exact hI
   ·exact hn) (by simp; omega))]
 ·rw[if_neg hI]at e
  rw[if_neg hI,zaa e]
  refine join_g fun k hk=>?_
  show stdW.cnd ((7:Int) != 0) _ _=_
  rw[cnd_y (by decide),zaa (r_is (by omega))]
  subst hk
  by_cases hp:isP l=true
  ·rw[hp,if_pos rfl]; rfl
  ·have hp:isP l=false:=by simpa using hp
   rw[hp,if_neg (by simp)]
   show stdW.cnd false _ (stdW.call (zog l _) _)=_
   unfold I64 at hI hn
   have hn2:n = -9223372036854775808:=by omega
   rw[cnd_n rfl,zaa (r_pay h (by
    intro x hx
    simp only[List.mem_cons,List.not_mem_nil,or_false]at hx
    rcases hx with rfl|rfl
    ·show I64 0; unfold I64; omega
    ·show I64 n; unfold I64; omega) (by simp; omega))]
   unfold payP
   rw[hp,if_neg (by simp)]
theorem eqF(a b:AFlow'):(a.1.1==b.1.1&&(a.1.2.1==b.1.2.1&&a.2.1==b.2.1))=decide (a=b):=by
 by_cases h:a=b
 ·subst h; simp
 ·rw[decide_eq_false h]
  cases hc:(a.1.1==b.1.1&&(a.1.2.1==b.1.2.1&&a.2.1==b.2.1)) with
  |false=>rfl
  |true=>
   simp only[Bool.and_eq_true,beq_iff_eq]at hc
   exact absurd (Prod.ext (extA hc.1 hc.2.1) (Prod.ext hc.2.2 rfl)) h
theorem r_same{a:List AFlow'}(hl:a.length≤1000000):zpg a a=some true:=by
 show zlj stdW a a=_
 unfold zlj
 rw[cnd_n (by simp)]
 refine loop_n (N:=a.length) (by omega) (fun _ _=>True) (some true) trivial ?_ ?_
 ·rintro _ again _
  rw[zak]
 ·rintro i hi _ _ again ha
  rw[cnd_lt hi,idx_w hi,idx_w hi,nif_t,eqF,cnd_n (by simp),i64_s i (by omega)]
  exact ha _ trivial
theorem ybp(all:List AFlow'):∀(us:List AUnit') (acc:List AFlow'),(payGo all us acc).1.length≤acc.length+us.length
 |[],acc=>by simp[payGo]
 |u::us,acc=>by
  unfold payGo
  split
  ·split
   ·have:=ybp all us (acc++[(u,sumU all u,())]); simp at this ⊢; omega
   ·have:=ybp all us acc; simp at this ⊢; omega
  ·simp
theorem payP_len(l f:List AFlow'):(payP l f).1.length≤l.length+f.length:=by
 unfold payP
 split
 ·have:=ybp (l++f) (zcn (l++f)) []
  have h2:=zsu (l++f)
  simp at this h2 ⊢; omega
 ·simp
theorem r_few17(l:List AFlow')(hl:l.length≤9223372036854775807):zoo l=some (l.take 20):=by
 show zqj stdW l=_
 unfold zqj
 by_cases h:20<l.length
 ·rw[cnd_y (decide_eq_true (by omega)),bnd_w (by omega) (by omega)]; rfl
 ·rw[cnd_n (decide_eq_false (by omega)),List.take_of_length_le (by omega)]
theorem okD_flows{l:DT.den (.slc tAFlow)}(h:DT.okD (.slc tAFlow) l):okF l∧l.length≤9223372036854775807:=by
 refine⟨fun x hx=>wf_i64 (h.1 x hx).2.1,?_⟩
 have:=h.2
 rwa [zat]at this
theorem yng{X β:Type}{N:Nat}(hN:N<9223372036854775808){f:X→(X→Option β)→Option β}(st:Nat→X)(r:Option β)
  (hend:∀again:X→Option β,f (st N) again=r) (hstep:∀i,i<N→∀again:X→Option β,again (st (i+1))=r→f (st i) again=r):stdW.loop f (st 0)=r:=by
 have key:∀n i,i≤N→N - i<n→loopF n f (st i)=r:=by
  intro n
  induction n with
  |zero=>intro i _ h; omega
  |succ n ih=>
   intro i hi hn
   show f (st i) (loopF n f)=r
   by_cases h:i<N
   ·exact hstep i h _ (ih (i+1) (by omega) (by omega))
   ·have:i=N:=by omega
    subst this; exact hend _
 show loopF FU f (st 0)=r
 exact key FU 0 (Nat.zero_le _) (by rw[FU_eq]; omega)
def insL(l:List AFlow'):List AUnit':=l.foldl (fun a x=>insA x.1 a) []
theorem insL_srt(l:List AFlow'):SrtA (insL l):=(ynp l [] List.Pairwise.nil).1
theorem yfh(l:List AFlow'):insL l=zcn l:=yli l
theorem insL_len(l:List AFlow'):(insL l).length≤l.length:=by rw[yfh]; exact zsu l
theorem insL_step(l:List AFlow')(i:Nat)(h:i<l.length):insL (l.take (i+1))=insA l[i].1 (insL (l.take i)):=by
 unfold insL
 rw[List.take_succ_eq_append_getElem h,List.foldl_append]; rfl
theorem r_units{l:List AFlow'}(hl:l.length≤1000000):zrp l=some (zcn l):=by
 show zim stdW l=_
 unfold zim
 refine yng (N:=l.length) (by omega) (fun i=>(insL (l.take i),((i:Int),()))) (some (zcn l)) ?_ ?_
 ·intro again
  show stdW.cnd (decide ((l.length:Int)<(l.length:Int))) _ _=_
  rw[zak,List.take_length,yfh]
 ·intro i hi again ha
  show stdW.cnd (decide ((i:Int)<(l.length:Int))) _ _=_
  rw[cnd_lt hi]
  refine join_g fun k hk=>?_
  have kk:k (insL (l.take (i+1)),())=some (zcn l):=by
   subst hk
   show again (insL (l.take (i+1)),(IntKind.i64.wrap ((i:Int)+1),()))=_
   rw[i64_s i (by omega)]; exact ha
  clear hk ha
  show stdW.idx l (i:Int) _=_
  rw[idx_w hi]
  rw[insL_step l i hi]at kk
  have hs:=insL_srt (l.take i)
  have hlen:(insL (l.take i)).length≤1000000:=Nat.le_trans (insL_len _) (by rw[List.length_take]; omega)
  generalize insL (l.take i)=out at*
  generalize l[i].1=u at*
  refine yng (N:=out.length) (by omega) (fun j=>((((lowU u (out.take j)).length:Nat):Int),(decide (u∈out.take j),((j:Int),())))) (some (zcn l)) ?_ ?_
  ·intro again2
   show stdW.cnd (decide ((out.length:Int)<(out.length:Int))) _ (stdW.cnd (!decide (u∈out.take out.length)) (stdW.bnd (((lowU u (out.take out.length)).length:Nat):Int) out.length _) (k (out,())))=_
   rw[zak,List.take_length]
   obtain⟨e1,e2⟩:=ypz hs u
   have hle:(lowU u out).length≤out.length:=List.length_filter_le _ _
   by_cases hu:u∈out
   ·rw[cnd_n (by simp[hu])]
    rw[insA,if_pos hu]at kk; exact kk
   ·rw[cnd_y (by simp[hu]),bnd_w (by omega) (by omega)]
    have l1:(out.take (lowU u out).length).length≤1000000:=by rw[List.length_take]; omega
    show stdW.room (out.take (lowU u out).length).length 16 (stdW.room ((out.take (lowU u out).length).length+1) 16 (stdW.bnd (((lowU u out).length:Nat):Int) out.length _))=_
    rw[room_w (by omega) (by omega),room_w (by omega) (by omega),bnd_w (by omega) (by omega)]
    show stdW.room ((out.take (lowU u out).length++[u]).length+(out.drop (lowU u out).length).length) 16 (k ((out.take (lowU u out).length++[u])++out.drop (lowU u out).length,()))=_
    rw[room_w (by simp only[List.length_append,List.length_drop,List.length_cons,List.length_nil]; omega) (by simp only[List.length_append,List.length_drop,List.length_cons,List.length_nil]; omega),e1,e2]
    rw[insA,if_neg hu]at kk
    rw[List.append_assoc]; exact kk
  ·intro j hj again2 ha2
   show stdW.cnd (decide ((j:Int)<(out.length:Int))) _ _=_
   rw[cnd_lt hj]
   refine join_g fun k9 hk9=>?_
   have k9k:∀a b,k9 (a,(b,()))=again2 (a,(b,(((j+1:Nat):Int),()))):=by
    intro a b; rw[←i64_s j (by omega)]; subst hk9; rfl
   clear hk9
   refine join_g fun k13 hk13=>?_
   have mem:decide (u∈out.take (j+1))=(decide (u∈out.take j)||decide (out[j]=u)):=by
    rw[List.take_succ_eq_append_getElem hj]
    rw[Bool.eq_iff_iff]
    simp only[decide_eq_true_eq,Bool.or_eq_true,List.mem_append,List.mem_singleton]
    exact or_congr_right ⟨fun h=>h.symm,fun h=>h.symm⟩
   have fin:∀b,b=decide (u∈out.take (j+1))→k13 (b,())=some (zcn l):=by
    rintro _ rfl
    subst hk13
    show stdW.idx out (j:Int) _=_
    rw[idx_w hj,zaa (zzb _ _)]
    rw[low_step hs u j hj]at ha2
    by_cases hlt:ltA out[j] u
    ·rw[if_pos hlt]at ha2
     rw[decide_eq_true hlt,cnd_y rfl]
     show k9 (IntKind.i64.wrap ((j:Int)+1),_)=_
     rw[i64_s j (by omega)]
     exact(k9k _ _).trans ha2
    ·rw[if_neg hlt]at ha2
     rw[decide_eq_false hlt,cnd_n rfl]
     exact(k9k _ _).trans ha2
   clear hk13
   show stdW.cnd (decide (u∈out.take j)) (k13 (true,())) (stdW.idx out (j:Int) _)=_
   by_cases h1:u∈out.take j
   ·rw[cnd_y (decide_eq_true h1)]
    exact fin _ (by rw[mem]; simp[h1])
   ·rw[cnd_n (decide_eq_false h1),idx_w hj,nif_f,eqA]
    exact fin _ (by rw[mem]; simp[h1])
theorem zmk{X β:Type}{N:Nat}(hN:N<9223372036854775808){f:X→(X→Option β)→Option β}(st:Nat→X)(r:Option β){z0:X}(hz:z0=st 0)
  (hend:∀again:X→Option β,f (st N) again=r) (hstep:∀i,i<N→∀again:X→Option β,again (st (i+1))=r→f (st i) again=r):stdW.loop f z0=r:=by
 subst hz; exact yng hN st r hend hstep
theorem sumU_take(l:List AFlow')(u:AUnit')(i:Nat)(h:i<l.length):sumU (l.take (i+1)) u=sumU (l.take i) u+(if l[i].1=u then l[i].2.1 else 0):=by
 unfold sumU
 rw[ydh _ _ _ h,List.sum_append]
 split<;>simp
theorem yoo{l:List AFlow'}(h:okF l)(u:AUnit')(hl:l.length≤1000000):sml (sumU l u):=by
 have h1:=sum_in (amts_ok h u)
 have h2:=yjd l u
 unfold sumU sml; omega
theorem r_pay17{l fl:List AFlow'}(h:okF l)(hf:okF fl)(hl:l.length+fl.length≤1000000):ztj l fl=some (payP l fl):=by
 show zph stdW l fl=_
 unfold zph payP
 rw[zaa (r_is17 (by omega))]
 by_cases hp:isP l=true
 ·rw[hp,cnd_n (by decide),if_pos rfl,room_w (by omega) (by omega),room_w (by omega) (by omega)]
  have hall:okF (l++fl):=fun x hx=>(List.mem_append.1 hx).elim (h x) (hf x)
  have hlen:(l++fl).length≤1000000:=by rw[List.length_append]; exact hl
  rw[zaa (r_units hlen)]
  have hul:=zsu (l++fl)
  generalize l++fl=all at*
  generalize zcn all=us at*
  refine zdi (l:=us) (by omega) (fun i (s:List AFlow'×Unit)=>s.1.length≤i) (fun us' (s:List AFlow'×Unit)=>some (payGo all us' s.1)) (Nat.le_refl _) ?_ ?_
  ·rintro⟨acc,⟨⟩⟩ again _
   rw[zak]; rfl
  ·rintro i hi ⟨acc,⟨⟩⟩ hacc again ha
   simp only at hacc
   rw[cnd_lt hi]
   refine join_g fun k hk=>?_
   have kk:∀v:List AFlow',v.length≤i+1→k (v,())=some (payGo all (us.drop (i+1)) v):=by
    intro v hv
    subst hk
    show again (IntKind.i64.wrap ((i:Int)+1),(v,()))=_
    rw[i64_s i (by omega)]
    exact ha (v,()) hv
   clear hk ha
   show _=some (payGo all (us[i]::us.drop (i+1)) acc)
   rw[payGo]
   refine zmk (N:=all.length) (by omega) (fun j=>(((j:Nat):Int),((big (sumU (all.take j) us[i])).1,((big (sumU (all.take j) us[i])).2.1,(acc,()))))) _ (by rw[List.take_zero,show sumU [] us[i]=0 from rfl,big0]; rfl) ?_ ?_
   ·intro again2
    show stdW.cnd (decide ((all.length:Int)<(all.length:Int))) _ (stdW.call (zfl (big (sumU (all.take all.length) us[i]))) _)=_
    rw[zak,List.take_length,zaa (r_fits (yoo hall us[i] hlen))]
    by_cases hI:I64 (sumU all us[i])
    ·rw[decide_eq_true hI,cnd_n (by decide),if_pos hI]
     have e:=r_int hI
     show stdW.call (zfy (big (sumU all us[i]))) _=_
     rw[zaa e]
     by_cases h0:sumU all us[i]=0
     ·rw[cnd_n (by simp[h0]),if_neg (by simp[h0])]
      exact kk acc (by omega)
     ·rw[cnd_y (by simp[h0]),if_pos h0]
      show stdW.idx us (i:Int) _=_
      rw[idx_w hi,zaa e]
      show stdW.room (acc.length+1) 24 (k (acc++[(us[i],sumU all us[i],())],()))=_
      rw[room_w (by omega) (by omega)]
      exact kk _ (by simp; omega)
    ·rw[decide_eq_false hI,cnd_y (by decide),if_neg hI]
   ·intro j hj again2 ha2
    show stdW.cnd (decide ((j:Int)<(all.length:Int))) _ _=_
    rw[cnd_lt hj]
    refine join_g fun k2 hk2=>?_
    have kk2:k2 ((big (sumU (all.take (j+1)) us[i])).1,((big (sumU (all.take (j+1)) us[i])).2.1,(acc,())))=again2 (((j+1:Nat):Int),((big (sumU (all.take (j+1)) us[i])).1,((big (sumU (all.take (j+1)) us[i])).2.1,(acc,())))):=by
     rw[←i64_s j (by omega)]; subst hk2; rfl
    rw[ha2]at kk2
    clear hk2 ha2
    show stdW.idx all (j:Int) _=_
    rw[idx_w hj]
    show stdW.idx us (i:Int) _=_
    rw[idx_w hi,nif_f,eqA]
    rw[sumU_take _ _ _ hj]at kk2
    by_cases hu:all[j].1=us[i]
    ·rw[if_pos hu]at kk2
     rw[cnd_y (decide_eq_true hu)]
     show stdW.idx all (j:Int) _=_
     have h2:I64 all[j].2.1:=hall _ (List.getElem_mem hj)
     rw[idx_w hj,both_w,zaa (r_of h2)]
     show stdW.call (zbv (big (sumU (all.take j) us[i])) (big all[j].2.1)) _=_
     rw[zaa (r_addB (yoo (hall.take j) us[i] (by rw[List.length_take]; omega)) (ycj h2))]
     exact kk2
    ·rw[if_neg hu,Int.add_zero]at kk2
     rw[cnd_n (decide_eq_false hu)]
     exact kk2
 ·have hp:isP l=false:=by simpa using hp
  rw[hp,cnd_y (by decide),if_neg (by simp)]
theorem r_cmpB{a b:Int}(ha:sml a)(hb:sml b):zcb (big a) (big b)=some (if a - b=0 then 0 else if a - b<0 then -1 else 1):=by
 unfold sml at*
 have:=r_cmp (nb_big a) (nb_big b) (Nat.le_trans (zgo ha) (by decide)) (Nat.le_trans (zgo hb) (by decide))
 rwa [bv_big,bv_big]at this
theorem yhp(all:List AFlow'):∀(us:List AUnit') (acc:List AFlow'),(payGo all us acc).2.1=0→
  (payGo all us acc).1=acc++(us.filter fun u=>decide (sumU all u≠0)).map (fun u=>(u,sumU all u,()))∧∀u∈us,I64 (sumU all u)
 |[],acc,_=>by simp[payGo]
 |u::us,acc,h=>by
  unfold payGo at h ⊢
  by_cases hI:I64 (sumU all u)
  ·rw[if_pos hI]at h ⊢
   by_cases h0:sumU all u≠0
   ·rw[if_pos h0]at h ⊢
    obtain⟨h1,h2⟩:=yhp all us _ h
    refine⟨?_,fun x hx=>?_⟩
    ·rw[h1,List.filter_cons,if_pos (by simpa using h0)]; simp
    ·rcases List.mem_cons.1 hx with rfl|hx
     ·exact hI
     ·exact h2 x hx
   ·rw[if_neg h0]at h ⊢
    obtain⟨h1,h2⟩:=yhp all us _ h
    refine⟨?_,fun x hx=>?_⟩
    ·rw[h1,List.filter_cons,if_neg (by simpa using h0)]
    ·rcases List.mem_cons.1 hx with rfl|hx
     ·exact hI
     ·exact h2 x hx
  ·rw[if_neg hI]at h; simp at h
theorem zhs(x:AFlow')(l:List AFlow')(u:AUnit'):sumU (x::l) u=(if x.1=u then amt x else 0)+sumU l u:=by
 unfold sumU amts ofFlow
 rw[List.filter_cons]
 by_cases h:x.1=u<;>simp[h]
theorem sumU_app(a b:List AFlow')(u:AUnit'):sumU (a++b) u=sumU a u+sumU b u:=by
 unfold sumU amts; rw[List.filter_append,List.map_append,List.sum_append]
theorem yjs{l:List AFlow'}{u:AUnit'}(h:∀x∈l,x.1≠u):sumU l u=0:=by
 induction l with
 |nil=>rfl
 |cons x l ih=>rw[zhs,if_neg (h x (by simp)),ih fun y hy=>h y (by simp[hy])]; rfl
theorem one_of{us:List AUnit'}(hn:us.Nodup){v:AUnit'}(z:Int):sumBy (fun u=>if v=u then z else 0) us=if v∈us then z else 0:=by
 induction us with
 |nil=>rfl
 |cons u us ih=>
  obtain⟨h1,h2⟩:=List.nodup_cons.1 hn
  rw[zcy,ih h2]
  by_cases hv:v=u
  ·subst hv; rw[if_pos rfl,if_neg h1,if_pos (by simp)]; omega
  ·rw[if_neg hv]
   by_cases hm:v∈us
   ·rw[if_pos hm,if_pos (by simp[hm])]; omega
   ·rw[if_neg hm,if_neg (by simp[hm,hv])]; rfl
theorem sumBy_add{α:Type}(f g:α→Int)(l:List α):sumBy (fun x=>f x+g x) l=sumBy f l+sumBy g l:=by
 induction l with
 |nil=>rfl
 |cons x l ih=>rw[zcy,zcy,zcy,ih]; omega
theorem yjr:∀(l:List AFlow') {us:List AUnit'},us.Nodup→(∀x∈l,x.1∈us)→sumBy (sumU l) us=sumBy amt l
 |[],us,_,_=>by
  have:∀us:List AUnit',sumBy (sumU []) us=0:=by
   intro us; induction us with
   |nil=>rfl
   |cons u us ih=>rw[zcy,ih]; rfl
  rw[this]; rfl
 |x::l,us,hn,h=>by
  have e:sumU (x::l)=fun u=>(if x.1=u then amt x else 0)+sumU l u:=funext (zhs x l)
  rw[e,sumBy_add,one_of hn,if_pos (h x (by simp)),yjr l hn fun y hy=>h y (by simp[hy]),zcy]
def resP(all:List AFlow')(us:List AUnit'):List AFlow':=(us.filter fun u=>decide (sumU all u≠0)).map fun u=>(u,sumU all u,())
theorem srt_nd{us:List AUnit'}(h:SrtA us):us.Nodup:=List.Pairwise.imp (fun {a b} (hab:ltA a b) (e:a=b)=>by subst e; exact zfe _ hab) h
theorem resP_sum(all:List AFlow'):sumBy amt (resP all (zcn all))=sumBy amt all:=by
 have e:∀us:List AUnit',sumBy amt (resP all us)=sumBy (sumU all) us:=by
  intro us
  induction us with
  |nil=>rfl
  |cons u us ih=>
   unfold resP at ih ⊢
   rw[List.filter_cons,zcy,←ih]
   by_cases h:sumU all u=0
   ·rw[if_neg (by simp[h]),h]; omega
   ·rw[if_pos (by simp[h]),List.map_cons,zcy]; rfl
 rw[e,yjr all (srt_nd (zst all)) fun x hx=>(yao all x.1).2 ⟨x,hx,rfl⟩]
theorem resP_is{all:List AFlow'}{us:List AUnit'}(h:SrtA us):isP (resP all us)=true:=by
 refine decide_eq_true ⟨fun x hx=>?_,?_⟩
 ·obtain⟨u,hu,rfl⟩:=List.mem_map.1 hx
  simpa using(List.mem_filter.1 hu).2
 ·unfold resP
  rw[List.map_map]
  have:((fun x:AFlow'=>x.1) ∘ fun u=>((u,sumU all u,()):AFlow'))=id:=rfl
  rw[this,List.map_id]
  exact h.filter _
theorem getP_none{l:List AFlow'}{u:AUnit'}(h:∀x∈l,x.1≠u):getP l u=0:=by
 induction l with
 |nil=>rfl
 |cons x l ih=>rw[getP,if_neg (h x (by simp)),ih fun y hy=>h y (by simp[hy])]
theorem yij:∀{l:List AFlow'},(l.map (·.1)).Nodup→∀u,getP l u=sumU l u
 |[],_,u=>rfl
 |x::l,h,u=>by
  obtain⟨h1,h2⟩:=List.nodup_cons.1 h
  rw[getP,zhs]
  by_cases hu:x.1=u
  ·rw[if_pos hu,if_pos hu,yjs fun y hy e=>h1 (List.mem_map.2 ⟨y,hy,e.trans hu.symm⟩)]
   show amt x=_; omega
  ·rw[if_neg hu,if_neg hu,yij h2]; omega
theorem isP_nd{l:List AFlow'}(h:isP l=true):(l.map (·.1)).Nodup:=srt_nd (of_decide_eq_true h).2
theorem resP_get(all:List AFlow')(u:AUnit'):getP (resP all (zcn all)) u=sumU all u:=by
 by_cases h0:sumU all u=0
 ·rw[h0]
  refine getP_none fun x hx e=>?_
  obtain⟨v,hv,rfl⟩:=List.mem_map.1 hx
  have:=(List.mem_filter.1 hv).2
  simp only[decide_eq_true_eq]at this
  exact this (by rw[show v=u from e]; exact h0)
 ·rw[yij (isP_nd (resP_is (zst all)))]
  have hu:u∈zcn all:=by
   rw[yao]
   by_cases hx:∃x∈all,x.1=u
   ·exact hx
   ·exact absurd (yjs fun x hx' e=>hx ⟨x,hx',e⟩) h0
  have key:∀us:List AUnit',us.Nodup→sumU (resP all us) u=if u∈us then sumU all u else 0:=by
   intro us
   induction us with
   |nil=>intro _; rfl
   |cons v us ih=>
    intro hn
    obtain⟨h1,h2⟩:=List.nodup_cons.1 hn
    have ih:=ih h2
    unfold resP at ih ⊢
    rw[List.filter_cons]
    by_cases hv:v=u
    ·subst hv
     rw[if_pos (by simpa using h0),List.map_cons,zhs,ih,if_neg h1,if_pos rfl,if_pos (by simp)]
     show sumU all v+0=_; omega
    ·have e:(if u∈v::us then sumU all u else 0)=if u∈us then sumU all u else 0:=by
      by_cases hm:u∈us
      ·rw[if_pos hm,if_pos (by simp[hm])]
      ·rw[if_neg hm,if_neg (by simp[hm,Ne.symm hv])]
     rw[e,←ih]
     by_cases hz:sumU all v=0
     ·rw[if_neg (by simp[hz])]
     ·rw[if_pos (by simp[hz]),List.map_cons,zhs,if_neg hv]; omega
  rw[key _ (srt_nd (zst all)),if_pos hu]
theorem payP_ok{l f:List AFlow'}(h:(payP l f).2.1=0):isP l=true∧(payP l f).1=resP (l++f) (zcn (l++f))∧∀u∈zcn (l++f),I64 (sumU (l++f) u):=by
 unfold payP at h ⊢
 by_cases hp:isP l=true
 ·rw[if_pos hp]at h ⊢
  obtain⟨h1,h2⟩:=yhp _ _ _ h
  exact⟨hp,by rw[h1,List.nil_append]; rfl,h2⟩
 ·rw[if_neg hp]at h; simp at h
theorem resP_ok{all:List AFlow'}{us:List AUnit'}(h:∀u∈us,I64 (sumU all u)):okF (resP all us):=by
 intro x hx
 obtain⟨u,hu,rfl⟩:=List.mem_map.1 hx
 exact h u (List.mem_filter.1 hu).1
end Go.Proofs.YtllkmncnmlmefaaGreat
namespace Go.Proofs.YtllkmncnmlmefaaGreat
open Go Go.Vc Go.RowKit
end Go.Proofs.YtllkmncnmlmefaaGreat
