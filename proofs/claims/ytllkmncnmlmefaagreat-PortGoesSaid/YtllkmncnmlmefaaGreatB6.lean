import Derived.Test.YtllkmncnmlmefaaGreatB5
namespace Go.Proofs.YtllkmncnmlmefaaGreat
open Go Go.Vc Go.RowKit
set_option maxRecDepth 100000
@[reducible] def tAUnit:DT:=(.pair (.int .i64) (.pair (.int .i64) .unit))
abbrev AUnit':=Int×Int×Unit
@[reducible] def tAFlow:DT:=(.pair tAUnit (.pair (.int .i64) .unit))
abbrev AFlow':=AUnit'×Int×Unit
@[reducible] def tAPos:DT:=(.pair tAUnit (.pair (.slc tAUnit) .unit))
abbrev APos':=AUnit'×(List AUnit')×Unit
@[reducible] def tAMember:DT:=(.pair (.int .i64) (.pair (.int .i64) (.pair (.int .i64) (.pair (.int .i64) .unit))))
abbrev zaf:=Int×Int×Int×Int×Unit
@[reducible] def tAInst:DT:=(.pair (.int .i64) (.pair (.int .i64) (.pair (.int .i64) (.pair (.int .i64) (.pair (.slc (.int .i64)) .unit)))))
abbrev AInst':=Int×Int×Int×Int×(List Int)×Unit
@[reducible] def tAAsset:DT:=(.pair (.int .i64) (.pair (.int .i64) (.pair (.int .i64) .unit)))
abbrev zcc:=Int×Int×Int×Unit
@[reducible] def tAAccount:DT:=(.pair (.int .i64) (.pair (.int .i64) (.pair (.int .i64) (.pair (.slc (.int .i64)) .unit))))
abbrev zab:=Int×Int×Int×(List Int)×Unit
@[reducible] def tAChoice:DT:=(.pair tAUnit (.pair tAUnit (.pair .bool .unit)))
abbrev zag:=AUnit'×AUnit'×Bool×Unit
@[reducible] def tAGroup:DT:=(.pair (.int .i64) (.pair tAUnit (.pair (.int .i64) (.pair (.int .i64) (.pair (.int .i64) .unit)))))
abbrev AGroup':=Int×AUnit'×Int×Int×Int×Unit
@[reducible] def tAGive:DT:=(.pair (.int .i64) (.pair tAUnit (.pair tAUnit (.pair tAUnit (.pair (.int .i64) (.pair (.int .i64) (.pair (.int .i64) (.pair (.int .i64) .unit))))))))
abbrev AGive':=Int×AUnit'×AUnit'×AUnit'×Int×Int×Int×Int×Unit
@[reducible] def tAHold:DT:=(.pair tAUnit (.pair (.slc tAAsset) .unit))
abbrev AHold':=AUnit'×(List zcc)×Unit
@[reducible] def tAState:DT:=(.pair (.int .i64) (.pair (.slc tAMember) (.pair (.slc tAInst) (.pair (.slc tAAsset) (.pair (.slc tAAccount) (.pair (.slc tAChoice) (.pair (.slc tAGroup) (.pair (.slc tAGive) (.pair (.slc tAPos) (.pair (.slc tAPos) (.pair (.slc tAFlow) (.pair (.slc tAHold) .unit))))))))))))
abbrev zae:=Int×(List zaf)×(List AInst')×(List zcc)×(List zab)×(List zag)×(List AGroup')×(List AGive')×(List APos')×(List APos')×(List AFlow')×(List AHold')×Unit
@[reducible] def tWideWide:DT:=(.pair (.int .i64) (.pair (.int .u64) .unit))
abbrev zbg:=Int×Int×Unit
@[reducible] def tNovationref01Big:DT:=(.pair .bool (.pair (.slc (.int .u8)) .unit))
abbrev zad:=Bool×(List Int)×Unit
noncomputable section
def zib(W:Wd)(a:zab):Option zab:=
 W.join (λ(z1:zab)=>some z1)
 λk2=>
 W.cnd (decide (20<(a.2.2.2.1.length:Int))) (W.bnd 20 a.2.2.2.1.length λh3=>(k2 (a.1,(a.2.1,(a.2.2.1,((a.2.2.2.1.take h3),()))))))
  ((k2 a))
def zsb:=zib stdW
theorem yeq:ECok Tryz.prog 77 (.es ⟨(.pair tAAccount .unit),(.v tAAccount),λx=>zsb x.1⟩):=es_z (λW x=>zib W x.1) cn [] [(3,⟨[],[(0,[.t (.int .i64),.t (.int .i64),.t (.int .i64),.t (.slc (.int .i64))])],[]⟩)] [] Tryz.func77
def ztu(W:Wd)(m:zaf):Option Bool:=
 W.cnd (decide (0<m.1)) (
 W.cnd (decide (m.1<9)) (
  W.cnd (decide (0≤m.2.1)) (
  W.cnd (decide (m.2.1≤4611686018427387904)) (
   W.cnd (decide (0≤m.2.2.1)) (
   W.cnd (decide (m.2.2.1<4)) (
    W.cnd (decide (0≤m.2.2.2.1)) (some (decide (m.2.2.2.1≤2097152)))
    (some false))
    (some false))
   (some false))
   (some false))
  (some false))
  (some false))
 (some false)
def yil:=ztu stdW
theorem ypa:ECok Tryz.prog 241 (.es ⟨(.pair tAMember .unit),(.v .bool),λx=>yil x.1⟩):=es_z (λW x=>ztu W x.1) cn [] [] [] Tryz.func241
def zlc(W:Wd)(l:List zaf)(id:Int):Option (zaf×Bool×Unit):=
 W.loop (λ(z1:Int×Unit) again2=>
 W.cnd (decide (z1.1<(l.length:Int))) (W.idx l z1.1 λx3=>
  W.cnd (x3.1==id) (W.idx l z1.1 λx4=>some (x4,(true,())))
  ((again2 ((IntKind.i64.wrap (z1.1+1)),()))))
  (some ((0,(0,(0,(0,())))),(false,()))))
 (0,())
def zfj:=zlc stdW
theorem ztv:ECok Tryz.prog 154 (.es ⟨(.pair (.slc tAMember) (.pair (.int .i64) .unit)),(.pair (.v tAMember) (.pair (.v .bool) .unit)),λx=>zfj x.1 x.2.1⟩):=es_z (λW x=>zlc W x.1 x.2.1) cn [] [] [(2,⟨[(6,.t (.int .i64))],[],[]⟩)] Tryz.func154
def zpc(W:Wd)(l:List zaf)(m:zaf):Option ((List zaf)×Int×Unit):=W.call (yil m) λv1=>
 W.cnd (!v1) (some ([],(2,())))
 (W.call (zfj l m.1) λv2=>
 W.cnd v2.2.1 (some ([],(12,())))
  (
  W.join (λ(z3:Int×Unit)=>W.bnd z3.1 l.length λh4=>W.room (l.take h4).length 32 (W.room ((l.take h4).length+(m::[]).length) 32 (W.bnd z3.1 l.length λh5=>W.room (((l.take h4)++(m::[])).length+((l.take l.length).drop h5).length) 32 (some ((((l.take h4)++(m::[]))++((l.take l.length).drop h5)),(0,()))))))
  λk6=>
  W.loop (λ(z7:Int×Unit) again8=>
   W.cnd (decide (z7.1<(l.length:Int))) (W.idx l z7.1 λx9=>
   W.cnd (decide (x9.1<m.1)) ((again8 ((IntKind.i64.wrap (z7.1+1)),())))
    ((k6 z7)))
   ((k6 z7)))
   (0,())))
def ztt:=zpc stdW
theorem ylx:ECok Tryz.prog 254 (.es ⟨(.pair (.slc tAMember) (.pair tAMember .unit)),(.pair (.own 118 tAMember) (.pair (.v (.int .i64)) .unit)),λx=>ztt x.1 x.2.1⟩):=es_z (λW x=>zpc W x.1 x.2.1) (cc ypa (cc ztv cn)) [(8,[],(oN [1,3,5,7,9,11,13,15,17,19,21,23,25,27]))] [(10,⟨[(9,.t (.int .i64))],[],[]⟩)] [(8,⟨[(9,.t (.int .i64))],[],[]⟩)] Tryz.func254
def zhq(W:Wd)(l:List zaf):Option (List zaf):=
 W.join (λ(z1:List zaf×Unit)=>some z1.1)
 λk2=>
 W.loop (λ(z3:List zaf×Int×Unit) again4=>
  W.cnd (decide (z3.2.1<(l.length:Int))) (
  W.cnd (decide (z3.2.1<10)) (
   W.join (λ(z5:List zaf×Unit)=>(again4 (z5.1,((IntKind.i64.wrap (z3.2.1+1)),()))))
   λk6=>W.idx l z3.2.1 λx7=>W.call (ztt z3.1 x7) λv8=>
   W.cnd (v8.2.1==0) ((k6 (v8.1,())))
    ((k6 (z3.1,()))))
   ((k2 (z3.1,()))))
  ((k2 (z3.1,()))))
  ([],(0,()))
def zkz:=zhq stdW
theorem yei:ECok Tryz.prog 135 (.es ⟨(.pair (.slc tAMember) .unit),(.v (.slc tAMember)),λx=>zkz x.1⟩):=es_z (λW x=>zhq W x.1) (cc ylx cn) [] [(4,⟨[(3,.t (.slc tAMember))],[],[]⟩),(8,⟨[(3,.t (.slc tAMember))],[],[]⟩)] [(3,⟨[(3,.t (.slc tAMember)),(4,.t (.int .i64))],[],[]⟩)] Tryz.func135
def ztq(W:Wd)(a:zab):Option Bool:=
 W.join (λ(z1:Bool×Unit)=>
 W.cnd z1.1 (some false)
  (
  W.join (λ(z2:Bool×Unit)=>
  W.cnd z2.1 (some false)
   (
   W.loop (λ(z3:Int×Unit) again4=>
   W.cnd (decide (z3.1<(a.2.2.2.1.length:Int))) (
    W.join (λ(z5:Bool×Unit)=>
    W.cnd z5.1 (some false)
     ((again4 ((IntKind.i64.wrap (z3.1+1)),()))))
    λk6=>W.idx a.2.2.2.1 z3.1 λx7=>
    W.cnd (decide (x7<1)) ((k6 (true,())))
     (W.idx a.2.2.2.1 z3.1 λx8=>
     W.cnd (decide (16<x8)) ((k6 (true,())))
     (
     W.cnd (decide (0<z3.1)) (W.idx a.2.2.2.1 z3.1 λx9=>W.idx a.2.2.2.1 (IntKind.i64.wrap (z3.1 - 1)) λx10=>(k6 ((decide (x9≤x10)),())))
      ((k6 (false,()))))))
    (some true))
   (0,())))
  λk11=>
  W.cnd (a.2.2.1==1) (
   W.cnd (decide (0<(a.2.2.2.1.length:Int))) ((k11 (true,())))
   (
   W.cnd (a.2.2.1==4) ((k11 ((decide (1<(a.2.2.2.1.length:Int))),())))
    ((k11 (false,())))))
   (
   W.cnd (a.2.2.1==4) ((k11 ((decide (1<(a.2.2.2.1.length:Int))),())))
   ((k11 (false,()))))))
 λk12=>
 W.cnd (decide (a.1<1)) ((k12 (true,())))
  (
  W.cnd (decide (16<a.1)) ((k12 (true,())))
  (
  W.cnd (decide (a.2.1<1)) ((k12 (true,())))
   (
   W.cnd (decide (8<a.2.1)) ((k12 (true,())))
   (
   W.cnd (decide (a.2.2.1<1)) ((k12 (true,())))
    ((k12 ((decide (4<a.2.2.1)),())))))))
def yii:=ztq stdW
theorem yoz:ECok Tryz.prog 244 (.es ⟨(.pair tAAccount .unit),(.v .bool),λx=>yii x.1⟩):=es_z (λW x=>ztq W x.1) cn [(8,[],(oN [1,3,5,7,9,11,13,15,17,19,21,23,25,27,29,31,33,35,37,39,41,43,45,47,49,51,53,55,57,59,61,63]))] [(500031,⟨[(31,.t .bool)],[],[]⟩),(500051,⟨[(51,.t .bool)],[],[]⟩),(500090,⟨[(90,.t .bool)],[],[]⟩)] [(6,⟨[(3,.t (.int .i64))],[],[]⟩)] Tryz.func244
def zfi(W:Wd)(l:List zab)(id:Int):Option (zab×Bool×Unit):=
 W.loop (λ(z1:Int×Unit) again2=>
 W.cnd (decide (z1.1<(l.length:Int))) (W.idx l z1.1 λx3=>
  W.cnd (x3.1==id) (W.idx l z1.1 λx4=>some (x4,(true,())))
  ((again2 ((IntKind.i64.wrap (z1.1+1)),()))))
  (some ((0,(0,(0,([],())))),(false,()))))
 (0,())
def zix:=zfi stdW
theorem zts:ECok Tryz.prog 152 (.es ⟨(.pair (.slc tAAccount) (.pair (.int .i64) .unit)),(.pair (.v tAAccount) (.pair (.v .bool) .unit)),λx=>zix x.1 x.2.1⟩):=es_z (λW x=>zfi W x.1 x.2.1) cn [] [] [(2,⟨[(6,.t (.int .i64))],[],[]⟩)] Tryz.func152
def zoz(W:Wd)(l:List zab)(a:zab):Option ((List zab)×Int×Unit):=W.call (yii a) λv1=>
 W.cnd (!v1) (some ([],(2,())))
 (W.call (zix l a.1) λv2=>
 W.cnd v2.2.1 (some ([],(12,())))
  (
  W.join (λ(z3:Int×Unit)=>W.bnd z3.1 l.length λh4=>W.room (l.take h4).length 48 (W.room ((l.take h4).length+(a::[]).length) 48 (W.bnd z3.1 l.length λh5=>W.room (((l.take h4)++(a::[])).length+((l.take l.length).drop h5).length) 48 (some ((((l.take h4)++(a::[]))++((l.take l.length).drop h5)),(0,()))))))
  λk6=>
  W.loop (λ(z7:Int×Unit) again8=>
   W.cnd (decide (z7.1<(l.length:Int))) (W.idx l z7.1 λx9=>
   W.cnd (decide (x9.1<a.1)) ((again8 ((IntKind.i64.wrap (z7.1+1)),())))
    ((k6 z7)))
   ((k6 z7)))
   (0,())))
def ztp:=zoz stdW
theorem ylv:ECok Tryz.prog 256 (.es ⟨(.pair (.slc tAAccount) (.pair tAAccount .unit)),(.pair (.own 60 tAAccount) (.pair (.v (.int .i64)) .unit)),λx=>ztp x.1 x.2.1⟩):=es_z (λW x=>zoz W x.1 x.2.1) (cc yoz (cc zts cn)) [(8,[],(oN [1,3,5,7,9,11,13,15,17,19,21,23,25,27]))] [(10,⟨[(9,.t (.int .i64))],[],[]⟩)] [(8,⟨[(9,.t (.int .i64))],[],[]⟩)] Tryz.func256
def zhp(W:Wd)(l:List zab):Option (List zab):=
 W.join (λ(z1:List zab×Unit)=>some z1.1)
 λk2=>
 W.loop (λ(z3:List zab×Int×Unit) again4=>
  W.cnd (decide (z3.2.1<(l.length:Int))) (
  W.cnd (decide (z3.2.1<20)) (
   W.join (λ(z5:List zab×Unit)=>(again4 (z5.1,((IntKind.i64.wrap (z3.2.1+1)),()))))
   λk6=>W.idx l z3.2.1 λx7=>W.call (ztp z3.1 x7) λv8=>
   W.cnd (v8.2.1==0) ((k6 (v8.1,())))
    ((k6 (z3.1,()))))
   ((k2 (z3.1,()))))
  ((k2 (z3.1,()))))
  ([],(0,()))
def zkv:=zhp stdW
theorem yeh:ECok Tryz.prog 137 (.es ⟨(.pair (.slc tAAccount) .unit),(.v (.slc tAAccount)),λx=>zkv x.1⟩):=es_z (λW x=>zhp W x.1) (cc ylv cn) [] [(4,⟨[(3,.t (.slc tAAccount))],[],[]⟩),(8,⟨[(3,.t (.slc tAAccount))],[],[]⟩)] [(3,⟨[(3,.t (.slc tAAccount)),(4,.t (.int .i64))],[],[]⟩)] Tryz.func137
def zqj(W:Wd)(l:List AUnit'):Option (List AUnit'):=
 W.cnd (decide (12<(l.length:Int))) (W.bnd 12 l.length λh1=>some (l.take h1))
 (some l)
def yct:=zqj stdW
theorem yni:ECok Tryz.prog 204 (.es ⟨(.pair (.slc tAUnit) .unit),(.v (.slc tAUnit)),λx=>yct x.1⟩):=es_z (λW x=>zqj W x.1) cn [] [] [] Tryz.func204
def zqf(W:Wd)(l:List APos'):Option (List APos'):=
 W.join (λ(z1:List APos'×Unit)=>some z1.1)
 λk2=>
 W.loop (λ(z3:Int×List APos'×Unit) again4=>
  W.cnd (decide (z3.1<(l.length:Int))) (
  W.cnd (decide (z3.1<12)) (W.idx l z3.1 λx5=>W.idx l z3.1 λx6=>W.call (yct x6.2.1) λv7=>W.room (z3.2.1.length+((x5.1,(v7,()))::[]).length) 40 ((again4 ((IntKind.i64.wrap (z3.1+1)),((z3.2.1++((x5.1,(v7,()))::[])),())))))
   ((k2 z3.2)))
  ((k2 z3.2)))
  (0,([],()))
def znt:=zqf stdW
theorem yne:ECok Tryz.prog 74 (.es ⟨(.pair (.slc tAPos) .unit),(.own 50 tAPos),λx=>znt x.1⟩):=es_z (λW x=>zqf W x.1) (cc yni cn) [(5,[],(oN [1,3,5,7,9,11,13,15,17,19,21,22,25,26,28,31]))] [(6,⟨[(3,.row 1)],[],[.dead,.own 50 tAPos]⟩)] [(3,⟨[(3,.row 1),(4,.t (.int .i64))],[],[.dead,.own 50 tAPos]⟩)] Tryz.func74
def zqh(W:Wd)(l:List AFlow'):Option (List AFlow'):=
 W.cnd (decide (20<(l.length:Int))) (W.bnd 20 l.length λh1=>some (l.take h1))
 (some l)
def znu:=zqh stdW
theorem yng:ECok Tryz.prog 75 (.es ⟨(.pair (.slc tAFlow) .unit),(.v (.slc tAFlow)),λx=>znu x.1⟩):=es_z (λW x=>zqh W x.1) cn [] [] [] Tryz.func75
def ygy(W:Wd)(l:List AUnit'):Option Bool:=
 W.loop (λ(z1:AUnit') again2=>
 W.cnd (decide (z1.2.1<(l.length:Int))) (W.idx l z1.2.1 λx3=>
  W.join (λ(z4:Bool×Unit)=>
  W.cnd z4.1 (some false)
   ((again2 (x3.1,((IntKind.i64.wrap (z1.2.1+1)),())))))
  λk5=>
  W.cnd (decide (x3.1≤z1.1)) ((k5 (true,())))
   (
   W.cnd (decide (8<x3.1)) ((k5 (true,())))
   ((k5 ((x3.2.1==0),())))))
  (some true))
 (0,(0,()))
def vec_Is:=ygy stdW
theorem ylg:ECok Tryz.prog 341 (.es ⟨(.pair (.slc tAUnit) .unit),(.v .bool),λx=>vec_Is x.1⟩):=es_z (λW x=>ygy W x.1) cn [] [(500025,⟨[(25,.t .bool)],[],[]⟩)] [(3,⟨[(3,.t (.int .i64)),(8,.t (.int .i64))],[],[]⟩)] Tryz.func341
def zrc(W:Wd)(a:AUnit')(b:AUnit'):Option Bool:=
 W.cnd (a.1 != b.1) (some (decide (a.1<b.1)))
 (some (decide (a.2.1<b.2.1)))
def zdw:=zrc stdW
theorem zge:ECok Tryz.prog 304 (.es ⟨(.pair tAUnit (.pair tAUnit .unit)),(.v .bool),λx=>zdw x.1 x.2.1⟩):=es_z (λW x=>zrc W x.1 x.2.1) cn [] [] [] Tryz.func304
def yal(W:Wd)(l:List APos'):Option Bool:=
 W.loop (λ(z1:Int×Unit) again2=>
 W.cnd (decide (z1.1<(l.length:Int))) (W.idx l z1.1 λx3=>
  W.join (λ(z4:Bool×Unit)=>
  W.cnd z4.1 (some false)
   ((again2 ((IntKind.i64.wrap (z1.1+1)),()))))
  λk5=>
  W.cnd ((x3.2.1.length:Int)==0) (W.both ((k5 (true,()))) ((k5 (true,()))))
   (W.call (vec_Is x3.2.1) λv6=>
   W.cnd (!v6) (W.both ((k5 (true,()))) ((k5 (true,()))))
   (
   W.cnd (decide (0<z1.1)) (W.idx l (IntKind.i64.wrap (z1.1 - 1)) λx7=>W.both (W.call (zdw x7.1 x3.1) λv8=>(k5 ((!v8),()))) (W.call (zdw x7.1 x3.1) λv9=>(k5 ((!v9),()))))
    (W.both ((k5 (false,()))) ((k5 (false,())))))))
  (some true))
 (0,())
def yds:=yal stdW
theorem zxs:ECok Tryz.prog 257 (.es ⟨(.pair (.slc tAPos) .unit),(.v .bool),λx=>yds x.1⟩):=es_z (λW x=>yal W x.1) (cc ylg (cc zge cn)) [(4,[],(.rd 0 (.rd 1 (.rd 2 (.rd 3 (.rd 4 (.rd 5 (.rd 6 (.op 7 (.rd 8 (.rd 9 (.rd 10 (.rd 11 (.rd 12 (.rd 13 (.rd 14 (.rd 15 (.rd 16 (.rd 17 (.rd 18 (.rd 20 (.two 19 21 (oN [42,44,47,49,51]) (oN [38,44,47,49,51])))))))))))))))))))))))] [(500037,⟨[(37,.t .bool)],[],[]⟩)] [(2,⟨[(7,.t (.int .i64))],[],[]⟩)] Tryz.func257
def zdf(W:Wd)(s:List Int):Option (List Int):=W.nilq (List.isEmpty s) λg1=>
 W.cnd (Go.Vc.notIf false g1) (some [])
 (W.room ((0:Nat)+s.length) 8 (some ([]++s)))
def zel:=zdf stdW
theorem zna:ECok Tryz.prog 131 (.es ⟨(.pair (.slc (.int .i64)) .unit),(.own 3 (.int .i64)),λx=>zel x.1⟩):=es_z (λW x=>zdf W x.1) cn [] [] [] Tryz.func131
def zjp(W:Wd)(a:zab):Option zab:=W.call (zel a.2.2.2.1) λv1=>some (a.1,(a.2.1,(a.2.2.1,(v1,()))))
def zra:=zjp stdW
theorem ydx:ECok Tryz.prog 386 (.es ⟨(.pair tAAccount .unit),(.v tAAccount),λx=>zra x.1⟩):=es_z (λW x=>zjp W x.1) (cc zna cn) [] [] [] Tryz.func386
def zih(W:Wd)(l:List zab):Option (List zab):=
 W.loop (λ(z1:Int×List zab×Unit) again2=>
 W.cnd (decide (z1.1<(l.length:Int))) (W.idx l z1.1 λx3=>W.call (zra x3) λv4=>W.room (z1.2.1.length+(v4::[]).length) 48 ((again2 ((IntKind.i64.wrap (z1.1+1)),((z1.2.1++(v4::[])),())))))
  (some z1.2.1))
 (0,([],()))
def zsk:=zih stdW
theorem yex:ECok Tryz.prog 314 (.es ⟨(.pair (.slc tAAccount) .unit),(.own 60 tAAccount),λx=>zsk x.1⟩):=es_z (λW x=>zih W x.1) (cc ydx cn) [] [] [(3,⟨[(3,.row 1),(8,.t (.int .i64))],[],[.dead,.own 60 tAAccount]⟩)] Tryz.func314
def ygo(W:Wd)(a:zab)(free10:Int):Option (Bool×(Int×Unit)):=some ((a.2.1 != free10),(free10,()))
def zvl:=ygo stdW
theorem zyq:ECok Tryz.prog 315 (.ls ⟨[.v tAAccount,.ptr],[⟨3,[.v (.int .i64)]⟩],[⟨3,[.v (.int .i64)]⟩],(.q (.v .bool)),λx=>zvl x.1 x.2.1⟩):=ls_z (λW x=>ygo W x.1 x.2.1) cn [] [] [] Tryz.func315
def zak(W:Wd)(s:List zab)(f0_0:Int):Option (Int×(Int×Unit)):=
 W.loop (λ(z1:AUnit') again2=>
 W.cnd (decide (z1.1<(s.length:Int))) (W.idx s z1.1 λx3=>W.call (zvl x3 z1.2.1) λv4=>
  W.cnd v4.1 (some (z1.1,v4.2))
  ((again2 ((IntKind.i64.wrap (z1.1+1)),v4.2))))
  (some ((-1),z1.2)))
 (0,(f0_0,()))
def zar:=zak stdW
theorem zcq:ECok Tryz.prog 342 (.ls ⟨[.v (.slc tAAccount),.fn 315 1],[⟨3,[.v (.int .i64)]⟩],[⟨3,[.v (.int .i64)]⟩],(.q (.v (.int .i64))),λx=>zar x.1 x.2.1⟩):=ls_z (λW x=>zak W x.1 x.2.1) (cc zyq cn) [] [] [(2,⟨[(8,.t (.int .i64))],[(0,[.t (.int .i64)])],[]⟩)] Tryz.func342
def zan(W:Wd)(del0_0:Int)(s:List zab):Option ((List zab)×(Int×Unit)):=W.call (zar s del0_0) λv1=>
 W.cnd (v1.1==(-1)) (some (s,v1.2))
 (
 W.loop (λ(z2:Int×Int×Int×List zab×Unit) again3=>
  W.cnd (decide (z2.2.1<(z2.2.2.2.1.length:Int))) (
  W.join (λ(z4:Int×Int×List zab×Unit)=>(again3 (z4.1,((IntKind.i64.wrap (z2.2.1+1)),z4.2))))
   λk5=>W.idx z2.2.2.2.1 z2.2.1 λx6=>W.nth z2.2.2.2.1 (Int.toNat z2.2.1) λx7=>W.call (zvl x7 z2.2.2.1) λv8=>
   W.cnd (!v8.1) (W.idx z2.2.2.2.1 z2.1 λ_=>W.nth z2.2.2.2.1 (Int.toNat z2.1) λ_=>(k5 ((IntKind.i64.wrap (z2.1+1)),(v8.2.1,((List.set z2.2.2.2.1 (Int.toNat z2.1) x7),())))))
   ((k5 (z2.1,(v8.2.1,z2.2.2.2)))))
  (W.bnd z2.1 z2.2.2.2.1.length λh11=>W.bnd (h11:Int) z2.2.2.2.1.length λh12=>W.bnd z2.1 ((z2.2.2.2.1.take h12)++(List.replicate (z2.2.2.2.1.length - h12) (0,(0,(0,([],())))))).length λh13=>some ((((z2.2.2.2.1.take h12)++(List.replicate (z2.2.2.2.1.length - h12) (0,(0,(0,([],())))))).take h13),(z2.2.2.1,()))))
  (v1.1,((IntKind.i64.wrap (v1.1+1)),(v1.2.1,(s,())))))
def zay:=zan stdW
theorem zco:ECok Tryz.prog 313 (.ls ⟨[.row 60 tAAccount,.fn 315 1],[⟨3,[.v (.int .i64)]⟩],[⟨3,[.v (.int .i64)]⟩],(.q (.v (.slc tAAccount))),λx=>zay x.1 x.2.1⟩):=ls_z (λW x=>zan W x.1 x.2.1) (cb zcq (cc zyq cn)) [] [(6,⟨[(0,.row 0),(5,.t (.int .i64))],[(0,[.t (.int .i64)])],[.own 60 tAAccount]⟩)] [(5,⟨[(0,.row 0),(5,.t (.int .i64)),(6,.t (.int .i64))],[(0,[.t (.int .i64)])],[.own 60 tAAccount]⟩)] Tryz.func313
def yao(W:Wd)(l:List zab)(member:Int):Option (List zab):=W.call (zsk l) λv1=>W.call (zay member v1) λv2=>some v2.1
def yqp:=yao stdW
theorem acct_Of_ok:ECok Tryz.prog 192 (.es ⟨(.pair (.slc tAAccount) (.pair (.int .i64) .unit)),(.v (.slc tAAccount)),λx=>yqp x.1 x.2.1⟩):=es_z (λW x=>yao W x.1 x.2.1) (cc yex (cc zco cn)) [] [] [] Tryz.func192
def zmw(W:Wd)(a:zab):Option (List AUnit'):=
 W.cnd (a.2.2.1==1) (some ((a.1,(0,()))::[]))
 (
 W.loop (λ(z1:Int×List AUnit'×Unit) again2=>
  W.cnd (decide (z1.1<(a.2.2.2.1.length:Int))) (W.idx a.2.2.2.1 z1.1 λx3=>W.room (z1.2.1.length+((a.1,(x3,()))::[]).length) 16 ((again2 ((IntKind.i64.wrap (z1.1+1)),((z1.2.1++((a.1,(x3,()))::[])),())))))
  (some z1.2.1))
  (0,([],())))
def zrb:=zmw stdW
theorem zvk:ECok Tryz.prog 316 (.es ⟨(.pair tAAccount .unit),(.own 47 tAUnit),λx=>zrb x.1⟩):=es_z (λW x=>zmw W x.1) cn [] [] [(5,⟨[(3,.row 1),(16,.t (.int .i64))],[],[.dead,.own 47 tAUnit]⟩)] Tryz.func316
def zbr(W:Wd)(s:List AUnit')(v:AUnit'):Option Int:=
 W.loop (λ(z1:Int×Unit) again2=>
 W.cnd (decide (z1.1<(s.length:Int))) (W.idx s z1.1 λx3=>
  W.cnd (Go.Vc.notIf false ((v.1==x3.1)&&(v.2.1==x3.2.1))) (some z1.1)
  ((again2 ((IntKind.i64.wrap (z1.1+1)),()))))
  (some (-1)))
 (0,())
def zcj:=zbr stdW
theorem zfe:ECok Tryz.prog 395 (.es ⟨(.pair (.slc tAUnit) (.pair tAUnit .unit)),(.v (.int .i64)),λx=>zcj x.1 x.2.1⟩):=es_z (λW x=>zbr W x.1 x.2.1) cn [(4,[],(oN [1,3,5,7,9,11]))] [] [(2,⟨[(8,.t (.int .i64))],[],[]⟩)] Tryz.func395
def zbl(W:Wd)(s:List AUnit')(v:AUnit'):Option Bool:=W.call (zcj s v) λv1=>some (decide (0≤v1))
def zcb:=zbl stdW
theorem zek:ECok Tryz.prog 343 (.es ⟨(.pair (.slc tAUnit) (.pair tAUnit .unit)),(.v .bool),λx=>zcb x.1 x.2.1⟩):=es_z (λW x=>zbl W x.1 x.2.1) (cc zfe cn) [] [] [] Tryz.func343
def zvm(W:Wd)(a:zab)(u:AUnit'):Option Bool:=W.call (zrb a) λv1=>W.call (zcb v1 u) λv2=>some v2
def yap:=zvm stdW
theorem yqq:ECok Tryz.prog 260 (.es ⟨(.pair tAAccount (.pair tAUnit .unit)),(.v .bool),λx=>yap x.1 x.2.1⟩):=es_z (λW x=>zvm W x.1 x.2.1) (cc zvk (cc zek cn)) [(1,[],(oN [1,5,2,6,9]))] [] [] Tryz.func260
def zbw(W:Wd)(s:List AUnit'):Option (List AUnit'):=W.nilq (List.isEmpty s) λg1=>
 W.cnd (Go.Vc.notIf false g1) (some [])
 (W.room ((0:Nat)+s.length) 16 (some ([]++s)))
def zbn:=zbw stdW
theorem zdk:ECok Tryz.prog 253 (.es ⟨(.pair (.slc tAUnit) .unit),(.own 52 tAUnit),λx=>zbn x.1⟩):=es_z (λW x=>zbw W x.1) cn [] [] [] Tryz.func253
def yak(W:Wd)(l:List APos')(u:AUnit'):Option (List AUnit'):=
 W.loop (λ(z1:Int×Unit) again2=>
 W.cnd (decide (z1.1<(l.length:Int))) (W.idx l z1.1 λx3=>
  W.cnd (Go.Vc.notIf false ((x3.1.1==u.1)&&(x3.1.2.1==u.2.1))) (W.call (zbn x3.2.1) λv4=>some v4)
  ((again2 ((IntKind.i64.wrap (z1.1+1)),()))))
  (some []))
 (0,())
def zod:=yak stdW
theorem zqu:ECok Tryz.prog 163 (.es ⟨(.pair (.slc tAPos) (.pair tAUnit .unit)),(.own 52 tAUnit),λx=>zod x.1 x.2.1⟩):=es_z (λW x=>yak W x.1 x.2.1) (cc zdk cn) [] [] [(2,⟨[(9,.t (.int .i64))],[],[]⟩)] Tryz.func163
def zsq(W:Wd)(l:List AUnit'):Option Bool:=W.call (vec_Is l) λv1=>some (!v1)
def zsr:=zsq stdW
theorem zrn:ECok Tryz.prog 277 (.es ⟨(.pair (.slc tAUnit) .unit),(.v .bool),λx=>zsr x.1⟩):=es_z (λW x=>zsq W x.1) (cc ylg cn) [] [] [] Tryz.func277
def zax(W:Wd)(s:List (List AUnit')):Option (Int×(Unit)):=
 W.loop (λ(z1:Int×Unit) again2=>
 W.cnd (decide (z1.1<(s.length:Int))) (W.idx s z1.1 λx3=>W.call (zsr x3) λv4=>
  W.cnd v4 (some z1)
  ((again2 ((IntKind.i64.wrap (z1.1+1)),()))))
  (some ((-1),())))
 (0,())
def zbm:=zax stdW
theorem zdl:ECok Tryz.prog 370 (.ls ⟨[.v (.slc (.slc tAUnit)),.fn 277 0],[],[],(.q (.v (.int .i64))),λx=>zbm x.1⟩):=ls_z (λW x=>zax W x.1) (cc zrn cn) [] [] [(2,⟨[(8,.t (.int .i64))],[],[]⟩)] Tryz.func370
def zat(W:Wd)(s:List (List AUnit')):Option (Bool×(Unit)):=W.call (zbm s) λv1=>some ((decide (0≤v1.1)),())
def zbh:=zat stdW
theorem zde:ECok Tryz.prog 285 (.ls ⟨[.v (.slc (.slc tAUnit)),.fn 277 0],[],[],(.q (.v .bool)),λx=>zbh x.1⟩):=ls_z (λW x=>zat W x.1) (cc zdl cn) [] [] [] Tryz.func285
def zyz(W:Wd)(l:List AUnit')(inst:Int):Option Int:=
 W.loop (λ(z1:Int×Unit) again2=>
 W.cnd (decide (z1.1<(l.length:Int))) (W.idx l z1.1 λx3=>
  W.cnd (x3.1==inst) (some x3.2.1)
  ((again2 ((IntKind.i64.wrap (z1.1+1)),()))))
  (some 0))
 (0,())
def ygz:=zyz stdW
theorem vec_Get_ok:ECok Tryz.prog 268 (.es ⟨(.pair (.slc tAUnit) (.pair (.int .i64) .unit)),(.v (.int .i64)),λx=>ygz x.1 x.2.1⟩):=es_z (λW x=>zyz W x.1 x.2.1) cn [] [] [(2,⟨[(9,.t (.int .i64))],[],[]⟩)] Tryz.func268
def zyw(W:Wd)(n:Int):Option zbg:=W.nn 63 (some ((Int.fdiv n (2 ^ (Min.min (Int.toNat 63) (Go.IntKind.bits Go.IntKind.i64)))),((IntKind.u64.wrap n),())))
def zrl:=zyw stdW
theorem zoh:ECok Tryz.prog 300 (.es ⟨(.pair (.int .i64) .unit),(.v tWideWide),λx=>zrl x.1⟩):=es_z (λW x=>zyw W x.1) cn [] [] [] Tryz.func300
def zer(W:Wd)(w:zbg)(t0:Int)(t1:Int)(t2:Int):Option (Unit×(zcc)):=W.call (add64 t2 w.2.1 0) λv1=>W.call (add64 (IntKind.u64.wrap t1) (IntKind.u64.wrap w.1) v1.2.1) λv2=>W.nn 63 (some ((),((IntKind.i64.wrap (t0+(IntKind.i64.wrap ((Int.fdiv w.1 (2 ^ (Min.min (Int.toNat 63) (Go.IntKind.bits Go.IntKind.i64))))+(IntKind.i64.wrap v2.2.1))))),((IntKind.i64.wrap v2.1),(v1.1,())))))
def zcf:=zer stdW
theorem zip:ECok Tryz.prog 376 (.ls ⟨[.ptr,.v tWideWide],[⟨405,[.v (.int .i64),.v (.int .i64),.v (.int .u64)]⟩],[⟨405,[.v (.int .i64),.v (.int .i64),.v (.int .u64)]⟩],(.q .unit),λx=>zcf x.1 x.2.1 x.2.2.1 x.2.2.2.1⟩):=ls_z (λW x=>zer W x.1 x.2.1 x.2.2.1 x.2.2.2.1) (cc add64_ok cn) [(1,[],(oN [1,3,5,7,9,11,13,14,17,19,21,23,25])),(2,[],(oN [1,3,5,7,9,11,13,15,17,19,20,23,25,27,29,31])),(3,[0],(oN [1,3,5,9,11,13,15,17,19,6,21,23,25,26]))] [] [] Tryz.func376
def zhg(W:Wd)(w:zbg)(ok:Bool):Option (zbg×Int×Unit):=
 W.cnd (!ok) (some ((0,(0,())),(7,())))
 (some (w,(0,())))
def zrk:=zhg stdW
theorem yea:ECok Tryz.prog 359 (.es ⟨(.pair tWideWide (.pair .bool .unit)),(.pair (.v tWideWide) (.pair (.v (.int .i64)) .unit)),λx=>zrk x.1 x.2.1⟩):=es_z (λW x=>zhg W x.1 x.2.1) cn [] [] [] Tryz.func359
def zeg(W:Wd)(t0:Int)(t1:Int)(t2:Int):Option ((zbg×Int×Unit)×(zcc)):=W.nn 63 (W.call (zrk (t1,(t2,())) (t0==(Int.fdiv t1 (2 ^ (Min.min (Int.toNat 63) (Go.IntKind.bits Go.IntKind.i64)))))) λv1=>some (v1,(t0,(t1,(t2,())))))
def zdq:=zeg stdW
theorem zhf:ECok Tryz.prog 377 (.ls ⟨[.ptr],[⟨405,[.v (.int .i64),.v (.int .i64),.v (.int .u64)]⟩],[⟨405,[.v (.int .i64),.v (.int .i64),.v (.int .u64)]⟩],(.q (.pair (.v tWideWide) (.pair (.v (.int .i64)) .unit))),λx=>zdq x.1 x.2.1 x.2.2.1⟩):=ls_z (λW x=>zeg W x.1 x.2.1 x.2.2.1) (cc yea cn) [(1,[1],(oN [1,3,5,7,9,11,13,15,17,19,21,23,25,27,29,30,33,35,36,39]))] [] [] Tryz.func377
def zso(W:Wd)(l:List zbg):Option (zbg×Int×Unit):=
 W.loop (λ(z1:zaf) again2=>
 W.cnd (decide (z1.1<(l.length:Int))) (W.idx l z1.1 λx3=>W.call (zcf x3 z1.2.1 z1.2.2.1 z1.2.2.2.1) λv4=>(again2 ((IntKind.i64.wrap (z1.1+1)),v4.2)))
  (W.call (zdq z1.2.1 z1.2.2.1 z1.2.2.2.1) λv5=>some v5.1))
 (0,(0,(0,(0,()))))
def zyx:=zso stdW
theorem yor:ECok Tryz.prog 302 (.es ⟨(.pair (.slc tWideWide) .unit),(.pair (.v tWideWide) (.pair (.v (.int .i64)) .unit)),λx=>zyx x.1⟩):=es_z (λW x=>zso W x.1) (cc zip (cc zhf cn)) [] [] [(3,⟨[(9,.t (.int .i64))],[(1,[.t (.int .i64),.t (.int .i64),.t (.int .u64)])],[]⟩)] Tryz.func302
def zsn(W:Wd)(w:zbg):Option (AUnit'):=W.call (zrl (IntKind.i64.wrap w.2.1)) λv1=>
 W.cnd (Go.Vc.notIf true ((v1.1==w.1)&&(v1.2.1==w.2.1))) (some (0,(7,())))
 (some ((IntKind.i64.wrap w.2.1),(0,())))
def ygv:=zsn stdW
theorem yoq:ECok Tryz.prog 276 (.es ⟨(.pair tWideWide .unit),(.pair (.v (.int .i64)) (.pair (.v (.int .i64)) .unit)),λx=>ygv x.1⟩):=es_z (λW x=>zsn W x.1) (cc zoh cn) [(2,[],(oN [1,5,2,7]))] [] [] Tryz.func276
def zmd(W:Wd)(w:zbg)(e:Int):Option (AUnit'):=
 W.cnd (e != 0) (some (0,(e,())))
 (W.call (ygv w) λv1=>some v1)
def zjh:=zmd stdW
theorem zuv:ECok Tryz.prog 301 (.es ⟨(.pair tWideWide (.pair (.int .i64) .unit)),(.pair (.v (.int .i64)) (.pair (.v (.int .i64)) .unit)),λx=>zjh x.1 x.2.1⟩):=es_z (λW x=>zmd W x.1 x.2.1) (cc yoq cn) [] [] [] Tryz.func301
def zzz(W:Wd)(l:List Int):Option (AUnit'):=W.nn (l.length:Int) (W.room (Int.toNat (l.length:Int)) 16 (
 W.loop (λ(z1:Int×List AUnit'×Unit) again2=>
 W.cnd (decide (z1.1<(l.length:Int))) (W.idx l z1.1 λx3=>W.call (zrl x3) λv4=>W.room (z1.2.1.length+(v4::[]).length) 16 ((again2 ((IntKind.i64.wrap (z1.1+1)),((z1.2.1++(v4::[])),())))))
  (W.call (zyx z1.2.1) λv5=>W.call (zjh v5.1 v5.2.1) λv6=>some v6))
 (0,([],()))))
def zme:=zzz stdW
theorem zji:ECok Tryz.prog 179 (.es ⟨(.pair (.slc (.int .i64)) .unit),(.pair (.v (.int .i64)) (.pair (.v (.int .i64)) .unit)),λx=>zme x.1⟩):=es_z (λW x=>zzz W x.1) (cc zoh (cc yor (cc zuv cn))) [] [] [(3,⟨[(4,.row 0),(12,.t (.int .i64))],[],[.own 317 tWideWide]⟩)] Tryz.func179
def zza(W:Wd)(l:List (List AUnit')):Option ((List AUnit')×Int×Unit):=W.call (zbh l) λv1=>
 W.cnd v1.1 (some ([],(3,())))
 (
 W.loop (λ(z2:Int×List AUnit'×Unit) again3=>
  W.cnd (decide (z2.1≤8)) (
  W.join (λ(z4:List AUnit'×Unit)=>(again3 ((IntKind.i64.wrap (z2.1+1)),z4)))
   λk5=>
   W.loop (λ(z6:Int×List AUnit'×List Int×Unit) again7=>
   W.cnd (decide (z6.1<(l.length:Int))) (W.idx l z6.1 λx8=>W.call (ygz x8 z2.1) λv9=>W.room (z6.2.2.1.length+(v9::[]).length) 8 ((again7 ((IntKind.i64.wrap (z6.1+1)),(z6.2.1,((z6.2.2.1++(v9::[])),()))))))
    (W.call (zme z6.2.2.1) λv10=>
    W.cnd (v10.2.1 != 0) (some ([],v10.2))
    (
    W.cnd (v10.1 != 0) (W.room (z6.2.1.length+((z2.1,(v10.1,()))::[]).length) 16 ((k5 ((z6.2.1++((z2.1,(v10.1,()))::[])),()))))
     ((k5 (z6.2.1,()))))))
   (0,(z2.2.1,([],()))))
  (some (z2.2.1,(0,()))))
  (1,([],())))
def yha:=zza stdW
theorem yfb:ECok Tryz.prog 162 (.es ⟨(.pair (.slc (.slc tAUnit)) .unit),(.pair (.own 52 tAUnit) (.pair (.v (.int .i64)) .unit)),λx=>yha x.1⟩):=es_z (λW x=>zza W x.1) (cc zde (cc vec_Get_ok (cc zji cn))) [] [(6,⟨[(4,.row 3)],[],[.dead,.dead,.dead,.own 52 tAUnit]⟩)] [(5,⟨[(4,.row 3),(5,.t (.int .i64))],[],[.dead,.dead,.dead,.own 52 tAUnit]⟩),(9,⟨[(4,.row 3),(6,.row 5),(19,.t (.int .i64))],[],[.dead,.dead,.dead,.own 52 tAUnit,.dead,.own 2 (.int .i64)]⟩)] Tryz.func162
def zmu(W:Wd)(l:List APos')(u:AUnit'):Option (Int×Bool×Unit):=
 W.loop (λ(z1:Int×Unit) again2=>
 W.cnd (decide (z1.1<(l.length:Int))) (W.idx l z1.1 λx3=>W.call (zdw x3.1 u) λv4=>
  W.cnd (!v4) (some (z1.1,((Go.Vc.notIf false ((x3.1.1==u.1)&&(x3.1.2.1==u.2.1))),())))
  ((again2 ((IntKind.i64.wrap (z1.1+1)),()))))
  (some ((l.length:Int),(false,()))))
 (0,())
def zxr:=zmu stdW
theorem yku:ECok Tryz.prog 261 (.es ⟨(.pair (.slc tAPos) (.pair tAUnit .unit)),(.pair (.v (.int .i64)) (.pair (.v .bool) .unit)),λx=>zxr x.1 x.2.1⟩):=es_z (λW x=>zmu W x.1 x.2.1) (cc zge cn) [(5,[],(oN [1,3,5,7,9,11,13]))] [] [(2,⟨[(10,.t (.int .i64))],[],[]⟩)] Tryz.func261
def zig(W:Wd)(l:List APos'):Option (List APos'):=
 W.loop (λ(z1:Int×List APos'×Unit) again2=>
 W.cnd (decide (z1.1<(l.length:Int))) (W.idx l z1.1 λx3=>W.call (zbn x3.2.1) λv4=>W.room (z1.2.1.length+((x3.1,(v4,()))::[]).length) 40 ((again2 ((IntKind.i64.wrap (z1.1+1)),((z1.2.1++((x3.1,(v4,()))::[])),())))))
  (some z1.2.1))
 (0,([],()))
def zsi:=zig stdW
theorem yew:ECok Tryz.prog 262 (.es ⟨(.pair (.slc tAPos) .unit),(.own 50 tAPos),λx=>zsi x.1⟩):=es_z (λW x=>zig W x.1) (cc zdk cn) [(5,[],(oN [1,3,5,7,9,10,13,14,16,19]))] [] [(3,⟨[(3,.row 2),(8,.t (.int .i64))],[],[.dead,.dead,.own 50 tAPos]⟩)] Tryz.func262
def zmv(W:Wd)(l:List APos')(u:AUnit')(legs:List AUnit'):Option ((List APos')×Int×Unit):=W.call (yds l) λv1=>
 W.cnd (!v1) (some ([],(3,())))
 (W.call (zod l u) λv2=>W.call (yha (v2::(legs::[]))) λv3=>
 W.cnd (v3.2.1 != 0) (some ([],v3.2))
  (W.call (zxr l u) λv4=>W.call (zsi l) λv5=>
  W.join (λ(z6:List AUnit'×List APos'×Unit)=>
  W.join (λ(z7:List APos'×Unit)=>some (z7.1,(0,())))
   λk8=>
   W.cnd (decide (0<(z6.1.length:Int))) (W.call (insO z6.2.1 v4.1 ((u,(z6.1,()))::[])) λv9=>(k8 v9))
   ((k8 z6.2)))
  λk10=>
  W.cnd v4.2.1 (W.call (delO v5 v4.1 (IntKind.i64.wrap (v4.1+1))) λv11=>(k10 (v3.1,v11)))
   ((k10 (v3.1,(v5,()))))))
def zqt:=zmv stdW
theorem ykv:ECok Tryz.prog 140 (.es ⟨(.pair (.slc tAPos) (.pair tAUnit (.pair (.slc tAUnit) .unit))),(.pair (.own 50 tAPos) (.pair (.v (.int .i64)) .unit)),λx=>zqt x.1 x.2.1 x.2.2.1⟩):=es_z (λW x=>zmv W x.1 x.2.1 x.2.2.1) (cc zxs (cc zqu (cc yfb (cc yku (cc yew (cc delete_ok (cc insert_ok cn))))))) [] [(10,⟨[(8,.row 2),(12,.row 3)],[],[.dead,.dead,.own 52 tAUnit,.own 50 tAPos]⟩),(12,⟨[(12,.row 3)],[],[.dead,.dead,.dead,.own 50 tAPos]⟩)] [] Tryz.func140
def ztx(W:Wd)(l:List AUnit'):Option Bool:=
 W.loop (λ(z1:Int×Unit) again2=>
 W.cnd (decide (z1.1<(l.length:Int))) (
  W.join (λ(z3:Bool×Unit)=>
  W.cnd z3.1 (some false)
   ((again2 ((IntKind.i64.wrap (z1.1+1)),()))))
  λk4=>W.idx l z1.1 λx5=>
  W.cnd (decide (x5.1<1)) ((k4 (true,())))
   (W.idx l z1.1 λx6=>
   W.cnd (decide (8<x6.1)) ((k4 (true,())))
   (W.idx l z1.1 λx7=>
   W.cnd (x7.2.1==0) ((k4 (true,())))
    (
    W.cnd (decide (0<z1.1)) (W.idx l (IntKind.i64.wrap (z1.1 - 1)) λx8=>W.idx l z1.1 λx9=>(k4 ((decide (x9.1≤x8.1)),())))
    ((k4 (false,())))))))
  (some true))
 (0,())
def zpf:=ztx stdW
theorem zle:ECok Tryz.prog 265 (.es ⟨(.pair (.slc tAUnit) .unit),(.v .bool),λx=>zpf x.1⟩):=es_z (λW x=>ztx W x.1) cn [(4,[],(oN [1,3,5,7,9,11,13,15,17,19,21,23,25,27,29,31,33,35,37,39,41,43,45,47,49,51,53,55,57,59,61,63,65,67,69,71,73,75,77,79]))] [(500049,⟨[(49,.t .bool)],[],[]⟩)] [(2,⟨[(3,.t (.int .i64))],[],[]⟩)] Tryz.func265
def zky(W:Wd)(a:AUnit')(b:AUnit'):Option Bool:=
 W.cnd (decide (a.1<b.1)) (some true)
 (
 W.cnd (a.1==b.1) (some (decide (a.2.1<b.2.1)))
  (some false))
def zdh:=zky stdW
theorem zdy:ECok Tryz.prog 248 (.es ⟨(.pair tAUnit (.pair tAUnit .unit)),(.v .bool),λx=>zdh x.1 x.2.1⟩):=es_z (λW x=>zky W x.1 x.2.1) cn [] [] [] Tryz.func248
def zti(W:Wd)(l:List APos'):Option Bool:=
 W.loop (λ(z1:Int×Unit) again2=>
 W.cnd (decide (z1.1<(l.length:Int))) (
  W.join (λ(z3:Bool×Unit)=>
  W.cnd z3.1 (some false)
   ((again2 ((IntKind.i64.wrap (z1.1+1)),()))))
  λk4=>W.idx l z1.1 λx5=>
  W.cnd ((x5.2.1.length:Int)==0) (W.both ((k4 (true,()))) ((k4 (true,()))))
   (W.idx l z1.1 λx6=>W.call (zpf x6.2.1) λv7=>
   W.cnd (!v7) (W.both ((k4 (true,()))) ((k4 (true,()))))
   (
   W.cnd (decide (0<z1.1)) (W.idx l (IntKind.i64.wrap (z1.1 - 1)) λx8=>W.idx l z1.1 λx9=>W.both (W.call (zdh x8.1 x9.1) λv10=>(k4 ((!v10),()))) (W.call (zdh x8.1 x9.1) λv11=>(k4 ((!v11),()))))
    (W.both ((k4 (false,()))) ((k4 (false,())))))))
  (some true))
 (0,())
def ztj:=zti stdW
theorem zrr:ECok Tryz.prog 141 (.es ⟨(.pair (.slc tAPos) .unit),(.v .bool),λx=>ztj x.1⟩):=es_z (λW x=>zti W x.1) (cc zle (cc zdy cn)) [(4,[],(.rd 0 (.rd 1 (.rd 2 (.rd 3 (.rd 4 (.rd 5 (.rd 6 (.rd 7 (.rd 8 (.rd 9 (.rd 10 (.rd 11 (.rd 12 (.op 13 (.rd 14 (.rd 15 (.rd 16 (.rd 17 (.rd 18 (.rd 19 (.rd 20 (.rd 21 (.rd 22 (.rd 23 (.rd 24 (.rd 26 (.rd 27 (.rd 28 (.rd 29 (.two 25 30 (oN [60,62,65,67,69]) (oN [50,62,65,67,69]))))))))))))))))))))))))))))))))] [(500044,⟨[(44,.t .bool)],[],[]⟩)] [(2,⟨[(3,.t (.int .i64))],[],[]⟩)] Tryz.func141
def zho(W:Wd)(a:zab):Option (List AUnit'):=
 W.cnd (a.2.2.1==1) (W.room ((a.1,(0,()))::[]).length 16 (some ((a.1,(0,()))::[])))
 (
 W.loop (λ(z1:Int×List AUnit'×Unit) again2=>
  W.cnd (decide (z1.1<(a.2.2.2.1.length:Int))) (W.idx a.2.2.2.1 z1.1 λx3=>W.room (z1.2.1.length+((a.1,(x3,()))::[]).length) 16 ((again2 ((IntKind.i64.wrap (z1.1+1)),((z1.2.1++((a.1,(x3,()))::[])),())))))
  (some z1.2.1))
  (0,([],())))
def zku:=zho stdW
theorem zrf:ECok Tryz.prog 68 (.es ⟨(.pair tAAccount .unit),(.own 47 tAUnit),λx=>zku x.1⟩):=es_z (λW x=>zho W x.1) cn [(7,[],(oN [1,3,5,7,9,11,13,15,17,18,20,23]))] [] [(5,⟨[(3,.row 1),(4,.t (.int .i64))],[],[.dead,.own 47 tAUnit]⟩)] Tryz.func68
def zpa(W:Wd)(a:zab)(u:AUnit'):Option Bool:=W.call (zku a) λv1=>
 W.loop (λ(z2:Int×List AUnit'×Unit) again3=>
 W.cnd (decide (z2.1<(z2.2.1.length:Int))) (W.idx z2.2.1 z2.1 λ_=>W.nth z2.2.1 (Int.toNat z2.1) λx5=>
  W.cnd (Go.Vc.notIf false ((x5.1==u.1)&&(x5.2.1==u.2.1))) (some true)
  ((again3 ((IntKind.i64.wrap (z2.1+1)),z2.2))))
  (some false))
 (0,(v1,()))
def ztr:=zpa stdW
theorem ylw:ECok Tryz.prog 153 (.es ⟨(.pair tAAccount (.pair tAUnit .unit)),(.v .bool),λx=>ztr x.1 x.2.1⟩):=es_z (λW x=>zpa W x.1 x.2.1) (cc zrf cn) [(5,[],(oN [1,3,5,9,6,11]))] [] [(3,⟨[(5,.row 0),(6,.t (.int .i64))],[],[.own 47 tAUnit]⟩)] Tryz.func153
def zth(W:Wd)(l:List APos')(u:AUnit'):Option (List AUnit'):=
 W.loop (λ(z1:Int×Unit) again2=>
 W.cnd (decide (z1.1<(l.length:Int))) (W.idx l z1.1 λx3=>
  W.cnd (Go.Vc.notIf false ((x3.1.1==u.1)&&(x3.1.2.1==u.2.1))) (W.idx l z1.1 λx4=>some x4.2.1)
  ((again2 ((IntKind.i64.wrap (z1.1+1)),()))))
  (some []))
 (0,())
def zhl:=zth stdW
theorem zkk:ECok Tryz.prog 40 (.es ⟨(.pair (.slc tAPos) (.pair tAUnit .unit)),(.v (.slc tAUnit)),λx=>zhl x.1 x.2.1⟩):=es_z (λW x=>zth W x.1 x.2.1) cn [(4,[],(oN [1,3,5,7,9,11,13]))] [] [(2,⟨[(5,.t (.int .i64))],[],[]⟩)] Tryz.func40
def zpg(W:Wd)(l:List AUnit')(inst:Int):Option Int:=
 W.loop (λ(z1:Int×Unit) again2=>
 W.cnd (decide (z1.1<(l.length:Int))) (W.idx l z1.1 λx3=>
  W.cnd (x3.1==inst) (W.idx l z1.1 λx4=>some x4.2.1)
  ((again2 ((IntKind.i64.wrap (z1.1+1)),()))))
  (some 0))
 (0,())
def zfz:=zpg stdW
theorem zxy:ECok Tryz.prog 151 (.es ⟨(.pair (.slc tAUnit) (.pair (.int .i64) .unit)),(.v (.int .i64)),λx=>zfz x.1 x.2.1⟩):=es_z (λW x=>zpg W x.1 x.2.1) cn [] [] [(2,⟨[(5,.t (.int .i64))],[],[]⟩)] Tryz.func151
def yfl(W:Wd)(u:Int):Option zad:=
 W.loop (λ(z1:Int×List Int×Unit) again2=>
 W.cnd (decide (0<z1.1)) (W.nz 2 (W.room (z1.2.1.length+((IntKind.u8.wrap (Int.tmod z1.1 2))::[]).length) 1 (W.nz 2 ((again2 ((IntKind.u64.wrap (Int.tdiv z1.1 2)),((z1.2.1++((IntKind.u8.wrap (Int.tmod z1.1 2))::[])),())))))))
  (some (false,z1.2)))
 (u,([],()))
def zgx:=yfl stdW
theorem zyb:ECok Tryz.prog 202 (.es ⟨(.pair (.int .u64) .unit),(.v tNovationref01Big),λx=>zgx x.1⟩):=es_z (λW x=>yfl W x.1) cn [] [] [(2,⟨[(0,.t (.int .u64)),(3,.row 1)],[],[.dead,.own 5 (.int .u8)]⟩)] Tryz.func202
def ybq(W:Wd)(a:List Int)(b:List Int):Option (List Int):=
 W.loop (λ(z1:Int×Int×List Int×Unit) again2=>
 W.join (λ(z3:List Int×Unit)=>
  W.join (λ(z4:Int×List Int×Unit)=>
  W.join (λ(z5:Int×List Int×Unit)=>W.nz 2 (W.room (z5.2.1.length+((Int.tmod z5.1 2)::[]).length) 1 (W.nz 2 ((again2 ((IntKind.u8.wrap (Int.tdiv z5.1 2)),((IntKind.i64.wrap (z1.2.1+1)),((z5.2.1++((Int.tmod z5.1 2)::[])),()))))))))
   λk6=>
   W.cnd (decide (z1.2.1<(b.length:Int))) (W.idx b z1.2.1 λx7=>(k6 ((IntKind.u8.wrap (z4.1+x7)),z4.2)))
   ((k6 z4)))
  λk8=>
  W.cnd (decide (z1.2.1<(a.length:Int))) (W.idx a z1.2.1 λx9=>(k8 ((IntKind.u8.wrap (z1.1+x9)),z3)))
   ((k8 (z1.1,z3))))
  λk10=>
  W.cnd (decide (z1.2.1<(a.length:Int))) ((k10 z1.2.2))
  (
  W.cnd (decide (z1.2.1<(b.length:Int))) ((k10 z1.2.2))
   (
   W.join (λ(z11:List Int×Unit)=>some z11.1)
   λk12=>
   W.cnd (decide (0<z1.1)) (W.room (z1.2.2.1.length+(z1.1::[]).length) 1 ((k12 ((z1.2.2.1++(z1.1::[])),()))))
    ((k12 z1.2.2)))))
 (0,(0,([],())))
def ziy:=ybq stdW
theorem ztz:ECok Tryz.prog 199 (.es ⟨(.pair (.slc (.int .u8)) (.pair (.slc (.int .u8)) .unit)),(.own 5 (.int .u8)),λx=>ziy x.1 x.2.1⟩):=es_z (λW x=>ybq W x.1 x.2.1) cn [] [(6,⟨[(5,.row 1)],[],[.dead,.own 5 (.int .u8)]⟩),(8,⟨[(5,.row 1),(6,.t (.int .u8))],[],[.dead,.own 5 (.int .u8)]⟩),(10,⟨[(5,.row 1),(6,.t (.int .u8))],[],[.dead,.own 5 (.int .u8)]⟩),(14,⟨[(5,.row 1)],[],[.dead,.own 5 (.int .u8)]⟩)] [(4,⟨[(5,.row 1),(6,.t (.int .u8)),(7,.t (.int .i64))],[],[.dead,.own 5 (.int .u8)]⟩)] Tryz.func199
def zua(W:Wd)(n:Int):Option zad:=
 W.cnd (decide (0≤n)) (W.call (zgx (IntKind.u64.wrap n)) λv1=>some v1)
 (W.call (zgx (IntKind.u64.wrap (IntKind.i64.wrap (0 - (IntKind.i64.wrap (n+1)))))) λv2=>W.call (ziy v2.2.1 (1::[])) λv3=>some (true,(v3,())))
def zcx:=zua stdW
theorem zfk:ECok Tryz.prog 70 (.es ⟨(.pair (.int .i64) .unit),(.v tNovationref01Big),λx=>zcx x.1⟩):=es_z (λW x=>zua W x.1) (cc zyb (cc ztz cn)) [] [] [] Tryz.func70
def ybp(W:Wd)(neg:Bool)(b:List Int):Option zad:=
 W.join (λ(z1:Int×Unit)=>
 W.cnd neg (W.bnd z1.1 b.length λh2=>some ((decide (0<z1.1)),((b.take h2),())))
  (W.bnd z1.1 b.length λh3=>some (false,((b.take h3),()))))
 λk4=>
 W.loop (λ(z5:Int×Unit) again6=>
  W.cnd (decide (0<z5.1)) (W.idx b (IntKind.i64.wrap (z5.1 - 1)) λx7=>
  W.cnd (x7==0) ((again6 ((IntKind.i64.wrap (z5.1 - 1)),())))
   ((k4 z5)))
  ((k4 z5)))
  ((b.length:Int),())
def zgq:=ybp stdW
theorem zty:ECok Tryz.prog 198 (.es ⟨(.pair .bool (.pair (.slc (.int .u8)) .unit)),(.v tNovationref01Big),λx=>zgq x.1 x.2.1⟩):=es_z (λW x=>ybp W x.1 x.2.1) cn [] [(4,⟨[(5,.t (.int .i64))],[],[]⟩)] [(2,⟨[(5,.t (.int .i64))],[],[]⟩)] Tryz.func198
def ybr(W:Wd)(a:List Int)(b:List Int):Option Bool:=
 W.cnd ((a.length:Int) != (b.length:Int)) (some (decide ((a.length:Int)<(b.length:Int))))
 (
 W.loop (λ(z1:Int×Unit) again2=>
  W.cnd (decide (0<z1.1)) (W.idx a (IntKind.i64.wrap (z1.1 - 1)) λx3=>W.idx b (IntKind.i64.wrap (z1.1 - 1)) λx4=>
  W.cnd (x3 != x4) (W.idx a (IntKind.i64.wrap (z1.1 - 1)) λx5=>W.idx b (IntKind.i64.wrap (z1.1 - 1)) λx6=>some (decide (x5<x6)))
   ((again2 ((IntKind.i64.wrap (z1.1 - 1)),()))))
  (some false))
  ((a.length:Int),()))
def zwi:=ybr stdW
theorem yin:ECok Tryz.prog 200 (.es ⟨(.pair (.slc (.int .u8)) (.pair (.slc (.int .u8)) .unit)),(.v .bool),λx=>zwi x.1 x.2.1⟩):=es_z (λW x=>ybr W x.1 x.2.1) cn [(6,[],(oN [1,3,5,7,9,11,13,15,17,19,21])),(7,[],(oN [1,3,5,7,9,11,13,15,17,19,21,23]))] [] [(4,⟨[(5,.t (.int .i64))],[],[]⟩)] Tryz.func200
def zxz(W:Wd)(a:List Int)(b:List Int):Option (List Int):=
 W.loop (λ(z1:Int×Int×List Int×Unit) again2=>
 W.cnd (decide (z1.2.1<(a.length:Int))) (
  W.join (λ(z3:Int×List Int×Unit)=>W.idx a z1.2.1 λx4=>
  W.join (λ(z5:Int×List Int×Unit)=>W.nz 2 (W.room (z5.2.1.length+((Int.tmod (IntKind.u8.wrap ((IntKind.u8.wrap (x4+2)) - z3.1)) 2)::[]).length) 1 ((again2 (z5.1,((IntKind.i64.wrap (z1.2.1+1)),((z5.2.1++((Int.tmod (IntKind.u8.wrap ((IntKind.u8.wrap (x4+2)) - z3.1)) 2)::[])),())))))))
   λk6=>
   W.cnd (decide ((IntKind.u8.wrap ((IntKind.u8.wrap (x4+2)) - z3.1))<2)) ((k6 (1,z3.2)))
   ((k6 (0,z3.2))))
  λk7=>
  W.cnd (decide (z1.2.1<(b.length:Int))) (W.idx b z1.2.1 λx8=>(k7 ((IntKind.u8.wrap (z1.1+x8)),z1.2.2)))
   ((k7 (z1.1,z1.2.2))))
  (some z1.2.2.1))
 (0,(0,([],())))
def zlf:=zxz stdW
theorem yek:ECok Tryz.prog 201 (.es ⟨(.pair (.slc (.int .u8)) (.pair (.slc (.int .u8)) .unit)),(.own 5 (.int .u8)),λx=>zlf x.1 x.2.1⟩):=es_z (λW x=>zxz W x.1 x.2.1) cn [] [(9,⟨[(5,.row 1),(8,.t (.int .u8))],[],[.dead,.own 5 (.int .u8)]⟩),(13,⟨[(5,.row 1),(6,.t (.int .u8))],[],[.dead,.own 5 (.int .u8)]⟩)] [(4,⟨[(5,.row 1),(6,.t (.int .u8)),(7,.t (.int .i64))],[],[.dead,.own 5 (.int .u8)]⟩)] Tryz.func201
def zpm(W:Wd)(a:zad)(b:zad):Option zad:=
 W.cnd (Go.Vc.notIf false (a.1==b.1)) (W.call (ziy a.2.1 b.2.1) λv1=>W.call (zgq a.1 v1) λv2=>some v2)
 (W.call (zwi a.2.1 b.2.1) λv3=>
 W.cnd v3 (W.call (zlf b.2.1 a.2.1) λv4=>W.call (zgq b.1 v4) λv5=>some v5)
  (W.call (zlf a.2.1 b.2.1) λv6=>W.call (zgq a.1 v6) λv7=>some v7))
def zbt:=zpm stdW
theorem zdt:ECok Tryz.prog 69 (.es ⟨(.pair tNovationref01Big (.pair tNovationref01Big .unit)),(.v tNovationref01Big),λx=>zbt x.1 x.2.1⟩):=es_z (λW x=>zpm W x.1 x.2.1) (cc ztz (cc zty (cc yin (cc yek cn)))) [(2,[2],(oN [1,3,5,7,9,11,12,14,16])),(4,[2],(oN [1,3,5,7,9,11,12,14,16])),(5,[2],(oN [1,3,5,7,9,11,12,14,16]))] [] [] Tryz.func69
def zgj(W:Wd)(a:zad)(n:Int):Option Bool:=
 W.join (λ(z1:zad)=>some (decide ((z1.2.1.length:Int)<n)))
 λk2=>
 W.cnd a.1 (W.both (W.call (zgx 1) λv3=>W.call (zbt a v3) λv4=>(k2 v4)) (W.call (zgx 1) λv5=>W.call (zbt a v5) λv6=>(k2 v6)))
  ((k2 a))
def zni:=zgj stdW
theorem ybs:ECok Tryz.prog 280 (.es ⟨(.pair tNovationref01Big (.pair (.int .i64) .unit)),(.v .bool),λx=>zni x.1 x.2.1⟩):=es_z (λW x=>zgj W x.1 x.2.1) (cc zyb (cc zdt cn)) [(2,[0],(.two 0 1 (oN [2,4,6]) (oN [0,4,6])))] [(3,⟨[],[(0,[.t .bool,.t (.slc (.int .u8))])],[]⟩)] [] Tryz.func280
def zlg(W:Wd)(a:zad):Option Bool:=W.call (zni a 64) λv1=>some v1
def zcz:=zlg stdW
theorem zgk:ECok Tryz.prog 156 (.es ⟨(.pair tNovationref01Big .unit),(.v .bool),λx=>zcz x.1⟩):=es_z (λW x=>zlg W x.1) (cc ybs cn) [] [] [] Tryz.func156
def zpk(W:Wd)(a:zad):Option Int:=
 W.loop (λ(z1:AUnit') again2=>
 W.cnd (decide (0<z1.2.1)) (
  W.join (λ(z3:Int×Unit)=>(again2 (z3.1,((IntKind.i64.wrap (z1.2.1 - 1)),()))))
  λk4=>
  W.cnd a.1 (W.idx a.2.1 (IntKind.i64.wrap (z1.2.1 - 1)) λx5=>(k4 ((IntKind.i64.wrap ((IntKind.i64.wrap (2*z1.1)) - (IntKind.i64.wrap x5))),())))
   (W.idx a.2.1 (IntKind.i64.wrap (z1.2.1 - 1)) λx6=>(k4 ((IntKind.i64.wrap ((IntKind.i64.wrap (2*z1.1))+(IntKind.i64.wrap x6))),()))))
  (some z1.1))
 (0,((a.2.1.length:Int),()))
def zds:=zpk stdW
theorem zhs:ECok Tryz.prog 159 (.es ⟨(.pair tNovationref01Big .unit),(.v (.int .i64)),λx=>zds x.1⟩):=es_z (λW x=>zpk W x.1) cn [] [(4,⟨[(3,.t (.int .i64))],[],[]⟩)] [(3,⟨[(3,.t (.int .i64)),(4,.t (.int .i64))],[],[]⟩)] Tryz.func159
def ztw(W:Wd)(n:List zad):Option ((List AUnit')×Int×Unit):=
 W.loop (λ(z1:Int×List AUnit'×Unit) again2=>
 W.cnd (decide (z1.1<(n.length:Int))) (
  W.join (λ(z3:List AUnit'×Unit)=>(again2 ((IntKind.i64.wrap (z1.1+1)),z3)))
  λk4=>W.idx n z1.1 λx5=>W.call (zcz x5) λv6=>
  W.cnd (!v6) (some ([],(7,())))
   (W.idx n z1.1 λx7=>W.call (zds x7) λv8=>
   W.cnd (v8 != 0) (W.room (z1.2.1.length+(((IntKind.i64.wrap (z1.1+1)),(v8,()))::[]).length) 16 ((k4 ((z1.2.1++(((IntKind.i64.wrap (z1.1+1)),(v8,()))::[])),()))))
   ((k4 z1.2))))
  (some (z1.2.1,(0,()))))
 (0,([],()))
def zpd:=ztw stdW
theorem ybn:ECok Tryz.prog 346 (.es ⟨(.pair (.slc tNovationref01Big) .unit),(.pair (.own 52 tAUnit) (.pair (.v (.int .i64)) .unit)),λx=>zpd x.1⟩):=es_z (λW x=>ztw W x.1) (cc zgk (cc zhs cn)) [] [(4,⟨[(4,.row 1)],[],[.dead,.own 52 tAUnit]⟩)] [(3,⟨[(4,.row 1),(5,.t (.int .i64))],[],[.dead,.own 52 tAUnit]⟩)] Tryz.func346
def zph(W:Wd)(l:List (List AUnit')):Option ((List AUnit')×Int×Unit):=W.nn 8 (W.room (Int.toNat 8) 32 (W.bnd 8 (Int.toNat 8) λh1=>
 W.loop (λ(z2:Int×List zad×Unit) again3=>
 W.cnd (decide (z2.1<(l.length:Int))) (W.idx l z2.1 λx4=>W.call (zpf x4) λv5=>
  W.cnd (!v5) (some ([],(3,())))
  (
  W.loop (λ(z6:Int×List zad×Unit) again7=>
   W.cnd (decide (z6.1<8)) (
   W.join (λ(z8:List zad×Unit)=>(again7 ((IntKind.i64.wrap (z6.1+1)),z8)))
    λk9=>W.idx z6.2.1 z6.1 λx10=>W.idx l z2.1 λx11=>W.both (W.nth z6.2.1 (Int.toNat z6.1) λx12=>W.call (zfz x11 (IntKind.i64.wrap (z6.1+1))) λv13=>W.call (zcx v13) λv14=>W.call (zbt x12 v14) λv15=>W.idx z6.2.1 z6.1 λx16=>W.nth z6.2.1 (Int.toNat z6.1) λx17=>(k9 ((List.set z6.2.1 (Int.toNat z6.1) v15),()))) (W.call (zfz x11 (IntKind.i64.wrap (z6.1+1))) λv18=>W.both (W.nth z6.2.1 (Int.toNat z6.1) λx19=>W.call (zcx v18) λv20=>W.call (zbt x19 v20) λv21=>W.idx z6.2.1 z6.1 λx22=>W.nth z6.2.1 (Int.toNat z6.1) λx23=>(k9 ((List.set z6.2.1 (Int.toNat z6.1) v21),()))) (W.call (zcx v18) λv24=>W.nth z6.2.1 (Int.toNat z6.1) λx25=>W.call (zbt x25 v24) λv26=>W.idx z6.2.1 z6.1 λx27=>W.nth z6.2.1 (Int.toNat z6.1) λx28=>(k9 ((List.set z6.2.1 (Int.toNat z6.1) v26),())))))
   ((again3 ((IntKind.i64.wrap (z2.1+1)),z6.2))))
   (0,z2.2)))
  (W.call (zpd z2.2.1) λv29=>some v29))
 (0,((List.replicate h1 (false,([],()))),()))))
def znh:=zph stdW
theorem ylz:ECok Tryz.prog 266 (.es ⟨(.pair (.slc (.slc tAUnit)) .unit),(.pair (.own 52 tAUnit) (.pair (.v (.int .i64)) .unit)),λx=>znh x.1⟩):=es_z (λW x=>zph W x.1) (cc zle (cc zxy (cc zfk (cc zdt (cc ybn cn))))) [(10,[],(.rd 0 (.rd 1 (.rd 2 (.rd 3 (.rd 4 (.rd 6 (.rd 7 (.rd 8 (.rd 9 (.rd 10 (.rd 11 (.two 5 12 (oN [24,26,28,31,32]) (.two 5 13 (oN [26,28,31,32]) (oN [10,28,31,32])))))))))))))))] [(9,⟨[(4,.row 0)],[],[.own 72 tNovationref01Big]⟩)] [(3,⟨[(4,.row 0),(5,.t (.int .i64))],[],[.own 72 tNovationref01Big]⟩),(8,⟨[(4,.row 0),(6,.t (.int .i64))],[],[.own 72 tNovationref01Big]⟩)] Tryz.func266
def zhk(W:Wd)(l:List APos')(u:AUnit')(legs:List AUnit'):Option ((List APos')×Int×Unit):=W.call (ztj l) λv1=>
 W.cnd (!v1) (some ([],(3,())))
 (W.call (zhl l u) λv2=>W.call (znh (v2::(legs::[]))) λv3=>
 W.cnd (v3.2.1 != 0) (some ([],v3.2))
  (
  W.loop (λ(z4:List AUnit'×Bool×Int×List APos'×Unit) again5=>
  W.cnd (decide (z4.2.2.1<(l.length:Int))) (
   W.join (λ(z6:Bool×List APos'×Unit)=>(again5 (z4.1,(z6.1,((IntKind.i64.wrap (z4.2.2.1+1)),z6.2)))))
   λk7=>
   W.join (λ(z8:Bool×List APos'×Unit)=>W.idx l z4.2.2.1 λx9=>
    W.cnd (Go.Vc.notIf true ((x9.1.1==u.1)&&(x9.1.2.1==u.2.1))) (W.idx l z4.2.2.1 λx10=>W.room (z8.2.1.length+(x10::[]).length) 40 ((k7 (z8.1,((z8.2.1++(x10::[])),())))))
    ((k7 z8)))
    λk11=>
    W.join (λ(z12:Bool×List APos'×Unit)=>
    W.cnd z12.1 (W.room (z12.2.1.length+((u,(z4.1,()))::[]).length) 40 ((k11 (true,((z12.2.1++((u,(z4.1,()))::[])),())))))
     ((k11 (z4.2.1,z12.2))))
    λk13=>
    W.cnd (!z4.2.1) (W.idx l z4.2.2.1 λx14=>W.call (zdh x14.1 u) λv15=>(k13 ((!v15),z4.2.2.2)))
     ((k13 (false,z4.2.2.2))))
   (
   W.join (λ(z16:List APos'×Unit)=>some (z16.1,(0,())))
   λk17=>
   W.cnd (!z4.2.1) (W.room (z4.2.2.2.1.length+((u,(z4.1,()))::[]).length) 40 ((k17 ((z4.2.2.2.1++((u,(z4.1,()))::[])),()))))
    ((k17 z4.2.2.2))))
  (v3.1,(((v3.1.length:Int)==0),(0,([],()))))))
def zki:=zhk stdW
theorem yee:ECok Tryz.prog 143 (.es ⟨(.pair (.slc tAPos) (.pair tAUnit (.pair (.slc tAUnit) .unit))),(.pair (.own 50 tAPos) (.pair (.v (.int .i64)) .unit)),λx=>zki x.1 x.2.1 x.2.2.1⟩):=es_z (λW x=>zhk W x.1 x.2.1 x.2.2.1) (cc zrr (cc zkk (cc ylz (cc zdy cn)))) [(11,[],(oN [1,3,5,7,9,11,13,15,17,18,21,23])),(14,[],(oN [1,3,5,7,9,11,13]))] [(10,⟨[(10,.row 3),(11,.t .bool)],[],[.dead,.dead,.dead,.own 50 tAPos]⟩),(14,⟨[(10,.row 3),(11,.t .bool)],[],[.dead,.dead,.dead,.own 50 tAPos]⟩),(18,⟨[(10,.row 3)],[],[.dead,.dead,.dead,.own 50 tAPos]⟩),(500048,⟨[(10,.row 3),(48,.t .bool)],[],[.dead,.dead,.dead,.own 50 tAPos]⟩)] [(9,⟨[(8,.t (.slc tAUnit)),(10,.row 3),(11,.t .bool),(12,.t (.int .i64))],[],[.dead,.dead,.dead,.own 50 tAPos]⟩)] Tryz.func143
def zld(W:Wd)(a:List AUnit')(b:List AUnit'):Option Bool:=
 W.cnd ((a.length:Int) != (b.length:Int)) (some false)
 (
 W.loop (λ(z1:Int×Unit) again2=>
  W.cnd (decide (z1.1<(a.length:Int))) (W.idx a z1.1 λx3=>W.idx b z1.1 λx4=>
  W.cnd (Go.Vc.notIf true ((x3.1==x4.1)&&(x3.2.1==x4.2.1))) (some false)
   ((again2 ((IntKind.i64.wrap (z1.1+1)),()))))
  (some true))
  (0,()))
def zwh:=zld stdW
theorem yim:ECok Tryz.prog 144 (.es ⟨(.pair (.slc tAUnit) (.pair (.slc tAUnit) .unit)),(.v .bool),λx=>zwh x.1 x.2.1⟩):=es_z (λW x=>zld W x.1 x.2.1) cn [(6,[],(oN [1,3,5,7,9,11,13,15,17]))] [] [(4,⟨[(5,.t (.int .i64))],[],[]⟩)] Tryz.func144
def zkj(W:Wd)(a:List APos')(b:List APos'):Option Bool:=
 W.cnd ((a.length:Int) != (b.length:Int)) (some false)
 (
 W.loop (λ(z1:Int×Unit) again2=>
  W.cnd (decide (z1.1<(a.length:Int))) (
  W.join (λ(z3:Bool×Unit)=>
   W.cnd z3.1 (some false)
   ((again2 ((IntKind.i64.wrap (z1.1+1)),()))))
   λk4=>W.idx a z1.1 λx5=>W.idx b z1.1 λx6=>
   W.cnd (Go.Vc.notIf true ((x5.1.1==x6.1.1)&&(x5.1.2.1==x6.1.2.1))) ((k4 (true,())))
   (W.idx a z1.1 λx7=>W.idx b z1.1 λx8=>W.call (zwh x7.2.1 x8.2.1) λv9=>(k4 ((!v9),()))))
  (some true))
  (0,()))
def zoq:=zkj stdW
theorem yhy:ECok Tryz.prog 30 (.es ⟨(.pair (.slc tAPos) (.pair (.slc tAPos) .unit)),(.v .bool),λx=>zoq x.1 x.2.1⟩):=es_z (λW x=>zkj W x.1 x.2.1) (cc yim cn) [(6,[],(oN [1,3,5,7,9,11,13,15,17,19,21,23,25,27,29,31,33,35,37,39,41,43,44,47,49]))] [(500041,⟨[(41,.t .bool)],[],[]⟩)] [(4,⟨[(5,.t (.int .i64))],[],[]⟩)] Tryz.func30
def zkp(W:Wd)(a:List AFlow')(b:List AFlow'):Option Bool:=
 W.cnd ((a.length:Int) != (b.length:Int)) (some false)
 (
 W.loop (λ(z1:Int×Unit) again2=>
  W.cnd (decide (z1.1<(a.length:Int))) (W.idx a z1.1 λx3=>W.idx b z1.1 λx4=>
  W.cnd (Go.Vc.notIf true ((x3.1.1==x4.1.1)&&((x3.1.2.1==x4.1.2.1)&&(x3.2.1==x4.2.1)))) (some false)
   ((again2 ((IntKind.i64.wrap (z1.1+1)),()))))
  (some true))
  (0,()))
def zou:=zkp stdW
theorem yid:ECok Tryz.prog 120 (.es ⟨(.pair (.slc tAFlow) (.pair (.slc tAFlow) .unit)),(.v .bool),λx=>zou x.1 x.2.1⟩):=es_z (λW x=>zkp W x.1 x.2.1) cn [(6,[],(oN [1,3,5,7,9,11,13,15,17]))] [] [(4,⟨[(5,.t (.int .i64))],[],[]⟩)] Tryz.func120
def zue(W:Wd)(l:List AFlow'):Option Bool:=
 W.loop (λ(z1:Int×Unit) again2=>
 W.cnd (decide (z1.1<(l.length:Int))) (W.idx l z1.1 λx3=>
  W.join (λ(z4:Bool×Unit)=>
  W.cnd z4.1 (some false)
   ((again2 ((IntKind.i64.wrap (z1.1+1)),()))))
  λk5=>
  W.cnd (x3.2.1==0) ((k5 (true,())))
   (
   W.cnd (decide (0<z1.1)) (W.idx l (IntKind.i64.wrap (z1.1 - 1)) λx6=>W.call (zdw x6.1 x3.1) λv7=>(k5 ((!v7),())))
   ((k5 (false,())))))
  (some true))
 (0,())
def zzh:=zue stdW
theorem ybx:ECok Tryz.prog 181 (.es ⟨(.pair (.slc tAFlow) .unit),(.v .bool),λx=>zzh x.1⟩):=es_z (λW x=>zue W x.1) (cc zge cn) [(4,[],(oN [1,3,5,7,9,11,13,15,17,19,21,23,25,27,29,30,33,35,37]))] [(500030,⟨[(30,.t .bool)],[],[]⟩)] [(2,⟨[(7,.t (.int .i64))],[],[]⟩)] Tryz.func181
def zhe(W:Wd)(l:List zab)(id:Int):Option (Int×Bool×Unit):=
 W.loop (λ(z1:Int×Unit) again2=>
 W.cnd (decide (z1.1<(l.length:Int))) (W.idx l z1.1 λx3=>
  W.cnd (decide (id≤x3.1)) (some (z1.1,((x3.1==id),())))
  ((again2 ((IntKind.i64.wrap (z1.1+1)),()))))
  (some ((l.length:Int),(false,()))))
 (0,())
def zqz:=zhe stdW
theorem yla:ECok Tryz.prog 397 (.es ⟨(.pair (.slc tAAccount) (.pair (.int .i64) .unit)),(.pair (.v (.int .i64)) (.pair (.v .bool) .unit)),λx=>zqz x.1 x.2.1⟩):=es_z (λW x=>zhe W x.1 x.2.1) cn [(5,[],(oN [1,3,5,7,9,11,13]))] [] [(2,⟨[(10,.t (.int .i64))],[],[]⟩)] Tryz.func397
def zrd(W:Wd)(l:List zab)(id:Int):Option (zab×Bool×Unit):=W.call (zqz l id) λv1=>
 W.cnd (!v1.2.1) (some ((0,(0,(0,([],())))),(false,())))
 (W.idx l v1.1 λx2=>W.call (zra x2) λv3=>some (v3,(true,())))
def ydy:=zrd stdW
theorem yok:ECok Tryz.prog 347 (.es ⟨(.pair (.slc tAAccount) (.pair (.int .i64) .unit)),(.pair (.v tAAccount) (.pair (.v .bool) .unit)),λx=>ydy x.1 x.2.1⟩):=es_z (λW x=>zrd W x.1 x.2.1) (cc yla (cc ydx cn)) [] [] [] Tryz.func347
def zyg(W:Wd)(m:zaf)(free10:Int):Option (Bool×(Int×Unit)):=some ((m.1==free10),(free10,()))
def zry:=zyg stdW
theorem yem:ECok Tryz.prog 422 (.ls ⟨[.v tAMember,.ptr],[⟨3,[.v (.int .i64)]⟩],[⟨3,[.v (.int .i64)]⟩],(.q (.v .bool)),λx=>zry x.1 x.2.1⟩):=ls_z (λW x=>zyg W x.1 x.2.1) cn [] [] [] Tryz.func422
def zao(W:Wd)(s:List zaf)(f0_0:Int):Option (Int×(Int×Unit)):=
 W.loop (λ(z1:AUnit') again2=>
 W.cnd (decide (z1.1<(s.length:Int))) (W.idx s z1.1 λx3=>W.call (zry x3 z1.2.1) λv4=>
  W.cnd v4.1 (some (z1.1,v4.2))
  ((again2 ((IntKind.i64.wrap (z1.1+1)),v4.2))))
  (some ((-1),z1.2)))
 (0,(f0_0,()))
def zaz:=zao stdW
theorem zcp:ECok Tryz.prog 421 (.ls ⟨[.v (.slc tAMember),.fn 422 1],[⟨3,[.v (.int .i64)]⟩],[⟨3,[.v (.int .i64)]⟩],(.q (.v (.int .i64))),λx=>zaz x.1 x.2.1⟩):=ls_z (λW x=>zao W x.1 x.2.1) (cc yem cn) [] [] [(2,⟨[(8,.t (.int .i64))],[(0,[.t (.int .i64)])],[]⟩)] Tryz.func421
def zpv(W:Wd)(l:List zaf)(id:Int):Option Int:=W.call (zaz l id) λv1=>some v1.1
def ych:=zpv stdW
theorem ymw:ECok Tryz.prog 398 (.es ⟨(.pair (.slc tAMember) (.pair (.int .i64) .unit)),(.v (.int .i64)),λx=>ych x.1 x.2.1⟩):=es_z (λW x=>zpv W x.1 x.2.1) (cc zcp cn) [] [] [] Tryz.func398
def zhz(W:Wd)(l:List zaf)(id:Int):Option (zaf×Bool×Unit):=W.call (ych l id) λv1=>
 W.cnd (decide (v1<0)) (some ((0,(0,(0,(0,())))),(false,())))
 (W.idx l v1 λx2=>some (x2,(true,())))
def zfl:=zhz stdW
theorem zrh:ECok Tryz.prog 348 (.es ⟨(.pair (.slc tAMember) (.pair (.int .i64) .unit)),(.pair (.v tAMember) (.pair (.v .bool) .unit)),λx=>zfl x.1 x.2.1⟩):=es_z (λW x=>zhz W x.1 x.2.1) (cc ymw cn) [] [] [] Tryz.func348
def zlu(W:Wd)(m:zaf):Option Int:=
 W.cnd (m.2.2.1 != 0) (some 15)
 (some 0)
def zpw:=zlu stdW
theorem yjp:ECok Tryz.prog 349 (.es ⟨(.pair tAMember .unit),(.v (.int .i64)),λx=>zpw x.1⟩):=es_z (λW x=>zlu W x.1) cn [] [] [] Tryz.func349
def zsm(W:Wd)(a:zbg)(b:zbg):Option (zbg×Int×Unit):=W.call (zcf a 0 0 0) λv1=>W.call (zcf ((Go.bits Go.BinOp.xor Go.IntKind.i64 (if true=true then (-1) else (if true=true then ((2 ^ ((Go.IntKind.bits Go.IntKind.i64) - 1)) - 1) else ((2 ^ (Go.IntKind.bits Go.IntKind.i64)) - 1))) b.1),((Go.bits Go.BinOp.xor Go.IntKind.u64 (if false=true then (-1) else (if false=true then ((2 ^ ((Go.IntKind.bits Go.IntKind.u64) - 1)) - 1) else ((2 ^ (Go.IntKind.bits Go.IntKind.u64)) - 1))) b.2.1),())) v1.2.1 v1.2.2.1 v1.2.2.2.1) λv2=>W.call (zrl 1) λv3=>W.call (zcf v3 v2.2.1 v2.2.2.1 v2.2.2.2.1) λv4=>W.call (zdq v4.2.1 v4.2.2.1 v4.2.2.2.1) λv5=>some v5.1
def ygu:=zsm stdW
theorem yop:ECok Tryz.prog 306 (.es ⟨(.pair tWideWide (.pair tWideWide .unit)),(.pair (.v tWideWide) (.pair (.v (.int .i64)) .unit)),λx=>ygu x.1 x.2.1⟩):=es_z (λW x=>zsm W x.1 x.2.1) (cc zip (cc zoh (cc zhf cn))) [] [] [] Tryz.func306
def yaa(W:Wd)(a:Int)(b:Int):Option (AUnit'):=W.call (zrl a) λv1=>W.call (zrl b) λv2=>W.call (ygu v1 v2) λv3=>W.call (zjh v3.1 v3.2.1) λv4=>some v4
def zxj:=yaa stdW
theorem zxi:ECok Tryz.prog 183 (.es ⟨(.pair (.int .i64) (.pair (.int .i64) .unit)),(.pair (.v (.int .i64)) (.pair (.v (.int .i64)) .unit)),λx=>zxj x.1 x.2.1⟩):=es_z (λW x=>yaa W x.1 x.2.1) (cc zoh (cc yop (cc zuv cn))) [] [] [] Tryz.func183
def zyy(W:Wd)(l:List AUnit'):Option ((List AUnit')×Int×Unit):=W.call (zsr l) λv1=>
 W.cnd v1 (some ([],(3,())))
 (
 W.loop (λ(z2:Int×List AUnit'×Unit) again3=>
  W.cnd (decide (z2.1<(l.length:Int))) (W.idx l z2.1 λx4=>W.call (zxj 0 x4.2.1) λv5=>
  W.cnd (v5.2.1 != 0) (some ([],v5.2))
   (W.room (z2.2.1.length+((x4.1,(v5.1,()))::[]).length) 16 ((again3 ((IntKind.i64.wrap (z2.1+1)),((z2.2.1++((x4.1,(v5.1,()))::[])),()))))))
  (some (z2.2.1,(0,()))))
  (0,([],())))
def yos:=zyy stdW
theorem vec_Neg_ok:ECok Tryz.prog 148 (.es ⟨(.pair (.slc tAUnit) .unit),(.pair (.own 52 tAUnit) (.pair (.v (.int .i64)) .unit)),λx=>yos x.1⟩):=es_z (λW x=>zyy W x.1) (cc zrn (cc zxi cn)) [] [] [(5,⟨[(4,.row 1),(13,.t (.int .i64))],[],[.dead,.own 52 tAUnit]⟩)] Tryz.func148
def zfs(W:Wd)(l:List AFlow')(u:AUnit'):Option (List Int):=
 W.loop (λ(z1:Int×List Int×Unit) again2=>
 W.cnd (decide (z1.1<(l.length:Int))) (
  W.join (λ(z3:List Int×Unit)=>(again2 ((IntKind.i64.wrap (z1.1+1)),z3)))
  λk4=>W.idx l z1.1 λx5=>
  W.cnd (Go.Vc.notIf false ((x5.1.1==u.1)&&(x5.1.2.1==u.2.1))) (W.room (z1.2.1.length+(x5.2.1::[]).length) 8 ((k4 ((z1.2.1++(x5.2.1::[])),()))))
   ((k4 z1.2)))
  (some z1.2.1))
 (0,([],()))
def zli:=zfs stdW
theorem zyv:ECok Tryz.prog 362 (.es ⟨(.pair (.slc tAFlow) (.pair tAUnit .unit)),(.own 2 (.int .i64)),λx=>zli x.1 x.2.1⟩):=es_z (λW x=>zfs W x.1 x.2.1) cn [] [(7,⟨[(5,.row 1)],[],[.dead,.own 2 (.int .i64)]⟩)] [(3,⟨[(5,.row 1),(10,.t (.int .i64))],[],[.dead,.own 2 (.int .i64)]⟩)] Tryz.func362
def zpp(W:Wd)(l:List AFlow')(flows:List AFlow'):Option ((List AFlow')×Int×Unit):=W.call (zzh l) λv1=>
 W.cnd (!v1) (some ([],(3,())))
 (W.call (zxp (l::(flows::[]))) λv2=>W.call (namedO v2) λv3=>
 W.loop (λ(z4:Int×List AUnit'×List AFlow'×Unit) again5=>
  W.cnd (decide (z4.1<(v3.length:Int))) (
  W.join (λ(z6:List AUnit'×List AFlow'×Unit)=>(again5 ((IntKind.i64.wrap (z4.1+1)),z6)))
   λk7=>W.idx z4.2.1 z4.1 λx8=>W.nth z4.2.1 (Int.toNat z4.1) λx9=>W.call (zli v2 x9) λv10=>W.call (zme v10) λv11=>
   W.cnd (v11.2.1 != 0) (some ([],v11.2))
   (
   W.cnd (v11.1 != 0) (W.room (z4.2.2.1.length+((x9,(v11.1,()))::[]).length) 24 ((k7 (z4.2.1,((z4.2.2.1++((x9,(v11.1,()))::[])),())))))
    ((k7 z4.2))))
  (some (z4.2.2.1,(0,()))))
  (0,(v3,([],()))))
def znl:=zpp stdW
theorem ymj:ECok Tryz.prog 278 (.es ⟨(.pair (.slc tAFlow) (.pair (.slc tAFlow) .unit)),(.pair (.own 143 tAFlow) (.pair (.v (.int .i64)) .unit)),λx=>znl x.1 x.2.1⟩):=es_z (λW x=>zpp W x.1 x.2.1) (cc ybx (cc concat_ok (cc named_ok (cc zyv (cc zji cn))))) [] [(13,⟨[(7,.row 5),(20,.row 2)],[],[.dead,.dead,.own 47 tAUnit,.dead,.dead,.own 143 tAFlow]⟩)] [(6,⟨[(7,.row 5),(20,.row 2),(22,.t (.int .i64))],[],[.dead,.dead,.own 47 tAUnit,.dead,.dead,.own 143 tAFlow]⟩)] Tryz.func278
def zlj(W:Wd)(l:List AFlow')(from_:AUnit')(to_:AUnit')(amount:Int):Option ((List AFlow')×Int×Unit):=W.call (zxj 0 amount) λv1=>
 W.join (λ(z2:Bool×Unit)=>
 W.cnd z2.1 (some ([],v1.2))
  (W.call (znl l ((from_,(v1.1,()))::((to_,(amount,()))::[]))) λv3=>some v3))
 λk4=>
 W.cnd (v1.2.1 != 0) (W.call (zzh l) λv5=>(k4 (v5,())))
  ((k4 (false,())))
def zgr:=zlj stdW
theorem yix:ECok Tryz.prog 149 (.es ⟨(.pair (.slc tAFlow) (.pair tAUnit (.pair tAUnit (.pair (.int .i64) .unit)))),(.pair (.own 143 tAFlow) (.pair (.v (.int .i64)) .unit)),λx=>zgr x.1 x.2.1 x.2.2.1 x.2.2.2.1⟩):=es_z (λW x=>zlj W x.1 x.2.1 x.2.2.1 x.2.2.2.1) (cc zxi (cc ybx (cc ymj cn))) [] [(500022,⟨[(22,.t .bool)],[],[]⟩)] [] Tryz.func149
def zow(W:Wd)(l:List AFlow')(u:AUnit'):Option Int:=
 W.loop (λ(z1:Int×Unit) again2=>
 W.cnd (decide (z1.1<(l.length:Int))) (W.idx l z1.1 λx3=>
  W.cnd (Go.Vc.notIf false ((x3.1.1==u.1)&&(x3.1.2.1==u.2.1))) (W.idx l z1.1 λx4=>some x4.2.1)
  ((again2 ((IntKind.i64.wrap (z1.1+1)),()))))
  (some 0))
 (0,())
def ziw:=zow stdW
theorem zxx:ECok Tryz.prog 39 (.es ⟨(.pair (.slc tAFlow) (.pair tAUnit .unit)),(.v (.int .i64)),λx=>ziw x.1 x.2.1⟩):=es_z (λW x=>zow W x.1 x.2.1) cn [(4,[],(oN [1,3,5,7,9,11,13]))] [] [(2,⟨[(5,.t (.int .i64))],[],[]⟩)] Tryz.func39
def ztn(W:Wd)(l:List AFlow'):Option Bool:=
 W.loop (λ(z1:Int×Unit) again2=>
 W.cnd (decide (z1.1<(l.length:Int))) (
  W.join (λ(z3:Bool×Unit)=>
  W.cnd z3.1 (some false)
   ((again2 ((IntKind.i64.wrap (z1.1+1)),()))))
  λk4=>W.idx l z1.1 λx5=>
  W.cnd (x5.2.1==0) ((k4 (true,())))
   (
   W.cnd (decide (0<z1.1)) (W.idx l (IntKind.i64.wrap (z1.1 - 1)) λx6=>W.idx l z1.1 λx7=>W.call (zdh x6.1 x7.1) λv8=>(k4 ((!v8),())))
   ((k4 (false,())))))
  (some true))
 (0,())
def zto:=ztn stdW
theorem ybm:ECok Tryz.prog 111 (.es ⟨(.pair (.slc tAFlow) .unit),(.v .bool),λx=>zto x.1⟩):=es_z (λW x=>ztn W x.1) (cc zdy cn) [(4,[],(oN [1,3,5,7,9,11,13,15,17,19,21,23,25,27,29,31,33,35,37,39,41,42,45,47,49]))] [(500034,⟨[(34,.t .bool)],[],[]⟩)] [(2,⟨[(3,.t (.int .i64))],[],[]⟩)] Tryz.func111
def zpj(W:Wd)(a:zad):Option zad:=W.call (zgq (!a.1) a.2.1) λv1=>some v1
def ziz:=zpj stdW
theorem zya:ECok Tryz.prog 157 (.es ⟨(.pair tNovationref01Big .unit),(.v tNovationref01Big),λx=>ziz x.1⟩):=es_z (λW x=>zpj W x.1) (cc zty cn) [] [] [] Tryz.func157
def zpi(W:Wd)(a:zad)(b:zad):Option zad:=W.call (ziz b) λv1=>W.call (zbt a v1) λv2=>some v2
def ybt:=zpi stdW
theorem yma:ECok Tryz.prog 71 (.es ⟨(.pair tNovationref01Big (.pair tNovationref01Big .unit)),(.v tNovationref01Big),λx=>ybt x.1 x.2.1⟩):=es_z (λW x=>zpi W x.1 x.2.1) (cc zya (cc zdt cn)) [(1,[2],(oN [1,3,4,6,8]))] [] [] Tryz.func71
def zhm(W:Wd)(l:List AFlow'):Option (List AUnit'):=
 W.loop (λ(z1:List AUnit'×Int×Unit) again2=>
 W.cnd (decide (z1.2.1<(l.length:Int))) (
  W.join (λ(z3:List AUnit'×Unit)=>(again2 (z3.1,((IntKind.i64.wrap (z1.2.1+1)),()))))
  λk4=>W.idx l z1.2.1 λx5=>
  W.loop (λ(z6:Int×Bool×Int×Unit) again7=>
   W.cnd (decide (z6.2.2.1<(z1.1.length:Int))) (
   W.join (λ(z8:Int×Bool×Unit)=>(again7 (z8.1,(z8.2.1,((IntKind.i64.wrap (z6.2.2.1+1)),())))))
    λk9=>
    W.join (λ(z10:Bool×Unit)=>W.idx z1.1 z6.2.2.1 λx11=>W.call (zdh x11 x5.1) λv12=>
    W.cnd v12 ((k9 ((IntKind.i64.wrap (z6.2.2.1+1)),z10)))
     ((k9 (z6.1,z10))))
    λk13=>
    W.cnd z6.2.1 ((k13 (true,())))
     (W.idx z1.1 z6.2.2.1 λx14=>(k13 ((Go.Vc.notIf false ((x14.1==x5.1.1)&&(x14.2.1==x5.1.2.1))),()))))
   (
   W.cnd (!z6.2.1) (W.bnd z6.1 z1.1.length λh15=>W.room (z1.1.take h15).length 16 (W.room ((z1.1.take h15).length+(x5.1::[]).length) 16 (W.bnd z6.1 z1.1.length λh16=>W.room (((z1.1.take h15)++(x5.1::[])).length+((z1.1.take z1.1.length).drop h16).length) 16 ((k4 ((((z1.1.take h15)++(x5.1::[]))++((z1.1.take z1.1.length).drop h16)),()))))))
    ((k4 (z1.1,())))))
   (0,(false,(0,()))))
  (some z1.1))
 ([],(0,()))
def zrs:=zhm stdW
theorem yef:ECok Tryz.prog 281 (.es ⟨(.pair (.slc tAFlow) .unit),(.v (.slc tAUnit)),λx=>zrs x.1⟩):=es_z (λW x=>zhm W x.1) (cc zdy cn) [(11,[],(oN [1,3,5,7,9,11,13,15,17,19])),(12,[],(oN [1,3,5,7,9,10]))] [(4,⟨[(3,.t (.slc tAUnit))],[],[]⟩),(10,⟨[(6,.t (.int .i64)),(7,.t .bool)],[],[]⟩),(12,⟨[(7,.t .bool)],[],[]⟩)] [(3,⟨[(3,.t (.slc tAUnit)),(4,.t (.int .i64))],[],[]⟩),(9,⟨[(6,.t (.int .i64)),(7,.t .bool),(8,.t (.int .i64))],[],[]⟩)] Tryz.func281
def zov(W:Wd)(l:List AFlow')(flows:List AFlow'):Option ((List AFlow')×Int×Unit):=W.call (zto l) λv1=>
 W.cnd (!v1) (some ([],(3,())))
 (W.room l.length 24 (W.room (l.length+flows.length) 24 (W.call (zrs (l++flows)) λv2=>
 W.loop (λ(z3:Int×List AFlow'×Unit) again4=>
  W.cnd (decide (z3.1<(v2.length:Int))) (
  W.join (λ(z5:List AFlow'×Unit)=>(again4 ((IntKind.i64.wrap (z3.1+1)),z5)))
   λk6=>
   W.loop (λ(z7:Int×Bool×List Int×List AFlow'×Unit) again8=>
   W.cnd (decide (z7.1<((l++flows).length:Int))) (
    W.join (λ(z9:Bool×List Int×List AFlow'×Unit)=>(again8 ((IntKind.i64.wrap (z7.1+1)),z9)))
    λk10=>W.idx (l++flows) z7.1 λx11=>W.idx v2 z3.1 λx12=>
    W.cnd (Go.Vc.notIf false ((x11.1.1==x12.1)&&(x11.1.2.1==x12.2.1))) (W.idx (l++flows) z7.1 λx13=>W.both (W.call (zcx x13.2.1) λv14=>W.call (zbt (z7.2.1,(z7.2.2.1,())) v14) λv15=>(k10 (v15.1,(v15.2.1,z7.2.2.2)))) (W.call (zcx x13.2.1) λv16=>W.call (zbt (z7.2.1,(z7.2.2.1,())) v16) λv17=>(k10 (v17.1,(v17.2.1,z7.2.2.2)))))
     ((k10 z7.2)))
    (W.call (zcz (z7.2.1,(z7.2.2.1,()))) λv18=>
    W.cnd (!v18) (some ([],(7,())))
    (W.call (zds (z7.2.1,(z7.2.2.1,()))) λv19=>
    W.cnd (v19 != 0) (W.idx v2 z3.1 λx20=>W.call (zds (z7.2.1,(z7.2.2.1,()))) λv21=>W.room (z7.2.2.2.1.length+((x20,(v21,()))::[]).length) 24 ((k6 ((z7.2.2.2.1++((x20,(v21,()))::[])),()))))
     ((k6 z7.2.2.2)))))
   (0,(false,([],z3.2))))
  (some (z3.2.1,(0,()))))
  (0,([],())))))
def ztm:=zov stdW
theorem ylu:ECok Tryz.prog 158 (.es ⟨(.pair (.slc tAFlow) (.pair (.slc tAFlow) .unit)),(.pair (.own 143 tAFlow) (.pair (.v (.int .i64)) .unit)),λx=>ztm x.1 x.2.1⟩):=es_z (λW x=>zov W x.1 x.2.1) (cc ybm (cc yef (cc zfk (cc zdt (cc zgk (cc zhs cn)))))) [(14,[],(oN [1,3,5,7,9,11,13,15,17,19])),(15,[0],(.rd 1 (.rd 2 (.rd 3 (.rd 4 (.rd 5 (.two 0 6 (oN [12,14,16]) (oN [0,14,16])))))))),(19,[],(oN [1,3,5,7,9,11,12,15,16,18,21]))] [(9,⟨[(7,.row 1)],[],[.dead,.own 143 tAFlow]⟩),(13,⟨[(7,.row 1)],[(0,[.t .bool,.t (.slc (.int .u8))])],[.dead,.own 143 tAFlow]⟩)] [(8,⟨[(7,.row 1),(9,.t (.int .i64))],[],[.dead,.own 143 tAFlow]⟩),(12,⟨[(7,.row 1),(11,.t (.int .i64))],[(0,[.t .bool,.t (.slc (.int .u8))])],[.dead,.own 143 tAFlow]⟩)] Tryz.func158
def zpl(W:Wd)(a:zad)(b:zad):Option Int:=W.call (ybt a b) λv1=>
 W.cnd ((v1.2.1.length:Int)==0) (some 0)
 (
 W.cnd v1.1 (some (-1))
  (some 1))
def zub:=zpl stdW
theorem ymb:ECok Tryz.prog 36 (.es ⟨(.pair tNovationref01Big (.pair tNovationref01Big .unit)),(.v (.int .i64)),λx=>zub x.1 x.2.1⟩):=es_z (λW x=>zpl W x.1 x.2.1) (cc yma cn) [] [] [] Tryz.func36
def zqi(W:Wd)(l:List zag):Option (List zag):=
 W.cnd (decide (20<(l.length:Int))) (W.bnd 20 l.length λh1=>some (l.take h1))
 (some l)
def znv:=zqi stdW
theorem ynh:ECok Tryz.prog 73 (.es ⟨(.pair (.slc tAChoice) .unit),(.v (.slc tAChoice)),λx=>znv x.1⟩):=es_z (λW x=>zqi W x.1) cn [] [] [] Tryz.func73
def zqg(W:Wd)(l:List zcc):Option (List zcc):=
 W.cnd (decide (20<(l.length:Int))) (W.bnd 20 l.length λh1=>some (l.take h1))
 (some l)
def ycs:=zqg stdW
theorem ynf:ECok Tryz.prog 205 (.es ⟨(.pair (.slc tAAsset) .unit),(.v (.slc tAAsset)),λx=>ycs x.1⟩):=es_z (λW x=>zqg W x.1) cn [] [] [] Tryz.func205
def zqe(W:Wd)(l:List AHold'):Option (List AHold'):=
 W.join (λ(z1:List AHold'×Unit)=>some z1.1)
 λk2=>
 W.loop (λ(z3:Int×List AHold'×Unit) again4=>
  W.cnd (decide (z3.1<(l.length:Int))) (
  W.cnd (decide (z3.1<10)) (W.idx l z3.1 λx5=>W.idx l z3.1 λx6=>W.call (ycs x6.2.1) λv7=>W.room (z3.2.1.length+((x5.1,(v7,()))::[]).length) 40 ((again4 ((IntKind.i64.wrap (z3.1+1)),((z3.2.1++((x5.1,(v7,()))::[])),())))))
   ((k2 z3.2)))
  ((k2 z3.2)))
  (0,([],()))
def zns:=zqe stdW
theorem ynd:ECok Tryz.prog 76 (.es ⟨(.pair (.slc tAHold) .unit),(.own 55 tAHold),λx=>zns x.1⟩):=es_z (λW x=>zqe W x.1) (cc ynf cn) [(5,[],(oN [1,3,5,7,9,11,13,15,17,19,21,22,25,26,28,31]))] [(6,⟨[(3,.row 1)],[],[.dead,.own 55 tAHold]⟩)] [(3,⟨[(3,.row 1),(4,.t (.int .i64))],[],[.dead,.own 55 tAHold]⟩)] Tryz.func76
def zqd(W:Wd)(s:zae):Option zae:=
 W.join (λ(z1:List zab×Unit)=>W.call (zkz s.2.1) λv2=>W.call (zkv z1.1) λv3=>W.call (znv s.2.2.2.2.2.1) λv4=>W.call (znt s.2.2.2.2.2.2.2.2.1) λv5=>W.call (znu s.2.2.2.2.2.2.2.2.2.2.1) λv6=>W.call (zns s.2.2.2.2.2.2.2.2.2.2.2.1) λv7=>some (s.1,(v2,([],([],(v3,(v4,([],([],(v5,([],(v6,(v7,())))))))))))))
 λk8=>
 W.loop (λ(z9:Int×List zab×Unit) again10=>
  W.cnd (decide (z9.1<(s.2.2.2.2.1.length:Int))) (
  W.cnd (decide (z9.1<20)) (W.idx s.2.2.2.2.1 z9.1 λx11=>W.call (zsb x11) λv12=>W.room (z9.2.1.length+(v12::[]).length) 48 ((again10 ((IntKind.i64.wrap (z9.1+1)),((z9.2.1++(v12::[])),())))))
   ((k8 z9.2)))
  ((k8 z9.2)))
  (0,([],()))
def zuo:=zqd stdW
theorem ync:ECok Tryz.prog 41 (.es ⟨(.pair tAState .unit),(.v tAState),λx=>zuo x.1⟩):=es_z (λW x=>zqd W x.1) (cc yeq (cc yei (cc yeh (cc ynh (cc yne (cc yng (cc ynd cn))))))) [(6,[1],(oN [1,3,5,7,11,15,17,21,23,27,29,33,35,8,12,18,24,30,36,39,40]))] [(6,⟨[(3,.row 1)],[],[.dead,.own 60 tAAccount]⟩)] [(3,⟨[(3,.row 1),(4,.t (.int .i64))],[],[.dead,.own 60 tAAccount]⟩)] Tryz.func41
def zhu(W:Wd)(s:zae)(u:AUnit'):Option (zab×Int×Unit):=W.call (ydy s.2.2.2.2.1 u.1) λv1=>
 W.join (λ(z2:Bool×Unit)=>
 W.cnd z2.1 (some ((0,(0,(0,([],())))),(11,())))
  (
  W.cnd (v1.1.2.2.1==1) (some ((0,(0,(0,([],())))),(17,())))
  (some (v1.1,(0,())))))
 λk3=>
 W.cnd (!v1.2.1) ((k3 (true,())))
  (W.call (yap v1.1 u) λv4=>(k3 ((!v4),())))
def zln:=zhu stdW
theorem zrg:ECok Tryz.prog 363 (.es ⟨(.pair tAState (.pair tAUnit .unit)),(.pair (.v tAAccount) (.pair (.v (.int .i64)) .unit)),λx=>zln x.1 x.2.1⟩):=es_z (λW x=>zhu W x.1 x.2.1) (cc yok (cc yqq cn)) [] [(500016,⟨[(16,.t .bool)],[],[]⟩)] [] Tryz.func363
def zlp(W:Wd)(m:zaf)(day:Int):Option Int:=
 W.join (λ(z1:Bool×Unit)=>
 W.cnd z1.1 (some 0)
  (some (if (IntKind.i64.wrap ((IntKind.i64.wrap (m.2.2.2.1 - day))+1))>1 then (IntKind.i64.wrap ((IntKind.i64.wrap (m.2.2.2.1 - day))+1)) else 1)))
 λk2=>
 W.cnd (m.2.2.1 != 1) ((k2 (true,())))
  ((k2 ((decide (m.2.2.2.1<day)),())))
def zwm:=zlp stdW
theorem yjc:ECok Tryz.prog 404 (.es ⟨(.pair tAMember (.pair (.int .i64) .unit)),(.v (.int .i64)),λx=>zwm x.1 x.2.1⟩):=es_z (λW x=>zlp W x.1 x.2.1) cn [] [(500013,⟨[(13,.t .bool)],[],[]⟩)] [] Tryz.func404
def zlq(W:Wd)(m:zaf)(day:Int):Option Int:=W.call (zwm m day) λv1=>
 W.cnd (v1==0) (some 18)
 (some 0)
def zpu:=zlq stdW
theorem yjd:ECok Tryz.prog 364 (.es ⟨(.pair tAMember (.pair (.int .i64) .unit)),(.v (.int .i64)),λx=>zpu x.1 x.2.1⟩):=es_z (λW x=>zlq W x.1 x.2.1) (cc yjc cn) [] [] [] Tryz.func364
def zht(W:Wd)(s:zae)(from_:AUnit'):Option Int:=W.call (zln s from_) λv1=>
 W.cnd (v1.2.1 != 0) (some v1.2.1)
 (W.call (zfl s.2.1 v1.1.2.1) λv2=>
 W.cnd (!v2.2.1) (some 18)
  (W.call (zpu v2.1 s.1) λv3=>some v3))
def zru:=zht stdW
theorem yel:ECok Tryz.prog 282 (.es ⟨(.pair tAState (.pair tAUnit .unit)),(.v (.int .i64)),λx=>zru x.1 x.2.1⟩):=es_z (λW x=>zht W x.1 x.2.1) (cc zrg (cc zrh (cc yjd cn))) [] [] [] Tryz.func282
def ydj(W:Wd)(c:zag)(free10:Int)(free11:Int):Option (Bool×(AUnit')):=some ((Go.Vc.notIf false ((c.1.1==free10)&&(c.1.2.1==free11))),(free10,(free11,())))
def zxl:=ydj stdW
theorem yki:ECok Tryz.prog 425 (.ls ⟨[.v tAChoice,.ptr],[⟨47,[.v (.int .i64),.v (.int .i64)]⟩],[⟨47,[.v (.int .i64),.v (.int .i64)]⟩],(.q (.v .bool)),λx=>zxl x.1 x.2.1 x.2.2.1⟩):=ls_z (λW x=>ydj W x.1 x.2.1 x.2.2.1) cn [] [] [] Tryz.func425
def zaq(W:Wd)(s:List zag)(f0_0:Int)(f0_1:Int):Option (Int×(AUnit')):=
 W.loop (λ(z1:zcc) again2=>
 W.cnd (decide (z1.1<(s.length:Int))) (W.idx s z1.1 λx3=>W.call (zxl x3 z1.2.1 z1.2.2.1) λv4=>
  W.cnd v4.1 (some (z1.1,v4.2))
  ((again2 ((IntKind.i64.wrap (z1.1+1)),v4.2))))
  (some ((-1),z1.2)))
 (0,(f0_0,(f0_1,())))
def zbc:=zaq stdW
theorem zct:ECok Tryz.prog 371 (.ls ⟨[.v (.slc tAChoice),.fn 425 1],[⟨47,[.v (.int .i64),.v (.int .i64)]⟩],[⟨47,[.v (.int .i64),.v (.int .i64)]⟩],(.q (.v (.int .i64))),λx=>zbc x.1 x.2.1 x.2.2.1⟩):=ls_z (λW x=>zaq W x.1 x.2.1 x.2.2.1) (cc yki cn) [] [] [(2,⟨[(8,.t (.int .i64))],[(0,[.t (.int .i64),.t (.int .i64)])],[]⟩)] Tryz.func371
def zva(W:Wd)(l:List zag)(from_:AUnit'):Option Int:=W.call (zbc l from_.1 from_.2.1) λv1=>some v1.1
def ykj:=zva stdW
theorem yqk:ECok Tryz.prog 405 (.es ⟨(.pair (.slc tAChoice) (.pair tAUnit .unit)),(.v (.int .i64)),λx=>ykj x.1 x.2.1⟩):=es_z (λW x=>zva W x.1 x.2.1) (cc zct cn) [] [] [] Tryz.func405
def zmh(W:Wd)(l:List zag)(from_:AUnit'):Option (zag×Bool×Unit):=W.call (ykj l from_) λv1=>
 W.cnd (decide (v1<0)) (some (((0,(0,())),((0,(0,())),(false,()))),(false,())))
 (W.idx l v1 λx2=>some (x2,(true,())))
def zxm:=zmh stdW
theorem ykk:ECok Tryz.prog 365 (.es ⟨(.pair (.slc tAChoice) (.pair tAUnit .unit)),(.pair (.v tAChoice) (.pair (.v .bool) .unit)),λx=>zxm x.1 x.2.1⟩):=es_z (λW x=>zmh W x.1 x.2.1) (cc yqk cn) [] [] [] Tryz.func365
def zic(W:Wd)(l:List zag)(from_:AUnit'):Option (AUnit'×Int×Unit):=W.call (zxm l from_) λv1=>
 W.cnd (!v1.2.1) (some ((0,(0,())),(19,())))
 (
 W.cnd (!v1.1.2.2.1) (some ((0,(0,())),(20,())))
  (some (v1.1.2.1,(0,()))))
def zmg:=zic stdW
theorem yeu:ECok Tryz.prog 283 (.es ⟨(.pair (.slc tAChoice) (.pair tAUnit .unit)),(.pair (.v tAUnit) (.pair (.v (.int .i64)) .unit)),λx=>zmg x.1 x.2.1⟩):=es_z (λW x=>zic W x.1 x.2.1) (cc ykk cn) [] [] [] Tryz.func283
def zpq(W:Wd)(l:List AFlow')(u:AUnit'):Option Int:=
 W.loop (λ(z1:Int×Unit) again2=>
 W.cnd (decide (z1.1<(l.length:Int))) (W.idx l z1.1 λx3=>
  W.cnd (Go.Vc.notIf false ((x3.1.1==u.1)&&(x3.1.2.1==u.2.1))) (some x3.2.1)
  ((again2 ((IntKind.i64.wrap (z1.1+1)),()))))
  (some 0))
 (0,())
def zez:=zpq stdW
theorem zyc:ECok Tryz.prog 165 (.es ⟨(.pair (.slc tAFlow) (.pair tAUnit .unit)),(.v (.int .i64)),λx=>zez x.1 x.2.1⟩):=es_z (λW x=>zpq W x.1 x.2.1) cn [] [] [(2,⟨[(9,.t (.int .i64))],[],[]⟩)] Tryz.func165
def zbv(W:Wd)(s:List zcc):Option (List zcc):=W.nilq (List.isEmpty s) λg1=>
 W.cnd (Go.Vc.notIf false g1) (some [])
 (W.room ((0:Nat)+s.length) 24 (some ([]++s)))
def zaw:=zbv stdW
theorem zdj:ECok Tryz.prog 134 (.es ⟨(.pair (.slc tAAsset) .unit),(.own 57 tAAsset),λx=>zaw x.1⟩):=es_z (λW x=>zbv W x.1) cn [] [] [] Tryz.func134
def zqm(W:Wd)(l:List AHold')(u:AUnit'):Option (List zcc):=
 W.loop (λ(z1:Int×Unit) again2=>
 W.cnd (decide (z1.1<(l.length:Int))) (W.idx l z1.1 λx3=>
  W.cnd (Go.Vc.notIf false ((x3.1.1==u.1)&&(x3.1.2.1==u.2.1))) (W.call (zaw x3.2.1) λv4=>some v4)
  ((again2 ((IntKind.i64.wrap (z1.1+1)),()))))
  (some []))
 (0,())
def zjf:=zqm stdW
theorem zyj:ECok Tryz.prog 178 (.es ⟨(.pair (.slc tAHold) (.pair tAUnit .unit)),(.own 57 tAAsset),λx=>zjf x.1 x.2.1⟩):=es_z (λW x=>zqm W x.1 x.2.1) (cc zdj cn) [] [] [(2,⟨[(9,.t (.int .i64))],[],[]⟩)] Tryz.func178
def zll(W:Wd)(s:zae)(u:AUnit'):Option Bool:=W.call (zod s.2.2.2.2.2.2.2.2.1 u) λv1=>
 W.cnd ((v1.length:Int)==0) (W.call (zez s.2.2.2.2.2.2.2.2.2.2.1 u) λv2=>
 W.cnd (v2==0) (W.call (zjf s.2.2.2.2.2.2.2.2.2.2.2.1 u) λv3=>some ((v3.length:Int)==0))
  (some false))
 (some false)
def zpr:=zll stdW
theorem yiz:ECok Tryz.prog 366 (.es ⟨(.pair tAState (.pair tAUnit .unit)),(.v .bool),λx=>zpr x.1 x.2.1⟩):=es_z (λW x=>zll W x.1 x.2.1) (cc zqu (cc zyc (cc zyj cn))) [] [] [] Tryz.func366
def yab(W:Wd)(a:Int):Option (AUnit'):=
 W.cnd (decide (a<0)) (W.call (zxj 0 a) λv1=>some v1)
 (some (a,(0,())))
def ykf:=yab stdW
theorem fix_Abs_ok:ECok Tryz.prog 176 (.es ⟨(.pair (.int .i64) .unit),(.pair (.v (.int .i64)) (.pair (.v (.int .i64)) .unit)),λx=>ykf x.1⟩):=es_z (λW x=>yab W x.1) (cc zxi cn) [] [] [] Tryz.func176
def zoi(W:Wd)(l:List AUnit'):Option (AUnit'):=W.call (zsr l) λv1=>
 W.cnd v1 (some (0,(3,())))
 (
 W.loop (λ(z2:Int×List Int×Unit) again3=>
  W.cnd (decide (z2.1<(l.length:Int))) (W.idx l z2.1 λx4=>W.call (ykf x4.2.1) λv5=>
  W.cnd (v5.2.1 != 0) (some (0,v5.2))
   (W.room (z2.2.1.length+(v5.1::[]).length) 8 ((again3 ((IntKind.i64.wrap (z2.1+1)),((z2.2.1++(v5.1::[])),()))))))
  (W.call (zme z2.2.1) λv6=>some v6))
  (0,([],())))
def yat:=zoi stdW
theorem ylh:ECok Tryz.prog 406 (.es ⟨(.pair (.slc tAUnit) .unit),(.pair (.v (.int .i64)) (.pair (.v (.int .i64)) .unit)),λx=>yat x.1⟩):=es_z (λW x=>zoi W x.1) (cc zrn (cc fix_Abs_ok (cc zji cn))) [] [] [(5,⟨[(4,.row 1),(13,.t (.int .i64))],[],[.dead,.own 2 (.int .i64)]⟩)] Tryz.func406
def zqw(W:Wd)(l:List APos')(units:List AUnit'):Option (AUnit'):=W.call (yds l) λv1=>
 W.cnd (!v1) (some (0,(3,())))
 (
 W.loop (λ(z2:Int×List Int×Unit) again3=>
  W.cnd (decide (z2.1<(units.length:Int))) (W.idx units z2.1 λx4=>W.call (zod l x4) λv5=>W.call (yat v5) λv6=>
  W.cnd (v6.2.1 != 0) (some (0,v6.2))
   (W.room (z2.2.1.length+(v6.1::[]).length) 8 ((again3 ((IntKind.i64.wrap (z2.1+1)),((z2.2.1++(v6.1::[])),()))))))
  (W.call (zme z2.2.1) λv7=>some v7))
  (0,([],())))
def zjo:=zqw stdW
theorem zyp:ECok Tryz.prog 367 (.es ⟨(.pair (.slc tAPos) (.pair (.slc tAUnit) .unit)),(.pair (.v (.int .i64)) (.pair (.v (.int .i64)) .unit)),λx=>zjo x.1 x.2.1⟩):=es_z (λW x=>zqw W x.1 x.2.1) (cc zxs (cc zqu (cc ylh (cc zji cn)))) [] [] [(5,⟨[(6,.row 2),(16,.t (.int .i64))],[],[.dead,.dead,.own 2 (.int .i64)]⟩)] Tryz.func367
def zlk(W:Wd)(s:zae)(id:Int):Option (List AUnit'):=W.call (yqp s.2.2.2.2.1 id) λv1=>
 W.loop (λ(z2:Int×List AUnit'×Unit) again3=>
 W.cnd (decide (z2.1<(v1.length:Int))) (W.idx v1 z2.1 λx4=>W.call (zrb x4) λv5=>W.room (z2.2.1.length+v5.length) 16 ((again3 ((IntKind.i64.wrap (z2.1+1)),((z2.2.1++v5),())))))
  (some z2.2.1))
 (0,([],()))
def zwk:=zlk stdW
theorem yiy:ECok Tryz.prog 407 (.es ⟨(.pair tAState (.pair (.int .i64) .unit)),(.own 47 tAUnit),λx=>zwk x.1 x.2.1⟩):=es_z (λW x=>zlk W x.1 x.2.1) (cc acct_Of_ok (cc zvk cn)) [] [] [(3,⟨[(5,.row 1),(13,.t (.int .i64))],[],[.dead,.own 47 tAUnit]⟩)] Tryz.func407
def zps(W:Wd)(s:zae)(id:Int):Option (AUnit'):=W.call (zwk s id) λv1=>W.call (zjo s.2.2.2.2.2.2.2.2.1 v1) λv2=>some v2
def zuf:=zps stdW
theorem ymo:ECok Tryz.prog 368 (.es ⟨(.pair tAState (.pair (.int .i64) .unit)),(.pair (.v (.int .i64)) (.pair (.v (.int .i64)) .unit)),λx=>zuf x.1 x.2.1⟩):=es_z (λW x=>zps W x.1 x.2.1) (cc yiy (cc zyp cn)) [(1,[],(oN [1,3,5,7,8,10,13,15,17,19]))] [] [] Tryz.func368
def zqq(W:Wd)(a:Int)(l:List Int):Option Int:=
 W.loop (λ(z1:AUnit') again2=>
 W.cnd (decide (z1.2.1<(l.length:Int))) (W.idx l z1.2.1 λx3=>(again2 ((if x3<z1.1 then x3 else z1.1),((IntKind.i64.wrap (z1.2.1+1)),()))))
  (some z1.1))
 (a,(0,()))
def ydh:=zqq stdW
theorem ynx:ECok Tryz.prog 408 (.es ⟨(.pair (.int .i64) (.pair (.slc (.int .i64)) .unit)),(.v (.int .i64)),λx=>ydh x.1 x.2.1⟩):=es_z (λW x=>zqq W x.1 x.2.1) cn [] [] [(2,⟨[(0,.t (.int .i64)),(9,.t (.int .i64))],[],[]⟩)] Tryz.func408
def zhy(W:Wd)(m:zaf)(used:Int)(more:Int):Option Int:=W.call (ydh used (more::[])) λv1=>
 W.cnd (decide (v1<0)) (some 2)
 (W.call (zme (used::(more::[]))) λv2=>
 W.join (λ(z3:Bool×Unit)=>
  W.cnd z3.1 (some 16)
  (some 0))
  λk4=>
  W.cnd (v2.2.1 != 0) ((k4 (true,())))
  ((k4 ((decide (m.2.1<v2.1)),()))))
def zlt:=zhy stdW
theorem yen:ECok Tryz.prog 369 (.es ⟨(.pair tAMember (.pair (.int .i64) (.pair (.int .i64) .unit))),(.v (.int .i64)),λx=>zlt x.1 x.2.1 x.2.2.1⟩):=es_z (λW x=>zhy W x.1 x.2.1 x.2.2.1) (cc ynx (cc zji cn)) [] [(500028,⟨[(28,.t .bool)],[],[]⟩)] [] Tryz.func369
def zlm(W:Wd)(s:zae)(from_:AUnit')(to_:AUnit'):Option Int:=W.call (zln s to_) λv1=>
 W.cnd (v1.2.1 != 0) (some v1.2.1)
 (W.call (zfl s.2.1 v1.1.2.1) λv2=>
 W.join (λ(z3:Bool×Unit)=>
  W.cnd z3.1 (some 15)
  (W.call (zpr s to_) λv4=>
  W.cnd (!v4) (some 21)
   (W.call (zjo s.2.2.2.2.2.2.2.2.1 (from_::[])) λv5=>
   W.cnd (v5.2.1 != 0) (some v5.2.1)
   (W.call (zuf s v2.1.1) λv6=>
   W.cnd (v6.2.1 != 0) (some v6.2.1)
    (W.call (zlt v2.1 v6.1 v5.1) λv7=>some v7)))))
  λk8=>
  W.cnd (!v2.2.1) ((k8 (true,())))
  (W.call (zpw v2.1) λv9=>(k8 ((v9 != 0),()))))
def zwl:=zlm stdW
theorem yja:ECok Tryz.prog 284 (.es ⟨(.pair tAState (.pair tAUnit (.pair tAUnit .unit))),(.v (.int .i64)),λx=>zwl x.1 x.2.1 x.2.2.1⟩):=es_z (λW x=>zlm W x.1 x.2.1 x.2.2.1) (cc zrg (cc zrh (cc yjp (cc yiz (cc zyp (cc ymo (cc yen cn))))))) [] [(500030,⟨[(30,.t .bool)],[],[]⟩)] [] Tryz.func284
def zug(W:Wd)(s:zae)(from_:AUnit'):Option (AUnit'×Int×Unit):=W.call (zru s from_) λv1=>
 W.cnd (v1 != 0) (some ((0,(0,())),(v1,())))
 (W.call (zmg s.2.2.2.2.2.1 from_) λv2=>
 W.cnd (v2.2.1 != 0) (some ((0,(0,())),v2.2))
  (W.call (zwl s from_ v2.1) λv3=>
  W.cnd (v3 != 0) (some ((0,(0,())),(v3,())))
  (some (v2.1,(0,())))))
def yjb:=zug stdW
theorem ypg:ECok Tryz.prog 161 (.es ⟨(.pair tAState (.pair tAUnit .unit)),(.pair (.v tAUnit) (.pair (.v (.int .i64)) .unit)),λx=>yjb x.1 x.2.1⟩):=es_z (λW x=>zug W x.1 x.2.1) (cc yel (cc yeu (cc yja cn))) [] [] [] Tryz.func161
def zqv(W:Wd)(l:List APos')(from_:AUnit')(to_:AUnit')(legs:List AUnit'):Option ((List APos')×Int×Unit):=W.call (yds l) λv1=>
 W.cnd (!v1) (some ([],(3,())))
 (W.call (yos legs) λv2=>
 W.cnd (v2.2.1 != 0) (some ([],v2.2))
  (W.call (zqt l from_ v2.1) λv3=>
  W.cnd (v3.2.1 != 0) (some ([],v3.2))
  (W.call (zqt v3.1 to_ legs) λv4=>some v4)))
def zvh:=zqv stdW
theorem yoi:ECok Tryz.prog 164 (.es ⟨(.pair (.slc tAPos) (.pair tAUnit (.pair tAUnit (.pair (.slc tAUnit) .unit)))),(.pair (.own 50 tAPos) (.pair (.v (.int .i64)) .unit)),λx=>zvh x.1 x.2.1 x.2.2.1 x.2.2.2.1⟩):=es_z (λW x=>zqv W x.1 x.2.1 x.2.2.1 x.2.2.2.1) (cc zxs (cc vec_Neg_ok (cc ykv cn))) [] [] [] Tryz.func164
def zlw(W:Wd)(x:zcc):Option Bool:=
 W.cnd (decide (1≤x.1)) (
 W.cnd (decide (x.1≤4)) (
  W.cnd (decide (0≤x.2.1)) (
  W.cnd (decide (x.2.1≤255)) (some (decide (0<x.2.2.1)))
   (some false))
  (some false))
  (some false))
 (some false)
def zws:=zlw stdW
theorem yjs:ECok Tryz.prog 379 (.es ⟨(.pair tAAsset .unit),(.v .bool),λx=>zws x.1⟩):=es_z (λW x=>zlw W x.1) cn [] [] [] Tryz.func379
def ygj(W:Wd)(x:Int):Option Bool:=some (x != x)
def zvd:=ygj stdW
theorem yof:ECok Tryz.prog 426 (.es ⟨(.pair (.int .i64) .unit),(.v .bool),λx=>zvd x.1⟩):=es_z (λW x=>ygj W x.1) cn [] [] [] Tryz.func426
def zie(W:Wd)(x:Int)(y:Int):Option Int:=W.call (zvd x) λv1=>W.call (zvd y) λv2=>
 W.cnd v1 (
 W.cnd v2 (some 0)
  (some (-1)))
 (
 W.cnd v2 (some 1)
  (
  W.cnd (decide (x<y)) (some (-1))
  (
  W.cnd (decide (y<x)) (some 1)
   (some 0))))
def zml:=zie stdW
theorem yev:ECok Tryz.prog 410 (.es ⟨(.pair (.int .i64) (.pair (.int .i64) .unit)),(.v (.int .i64)),λx=>zml x.1 x.2.1⟩):=es_z (λW x=>zie W x.1 x.2.1) (cc yof cn) [] [] [] Tryz.func410
def ykp(W:Wd)(vals:List Int):Option Int:=
 W.loop (λ(z1:Int×Unit) again2=>
 W.cnd (decide (z1.1<(vals.length:Int))) (W.idx vals z1.1 λx3=>
  W.cnd (x3 != 0) (some x3)
  ((again2 ((IntKind.i64.wrap (z1.1+1)),()))))
  (some 0))
 (0,())
def cmp_Or:=ykp stdW
theorem cmp_Or_ok:ECok Tryz.prog 409 (.es ⟨(.pair (.slc (.int .i64)) .unit),(.v (.int .i64)),λx=>cmp_Or x.1⟩):=es_z (λW x=>ykp W x.1) cn [] [] [(3,⟨[(8,.t (.int .i64))],[],[]⟩)] Tryz.func409
def zlx(W:Wd)(a:zcc)(b:zcc):Option Int:=W.call (zml a.1 b.1) λv1=>W.call (zml a.2.1 b.2.1) λv2=>W.call (cmp_Or (v1::(v2::[]))) λv3=>some v3
def zpz:=zlx stdW
theorem yjt:ECok Tryz.prog 380 (.es ⟨(.pair tAAsset (.pair tAAsset .unit)),(.v (.int .i64)),λx=>zpz x.1 x.2.1⟩):=es_z (λW x=>zlx W x.1 x.2.1) (cc yev (cc cmp_Or_ok cn)) [(1,[],(oN [1,3,5,7,11,13,15,17,8,18,20,22,25]))] [] [] Tryz.func380
def zzm(W:Wd)(l:List zcc):Option Bool:=
 W.loop (λ(z1:Int×Unit) again2=>
 W.cnd (decide (z1.1<(l.length:Int))) (W.idx l z1.1 λx3=>
  W.join (λ(z4:Bool×Unit)=>
  W.cnd z4.1 (some false)
   ((again2 ((IntKind.i64.wrap (z1.1+1)),()))))
  λk5=>W.call (zws x3) λv6=>
  W.cnd (!v6) (W.both ((k5 (true,()))) ((k5 (true,()))))
   (
   W.cnd (decide (0<z1.1)) (W.idx l (IntKind.i64.wrap (z1.1 - 1)) λx7=>W.both (W.call (zpz x7 x3) λv8=>(k5 ((decide (0≤v8)),()))) (W.call (zpz x7 x3) λv9=>(k5 ((decide (0≤v9)),()))))
   (W.both ((k5 (false,()))) ((k5 (false,()))))))
  (some (decide ((l.length:Int)≤16))))
 (0,())
def ypm:=zzm stdW
theorem lots_Is_ok:ECok Tryz.prog 305 (.es ⟨(.pair (.slc tAAsset) .unit),(.v .bool),λx=>ypm x.1⟩):=es_z (λW x=>zzm W x.1) (cc yjs (cc yjt cn)) [(4,[],(.rd 0 (.op 1 (.rd 2 (.rd 3 (.rd 4 (.rd 5 (.rd 6 (.rd 7 (.rd 8 (.rd 9 (.rd 10 (.two 11 12 (oN [24,26,29,31,33]) (oN [22,26,29,31,33]))))))))))))))] [(500028,⟨[(28,.t .bool)],[],[]⟩)] [(2,⟨[(7,.t (.int .i64))],[],[]⟩)] Tryz.func305
def zzs(W:Wd)(l:List AHold'):Option Bool:=
 W.loop (λ(z1:Int×Unit) again2=>
 W.cnd (decide (z1.1<(l.length:Int))) (W.idx l z1.1 λx3=>
  W.join (λ(z4:Bool×Unit)=>
  W.cnd z4.1 (some false)
   ((again2 ((IntKind.i64.wrap (z1.1+1)),()))))
  λk5=>
  W.cnd ((x3.2.1.length:Int)==0) (W.both ((k5 (true,()))) ((k5 (true,()))))
   (W.call (ypm x3.2.1) λv6=>
   W.cnd (!v6) (W.both ((k5 (true,()))) ((k5 (true,()))))
   (
   W.cnd (decide (0<z1.1)) (W.idx l (IntKind.i64.wrap (z1.1 - 1)) λx7=>W.both (W.call (zdw x7.1 x3.1) λv8=>(k5 ((!v8),()))) (W.call (zdw x7.1 x3.1) λv9=>(k5 ((!v9),()))))
    (W.both ((k5 (false,()))) ((k5 (false,())))))))
  (some true))
 (0,())
def yqa:=zzs stdW
theorem hold_Is_ok:ECok Tryz.prog 182 (.es ⟨(.pair (.slc tAHold) .unit),(.v .bool),λx=>yqa x.1⟩):=es_z (λW x=>zzs W x.1) (cc lots_Is_ok (cc zge cn)) [(4,[],(.rd 0 (.rd 1 (.rd 2 (.rd 3 (.rd 4 (.rd 5 (.rd 6 (.op 7 (.rd 8 (.rd 9 (.rd 10 (.rd 11 (.rd 12 (.rd 13 (.rd 14 (.rd 15 (.rd 16 (.rd 17 (.rd 18 (.rd 20 (.two 19 21 (oN [42,44,47,49,51]) (oN [38,44,47,49,51])))))))))))))))))))))))] [(500037,⟨[(37,.t .bool)],[],[]⟩)] [(2,⟨[(7,.t (.int .i64))],[],[]⟩)] Tryz.func182
def zur(W:Wd)(l:List AHold')(u:AUnit')(all:List zcc):Option (List AHold'):=W.both (W.call (zaw all) λv1=>
 W.loop (λ(z2:Bool×Int×Int×Int×List zcc×List AHold'×Unit) again3=>
  W.cnd (decide (z2.2.1<(l.length:Int))) (
  W.join (λ(z4:Bool×List AHold'×Unit)=>(again3 (z4.1,((IntKind.i64.wrap (z2.2.1+1)),(z2.2.2.1,(z2.2.2.2.1,(z2.2.2.2.2.1,z4.2)))))))
   λk5=>W.idx l z2.2.1 λx6=>
   W.join (λ(z7:Bool×List AHold'×Unit)=>
   W.cnd (Go.Vc.notIf true ((x6.1.1==u.1)&&(x6.1.2.1==u.2.1))) (W.call (zaw x6.2.1) λv8=>W.room (z7.2.1.length+((x6.1,(v8,()))::[]).length) 40 ((k5 (z7.1,((z7.2.1++((x6.1,(v8,()))::[])),())))))
    (
    W.cnd (!z7.1) (W.room (z7.2.1.length+(((z2.2.2.1,(z2.2.2.2.1,())),(z2.2.2.2.2.1,()))::[]).length) 40 ((k5 (true,((z7.2.1++(((z2.2.2.1,(z2.2.2.2.1,())),(z2.2.2.2.2.1,()))::[])),())))))
    ((k5 z7))))
   λk9=>
   W.join (λ(z10:Bool×List AHold'×Unit)=>
    W.cnd z10.1 (W.room (z10.2.1.length+(((z2.2.2.1,(z2.2.2.2.1,())),(z2.2.2.2.2.1,()))::[]).length) 40 ((k9 (true,((z10.2.1++(((z2.2.2.1,(z2.2.2.2.1,())),(z2.2.2.2.2.1,()))::[])),())))))
    ((k9 (z2.1,z10.2))))
    λk11=>
    W.cnd (!z2.1) (W.call (zdw u x6.1) λv12=>(k11 (v12,z2.2.2.2.2.2)))
    ((k11 (false,z2.2.2.2.2.2))))
  (
  W.join (λ(z13:List AHold'×Unit)=>some z13.1)
   λk14=>
   W.cnd (!z2.1) (W.room (z2.2.2.2.2.2.1.length+(((z2.2.2.1,(z2.2.2.2.1,())),(z2.2.2.2.2.1,()))::[]).length) 40 ((k14 ((z2.2.2.2.2.2.1++(((z2.2.2.1,(z2.2.2.2.1,())),(z2.2.2.2.2.1,()))::[])),()))))
   ((k14 z2.2.2.2.2.2))))
  (((all.length:Int)==0),(0,(u.1,(u.2.1,(v1,([],()))))))) (W.call (zaw all) λv15=>
 W.loop (λ(z16:Bool×Int×Int×Int×List zcc×List AHold'×Unit) again17=>
  W.cnd (decide (z16.2.1<(l.length:Int))) (
  W.join (λ(z18:Bool×List AHold'×Unit)=>(again17 (z18.1,((IntKind.i64.wrap (z16.2.1+1)),(z16.2.2.1,(z16.2.2.2.1,(z16.2.2.2.2.1,z18.2)))))))
   λk19=>W.idx l z16.2.1 λx20=>
   W.join (λ(z21:Bool×List AHold'×Unit)=>
   W.cnd (Go.Vc.notIf true ((x20.1.1==u.1)&&(x20.1.2.1==u.2.1))) (W.call (zaw x20.2.1) λv22=>W.room (z21.2.1.length+((x20.1,(v22,()))::[]).length) 40 ((k19 (z21.1,((z21.2.1++((x20.1,(v22,()))::[])),())))))
    (
    W.cnd (!z21.1) (W.room (z21.2.1.length+(((z16.2.2.1,(z16.2.2.2.1,())),(z16.2.2.2.2.1,()))::[]).length) 40 ((k19 (true,((z21.2.1++(((z16.2.2.1,(z16.2.2.2.1,())),(z16.2.2.2.2.1,()))::[])),())))))
    ((k19 z21))))
   λk23=>
   W.join (λ(z24:Bool×List AHold'×Unit)=>
    W.cnd z24.1 (W.room (z24.2.1.length+(((z16.2.2.1,(z16.2.2.2.1,())),(z16.2.2.2.2.1,()))::[]).length) 40 ((k23 (true,((z24.2.1++(((z16.2.2.1,(z16.2.2.2.1,())),(z16.2.2.2.2.1,()))::[])),())))))
    ((k23 (z16.1,z24.2))))
    λk25=>
    W.cnd (!z16.1) (W.call (zdw u x20.1) λv26=>(k25 (v26,z16.2.2.2.2.2)))
    ((k25 (false,z16.2.2.2.2.2))))
  (
  W.join (λ(z27:List AHold'×Unit)=>some z27.1)
   λk28=>
   W.cnd (!z16.1) (W.room (z16.2.2.2.2.2.1.length+(((z16.2.2.1,(z16.2.2.2.1,())),(z16.2.2.2.2.1,()))::[]).length) 40 ((k28 ((z16.2.2.2.2.2.1++(((z16.2.2.1,(z16.2.2.2.1,())),(z16.2.2.2.2.1,()))::[])),()))))
   ((k28 z16.2.2.2.2.2))))
  (((all.length:Int)==0),(0,(u.1,(u.2.1,(v15,([],())))))))
def zzr:=zur stdW
theorem ypz:ECok Tryz.prog 286 (.es ⟨(.pair (.slc tAHold) (.pair tAUnit (.pair (.slc tAAsset) .unit))),(.own 55 tAHold),λx=>zzr x.1 x.2.1 x.2.2.1⟩):=es_z (λW x=>zur W x.1 x.2.1 x.2.2.1) (cc zdj (cc zge cn)) [(2,[],(.rd 0 (.rd 1 (.two 2 4 (oN [7,8,10]) (oN [4,7,10]))))),(10,[],(oN [1,3,5,7,9,10,13,14,16,19]))] [(9,⟨[(7,.row 2),(9,.t .bool)],[],[.dead,.dead,.own 55 tAHold]⟩),(13,⟨[(7,.row 2),(9,.t .bool)],[],[.dead,.dead,.own 55 tAHold]⟩),(16,⟨[(7,.row 2)],[],[.dead,.dead,.own 55 tAHold]⟩),(500032,⟨[(7,.row 2),(32,.t .bool)],[],[.dead,.dead,.own 55 tAHold]⟩)] [(5,⟨[(7,.row 2),(9,.t .bool),(21,.t (.int .i64))],[(1,[.t (.int .i64),.t (.int .i64),.t (.slc tAAsset)])],[.dead,.dead,.own 55 tAHold]⟩)] Tryz.func286
def zql(W:Wd)(l:List AHold')(from_:AUnit')(to_:AUnit'):Option ((List AHold')×Int×Unit):=W.call (yqa l) λv1=>
 W.cnd (!v1) (some ([],(3,())))
 (
 W.cnd (Go.Vc.notIf false ((from_.1==to_.1)&&(from_.2.1==to_.2.1))) (some ([],(24,())))
  (W.call (zjf l to_) λv2=>
  W.cnd (decide (0<(v2.length:Int))) (some ([],(21,())))
  (W.call (zjf l from_) λv3=>W.call (zzr l from_ []) λv4=>W.call (zzr v4 to_ v3) λv5=>some (v5,(0,())))))
def znx:=zql stdW
theorem ynp:ECok Tryz.prog 166 (.es ⟨(.pair (.slc tAHold) (.pair tAUnit (.pair tAUnit .unit))),(.pair (.own 55 tAHold) (.pair (.v (.int .i64)) .unit)),λx=>znx x.1 x.2.1 x.2.2.1⟩):=es_z (λW x=>zql W x.1 x.2.1 x.2.2.1) (cc hold_Is_ok (cc zyj (cc ypz cn))) [(8,[],(oN [1,3,7,9,4,10,13,15]))] [] [] Tryz.func166
def zbj(W:Wd)(s:List zag):Option (List zag):=W.nilq (List.isEmpty s) λg1=>
 W.cnd (Go.Vc.notIf false g1) (some [])
 (W.room ((0:Nat)+s.length) 40 (some ([]++s)))
def zbx:=zbj stdW
theorem zed:ECok Tryz.prog 124 (.es ⟨(.pair (.slc tAChoice) .unit),(.own 140 tAChoice),λx=>zbx x.1⟩):=es_z (λW x=>zbj W x.1) cn [] [] [] Tryz.func124
def zvb(W:Wd)(c:zag)(free10:Int)(free11:Int):Option (Bool×(AUnit')):=some ((Go.Vc.notIf false ((c.1.1==free10)&&(c.1.2.1==free11))),(free10,(free11,())))
def zgc:=zvb stdW
theorem zoa:ECok Tryz.prog 288 (.ls ⟨[.v tAChoice,.ptr],[⟨47,[.v (.int .i64),.v (.int .i64)]⟩],[⟨47,[.v (.int .i64),.v (.int .i64)]⟩],(.q (.v .bool)),λx=>zgc x.1 x.2.1 x.2.2.1⟩):=ls_z (λW x=>zvb W x.1 x.2.1 x.2.2.1) cn [] [] [] Tryz.func288
def zam(W:Wd)(s:List zag)(f0_0:Int)(f0_1:Int):Option (Int×(AUnit')):=
 W.loop (λ(z1:zcc) again2=>
 W.cnd (decide (z1.1<(s.length:Int))) (W.idx s z1.1 λx3=>W.call (zgc x3 z1.2.1 z1.2.2.1) λv4=>
  W.cnd v4.1 (some (z1.1,v4.2))
  ((again2 ((IntKind.i64.wrap (z1.1+1)),v4.2))))
  (some ((-1),z1.2)))
 (0,(f0_0,(f0_1,())))
def zaj:=zam stdW
theorem zcn:ECok Tryz.prog 371 (.ls ⟨[.v (.slc tAChoice),.fn 288 1],[⟨47,[.v (.int .i64),.v (.int .i64)]⟩],[⟨47,[.v (.int .i64),.v (.int .i64)]⟩],(.q (.v (.int .i64))),λx=>zaj x.1 x.2.1 x.2.2.1⟩):=ls_z (λW x=>zam W x.1 x.2.1 x.2.2.1) (cc zoa cn) [] [] [(2,⟨[(8,.t (.int .i64))],[(0,[.t (.int .i64),.t (.int .i64)])],[]⟩)] Tryz.func371
def zal(W:Wd)(del0_0:Int)(del0_1:Int)(s:List zag):Option ((List zag)×(AUnit')):=W.call (zaj s del0_0 del0_1) λv1=>
 W.cnd (v1.1==(-1)) (some (s,v1.2))
 (
 W.loop (λ(z2:Int×Int×Int×Int×List zag×Unit) again3=>
  W.cnd (decide (z2.2.1<(z2.2.2.2.2.1.length:Int))) (
  W.join (λ(z4:Int×Int×Int×List zag×Unit)=>(again3 (z4.1,((IntKind.i64.wrap (z2.2.1+1)),z4.2))))
   λk5=>W.idx z2.2.2.2.2.1 z2.2.1 λx6=>W.nth z2.2.2.2.2.1 (Int.toNat z2.2.1) λx7=>W.call (zgc x7 z2.2.2.1 z2.2.2.2.1) λv8=>
   W.cnd (!v8.1) (W.idx z2.2.2.2.2.1 z2.1 λx9=>W.nth z2.2.2.2.2.1 (Int.toNat z2.1) λx10=>(k5 ((IntKind.i64.wrap (z2.1+1)),(v8.2.1,(v8.2.2.1,((List.set z2.2.2.2.2.1 (Int.toNat z2.1) x7),()))))))
   ((k5 (z2.1,(v8.2.1,(v8.2.2.1,z2.2.2.2.2))))))
  (W.bnd z2.1 z2.2.2.2.2.1.length λh11=>W.bnd (h11:Int) z2.2.2.2.2.1.length λh12=>W.bnd z2.1 ((z2.2.2.2.2.1.take h12)++(List.replicate (z2.2.2.2.2.1.length - h12) ((0,(0,())),((0,(0,())),(false,()))))).length λh13=>some ((((z2.2.2.2.2.1.take h12)++(List.replicate (z2.2.2.2.2.1.length - h12) ((0,(0,())),((0,(0,())),(false,()))))).take h13),(z2.2.2.1,(z2.2.2.2.1,())))))
  (v1.1,((IntKind.i64.wrap (v1.1+1)),(v1.2.1,(v1.2.2.1,(s,()))))))
def zav:=zal stdW
theorem zcl:ECok Tryz.prog 287 (.ls ⟨[.row 140 tAChoice,.fn 288 1],[⟨47,[.v (.int .i64),.v (.int .i64)]⟩],[⟨47,[.v (.int .i64),.v (.int .i64)]⟩],(.q (.v (.slc tAChoice))),λx=>zav x.1 x.2.1 x.2.2.1⟩):=ls_z (λW x=>zal W x.1 x.2.1 x.2.2.1) (cb zcn (cc zoa cn)) [] [(6,⟨[(0,.row 0),(5,.t (.int .i64))],[(0,[.t (.int .i64),.t (.int .i64)])],[.own 140 tAChoice]⟩)] [(5,⟨[(0,.row 0),(5,.t (.int .i64)),(6,.t (.int .i64))],[(0,[.t (.int .i64),.t (.int .i64)])],[.own 140 tAChoice]⟩)] Tryz.func287
def zmi(W:Wd)(l:List zag)(from_:AUnit'):Option (List zag):=W.call (zbx l) λv1=>W.call (zav from_.1 from_.2.1 v1) λv2=>some v2.1
def zgs:=zmi stdW
theorem ykl:ECok Tryz.prog 167 (.es ⟨(.pair (.slc tAChoice) (.pair tAUnit .unit)),(.v (.slc tAChoice)),λx=>zgs x.1 x.2.1⟩):=es_z (λW x=>zmi W x.1 x.2.1) (cc zed (cc zcl cn)) [] [] [] Tryz.func167
def zpt(W:Wd)(s:zae)(from_:AUnit'):Option (zae×AUnit'×Int×Unit):=W.call (yjb s from_) λv1=>
 W.cnd (v1.2.1 != 0) (some ((0,([],([],([],([],([],([],([],([],([],([],([],())))))))))))),((0,(0,())),v1.2)))
 (W.call (zod s.2.2.2.2.2.2.2.2.1 from_) λv2=>W.call (yha (v2::[])) λv3=>
 W.join (λ(z4:Int×zae)=>
  W.join (λ(z5:Int×zae)=>
  W.join (λ(z6:Int×zae)=>
   W.cnd (z6.1 != 0) (some ((0,([],([],([],([],([],([],([],([],([],([],([],())))))))))))),((0,(0,())),(z6.1,()))))
   (W.call (zgs z6.2.2.2.2.2.2.1 from_) λv7=>some ((z6.2.1,(z6.2.2.1,(z6.2.2.2.1,(z6.2.2.2.2.1,(z6.2.2.2.2.2.1,(v7,z6.2.2.2.2.2.2.2)))))),(v1.1,(0,())))))
   λk8=>
   W.cnd (z5.1==0) (W.call (znx z5.2.2.2.2.2.2.2.2.2.2.2.2.1 from_ v1.1) λv9=>(k8 (v9.2.1,(z5.2.1,(z5.2.2.1,(z5.2.2.2.1,(z5.2.2.2.2.1,(z5.2.2.2.2.2.1,(z5.2.2.2.2.2.2.1,(z5.2.2.2.2.2.2.2.1,(z5.2.2.2.2.2.2.2.2.1,(z5.2.2.2.2.2.2.2.2.2.1,(z5.2.2.2.2.2.2.2.2.2.2.1,(z5.2.2.2.2.2.2.2.2.2.2.2.1,(v9.1,())))))))))))))))
   ((k8 z5)))
  λk10=>
  W.cnd (z4.1==0) (W.both (W.call (zez z4.2.2.2.2.2.2.2.2.2.2.2.1 from_) λv11=>W.call (zgr z4.2.2.2.2.2.2.2.2.2.2.2.1 from_ v1.1 v11) λv12=>(k10 (v12.2.1,(z4.2.1,(z4.2.2.1,(z4.2.2.2.1,(z4.2.2.2.2.1,(z4.2.2.2.2.2.1,(z4.2.2.2.2.2.2.1,(z4.2.2.2.2.2.2.2.1,(z4.2.2.2.2.2.2.2.2.1,(z4.2.2.2.2.2.2.2.2.2.1,(z4.2.2.2.2.2.2.2.2.2.2.1,(v12.1,z4.2.2.2.2.2.2.2.2.2.2.2.2)))))))))))))) (W.both (W.call (zez z4.2.2.2.2.2.2.2.2.2.2.2.1 from_) λv13=>W.call (zgr z4.2.2.2.2.2.2.2.2.2.2.2.1 from_ v1.1 v13) λv14=>(k10 (v14.2.1,(z4.2.1,(z4.2.2.1,(z4.2.2.2.1,(z4.2.2.2.2.1,(z4.2.2.2.2.2.1,(z4.2.2.2.2.2.2.1,(z4.2.2.2.2.2.2.2.1,(z4.2.2.2.2.2.2.2.2.1,(z4.2.2.2.2.2.2.2.2.2.1,(z4.2.2.2.2.2.2.2.2.2.2.1,(v14.1,z4.2.2.2.2.2.2.2.2.2.2.2.2)))))))))))))) (W.call (zez z4.2.2.2.2.2.2.2.2.2.2.2.1 from_) λv15=>W.call (zgr z4.2.2.2.2.2.2.2.2.2.2.2.1 from_ v1.1 v15) λv16=>(k10 (v16.2.1,(z4.2.1,(z4.2.2.1,(z4.2.2.2.1,(z4.2.2.2.2.1,(z4.2.2.2.2.2.1,(z4.2.2.2.2.2.2.1,(z4.2.2.2.2.2.2.2.1,(z4.2.2.2.2.2.2.2.2.1,(z4.2.2.2.2.2.2.2.2.2.1,(z4.2.2.2.2.2.2.2.2.2.2.1,(v16.1,z4.2.2.2.2.2.2.2.2.2.2.2.2))))))))))))))))
   ((k10 z4)))
  λk17=>
  W.cnd (v3.2.1==0) (W.call (zvh s.2.2.2.2.2.2.2.2.1 from_ v1.1 v3.1) λv18=>(k17 (v18.2.1,(s.1,(s.2.1,(s.2.2.1,(s.2.2.2.1,(s.2.2.2.2.1,(s.2.2.2.2.2.1,(s.2.2.2.2.2.2.1,(s.2.2.2.2.2.2.2.1,(v18.1,s.2.2.2.2.2.2.2.2.2))))))))))))
  ((k17 (v3.2.1,s))))
def znn:=zpt stdW
theorem zyd:ECok Tryz.prog 42 (.es ⟨(.pair tAState (.pair tAUnit .unit)),(.pair (.v tAState) (.pair (.v tAUnit) (.pair (.v (.int .i64)) .unit))),λx=>znn x.1 x.2.1⟩):=es_z (λW x=>zpt W x.1 x.2.1) (cc ypg (cc zqu (cc yfb (cc yoi (cc zyc (cc yix (cc ynp (cc ykl cn)))))))) [(8,[0],(.rd 0 (.rd 2 (.rd 3 (.rd 4 (.rd 6 (.two 1 5 (oN [10,14,16,19,21,23,25,26,29]) (.two 1 7 (oN [14,16,19,21,23,25,26,29]) (oN [2,16,19,21,23,25,26,29]))))))))),(14,[2,3],(oN [1,3,4,6,9]))] [(7,⟨[(8,.t (.int .i64))],[(0,[.t (.int .i64),.t (.slc tAMember),.t (.slc tAInst),.t (.slc tAAsset),.t (.slc tAAccount),.t (.slc tAChoice),.t (.slc tAGroup),.t (.slc tAGive),.t (.slc tAPos),.t (.slc tAPos),.t (.slc tAFlow),.t (.slc tAHold)])],[]⟩),(9,⟨[(8,.t (.int .i64))],[(0,[.t (.int .i64),.t (.slc tAMember),.t (.slc tAInst),.t (.slc tAAsset),.t (.slc tAAccount),.t (.slc tAChoice),.t (.slc tAGroup),.t (.slc tAGive),.t (.slc tAPos),.t (.slc tAPos),.t (.slc tAFlow),.t (.slc tAHold)])],[]⟩),(11,⟨[(8,.t (.int .i64))],[(0,[.t (.int .i64),.t (.slc tAMember),.t (.slc tAInst),.t (.slc tAAsset),.t (.slc tAAccount),.t (.slc tAChoice),.t (.slc tAGroup),.t (.slc tAGive),.t (.slc tAPos),.t (.slc tAPos),.t (.slc tAFlow),.t (.slc tAHold)])],[]⟩)] [] Tryz.func42
def zfq(W:Wd)(s:zae)(u:AUnit'):Option (zab×Int×Unit):=W.call (zix s.2.2.2.2.1 u.1) λv1=>
 W.join (λ(z2:Bool×Unit)=>
 W.cnd z2.1 (some (v1.1,(11,())))
  (
  W.cnd (v1.1.2.2.1==1) (some (v1.1,(17,())))
  (some (v1.1,(0,())))))
 λk3=>
 W.cnd (!v1.2.1) ((k3 (true,())))
  (W.call (ztr v1.1 u) λv4=>(k3 ((!v4),())))
def zey:=zfq stdW
theorem zyt:ECok Tryz.prog 289 (.es ⟨(.pair tAState (.pair tAUnit .unit)),(.pair (.v tAAccount) (.pair (.v (.int .i64)) .unit)),λx=>zey x.1 x.2.1⟩):=es_z (λW x=>zfq W x.1 x.2.1) (cc zts (cc ylw cn)) [] [(500023,⟨[(23,.t .bool)],[],[]⟩)] [] Tryz.func289
def zkd(W:Wd)(m:zaf)(day:Int):Option Int:=
 W.join (λ(z1:Bool×Unit)=>
 W.cnd z1.1 (some 0)
  (some 18))
 λk2=>
 W.cnd (m.2.2.1==1) ((k2 ((decide (day≤m.2.2.2.1)),())))
  ((k2 (false,())))
def zom:=zkd stdW
theorem yht:ECok Tryz.prog 290 (.es ⟨(.pair tAMember (.pair (.int .i64) .unit)),(.v (.int .i64)),λx=>zom x.1 x.2.1⟩):=es_z (λW x=>zkd W x.1 x.2.1) cn [] [(500013,⟨[(13,.t .bool)],[],[]⟩)] [] Tryz.func290
def zks(W:Wd)(l:List zag)(from_:AUnit'):Option (zag×Bool×Unit):=
 W.loop (λ(z1:Int×Unit) again2=>
 W.cnd (decide (z1.1<(l.length:Int))) (W.idx l z1.1 λx3=>
  W.cnd (Go.Vc.notIf false ((x3.1.1==from_.1)&&(x3.1.2.1==from_.2.1))) (W.idx l z1.1 λx4=>some (x4,(true,())))
  ((again2 ((IntKind.i64.wrap (z1.1+1)),()))))
  (some (((0,(0,())),((0,(0,())),(false,()))),(false,()))))
 (0,())
def zwe:=zks stdW
theorem yif:ECok Tryz.prog 372 (.es ⟨(.pair (.slc tAChoice) (.pair tAUnit .unit)),(.pair (.v tAChoice) (.pair (.v .bool) .unit)),λx=>zwe x.1 x.2.1⟩):=es_z (λW x=>zks W x.1 x.2.1) cn [(4,[],(oN [1,3,5,7,9,11,13]))] [] [(2,⟨[(6,.t (.int .i64))],[],[]⟩)] Tryz.func372
def zhn(W:Wd)(l:List zag)(from_:AUnit'):Option (AUnit'×Int×Unit):=W.call (zwe l from_) λv1=>
 W.cnd (!v1.2.1) (some ((0,(0,())),(19,())))
 (
 W.cnd (!v1.1.2.2.1) (some ((0,(0,())),(20,())))
  (some (v1.1.2.1,(0,()))))
def zkr:=zhn stdW
theorem yeg:ECok Tryz.prog 291 (.es ⟨(.pair (.slc tAChoice) (.pair tAUnit .unit)),(.pair (.v tAUnit) (.pair (.v (.int .i64)) .unit)),λx=>zkr x.1 x.2.1⟩):=es_z (λW x=>zhn W x.1 x.2.1) (cc yif cn) [] [] [] Tryz.func291
def zkh(W:Wd)(l:List AHold')(u:AUnit'):Option (List zcc):=
 W.loop (λ(z1:Int×Unit) again2=>
 W.cnd (decide (z1.1<(l.length:Int))) (W.idx l z1.1 λx3=>
  W.cnd (Go.Vc.notIf false ((x3.1.1==u.1)&&(x3.1.2.1==u.2.1))) (W.idx l z1.1 λx4=>some x4.2.1)
  ((again2 ((IntKind.i64.wrap (z1.1+1)),()))))
  (some []))
 (0,())
def zgo:=zkh stdW
theorem ztf:ECok Tryz.prog 173 (.es ⟨(.pair (.slc tAHold) (.pair tAUnit .unit)),(.v (.slc tAAsset)),λx=>zgo x.1 x.2.1⟩):=es_z (λW x=>zkh W x.1 x.2.1) cn [(4,[],(oN [1,3,5,7,9,11,13]))] [] [(2,⟨[(5,.t (.int .i64))],[],[]⟩)] Tryz.func173
def zhr(W:Wd)(l:List AUnit'):Option (AUnit'):=W.call (zpf l) λv1=>
 W.cnd (!v1) (some (0,(3,())))
 (
 W.loop (λ(z2:Int×zad) again3=>
  W.cnd (decide (z2.1<(l.length:Int))) (W.idx l z2.1 λx4=>W.call (zcx x4.2.1) λv5=>W.call (zcz (false,v5.2)) λv6=>
  W.cnd (!v6) (some (0,(7,())))
   (W.call (zbt z2.2 (false,v5.2)) λv7=>(again3 ((IntKind.i64.wrap (z2.1+1)),v7))))
  (W.call (zcz z2.2) λv8=>
  W.cnd (!v8) (some (0,(7,())))
   (W.call (zds z2.2) λv9=>some (v9,(0,())))))
  (0,(false,([],()))))
def zrt:=zhr stdW
theorem yej:ECok Tryz.prog 373 (.es ⟨(.pair (.slc tAUnit) .unit),(.pair (.v (.int .i64)) (.pair (.v (.int .i64)) .unit)),λx=>zrt x.1⟩):=es_z (λW x=>zhr W x.1) (cc zle (cc zfk (cc zgk (cc zdt (cc zhs cn))))) [] [] [(5,⟨[(5,.t (.int .i64))],[(0,[.t .bool,.t (.slc (.int .u8))])],[]⟩)] Tryz.func373
def zkm(W:Wd)(l:List APos')(units:List AUnit'):Option (AUnit'):=W.call (ztj l) λv1=>
 W.cnd (!v1) (some (0,(3,())))
 (
 W.loop (λ(z2:Int×zad) again3=>
  W.cnd (decide (z2.1<(units.length:Int))) (
  W.join (λ(z4:zad)=>(again3 ((IntKind.i64.wrap (z2.1+1)),z4)))
   λk5=>W.idx units z2.1 λx6=>W.call (zhl l x6) λv7=>W.call (zrt v7) λv8=>
   W.cnd (v8.2.1 != 0) (some (0,v8.2))
   (W.both (W.call (zcx v8.1) λv9=>W.call (zbt z2.2 v9) λv10=>(k5 v10)) (W.call (zcx v8.1) λv11=>W.call (zbt z2.2 v11) λv12=>(k5 v12))))
  (W.call (zcz z2.2) λv13=>
  W.cnd (!v13) (some (0,(7,())))
   (W.call (zds z2.2) λv14=>some (v14,(0,())))))
  (0,(false,([],()))))
def zgp:=zkm stdW
theorem ztk:ECok Tryz.prog 292 (.es ⟨(.pair (.slc tAPos) (.pair (.slc tAUnit) .unit)),(.pair (.v (.int .i64)) (.pair (.v (.int .i64)) .unit)),λx=>zgp x.1 x.2.1⟩):=es_z (λW x=>zkm W x.1 x.2.1) (cc zrr (cc zkk (cc yej (cc zfk (cc zdt (cc zgk (cc zhs cn))))))) [(10,[0],(.rd 1 (.two 0 2 (oN [4,6,8]) (oN [0,6,8]))))] [(6,⟨[],[(0,[.t .bool,.t (.slc (.int .u8))])],[]⟩)] [(5,⟨[(7,.t (.int .i64))],[(0,[.t .bool,.t (.slc (.int .u8))])],[]⟩)] Tryz.func292
def zhj(W:Wd)(s:zae)(id:Int):Option (List AUnit'):=
 W.loop (λ(z1:Int×List AUnit'×Unit) again2=>
 W.cnd (decide (z1.1<(s.2.2.2.2.1.length:Int))) (
  W.join (λ(z3:List AUnit'×Unit)=>(again2 ((IntKind.i64.wrap (z1.1+1)),z3)))
  λk4=>W.idx s.2.2.2.2.1 z1.1 λx5=>
  W.cnd (x5.2.1==id) (W.idx s.2.2.2.2.1 z1.1 λx6=>W.call (zku x6) λv7=>W.room (z1.2.1.length+v7.length) 16 ((k4 ((z1.2.1++v7),()))))
   ((k4 z1.2)))
  (some z1.2.1))
 (0,([],()))
def zrq:=zhj stdW
theorem yed:ECok Tryz.prog 374 (.es ⟨(.pair tAState (.pair (.int .i64) .unit)),(.own 47 tAUnit),λx=>zrq x.1 x.2.1⟩):=es_z (λW x=>zhj W x.1 x.2.1) (cc zrf cn) [] [(4,⟨[(5,.row 1)],[],[.dead,.own 47 tAUnit]⟩)] [(3,⟨[(5,.row 1),(6,.t (.int .i64))],[],[.dead,.own 47 tAUnit]⟩)] Tryz.func374
def zka(W:Wd)(s:zae)(id:Int):Option (AUnit'):=W.call (zrq s id) λv1=>W.call (zgp s.2.2.2.2.2.2.2.2.1 v1) λv2=>some v2
def zok:=zka stdW
theorem yhq:ECok Tryz.prog 293 (.es ⟨(.pair tAState (.pair (.int .i64) .unit)),(.pair (.v (.int .i64)) (.pair (.v (.int .i64)) .unit)),λx=>zok x.1 x.2.1⟩):=es_z (λW x=>zka W x.1 x.2.1) (cc yed (cc ztk cn)) [(1,[],(oN [1,3,5,7,8,10,13,15,17,19]))] [] [] Tryz.func293
def zlb(W:Wd)(cap:Int)(used:Int)(more:Int):Option Int:=
 W.join (λ(z1:Bool×Unit)=>
 W.cnd z1.1 (some 2)
  (W.call (zcx used) λv2=>W.call (zcx more) λv3=>W.call (zbt v2 v3) λv4=>W.call (zcx cap) λv5=>W.call (zub v4 v5) λv6=>
  W.cnd (decide (0<v6)) (some 16)
  (some 0)))
 λk7=>
 W.cnd (decide (used<0)) ((k7 (true,())))
  ((k7 ((decide (more<0)),())))
def zpb:=zlb stdW
theorem yik:ECok Tryz.prog 294 (.es ⟨(.pair (.int .i64) (.pair (.int .i64) (.pair (.int .i64) .unit))),(.v (.int .i64)),λx=>zpb x.1 x.2.1 x.2.2.1⟩):=es_z (λW x=>zlb W x.1 x.2.1 x.2.2.1) (cc zfk (cc zdt (cc ymb cn))) [] [(500012,⟨[(12,.t .bool)],[],[]⟩)] [] Tryz.func294
def zol(W:Wd)(s:zae)(from_:AUnit'):Option (AUnit'×Int×Unit):=W.call (zey s from_) λv1=>
 W.cnd (v1.2.1 != 0) (some ((0,(0,())),v1.2))
 (W.call (zfj s.2.1 v1.1.2.1) λv2=>
 W.join (λ(z3:Bool×Unit)=>
  W.cnd z3.1 (some ((0,(0,())),(18,())))
  (W.call (zkr s.2.2.2.2.2.1 from_) λv4=>
  W.cnd (v4.2.1 != 0) (some ((0,(0,())),v4.2))
   (W.call (zey s v4.1) λv5=>
   W.cnd (v5.2.1 != 0) (some ((0,(0,())),v5.2))
   (W.call (zfj s.2.1 v5.1.2.1) λv6=>
   W.join (λ(z7:Bool×Unit)=>
    W.cnd z7.1 (some ((0,(0,())),(15,())))
    (
    W.join (λ(z8:Bool×Unit)=>
     W.cnd z8.1 (some ((0,(0,())),(21,())))
     (W.call (zgp s.2.2.2.2.2.2.2.2.1 (from_::[])) λv9=>
     W.cnd (v9.2.1 != 0) (some ((0,(0,())),v9.2))
      (W.call (zok s v6.1.1) λv10=>
      W.cnd (v10.2.1 != 0) (some ((0,(0,())),v10.2))
      (W.call (zpb v6.1.2.1 v10.1 v9.1) λv11=>
      W.cnd (v11 != 0) (some ((0,(0,())),(v11,())))
       (some (v4.1,(0,())))))))
     λk12=>W.call (zhl s.2.2.2.2.2.2.2.2.1 v4.1) λv13=>
     W.cnd (decide (0<(v13.length:Int))) ((k12 (true,())))
     (W.call (ziw s.2.2.2.2.2.2.2.2.2.2.1 v4.1) λv14=>
     W.cnd (v14 != 0) ((k12 (true,())))
      (W.call (zgo s.2.2.2.2.2.2.2.2.2.2.2.1 v4.1) λv15=>(k12 ((decide (0<(v15.length:Int))),()))))))
    λk16=>
    W.cnd (!v6.2.1) ((k16 (true,())))
    ((k16 ((v6.1.2.2.1 != 0),())))))))
  λk17=>
  W.cnd (!v2.2.1) ((k17 (true,())))
  (W.call (zom v2.1 s.1) λv18=>(k17 ((v18 != 0),()))))
def ybk:=zol stdW
theorem yls:ECok Tryz.prog 168 (.es ⟨(.pair tAState (.pair tAUnit .unit)),(.pair (.v tAUnit) (.pair (.v (.int .i64)) .unit)),λx=>ybk x.1 x.2.1⟩):=es_z (λW x=>zol W x.1 x.2.1) (cc zyt (cc ztv (cc yht (cc yeg (cc zkk (cc zxx (cc ztf (cc ztk (cc yhq (cc yik cn)))))))))) [] [(500047,⟨[(47,.t .bool)],[],[]⟩),(500084,⟨[(84,.t .bool)],[],[]⟩),(500106,⟨[(106,.t .bool)],[],[]⟩)] [] Tryz.func168
def zpe(W:Wd)(l:List AUnit'):Option ((List AUnit')×Int×Unit):=W.call (zpf l) λv1=>
 W.cnd (!v1) (some ([],(3,())))
 (W.nn 8 (W.room (Int.toNat 8) 32 (W.bnd 8 (Int.toNat 8) λh2=>
 W.loop (λ(z3:Int×List zad×Unit) again4=>
  W.cnd (decide (z3.1<8)) (W.call (zfz l (IntKind.i64.wrap (z3.1+1))) λv5=>W.call (zcx v5) λv6=>W.call (ziz v6) λv7=>W.idx z3.2.1 z3.1 λx8=>W.nth z3.2.1 (Int.toNat z3.1) λx9=>(again4 ((IntKind.i64.wrap (z3.1+1)),((List.set z3.2.1 (Int.toNat z3.1) v7),()))))
  (W.call (zpd z3.2.1) λv10=>some v10))
  (0,((List.replicate h2 (false,([],()))),())))))
def ybo:=zpe stdW
theorem yly:ECok Tryz.prog 295 (.es ⟨(.pair (.slc tAUnit) .unit),(.pair (.own 52 tAUnit) (.pair (.v (.int .i64)) .unit)),λx=>ybo x.1⟩):=es_z (λW x=>zpe W x.1) (cc zle (cc zxy (cc zfk (cc zya (cc ybn cn))))) [] [] [(5,⟨[(4,.row 0),(5,.t (.int .i64))],[],[.own 72 tNovationref01Big]⟩)] Tryz.func295
def zkl(W:Wd)(l:List APos')(from_:AUnit')(to_:AUnit')(legs:List AUnit'):Option ((List APos')×Int×Unit):=W.call (ztj l) λv1=>
 W.cnd (!v1) (some ([],(3,())))
 (W.call (ybo legs) λv2=>
 W.cnd (v2.2.1 != 0) (some ([],v2.2))
  (W.call (zki l from_ v2.1) λv3=>
  W.cnd (v3.2.1 != 0) (some ([],v3.2))
  (W.call (zki v3.1 to_ legs) λv4=>some v4)))
def zor:=zkl stdW
theorem yhz:ECok Tryz.prog 169 (.es ⟨(.pair (.slc tAPos) (.pair tAUnit (.pair tAUnit (.pair (.slc tAUnit) .unit)))),(.pair (.own 50 tAPos) (.pair (.v (.int .i64)) .unit)),λx=>zor x.1 x.2.1 x.2.2.1 x.2.2.2.1⟩):=es_z (λW x=>zkl W x.1 x.2.1 x.2.2.1 x.2.2.2.1) (cc zrr (cc yly (cc yee cn))) [] [] [] Tryz.func169
def zos(W:Wd)(x:zcc):Option Bool:=
 W.cnd (decide (0<x.1)) (
 W.cnd (decide (x.1<5)) (
  W.cnd (decide (0≤x.2.1)) (
  W.cnd (decide (x.2.1<256)) (some (decide (0<x.2.2.1)))
   (some false))
  (some false))
  (some false))
 (some false)
def ybl:=zos stdW
theorem ylt:ECok Tryz.prog 337 (.es ⟨(.pair tAAsset .unit),(.v .bool),λx=>ybl x.1⟩):=es_z (λW x=>zos W x.1) cn [] [] [] Tryz.func337
def zkn(W:Wd)(a:zcc)(b:zcc):Option Bool:=
 W.cnd (decide (a.1<b.1)) (some true)
 (
 W.cnd (a.1==b.1) (some (decide (a.2.1<b.2.1)))
  (some false))
def zot:=zkn stdW
theorem yia:ECok Tryz.prog 338 (.es ⟨(.pair tAAsset (.pair tAAsset .unit)),(.v .bool),λx=>zot x.1 x.2.1⟩):=es_z (λW x=>zkn W x.1 x.2.1) cn [] [] [] Tryz.func338
def ztl(W:Wd)(l:List zcc):Option Bool:=
 W.loop (λ(z1:Int×Unit) again2=>
 W.cnd (decide (z1.1<(l.length:Int))) (
  W.join (λ(z3:Bool×Unit)=>
  W.cnd z3.1 (some false)
   ((again2 ((IntKind.i64.wrap (z1.1+1)),()))))
  λk4=>W.idx l z1.1 λx5=>W.call (ybl x5) λv6=>
  W.cnd (!v6) (W.both ((k4 (true,()))) ((k4 (true,()))))
   (
   W.cnd (decide (0<z1.1)) (W.idx l (IntKind.i64.wrap (z1.1 - 1)) λx7=>W.idx l z1.1 λx8=>W.both (W.call (zot x7 x8) λv9=>(k4 ((!v9),()))) (W.call (zot x7 x8) λv10=>(k4 ((!v10),()))))
   (W.both ((k4 (false,()))) ((k4 (false,()))))))
  (some (decide ((l.length:Int)≤16))))
 (0,())
def yic:=ztl stdW
theorem yoy:ECok Tryz.prog 249 (.es ⟨(.pair (.slc tAAsset) .unit),(.v .bool),λx=>yic x.1⟩):=es_z (λW x=>ztl W x.1) (cc ylt (cc yia cn)) [(4,[],(.rd 0 (.rd 1 (.rd 2 (.rd 3 (.op 4 (.rd 5 (.rd 6 (.rd 7 (.rd 8 (.rd 9 (.rd 10 (.rd 11 (.rd 12 (.rd 13 (.rd 15 (.rd 16 (.rd 17 (.two 14 18 (oN [36,38,41,43,45]) (oN [28,38,41,43,45]))))))))))))))))))))] [(500032,⟨[(32,.t .bool)],[],[]⟩)] [(2,⟨[(3,.t (.int .i64))],[],[]⟩)] Tryz.func249
def ztg(W:Wd)(l:List AHold'):Option Bool:=
 W.loop (λ(z1:Int×Unit) again2=>
 W.cnd (decide (z1.1<(l.length:Int))) (
  W.join (λ(z3:Bool×Unit)=>
  W.cnd z3.1 (some false)
   ((again2 ((IntKind.i64.wrap (z1.1+1)),()))))
  λk4=>W.idx l z1.1 λx5=>
  W.cnd ((x5.2.1.length:Int)==0) (W.both ((k4 (true,()))) ((k4 (true,()))))
   (W.idx l z1.1 λx6=>W.call (yic x6.2.1) λv7=>
   W.cnd (!v7) (W.both ((k4 (true,()))) ((k4 (true,()))))
   (
   W.cnd (decide (0<z1.1)) (W.idx l (IntKind.i64.wrap (z1.1 - 1)) λx8=>W.idx l z1.1 λx9=>W.both (W.call (zdh x8.1 x9.1) λv10=>(k4 ((!v10),()))) (W.call (zdh x8.1 x9.1) λv11=>(k4 ((!v11),()))))
    (W.both ((k4 (false,()))) ((k4 (false,())))))))
  (some true))
 (0,())
def yhx:=ztg stdW
theorem yox:ECok Tryz.prog 112 (.es ⟨(.pair (.slc tAHold) .unit),(.v .bool),λx=>yhx x.1⟩):=es_z (λW x=>ztg W x.1) (cc yoy (cc zdy cn)) [(4,[],(.rd 0 (.rd 1 (.rd 2 (.rd 3 (.rd 4 (.rd 5 (.rd 6 (.rd 7 (.rd 8 (.rd 9 (.rd 10 (.rd 11 (.rd 12 (.op 13 (.rd 14 (.rd 15 (.rd 16 (.rd 17 (.rd 18 (.rd 19 (.rd 20 (.rd 21 (.rd 22 (.rd 23 (.rd 24 (.rd 26 (.rd 27 (.rd 28 (.rd 29 (.two 25 30 (oN [60,62,65,67,69]) (oN [50,62,65,67,69]))))))))))))))))))))))))))))))))] [(500044,⟨[(44,.t .bool)],[],[]⟩)] [(2,⟨[(3,.t (.int .i64))],[],[]⟩)] Tryz.func112
def zke(W:Wd)(l:List AHold')(u:AUnit')(all:List zcc):Option (List AHold'):=
 W.join (λ(z1:Int×List AHold'×Unit)=>
 W.join (λ(z2:List AHold'×Unit)=>
  W.join (λ(z3:Int×List AHold'×Unit)=>W.bnd z3.1 l.length λh4=>W.room (z3.2.1.length+((l.take l.length).drop h4).length) 40 (some (z3.2.1++((l.take l.length).drop h4))))
  λk5=>
  W.join (λ(z6:Bool×List AHold'×Unit)=>
   W.cnd z6.1 ((k5 ((IntKind.i64.wrap (z1.1+1)),z6.2)))
   ((k5 (z1.1,z6.2))))
   λk7=>
   W.cnd (decide (z1.1<(l.length:Int))) (W.idx l z1.1 λx8=>(k7 ((Go.Vc.notIf false ((x8.1.1==u.1)&&(x8.1.2.1==u.2.1))),z2)))
   ((k7 (false,z2))))
  λk9=>
  W.cnd (decide (0<(all.length:Int))) (W.room (z1.2.1.length+((u,(all,()))::[]).length) 40 ((k9 ((z1.2.1++((u,(all,()))::[])),()))))
  ((k9 z1.2)))
 λk10=>
 W.loop (λ(z11:Int×List AHold'×Unit) again12=>
  W.cnd (decide (z11.1<(l.length:Int))) (W.idx l z11.1 λx13=>W.call (zdh x13.1 u) λv14=>
  W.cnd v14 (W.idx l z11.1 λx15=>W.room (z11.2.1.length+(x15::[]).length) 40 ((again12 ((IntKind.i64.wrap (z11.1+1)),((z11.2.1++(x15::[])),())))))
   ((k10 z11)))
  ((k10 z11)))
  (0,([],()))
def zon:=zke stdW
theorem yhu:ECok Tryz.prog 296 (.es ⟨(.pair (.slc tAHold) (.pair tAUnit (.pair (.slc tAAsset) .unit))),(.own 55 tAHold),λx=>zon x.1 x.2.1 x.2.2.1⟩):=es_z (λW x=>zke W x.1 x.2.1 x.2.2.1) (cc zdy cn) [(3,[],(oN [1,3,5,7,9,11,13,15,17,19,21,22,25])),(8,[],(oN [1,3,5,7,9,11,13,15,17,19,21,23,25]))] [(6,⟨[(7,.row 1),(8,.t (.int .i64))],[],[.dead,.own 55 tAHold]⟩),(8,⟨[(7,.row 1)],[],[.dead,.own 55 tAHold]⟩),(10,⟨[(7,.row 1),(8,.t (.int .i64))],[],[.dead,.own 55 tAHold]⟩),(500052,⟨[(7,.row 1),(52,.t .bool)],[],[.dead,.own 55 tAHold]⟩)] [(3,⟨[(7,.row 1),(8,.t (.int .i64))],[],[.dead,.own 55 tAHold]⟩)] Tryz.func296
def zkg(W:Wd)(l:List AHold')(from_:AUnit')(to_:AUnit'):Option ((List AHold')×Int×Unit):=W.call (yhx l) λv1=>
 W.cnd (!v1) (some ([],(3,())))
 (
 W.cnd (Go.Vc.notIf false ((from_.1==to_.1)&&(from_.2.1==to_.2.1))) (some ([],(24,())))
  (W.call (zgo l to_) λv2=>
  W.cnd (decide (0<(v2.length:Int))) (some ([],(21,())))
  (W.call (zon l from_ []) λv3=>W.call (zgo l from_) λv4=>W.call (zon v3 to_ v4) λv5=>some (v5,(0,())))))
def zop:=zkg stdW
theorem yhw:ECok Tryz.prog 170 (.es ⟨(.pair (.slc tAHold) (.pair tAUnit (.pair tAUnit .unit))),(.pair (.own 55 tAHold) (.pair (.v (.int .i64)) .unit)),λx=>zop x.1 x.2.1 x.2.2.1⟩):=es_z (λW x=>zkg W x.1 x.2.1 x.2.2.1) (cc yox (cc ztf (cc yhu cn))) [(7,[],(oN [1,3,7,9,11,4,12,14,17,19]))] [] [] Tryz.func170
def zkt(W:Wd)(l:List zag)(from_:AUnit'):Option (List zag):=
 W.loop (λ(z1:Int×List zag×Unit) again2=>
 W.cnd (decide (z1.1<(l.length:Int))) (
  W.join (λ(z3:List zag×Unit)=>(again2 ((IntKind.i64.wrap (z1.1+1)),z3)))
  λk4=>W.idx l z1.1 λx5=>
  W.cnd (Go.Vc.notIf true ((x5.1.1==from_.1)&&(x5.1.2.1==from_.2.1))) (W.idx l z1.1 λx6=>W.room (z1.2.1.length+(x6::[]).length) 40 ((k4 ((z1.2.1++(x6::[])),()))))
   ((k4 z1.2)))
  (some z1.2.1))
 (0,([],()))
def zoy:=zkt stdW
theorem yig:ECok Tryz.prog 171 (.es ⟨(.pair (.slc tAChoice) (.pair tAUnit .unit)),(.own 140 tAChoice),λx=>zoy x.1 x.2.1⟩):=es_z (λW x=>zkt W x.1 x.2.1) cn [(5,[],(oN [1,3,5,7,9,11,13]))] [(4,⟨[(5,.row 1)],[],[.dead,.own 140 tAChoice]⟩)] [(3,⟨[(5,.row 1),(6,.t (.int .i64))],[],[.dead,.own 140 tAChoice]⟩)] Tryz.func171
def zkc(W:Wd)(s:zae)(from_:AUnit'):Option (zae×AUnit'×Int×Unit):=W.call (ybk s from_) λv1=>
 W.cnd (v1.2.1 != 0) (some ((0,([],([],([],([],([],([],([],([],([],([],([],())))))))))))),((0,(0,())),v1.2)))
 (W.call (zhl s.2.2.2.2.2.2.2.2.1 from_) λv2=>W.call (zor s.2.2.2.2.2.2.2.2.1 from_ v1.1 v2) λv3=>
 W.cnd (v3.2.1 != 0) (some ((0,([],([],([],([],([],([],([],([],([],([],([],())))))))))))),((0,(0,())),v3.2)))
  (W.call (zto s.2.2.2.2.2.2.2.2.2.2.1) λv4=>
  W.cnd (!v4) (some ((0,([],([],([],([],([],([],([],([],([],([],([],())))))))))))),((0,(0,())),(3,()))))
  (W.call (ziw s.2.2.2.2.2.2.2.2.2.2.1 from_) λv5=>
  W.cnd (v5==(-9223372036854775808)) (some ((0,([],([],([],([],([],([],([],([],([],([],([],())))))))))))),((0,(0,())),(7,()))))
   (W.call (ztm s.2.2.2.2.2.2.2.2.2.2.1 ((from_,((IntKind.i64.wrap (0 - v5)),()))::((v1.1,(v5,()))::[]))) λv6=>W.call (zop s.2.2.2.2.2.2.2.2.2.2.2.1 from_ v1.1) λv7=>
   W.cnd (v7.2.1 != 0) (some ((0,([],([],([],([],([],([],([],([],([],([],([],())))))))))))),((0,(0,())),v7.2)))
   (W.call (zoy s.2.2.2.2.2.1 from_) λv8=>some ((s.1,(s.2.1,(s.2.2.1,(s.2.2.2.1,(s.2.2.2.2.1,(v8,(s.2.2.2.2.2.2.1,(s.2.2.2.2.2.2.2.1,(v3.1,(s.2.2.2.2.2.2.2.2.2.1,(v6.1,(v7.1,())))))))))))),(v1.1,(0,()))))))))
def zwc:=zkc stdW
theorem yhs:ECok Tryz.prog 43 (.es ⟨(.pair tAState (.pair tAUnit .unit)),(.pair (.v tAState) (.pair (.v tAUnit) (.pair (.v (.int .i64)) .unit))),λx=>zwc x.1 x.2.1⟩):=es_z (λW x=>zkc W x.1 x.2.1) (cc yls (cc zkk (cc yhz (cc ybm (cc zxx (cc ylu (cc yhw (cc yig cn)))))))) [(4,[],(oN [1,3,5,7,9,11,13,14,16,19,21,23,25,27])),(20,[2,3],(oN [1,3,4,6,9]))] [] [] Tryz.func43
def zla(W:Wd)(a:List zaf)(b:List zaf):Option Bool:=
 W.cnd ((a.length:Int) != (b.length:Int)) (some false)
 (
 W.loop (λ(z1:Int×Unit) again2=>
  W.cnd (decide (z1.1<(a.length:Int))) (W.idx a z1.1 λx3=>W.idx b z1.1 λx4=>
  W.cnd (Go.Vc.notIf true ((x3.1==x4.1)&&((x3.2.1==x4.2.1)&&((x3.2.2.1==x4.2.2.1)&&(x3.2.2.2.1==x4.2.2.2.1))))) (some false)
   ((again2 ((IntKind.i64.wrap (z1.1+1)),()))))
  (some true))
  (0,()))
def zwg:=zla stdW
theorem yij:ECok Tryz.prog 47 (.es ⟨(.pair (.slc tAMember) (.pair (.slc tAMember) .unit)),(.v .bool),λx=>zwg x.1 x.2.1⟩):=es_z (λW x=>zla W x.1 x.2.1) cn [(6,[],(oN [1,3,5,7,9,11,13,15,17]))] [] [(4,⟨[(5,.t (.int .i64))],[],[]⟩)] Tryz.func47
def zfr(W:Wd)(a:zab)(b:zab):Option Bool:=
 W.join (λ(z1:Bool×Unit)=>
 W.cnd z1.1 (some false)
  (
  W.loop (λ(z2:Int×Unit) again3=>
  W.cnd (decide (z2.1<(a.2.2.2.1.length:Int))) (W.idx a.2.2.2.1 z2.1 λx4=>W.idx b.2.2.2.1 z2.1 λx5=>
   W.cnd (x4 != x5) (some false)
   ((again3 ((IntKind.i64.wrap (z2.1+1)),()))))
   (some true))
  (0,())))
 λk6=>
 W.cnd (a.1 != b.1) ((k6 (true,())))
  (
  W.cnd (a.2.1 != b.2.1) ((k6 (true,())))
  (
  W.cnd (a.2.2.1 != b.2.2.1) ((k6 (true,())))
   ((k6 (((a.2.2.2.1.length:Int) != (b.2.2.2.1.length:Int)),())))))
def zkx:=zfr stdW
theorem zyu:ECok Tryz.prog 174 (.es ⟨(.pair tAAccount (.pair tAAccount .unit)),(.v .bool),λx=>zkx x.1 x.2.1⟩):=es_z (λW x=>zfr W x.1 x.2.1) cn [(6,[],(oN [1,3,5,7,9,11,13,15,17,19,21]))] [(500033,⟨[(33,.t .bool)],[],[]⟩)] [(4,⟨[(5,.t (.int .i64))],[],[]⟩)] Tryz.func174
def zkw(W:Wd)(a:List zab)(b:List zab):Option Bool:=
 W.cnd ((a.length:Int) != (b.length:Int)) (some false)
 (
 W.loop (λ(z1:Int×Unit) again2=>
  W.cnd (decide (z1.1<(a.length:Int))) (W.idx a z1.1 λx3=>W.idx b z1.1 λx4=>W.call (zkx x3 x4) λv5=>
  W.cnd (!v5) (some false)
   ((again2 ((IntKind.i64.wrap (z1.1+1)),()))))
  (some true))
  (0,()))
def zwf:=zkw stdW
theorem yih:ECok Tryz.prog 48 (.es ⟨(.pair (.slc tAAccount) (.pair (.slc tAAccount) .unit)),(.v .bool),λx=>zwf x.1 x.2.1⟩):=es_z (λW x=>zkw W x.1 x.2.1) (cc zyu cn) [(6,[],(oN [1,3,5,7,9,11,13,15,16,19]))] [] [(4,⟨[(5,.t (.int .i64))],[],[]⟩)] Tryz.func48
def zkq(W:Wd)(a:List zag)(b:List zag):Option Bool:=
 W.cnd ((a.length:Int) != (b.length:Int)) (some false)
 (
 W.loop (λ(z1:Int×Unit) again2=>
  W.cnd (decide (z1.1<(a.length:Int))) (W.idx a z1.1 λx3=>W.idx b z1.1 λx4=>
  W.cnd (Go.Vc.notIf true ((x3.1.1==x4.1.1)&&((x3.1.2.1==x4.1.2.1)&&((x3.2.1.1==x4.2.1.1)&&((x3.2.1.2.1==x4.2.1.2.1)&&(x3.2.2.1==x4.2.2.1)))))) (some false)
   ((again2 ((IntKind.i64.wrap (z1.1+1)),()))))
  (some true))
  (0,()))
def zox:=zkq stdW
theorem yie:ECok Tryz.prog 117 (.es ⟨(.pair (.slc tAChoice) (.pair (.slc tAChoice) .unit)),(.v .bool),λx=>zox x.1 x.2.1⟩):=es_z (λW x=>zkq W x.1 x.2.1) cn [(6,[],(oN [1,3,5,7,9,11,13,15,17]))] [] [(4,⟨[(5,.t (.int .i64))],[],[]⟩)] Tryz.func117
def zko(W:Wd)(a:List zcc)(b:List zcc):Option Bool:=
 W.cnd ((a.length:Int) != (b.length:Int)) (some false)
 (
 W.loop (λ(z1:Int×Unit) again2=>
  W.cnd (decide (z1.1<(a.length:Int))) (W.idx a z1.1 λx3=>W.idx b z1.1 λx4=>
  W.cnd (Go.Vc.notIf true ((x3.1==x4.1)&&((x3.2.1==x4.2.1)&&(x3.2.2.1==x4.2.2.1)))) (some false)
   ((again2 ((IntKind.i64.wrap (z1.1+1)),()))))
  (some true))
  (0,()))
def zwd:=zko stdW
theorem yib:ECok Tryz.prog 251 (.es ⟨(.pair (.slc tAAsset) (.pair (.slc tAAsset) .unit)),(.v .bool),λx=>zwd x.1 x.2.1⟩):=es_z (λW x=>zko W x.1 x.2.1) cn [(6,[],(oN [1,3,5,7,9,11,13,15,17]))] [] [(4,⟨[(5,.t (.int .i64))],[],[]⟩)] Tryz.func251
def zkf(W:Wd)(a:List AHold')(b:List AHold'):Option Bool:=
 W.cnd ((a.length:Int) != (b.length:Int)) (some false)
 (
 W.loop (λ(z1:Int×Unit) again2=>
  W.cnd (decide (z1.1<(a.length:Int))) (
  W.join (λ(z3:Bool×Unit)=>
   W.cnd z3.1 (some false)
   ((again2 ((IntKind.i64.wrap (z1.1+1)),()))))
   λk4=>W.idx a z1.1 λx5=>W.idx b z1.1 λx6=>
   W.cnd (Go.Vc.notIf true ((x5.1.1==x6.1.1)&&(x5.1.2.1==x6.1.2.1))) ((k4 (true,())))
   (W.idx a z1.1 λx7=>W.idx b z1.1 λx8=>W.call (zwd x7.2.1 x8.2.1) λv9=>(k4 ((!v9),()))))
  (some true))
  (0,()))
def zoo:=zkf stdW
theorem yhv:ECok Tryz.prog 121 (.es ⟨(.pair (.slc tAHold) (.pair (.slc tAHold) .unit)),(.v .bool),λx=>zoo x.1 x.2.1⟩):=es_z (λW x=>zkf W x.1 x.2.1) (cc yib cn) [(6,[],(oN [1,3,5,7,9,11,13,15,17,19,21,23,25,27,29,31,33,35,37,39,41,43,44,47,49]))] [(500041,⟨[(41,.t .bool)],[],[]⟩)] [(4,⟨[(5,.t (.int .i64))],[],[]⟩)] Tryz.func121
def zkb(W:Wd)(a:zae)(b:zae):Option Bool:=
 W.cnd (a.1==b.1) (W.call (zwg a.2.1 b.2.1) λv1=>
 W.cnd v1 (W.call (zwf a.2.2.2.2.1 b.2.2.2.2.1) λv2=>
  W.cnd v2 (W.call (zox a.2.2.2.2.2.1 b.2.2.2.2.2.1) λv3=>
  W.cnd v3 (W.call (zoq a.2.2.2.2.2.2.2.2.1 b.2.2.2.2.2.2.2.2.1) λv4=>
   W.cnd v4 (W.call (zou a.2.2.2.2.2.2.2.2.2.2.1 b.2.2.2.2.2.2.2.2.2.2.1) λv5=>
   W.cnd v5 (W.call (zoo a.2.2.2.2.2.2.2.2.2.2.2.1 b.2.2.2.2.2.2.2.2.2.2.2.1) λv6=>some v6)
    (some false))
   (some false))
   (some false))
  (some false))
  (some false))
 (some false)
def ziv:=zkb stdW
theorem yhr:ECok Tryz.prog 44 (.es ⟨(.pair tAState (.pair tAState .unit)),(.v .bool),λx=>ziv x.1 x.2.1⟩):=es_z (λW x=>zkb W x.1 x.2.1) (cc yij (cc yih (cc yie (cc yhy (cc yid (cc yhv cn)))))) [] [] [] Tryz.func44
def zyi(W:Wd):Option zae:=some (5,(((1,(0,(1,(6,()))))::((2,(9,(0,(0,()))))::[])),([],([],(((1,(1,(2,((2::[]),()))))::((3,(2,(4,((2::[]),()))))::[])),((((1,(2,())),((3,(2,())),(true,())))::[]),([],([],((((1,(2,())),(((1,((-9),()))::[]),()))::[]),([],((((1,(2,())),(7,()))::[]),([],()))))))))))))
def ycr:=zyi stdW
theorem yeo:ECok Tryz.prog 172 (.es ⟨.unit,(.v tAState),λx=>ycr ⟩):=es_z (λW x=>zyi W ) cn [] [] [] Tryz.func172
def zia(W:Wd):Option Bool:=W.call (ycr) λv1=>W.call (znn v1 (1,(2,()))) λv2=>
 W.cnd (v2.2.2.1==0) (
 W.cnd (Go.Vc.notIf false ((v2.2.1.1==3)&&(v2.2.1.2.1==2))) (
  W.cnd ((v2.1.2.2.2.2.2.2.2.2.1.length:Int)==1) (W.idx v2.1.2.2.2.2.2.2.2.2.1 0 λx3=>
  W.cnd (Go.Vc.notIf false ((x3.1.1==v2.2.1.1)&&(x3.1.2.1==v2.2.1.2.1))) (some ((v2.1.2.2.2.2.2.1.length:Int)==0))
   (some false))
  (some false))
  (some false))
 (some false)
def zsa:=zia stdW
theorem yep:ECok Tryz.prog 45 (.es ⟨.unit,(.v .bool),λx=>zsa ⟩):=es_z (λW x=>zia W ) (cc yeo (cc zyd cn)) [(2,[],(oN [1,3,5,7,9,11,13,15,17,19,21,23,25,27,29,31,33,35,37,39,41,43,45,47,49,51,53,55,57]))] [] [] Tryz.func45
def zfb(W:Wd)(s:zae)(from_:AUnit'):Option Bool:=W.call (zuo s) λv1=>W.call (znn v1 from_) λv2=>W.call (zwc v1 from_) λv3=>W.call (ziv v2.1 v3.1) λv4=>
 W.cnd v4 (
 W.cnd (Go.Vc.notIf false ((v2.2.1.1==v3.2.1.1)&&(v2.2.1.2.1==v3.2.1.2.1))) (
  W.cnd (v2.2.2.1==v3.2.2.1) (W.call (zsa) λv5=>some v5)
  (some false))
  (some false))
 (some false)
def zrj:=zfb stdW
theorem zwy:ECok Tryz.prog 9 (.es ⟨(.pair tAState (.pair tAUnit .unit)),(.v .bool),λx=>zrj x.1 x.2.1⟩):=es_z (λW x=>zfb W x.1 x.2.1) (cc ync (cc zyd (cc yhs (cc yhr (cc yep cn))))) [] [] [] Tryz.func9
end
end Go.Proofs.YtllkmncnmlmefaaGreat

namespace Go.Proofs.YtllkmncnmlmefaaGreat
open Go Go.Vc Go.RowKit
theorem r_nat(u:Nat)(hu:u<18446744073709551616):zgx (u:Int)=some (bigS false u):=nat_is u hu
theorem r_plus{xs ys:List Int}(hx:Nrm xs)(hy:Nrm ys)(lx:xs.length≤1000)(ly:ys.length≤1000):ziy xs ys=some (bitsOf (valB xs+valB ys)):=plus_is hx hy lx ly
theorem r_less{xs ys:List Int}(hx:Nrm xs)(hy:Nrm ys)(lx:xs.length≤1000)(ly:ys.length≤1000):zwi xs ys=some (decide (valB xs<valB ys)):=less_is hx hy lx ly
theorem r_minus{xs ys:List Int}(hx:Nrm xs)(hy:Nrm ys)(lx:xs.length≤1000)(hle:valB ys≤valB xs):zlf xs ys=some (bitsK xs.length (valB xs - valB ys)):=minus_is hx hy lx hle
theorem r_trim{g:Bool}{xs:List Int}(h:bitL xs)(lx:xs.length≤1000):zgq g xs=some (bigS g (valB xs)):=trim_is h lx
theorem ydt{n k K:Nat}(h:n<2 ^ k)(hk:k≤K):(bitsOf n).length≤K:=Nat.le_trans (zvi k n h) hk
theorem pw{a b k:Nat}(ha:a<2 ^ k)(hb:b<2 ^ k):a+b<2 ^ (k+1):=by rw[Nat.pow_succ]; omega
theorem zaa{α β:Type}{o:Option α}{a:α}(h:o=some a)(K:α→Option β):stdW.call o K=K a:=by subst h; rfl
theorem yhb{xs:List Int}(h:Nrm xs){k:Nat}(hl:xs.length≤k):valB xs<2 ^ k:=Nat.lt_of_lt_of_le (zvu xs h.bits) (Nat.pow_le_pow_right (by omega) hl)
theorem sum_len{a b:List Int}(ha:Nrm a)(hb:Nrm b){k:Nat}(la:a.length≤k)(lb:b.length≤k):(bitsOf (valB a+valB b)).length≤k+1:=ydt (pw (yhb ha la) (yhb hb lb)) (Nat.le_refl _)
theorem r_add{x y:BigT}(hx:Nb x)(hy:Nb y)(lx:x.2.1.length≤900)(ly:y.2.1.length≤900):zbt x y=some (big (bv x+bv y)):=by
 show zpm stdW x y=_
 have nx:=nb_nrm hx
 have ny:=nb_nrm hy
 unfold zpm
 have eta:∀z:BigT,(some (z.1,(z.2.1,())):Option BigT)=some z:=λz=>rfl
 by_cases h:x.1=y.1
 ·have e:notIf false (x.1==y.1)=true:=by simp[notIf,h]
  have hs:(bitsOf (valB x.2.1+valB y.2.1)).length≤1000:=Nat.le_trans (sum_len nx ny lx ly) (by omega)
  rw[e]
  show (stdW.call _ _:Option BigT)=_
  rw[zaa (r_plus nx ny (by omega) (by omega)),zaa (r_trim (ydv _) hs),eta,add_same h]
 ·have e:notIf false (x.1==y.1)=false:=by simp[notIf,h]
  rw[e]
  show (stdW.call _ _:Option BigT)=_
  rw[zaa (r_less nx ny (by omega) (by omega))]
  by_cases hl:valB x.2.1<valB y.2.1
  ·rw[decide_eq_true hl]
   show (stdW.call _ _:Option BigT)=_
   rw[zaa (r_minus ny nx (by omega) (by omega)),zaa (r_trim (bitL_K _ _) (by rw[len_K]; omega)),eta,add_less ny h hl]
  ·rw[decide_eq_false hl]
   show (stdW.call _ _:Option BigT)=_
   rw[zaa (r_minus nx ny (by omega) (by omega)),zaa (r_trim (bitL_K _ _) (by rw[len_K]; omega)),eta,add_more nx h hl]
end Go.Proofs.YtllkmncnmlmefaaGreat
namespace Go.Vc
open Go Go.RowKit
variable {β:Type}
theorem zbp{α S:Type}{l:List α}(hl:l.length≤9223372036854775807){f:Int×S→(Int×S→Option β)→Option β}(Inv:Nat→S→Prop)(g:List α→S→Option β){s0:S}(h0:Inv 0 s0)
  (hend:∀s (again:Int×S→Option β),Inv l.length s→f ((l.length:Int),s) again=g [] s)
  (hstep:∀i (h:i<l.length) s,Inv i s→∀again:Int×S→Option β,(∀s',Inv (i+1) s'→again (((i+1:Nat):Int),s')=g (l.drop (i+1)) s')→f ((i:Int),s) again=g (l[i]::l.drop (i+1)) s):
  stdW.loop f (0,s0)=g l s0:=by
 refine(zdm (λz=>(l.length+1) - z.1.toNat) (λz=>∃i:Nat,z.1=(i:Int)∧i≤l.length∧Inv i z.2) (λz=>g (l.drop z.1.toNat) z.2) ⟨0,rfl,by omega,h0⟩ (by show l.length+1 - 0<_; omega) ?_).trans ?_
 ·rintro⟨z,s⟩ ⟨i,hi,hle,hs⟩ again ha
  dsimp only at hi hs
  subst hi
  simp only[Int.toNat_natCast]
  by_cases h:i<l.length
  ·rw[zjk l i h]
   refine hstep i h s hs again λs' hs'=>?_
   have:=ha (((i+1:Nat):Int),s') ⟨i+1,rfl,by omega,hs'⟩ (by simp only[Int.toNat_natCast]; omega)
   simpa only[Int.toNat_natCast]using this
  ·obtain rfl:i=l.length:=by omega
   rw[List.drop_length]
   exact hend s again hs
 ·simp
theorem cnd_lt{i n:Nat}(h:i<n)(a b:Option β):stdW.cnd (decide ((i:Int)<(n:Int))) a b=a:=by rw[decide_eq_true (by omega)]; rfl
theorem zah{n:Nat}(a b:Option β):stdW.cnd (decide ((n:Int)<(n:Int))) a b=b:=by rw[decide_eq_false (by omega)]; rfl
theorem cnd_p{p:Prop}[Decidable p](a b:Option β):stdW.cnd (decide p) a b=if p then a else b:=by by_cases h:p<;>simp[h]
theorem cnd_b{c:Bool}(a b:Option β):stdW.cnd c a b=if c=true then a else b:=by cases c<;>rfl
theorem cnd_y{c:Bool}(h:c=true)(a b:Option β):stdW.cnd c a b=a:=by subst h; rfl
theorem cnd_n{c:Bool}(h:c=false)(a b:Option β):stdW.cnd c a b=b:=by subst h; rfl
theorem idx_w{α:Type}{l:List α}{i:Nat}(h:i<l.length)(K:α→Option β):stdW.idx l (i:Int) K=K l[i]:=idx_eq h K
theorem nth_w{α:Type}{l:List α}{i:Nat}(h:i<l.length)(K:α→Option β):stdW.nth l (Int.toNat (i:Int)) K=K l[i]:=by
 show idxR l _ K=_
 unfold idxR
 rw[Int.toNat_natCast,List.getElem?_eq_getElem h]
theorem room_w{n b:Nat}(h:n≤281474976710656)(h2:n*b≤140737488355328)(K:Option β):stdW.room n b K=K:=ybh h h2 K
theorem nn_w{b:Int}(h:0≤b)(K:Option β):stdW.nn b K=K:=nn_eq h K
theorem both_w(a:Option β):stdW.both a a=a:=both_eq a
theorem join_w{X:Type}(k:X→Option β)(f:(X→Option β)→Option β):stdW.join k f=f k:=rfl
theorem bnd_w{i:Int}{n:Nat}(h:0≤i)(h2:i≤n)(K:Nat→Option β):stdW.bnd i n K=K i.toNat:=bnd_eq h h2 K
theorem i64_s(i:Nat)(h:i<9223372036854775807):IntKind.i64.wrap ((i:Int)+1)=((i+1:Nat):Int):=yjz i h
end Go.Vc
namespace Go.Vc
variable {β:Type}
theorem loop_n{S:Type}{N:Nat}(hN:N<9223372036854775807){f:Int×S→(Int×S→Option β)→Option β}(Inv:Nat→S→Prop)(r:Option β){s0:S}(h0:Inv 0 s0)
  (hend:∀s (again:Int×S→Option β),Inv N s→f (((N:Nat):Int),s) again=r)
  (hstep:∀i,i<N→∀s,Inv i s→∀again:Int×S→Option β,(∀s',Inv (i+1) s'→again (((i+1:Nat):Int),s')=r)→f ((i:Int),s) again=r):
  stdW.loop f (0,s0)=r:=by
 refine(zdm (λz=>(N+1) - z.1.toNat) (λz=>∃i:Nat,z.1=(i:Int)∧i≤N∧Inv i z.2) (λ_=>r) ⟨0,rfl,by omega,h0⟩ (by show N+1 - 0<_; omega) ?_)
 rintro⟨z,s⟩ ⟨i,hi,hle,hs⟩ again ha
 dsimp only at hi hs
 subst hi
 by_cases h:i<N
 ·refine hstep i h s hs again λs' hs'=>?_
  exact ha (((i+1:Nat):Int),s') ⟨i+1,rfl,by omega,hs'⟩ (by simp only[Int.toNat_natCast]; omega)
 ·obtain rfl:i=N:=by omega
  exact hend s again hs
def sumBy{α:Type}(f:α→Int)(l:List α):Int:=(l.map f).sum
theorem sumBy_nil{α:Type}(f:α→Int):sumBy f []=0:=rfl
theorem yfe{α:Type}(f:α→Int)(x:α)(l:List α):sumBy f (x::l)=f x+sumBy f l:=by simp[sumBy]
theorem zsu{α:Type}(f:α→Int)(a b:List α):sumBy f (a++b)=sumBy f a+sumBy f b:=by simp[sumBy]
theorem yrc{α:Type}{f:α→Int}{B:Int}:∀{l:List α},(∀x∈l,-B≤f x∧f x≤B) → -(B*(l.length:Int))≤sumBy f l∧sumBy f l≤B*(l.length:Int)
 |[],_=>by simp[sumBy]
 |x::l,h=>by
  have h1:=h x (by simp)
  have h2:=yrc (l:=l) λw hw=>h w (by simp[hw])
  rw[yfe,List.length_cons,Int.natCast_add,Int.mul_add]
  omega
theorem yqh{α:Type}(p:α→Bool)(l:List α)(i:Nat)(h:i<l.length):(l.take (i+1)).filter p=(l.take i).filter p++(if p l[i]=true then [l[i]] else []):=by
 rw[show l.take (i+1)=l.take i++[l[i]] by simp,List.filter_append]
 congr 1
 by_cases hp:p l[i]=true<;>simp[hp]
theorem call_w{α β:Type}{o:Option α}{a:α}(h:o=some a)(K:α→Option β):stdW.call o K=K a:=by subst h; rfl
end Go.Vc


namespace Go.Proofs.YtllkmncnmlmefaaGreat
open Go Go.Vc Go.RowKit
def wv(w:zbg):Int:=w.1*18446744073709551616+w.2.1
def wOk(w:zbg):Prop:=(-9223372036854775808≤w.1∧w.1≤9223372036854775807)∧(0≤w.2.1∧w.2.1<18446744073709551616)
def wide(z:Int):zbg:=(z / 18446744073709551616,z % 18446744073709551616,())
def In128(z:Int):Prop := -170141183460469231731687303715884105728≤z∧z<170141183460469231731687303715884105728
instance (z:Int):Decidable (In128 z):=by unfold In128; infer_instance
theorem zvq(z:Int):wv (wide z)=z:=by unfold wide wv; simp only; omega
theorem wv_in(w:zbg)(h:wOk w):In128 (wv w):=by unfold wOk at h; unfold In128 wv; omega
theorem ygt(z:Int)(h:In128 z):wOk (wide z):=by unfold In128 at h; unfold wOk wide; simp only; omega
theorem wide_inj{a b:Int}(h:wide a=wide b):a=b:=by rw[←zvq a,h,zvq]
theorem shr63(n:Int)(h : -9223372036854775808≤n∧n≤9223372036854775807):n.fdiv (2 ^ min (Int.toNat 63) IntKind.i64.bits)=n / 18446744073709551616:=by
 have e:(2:Int) ^ min (Int.toNat 63) IntKind.i64.bits=9223372036854775808:=by decide +kernel
 rw[e,Int.fdiv_eq_ediv_of_nonneg _ (by omega)]; omega
def fit(z:Int):zbg×Int×Unit:=if In128 z then (wide z,0,()) else ((0,0,()),7,())
def I64(n:Int):Prop := -9223372036854775808≤n∧n≤9223372036854775807
theorem ypy{n:Int}(h:I64 n):In128 n:=by unfold I64 at h; unfold In128; omega
theorem r_wOf(n:Int)(h:I64 n):zrl n=some (wide n):=by
 show zyw stdW n=_
 unfold zyw
 rw[nn_w (by omega),shr63 n h,IntKind.wrap_u64]; rfl
def totT(V:Int):Int×Int×Int×Unit:=(V / 340282366920938463463374607431768211456,IntKind.i64.wrap (V / 18446744073709551616),V % 18446744073709551616,())
def InTot(V:Int):Prop := -1569275433846670190958947355801916604025588861116008628224≤V∧V<1569275433846670190958947355801916604025588861116008628224
theorem yon(z:Int):IntKind.u64.wrap (IntKind.i64.wrap z)=z % 18446744073709551616:=by
 rw[IntKind.wrap_u64,IntKind.wrap_i64]; omega
theorem yey(z:Int):IntKind.i64.wrap (z % 18446744073709551616)=IntKind.i64.wrap z:=by
 rw[IntKind.wrap_i64,IntKind.wrap_i64]; omega
theorem tot_next(V x y:Int)(hV:InTot V)(hx : -9223372036854775808≤x∧x≤9223372036854775807)(hy:0≤y∧y<18446744073709551616):
  ((IntKind.i64.wrap (V / 340282366920938463463374607431768211456+IntKind.i64.wrap (x.fdiv (2 ^ min (Int.toNat 63) IntKind.i64.bits)+IntKind.i64.wrap ((IntKind.u64.wrap (IntKind.i64.wrap (V / 18446744073709551616))+IntKind.u64.wrap x+(V % 18446744073709551616+y+0) / 18446744073709551616) / 18446744073709551616))),
   IntKind.i64.wrap ((IntKind.u64.wrap (IntKind.i64.wrap (V / 18446744073709551616))+IntKind.u64.wrap x+(V % 18446744073709551616+y+0) / 18446744073709551616) % 18446744073709551616),
   (V % 18446744073709551616+y+0) % 18446744073709551616,()):Int×Int×Int×Unit)=totT (V+(x*18446744073709551616+y)):=by
 unfold InTot at hV
 rw[yon,yey,shr63 x hx,IntKind.wrap_u64]
 have e1:(V+(x*18446744073709551616+y)) / 18446744073709551616=V / 18446744073709551616+x+(V % 18446744073709551616+y+0) / 18446744073709551616:=by omega
 have e0:(V+(x*18446744073709551616+y)) / 340282366920938463463374607431768211456=(V / 18446744073709551616+x+(V % 18446744073709551616+y+0) / 18446744073709551616) / 18446744073709551616:=by omega
 have e3:V / 340282366920938463463374607431768211456=V / 18446744073709551616 / 18446744073709551616:=by omega
 unfold totT
 rw[e1,e0,e3]
 have hc:0≤(V % 18446744073709551616+y+0) / 18446744073709551616∧(V % 18446744073709551616+y+0) / 18446744073709551616≤1:=by omega
 generalize (V % 18446744073709551616+y+0) / 18446744073709551616=c at*
 have hu : -92233720368547758080000000000000000000≤V / 18446744073709551616∧V / 18446744073709551616<92233720368547758080000000000000000000:=by omega
 generalize V / 18446744073709551616=u at*
 have f1:(V+(x*18446744073709551616+y)) % 18446744073709551616=(V % 18446744073709551616+y+0) % 18446744073709551616:=by omega
 rw[f1]
 have g2:(u % 18446744073709551616+x % 18446744073709551616+c) / 18446744073709551616≤2∧0≤(u % 18446744073709551616+x % 18446744073709551616+c) / 18446744073709551616:=by omega
 have g1:IntKind.i64.wrap ((u % 18446744073709551616+x % 18446744073709551616+c) / 18446744073709551616)=(u % 18446744073709551616+x % 18446744073709551616+c) / 18446744073709551616:=IntWalk.i64_in _ (by omega)
 rw[g1]
 have g3:IntKind.i64.wrap (x / 18446744073709551616+(u % 18446744073709551616+x % 18446744073709551616+c) / 18446744073709551616)=x / 18446744073709551616+(u % 18446744073709551616+x % 18446744073709551616+c) / 18446744073709551616:=IntWalk.i64_in _ (by omega)
 rw[g3]
 have g4:u / 18446744073709551616+(x / 18446744073709551616+(u % 18446744073709551616+x % 18446744073709551616+c) / 18446744073709551616)=(u+x+c) / 18446744073709551616:=by omega
 rw[g4]
 have g5:IntKind.i64.wrap ((u+x+c) / 18446744073709551616)=(u+x+c) / 18446744073709551616:=IntWalk.i64_in _ (by omega)
 rw[g5]
 have g6:IntKind.i64.wrap (u % 18446744073709551616+x % 18446744073709551616+c)=IntKind.i64.wrap (u+x+c):=by rw[IntKind.wrap_i64,IntKind.wrap_i64]; omega
 rw[g6]
theorem ytr{x y c:Int}(hx:0≤x)(hy:0≤y)(hc0:0≤c)(hc:c≤1):add64 x y c=some ((x+y+c) % 18446744073709551616,(x+y+c) / 18446744073709551616,()):=by unfold add64; rw[if_pos ⟨hx,hy,hc0,hc⟩]
theorem r_tadd(V:Int)(x:zbg)(hV:InTot V)(hx:wOk x):zcf x (totT V).1 (totT V).2.1 (totT V).2.2.1=some ((),totT (V+wv x)):=by
 unfold wOk at hx
 show zer stdW x (V / 340282366920938463463374607431768211456) (IntKind.i64.wrap (V / 18446744073709551616)) (V % 18446744073709551616)=_
 unfold zer wv
 rw[←tot_next V x.1 x.2.1 hV hx.1 hx.2]
 have hV':=hV
 unfold InTot at hV'
 rw[zaa (ytr (by omega) (by omega) (by omega) (by omega)),zaa (ytr (by rw[IntKind.wrap_u64]; omega) (by rw[IntKind.wrap_u64]; omega) (by show 0≤(V % 18446744073709551616+x.2.1+0) / 18446744073709551616; omega) (by show (V % 18446744073709551616+x.2.1+0) / 18446744073709551616≤1; omega)),nn_w (by omega)]
theorem tot_fits(V:Int)(hV:InTot V):(V / 340282366920938463463374607431768211456==(IntKind.i64.wrap (V / 18446744073709551616)).fdiv (2 ^ min (Int.toNat 63) IntKind.i64.bits))=decide (In128 V):=by
 have hr : -9223372036854775808≤IntKind.i64.wrap (V / 18446744073709551616)∧IntKind.i64.wrap (V / 18446744073709551616)≤9223372036854775807:=by
  rw[IntKind.wrap_i64]; omega
 rw[shr63 _ hr]
 unfold InTot at hV
 by_cases h:In128 V
 ·rw[decide_eq_true h]
  unfold In128 at h
  rw[IntWalk.i64_in _ (by omega)]
  first|(simp; done)|(simp; omega)|skip
 ·rw[decide_eq_false h]
  unfold In128 at h
  rw[IntKind.wrap_i64]
  simp; omega
theorem r_ranged(w:zbg)(ok:Bool):zrk w ok=some (if ok=true then (w,0,()) else ((0,0,()),7,())):=by
 show zhg stdW w ok=_
 unfold zhg
 cases ok<;>rfl
theorem r_tdone(V:Int)(hV:InTot V):zdq (totT V).1 (totT V).2.1 (totT V).2.2.1=some (fit V,totT V):=by
 show zeg stdW _ _ _=_
 unfold zeg
 rw[nn_w (by omega),zaa (r_ranged _ _)]
 have:=tot_fits V hV
 show some ((if (V / 340282366920938463463374607431768211456==(IntKind.i64.wrap (V / 18446744073709551616)).fdiv (2 ^ min (Int.toNat 63) IntKind.i64.bits))=true then _ else _),_)=_
 rw[this]
 unfold fit
 by_cases h:In128 V
 ·rw[if_pos (decide_eq_true h),if_pos h]
  have e:IntKind.i64.wrap (V / 18446744073709551616)=V / 18446744073709551616:=by unfold In128 at h; exact IntWalk.i64_in _ (by omega)
  show some (((IntKind.i64.wrap (V / 18446744073709551616),V % 18446744073709551616,()),0,()),_)=_
  rw[e]; rfl
 ·rw[decide_eq_false h,if_neg (by simp),if_neg h]
def sumW(l:List zbg):Int:=(l.map wv).sum
theorem sumW_in:∀(l:List zbg),(∀w∈l,wOk w) → -(170141183460469231731687303715884105728*(l.length:Int))≤sumW l∧sumW l≤170141183460469231731687303715884105728*(l.length:Int)
 |[],_=>by simp[sumW]
 |x::l,h=>by
  have h1:=wv_in x (h x (by simp))
  have h2:=sumW_in l λw hw=>h w (by simp[hw])
  unfold In128 at h1
  simp only[sumW,List.map_cons,List.sum_cons,List.length_cons]at h2 ⊢
  omega
theorem yqy(l:List zbg)(h:∀w∈l,wOk w)(hl:l.length<9223372036854775807):InTot (sumW l):=by
 have:=sumW_in l h
 unfold InTot; omega
theorem sumW_app(a b:List zbg):sumW (a++b)=sumW a+sumW b:=by unfold sumW; simp
theorem sumW_one(a:zbg):sumW [a]=wv a:=by unfold sumW; simp
theorem sumW_take(l:List zbg)(i:Nat)(h:i<l.length):sumW (l.take (i+1))=sumW (l.take i)+wv l[i]:=by
 rw[show l.take (i+1)=l.take i++[l[i]] by simp,sumW_app,sumW_one]
theorem r_wAdd(l:List zbg)(h:∀w∈l,wOk w)(hl:l.length<9223372036854775807):zyx l=some (fit (sumW l)):=by
 show zso stdW l=_
 unfold zso
 refine zbp (l:=l) (by omega) (λi s=>s=totT (sumW (l.take i))) (λ_ _=>some (fit (sumW l))) (by simp[sumW]; rfl) ?_ ?_
 ·rintro _ again rfl
  rw[List.take_length,zah,zaa (r_tdone _ (yqy l h hl))]
 ·rintro i hi _ rfl again ha
  rw[cnd_lt hi,idx_w hi,zaa (r_tadd _ _ (yqy _ (λw hw=>h w (List.mem_of_mem_take hw)) (by rw[List.length_take]; omega)) (h _ (List.getElem_mem hi)))]
  dsimp only
  rw[i64_s i (by omega)]
  exact ha _ (by rw[sumW_take l i hi])
theorem r_neg{a:BigT}(h:Nb a)(la:a.2.1.length≤1000):ziz a=some (big (-(bv a))):=by
 show zpj stdW a=_
 unfold zpj
 rw[zaa (r_trim (nb_nrm h).bits la),neg_is]
theorem r_sub{a b:BigT}(ha:Nb a)(hb:Nb b)(la:a.2.1.length≤900)(lb:b.2.1.length≤900):ybt a b=some (big (bv a - bv b)):=by
 show zpi stdW a b=_
 unfold zpi
 have e:∀z:BigT,(z.1,(z.2.1,()))=z:=λz=>rfl
 rw[zaa (r_neg hb (by omega)),zaa (r_add ha (nb_big _) la (by rw[neg_len hb]; exact lb)),bv_big]
 congr 2
theorem r_cmp{a b:BigT}(ha:Nb a)(hb:Nb b)(la:a.2.1.length≤900)(lb:b.2.1.length≤900):zub a b=some (if bv a - bv b=0 then 0 else if bv a - bv b<0 then -1 else 1):=by
 show zpl stdW a b=_
 unfold zpl
 have e:∀z:BigT,(z.1,(z.2.1,()))=z:=λz=>rfl
 rw[zaa (r_sub ha hb la lb)]
 by_cases h:bv a - bv b=0
 ·rw[cnd_y (by have:=(yto (bv a - bv b)).2 h; simp[this]),if_pos h]
 ·rw[cnd_n (by have:=mt (yto (bv a - bv b)).1 h; simpa using this),if_neg h,cnd_b]
  show (if decide (bv a - bv b<0)=true then _ else _)=_
  by_cases h2:bv a - bv b<0
  ·rw[if_pos (by simpa using h2),if_pos h2]
  ·rw[if_neg (by simpa using h2),if_neg h2]
theorem r_of{n:Int}(h:I64 n):zcx n=some (big n):=by
 show zua stdW n=_
 unfold I64 at h
 unfold zua
 by_cases h0:0≤n
 ·rw[cnd_y (decide_eq_true h0),u64_id n (by omega)]
  obtain⟨m,rfl⟩:=Int.eq_ofNat_of_zero_le h0
  rw[zaa (r_nat m (by omega)),bigS_f]
 ·rw[cnd_n (decide_eq_false h0),of_neg (by omega) (by omega)]
  obtain⟨m,hm⟩:=Int.eq_ofNat_of_zero_le (show 0 ≤ -(n+1) by omega)
  rw[hm,zaa (r_nat m (by omega))]
  have hl:(bitsOf m).length≤1000:=ydt (show m<2 ^ 64 by omega) (by omega)
  show stdW.call (ziy (bitsOf m) [1]) _=_
  rw[zaa (r_plus (yjl m) nrm1 hl (by simp)),of_negB (by omega) (by omega) hm.symm]
  rfl
theorem zlz{z:Int}(h : -170141183460469231731687303715884105728≤z∧z≤170141183460469231731687303715884105728):(big z).2.1.length≤200:=by
 refine len_big z ?_
 have:(2:Nat) ^ 200=1606938044258990275541962092341162602522202993782792835301376:=by decide
 omega
theorem yli(xs:List Int)(i:Nat)(h:i≤xs.length):valB (xs.drop i)≤valB xs:=by
 have h1:=zvt xs i h
 have h2:valB (xs.drop i)≤2 ^ i*valB (xs.drop i):=Nat.le_mul_of_pos_left _ (Nat.two_pow_pos i)
 omega
theorem r_int{z:Int}(h:I64 z):zds (big z)=some z:=by
 unfold I64 at h
 show zpk stdW (big z)=_
 unfold zpk
 have hb:bitL (big z).2.1:=ydv _
 have hv:valB (big z).2.1=z.natAbs:=zgt _
 have hl:(big z).2.1.length≤64:=zvi 64 _ (by omega)
 have hs:(big z).1=decide (z<0):=rfl
 generalize (big z).1=sg at*
 generalize (big z).2.1=xs at*
 refine(zdm (λz=>z.2.1.toNat) (λy=>∃i:Nat,i≤xs.length∧y=((if z<0 then -((valB (xs.drop i):Nat):Int) else ((valB (xs.drop i):Nat):Int)),((i:Int),()))) (λ_=>some z) ⟨xs.length,Nat.le_refl _,by simp[valB]⟩ (by show ((xs.length:Nat):Int).toNat<_; omega) ?_)
 rintro _ ⟨i,hi,rfl⟩ again ha
 show stdW.cnd (decide ((0:Int)<((i:Nat):Int))) _ _=_
 by_cases h0:i=0
 ·subst h0
  rw[cnd_n (c:=decide ((0:Int)<((0:Nat):Int))) rfl,List.drop_zero,hv]
  congr 1; split<;>omega
 ·have hm:i - 1<xs.length:=by omega
  rw[cnd_y (decide_eq_true (by omega)),join_w,zdz i (by omega) (by rw[zap]; omega)]
  have hd:xs.drop (i - 1)=xs[i - 1]::xs.drop i:=by rw[List.drop_eq_getElem_cons hm,show i - 1+1=i by omega]
  have hbit:=hb _ (List.getElem_mem hm)
  have hle:=yli xs (i - 1) (by omega)
  rw[hv,hd,valB]at hle
  have hx0:0≤xs[i - 1]∧xs[i - 1]≤1:=by rcases hbit with e|e<;>rw[e]<;>omega
  have next:∀n:Int,n=(if z<0 then -((valB (xs.drop (i - 1)):Nat):Int) else ((valB (xs.drop (i - 1)):Nat):Int))→again (n,(((i - 1:Nat):Int),()))=some z:=λn hn=>ha _ ⟨i - 1,by omega,by rw[hn]⟩ (by show ((i - 1:Nat):Int).toNat<((i:Nat):Int).toNat; omega)
  rw[hd,valB]at next
  by_cases hz:z<0
  ·rw[hs,cnd_y (decide_eq_true hz),idx_w hm]
   refine next _ ?_
   rw[if_pos hz,if_pos hz,IntWalk.i64_in xs[i - 1] (by omega),IntWalk.i64_in (2 * -((valB (xs.drop i):Nat):Int)) (by omega),IntWalk.i64_in _ (by omega)]
   omega
  ·rw[hs,cnd_n (decide_eq_false hz),idx_w hm]
   refine next _ ?_
   rw[if_neg hz,if_neg hz,IntWalk.i64_in xs[i - 1] (by omega),IntWalk.i64_in (2*((valB (xs.drop i):Nat):Int)) (by omega),IntWalk.i64_in _ (by omega)]
   omega
def sml(z:Int):Prop := -170141183460469231731687303715884105728≤z∧z≤170141183460469231731687303715884105728
instance (z:Int):Decidable (I64 z):=by unfold I64; infer_instance
theorem ysp(n:Nat):(bitsOf n).length<64↔n<9223372036854775808:=by
 constructor
 ·intro h
  have:=yhb (yjl n) (k:=63) (by omega)
  rw[zgt]at this; simpa using this
 ·intro h
  have:=zvi 63 n (by simpa using h)
  omega
theorem r_fits{z:Int}(h:sml z):zcz (big z)=some (decide (I64 z)):=by
 unfold sml at h
 have hw:zni ((big z).1,((big z).2.1,())) 64=some (decide (I64 z)):=by
  show zgj stdW (big z) 64=_
  unfold zgj
  rw[join_w]
  by_cases hz:z<0
  ·have hs:(big z).1=true:=decide_eq_true hz
   have e1:zgx 1=some (big 1):=r_nat 1 (by omega)
   have e2:zbt ((big z).1,((big z).2.1,())) ((big 1).1,((big 1).2.1,()))=some (big (z+1)):=by
    have:=r_add (nb_big z) (nb_big 1) (Nat.le_trans (zlz h) (by decide)) (Nat.le_trans (zlz (by omega)) (by decide))
    rw[bv_big,bv_big]at this; exact this
   have e3:(decide (((big (z+1)).2.1.length:Int)<64))=decide (I64 z):=by
    refine decide_eq_decide.2 ?_
    have:=ysp (z+1).natAbs
    show (((bitsOf (z+1).natAbs).length:Int)<64)↔_
    unfold I64; omega
   rw[cnd_y hs,both_w,zaa e1,zaa e2]
   show some (decide _)=_
   rw[e3]
  ·have hs:(big z).1=false:=decide_eq_false hz
   rw[cnd_n hs]
   show some (decide (((bitsOf z.natAbs).length:Int)<64))=_
   congr 1
   refine decide_eq_decide.2 ?_
   have:=ysp z.natAbs
   unfold I64; omega
 show zlg stdW (big z)=_
 unfold zlg
 rw[zaa hw]
def fits64(z:Int):Int×Int×Unit:=if I64 z then (z,0,()) else (0,7,())
theorem nif_t(c:Bool):notIf true c=!c:=by cases c<;>rfl
theorem nif_f(c:Bool):notIf false c=c:=by cases c<;>rfl
theorem r_wInt{z:Int}(h:In128 z):ygv (wide z)=some (fits64 z):=by
 show zsn stdW (wide z)=_
 unfold zsn
 have hw:IntKind.i64.wrap (wide z).2.1=IntKind.i64.wrap z:=yey z
 have hI:I64 (IntKind.i64.wrap z):=by unfold I64; rw[IntKind.wrap_i64]; omega
 rw[hw,zaa (r_wOf _ hI),nif_t]
 unfold fits64
 by_cases hz:I64 z
 ·have e:IntKind.i64.wrap z=z:=by unfold I64 at hz; exact IntWalk.i64_in _ (by omega)
  rw[if_pos hz,e,cnd_n (by simp)]
 ·rw[if_neg hz,cnd_y ?_]
  rw[Bool.not_eq_true']
  cases hc:((wide (IntKind.i64.wrap z)).1==(wide z).1&&(wide (IntKind.i64.wrap z)).2.1==(wide z).2.1) with
  |false=>rfl
  |true=>
   simp only[Bool.and_eq_true,beq_iff_eq]at hc
   have:wide (IntKind.i64.wrap z)=wide z:=Prod.ext hc.1 (Prod.ext hc.2 rfl)
   exact absurd (wide_inj this▸hI) hz
theorem ymf{z:Int}(h:In128 z):zjh (wide z) 0=some (fits64 z):=by
 show zmd stdW (wide z) 0=_
 unfold zmd
 rw[cnd_n (by decide),zaa (r_wInt h)]
theorem sum_in{l:List Int}(h:∀x∈l,I64 x) : -(9223372036854775808*(l.length:Int))≤l.sum∧l.sum≤9223372036854775808*(l.length:Int):=by
 have:=yrc (f:=λx:Int=>x) (B:=9223372036854775808) (l:=l) (λx hx=>by have:=h x hx; unfold I64 at this; omega)
 simpa[sumBy]using this
theorem sumW_wide(l:List Int):sumW (l.map wide)=l.sum:=by
 unfold sumW
 rw[List.map_map]
 have:(wv ∘ wide)=id:=funext zvq
 rw[this,List.map_id]
theorem wides_ok{l:List Int}(h:∀x∈l,I64 x):∀w∈l.map wide,wOk w:=by
 intro w hw
 obtain⟨x,hx,rfl⟩:=List.mem_map.1 hw
 exact ygt _ (ypy (h x hx))
theorem sum128{l:List Int}(h:∀x∈l,I64 x)(hl:l.length≤1000000):In128 l.sum:=by
 have:=sum_in h; unfold In128; omega
theorem r_wSum{l:List Int}(h:∀x∈l,I64 x)(hl:l.length≤1000000):zyx (l.map wide)=some (wide l.sum,0,()):=by
 rw[r_wAdd _ (wides_ok h) (by rw[List.length_map]; omega),sumW_wide]
 unfold fit; rw[if_pos (sum128 h hl)]
theorem r_fSum{l:List Int}(h:∀x∈l,I64 x)(hl:l.length≤1000000):zme l=some (fits64 l.sum):=by
 show zzz stdW l=_
 unfold zzz
 rw[nn_w (by omega),room_w (by simp; omega) (by simp; omega)]
 refine loop_n (N:=l.length) (by omega) (λi s=>s=((l.take i).map wide,())) (some (fits64 l.sum)) rfl ?_ ?_
 ·rintro _ again rfl
  rw[zah,List.take_length,zaa (r_wSum h hl),zaa (ymf (sum128 h hl))]
 ·rintro i hi _ rfl again ha
  rw[cnd_lt hi,idx_w hi,zaa (r_wOf _ (h _ (List.getElem_mem hi))),i64_s i (by omega),room_w (by simp; omega) (by simp; omega)]
  refine ha _ ?_
  rw[List.take_succ_eq_append_getElem hi,List.map_append]; rfl
theorem join_g{X β:Type}{k0:X→Option β}{f:(X→Option β)→Option β}{r:Option β}(h:∀k,k=k0→f k=r):stdW.join k0 f=r:=h k0 rfl
theorem zwj(a b:AUnit'):zdw a b=some (decide (ltA a b)):=by
 show zrc stdW a b=_
 unfold zrc
 by_cases h:a.1=b.1
 ·rw[cnd_n (by simp[h])]
  congr 1; refine decide_eq_decide.2 ?_; unfold ltA; omega
 ·rw[cnd_y (by simp[h])]
  congr 1; refine decide_eq_decide.2 ?_; unfold ltA; omega
theorem zpn(a b:AUnit'):zdh a b=some (decide (ltA a b)):=by
 show zky stdW a b=_
 unfold zky
 by_cases h1:a.1<b.1
 ·rw[cnd_y (decide_eq_true h1),decide_eq_true (by unfold ltA; omega)]
 ·rw[cnd_n (decide_eq_false h1)]
  by_cases h:a.1=b.1
  ·rw[cnd_y (by simp[h])]
   congr 1; refine decide_eq_decide.2 ?_; unfold ltA; omega
  ·rw[cnd_n (by simp[h]),decide_eq_false (by unfold ltA; omega)]
def PInv(l:List AFlow'):Prop:=(∀x∈l,x.2.1≠0)∧SrtA (l.map (·.1))
instance (l:List AFlow'):Decidable (PInv l):=by unfold PInv SrtA; infer_instance
def isP(l:List AFlow'):Bool:=decide (PInv l)
theorem ysu{l:List AFlow'}{i:Nat}(hi:i<l.length)(h:l[i].2.1=0):isP l=false:=
 decide_eq_false λhp=>hp.1 _ (List.getElem_mem hi) h
theorem yst{l:List AFlow'}{i:Nat}(hi:i<l.length)(h0:0<i)(h:¬ltA (l[i - 1]'(by omega)).1 l[i].1):isP l=false:=
 decide_eq_false λhp=>h (by
  have:=List.pairwise_iff_getElem.1 hp.2 (i - 1) i (by simp; omega) (by simpa using hi) (by omega)
  simpa using this)
theorem zzo{l:List AFlow'}{i:Nat}(hi:i<l.length)(inv:PInv (l.take i))(h1:l[i].2.1≠0)(h2:∀h0:0<i,ltA (l[i - 1]'(by omega)).1 l[i].1):PInv (l.take (i+1)):=by
 rw[List.take_succ_eq_append_getElem hi]
 refine⟨λx hx=>?_,?_⟩
 ·rcases List.mem_append.1 hx with hx|hx
  ·exact inv.1 x hx
  ·simp at hx; rw[hx]; exact h1
 ·show SrtA ((l.take i++[l[i]]).map (·.1))
  rw[List.map_append]
  refine List.pairwise_append.2 ⟨inv.2,by simp,λa ha b hb=>?_⟩
  simp only[List.map_cons,List.map_nil,List.mem_singleton]at hb
  subst hb
  obtain⟨k,hk,hka⟩:=List.mem_iff_getElem.1 ha
  have hk':k<i:=by simp at hk; omega
  have h3:=h2 (by omega)
  by_cases hki:k=i - 1
  ·subst hki; rw[←hka]; simpa using h3
  ·have h4:=List.pairwise_iff_getElem.1 inv.2 k (i - 1) (by simpa using hk) (by simp; omega) (by omega)
   rw[hka]at h4
   refine ltA_tr h4 ?_
   simpa using h3
theorem isP_end{l:List AFlow'}(h:PInv (l.take l.length)):isP l=true:=by rw[List.take_length]at h; exact decide_eq_true h
theorem r_is{l:List AFlow'}(hl:l.length≤1000000):zzh l=some (isP l):=by
 show zue stdW l=_
 unfold zue
 refine loop_n (N:=l.length) (by omega) (λi _=>PInv (l.take i)) (some (isP l)) (by simp[PInv]) ?_ ?_
 ·rintro _ again h
  rw[zah,isP_end h]
 ·rintro i hi _ inv again ha
  rw[cnd_lt hi,idx_w hi]
  refine join_g λk hk=>?_
  have kt:k (true,())=some false:=by subst hk; rfl
  have kf:k (false,())=again (((i+1:Nat):Int),()):=by rw[←i64_s i (by omega)]; subst hk; rfl
  clear hk
  by_cases h1:l[i].2.1=0
  ·rw[cnd_y (by simpa using h1),kt,ysu hi h1]
  ·rw[cnd_n (by simpa using h1)]
   by_cases h0:0<i
   ·rw[cnd_y (decide_eq_true (by omega)),zdz i h0 (by rw[zap]; omega),idx_w (by omega),zaa (zwj _ _)]
    by_cases h2:ltA (l[i - 1]'(by omega)).1 l[i].1
    ·rw[decide_eq_true h2]
     exact kf.trans (ha _ (zzo hi inv h1 λ_=>h2))
    ·rw[decide_eq_false h2,yst hi h0 h2]; exact kt
   ·rw[cnd_n (decide_eq_false (by omega))]
    exact kf.trans (ha _ (zzo hi inv h1 λh=>absurd h h0))
theorem r_is17{l:List AFlow'}(hl:l.length≤1000000):zto l=some (isP l):=by
 show ztn stdW l=_
 unfold ztn
 refine loop_n (N:=l.length) (by omega) (λi _=>PInv (l.take i)) (some (isP l)) (by simp[PInv]) ?_ ?_
 ·rintro _ again h
  rw[zah,isP_end h]
 ·rintro i hi _ inv again ha
  rw[cnd_lt hi]
  refine join_g λk hk=>?_
  have kt:k (true,())=some false:=by subst hk; rfl
  have kf:k (false,())=again (((i+1:Nat):Int),()):=by rw[←i64_s i (by omega)]; subst hk; rfl
  clear hk
  rw[idx_w hi]
  by_cases h1:l[i].2.1=0
  ·rw[cnd_y (by simpa using h1),kt,ysu hi h1]
  ·rw[cnd_n (by simpa using h1)]
   by_cases h0:0<i
   ·rw[cnd_y (decide_eq_true (by omega)),zdz i h0 (by rw[zap]; omega),idx_w (by omega),idx_w hi,zaa (zpn _ _)]
    by_cases h2:ltA (l[i - 1]'(by omega)).1 l[i].1
    ·rw[decide_eq_true h2]
     exact kf.trans (ha _ (zzo hi inv h1 λ_=>h2))
    ·rw[decide_eq_false h2,yst hi h0 h2]; exact kt
   ·rw[cnd_n (decide_eq_false (by omega))]
    exact kf.trans (ha _ (zzo hi inv h1 λh=>absurd h h0))
theorem eqA(a b:AUnit'):(a.1==b.1&&a.2.1==b.2.1)=decide (a=b):=by
 by_cases h:a=b
 ·subst h; simp
 ·rw[decide_eq_false h]
  cases hc:(a.1==b.1&&a.2.1==b.2.1) with
  |false=>rfl
  |true=>simp only[Bool.and_eq_true,beq_iff_eq]at hc; exact absurd (extA hc.1 hc.2) h
def getP:List AFlow'→AUnit'→Int
 |[],_=>0
 |x::l,u=>if x.1=u then x.2.1 else getP l u
theorem r_get{l:List AFlow'}{u:AUnit'}(hl:l.length≤1000000):zez l u=some (getP l u):=by
 show zpq stdW l u=_
 unfold zpq
 refine zbp (l:=l) (by omega) (λ_ _=>True) (λl _=>some (getP l u)) trivial ?_ ?_
 ·rintro _ again _
  rw[zah]; rfl
 ·rintro i hi _ _ again ha
  rw[cnd_lt hi,idx_w hi,nif_f,eqA]
  unfold getP
  by_cases h:l[i].1=u
  ·rw[cnd_y (decide_eq_true h),if_pos h]
  ·rw[cnd_n (decide_eq_false h),if_neg h,i64_s i (by omega)]
   exact ha _ trivial
theorem r_get17{l:List AFlow'}{u:AUnit'}(hl:l.length≤1000000):ziw l u=some (getP l u):=by
 show zow stdW l u=_
 unfold zow
 refine zbp (l:=l) (by omega) (λ_ _=>True) (λl _=>some (getP l u)) trivial ?_ ?_
 ·rintro _ again _
  rw[zah]; rfl
 ·rintro i hi _ _ again ha
  rw[cnd_lt hi,idx_w hi,nif_f,eqA]
  unfold getP
  by_cases h:l[i].1=u
  ·rw[cnd_y (decide_eq_true h),if_pos h,idx_w hi]
  ·rw[cnd_n (decide_eq_false h),if_neg h,i64_s i (by omega)]
   exact ha _ trivial
def amt(x:AFlow'):Int:=x.2.1
def okF(l:List AFlow'):Prop:=∀x∈l,I64 (amt x)
theorem okF.take{l:List AFlow'}(h:okF l)(i:Nat):okF (l.take i):=λx hx=>h x (List.mem_of_mem_take hx)
theorem r_addB{a b:Int}(ha:sml a)(hb:sml b):zbt (big a) (big b)=some (big (a+b)):=by
 unfold sml at*
 have:=r_add (nb_big a) (nb_big b) (Nat.le_trans (zlz ha) (by decide)) (Nat.le_trans (zlz hb) (by decide))
 rwa [bv_big,bv_big]at this
theorem big0:big 0=(false,([],())):=by unfold big; simp[bits0]
theorem zsc{n:Int}(h:I64 n):sml n:=by unfold I64 at h; unfold sml; omega
def ofFlow(u:AUnit')(x:AFlow'):Bool:=decide (x.1=u)
def amts(l:List AFlow')(u:AUnit'):List Int:=(l.filter (ofFlow u)).map amt
def sumU(l:List AFlow')(u:AUnit'):Int:=(amts l u).sum
theorem yky(l:List AFlow')(u:AUnit'):(amts l u).length≤l.length:=by
 unfold amts; rw[List.length_map]; exact List.length_filter_le _ _
theorem amts_ok{l:List AFlow'}(h:okF l)(u:AUnit'):∀x∈amts l u,I64 x:=by
 intro x hx
 obtain⟨y,hy,rfl⟩:=List.mem_map.1 hx
 exact h y (List.mem_filter.1 hy).1
theorem ydw(l:List AFlow')(u:AUnit')(i:Nat)(h:i<l.length):amts (l.take (i+1)) u=amts (l.take i) u++(if l[i].1=u then [l[i].2.1] else []):=by
 unfold amts
 rw[yqh _ _ _ h,List.map_append]
 unfold ofFlow
 by_cases hu:l[i].1=u<;>simp[hu,amt]
theorem r_amounts{l:List AFlow'}{u:AUnit'}(hl:l.length≤1000000):zli l u=some (amts l u):=by
 show zfs stdW l u=_
 unfold zfs
 refine loop_n (N:=l.length) (by omega) (λi s=>s=(amts (l.take i) u,())) (some (amts l u)) rfl ?_ ?_
 ·rintro _ again rfl
  rw[zah,List.take_length]
 ·rintro i hi _ rfl again ha
  rw[cnd_lt hi]
  refine join_g λk hk=>?_
  have kk:∀v:List Int,k (v,())=again (((i+1:Nat):Int),(v,())):=by intro v; rw[←i64_s i (by omega)]; subst hk; rfl
  clear hk
  have hlen:=yky (l.take i) u
  rw[List.length_take]at hlen
  rw[idx_w hi,nif_f,eqA]
  by_cases h:l[i].1=u
  ·rw[cnd_y (decide_eq_true h),room_w (by simp; omega) (by simp; omega),kk]
   refine ha _ ?_
   rw[ydw _ _ _ hi,if_pos h]
  ·rw[cnd_n (decide_eq_false h),kk]
   refine ha _ ?_
   rw[ydw _ _ _ hi,if_neg h,List.append_nil]
def payGo(all:List AFlow'):List AUnit'→List AFlow'→List AFlow'×Int×Unit
 |[],acc=>(acc,0,())
 |u::us,acc=>if I64 (sumU all u) then (if sumU all u≠0 then payGo all us (acc++[(u,sumU all u,())]) else payGo all us acc) else ([],7,())
def payP(l fl:List AFlow'):List AFlow'×Int×Unit:=if isP l=true then payGo (l++fl) (zci (l++fl)) [] else ([],3,())
theorem zss(l:List AFlow'):(zci l).length≤l.length:=by
 unfold zci
 rw[List.length_map,yot]
 exact Nat.le_trans (yqx _) (by simp)
theorem r_pay{l fl:List AFlow'}(h:okF l)(hf:okF fl)(hl:l.length+fl.length≤1000000):znl l fl=some (payP l fl):=by
 show zpp stdW l fl=_
 unfold zpp payP
 rw[zaa (r_is (by omega))]
 by_cases hp:isP l=true
 ·rw[hp,cnd_n (by decide),if_pos rfl]
  have hall:okF (l++fl):=λx hx=>(List.mem_append.1 hx).elim (h x) (hf x)
  have e1:zxp (l::(fl::[]))=some (l++fl):=by
   unfold zxp
   rw[show (l::(fl::[])).flatten=l++fl by simp,if_pos (by rw[List.length_append]; omega)]
  have hlen:(l++fl).length≤1000000:=by rw[List.length_append]; exact hl
  have e2:namedO (l++fl)=some (zci (l++fl)):=by unfold namedO; rw[if_pos (by omega)]
  rw[zaa e1,zaa e2]
  have hul:=zss (l++fl)
  generalize l++fl=all at*
  generalize zci all=us at*
  refine zbp (l:=us) (by omega) (λi (s:List AUnit'×List AFlow'×Unit)=>s.1=us∧s.2.1.length≤i) (λus' (s:List AUnit'×List AFlow'×Unit)=>some (payGo all us' s.2.1)) ⟨rfl,Nat.le_refl _⟩ ?_ ?_
  ·rintro⟨_,acc,⟨⟩⟩ again ⟨rfl,_⟩
   rw[zah]; rfl
  ·rintro i hi ⟨us',acc,⟨⟩⟩ ⟨hus,hacc⟩ again ha
   have hus:us=us':=hus.symm
   subst hus
   simp only at hacc
   rw[cnd_lt hi]
   refine join_g λk hk=>?_
   have kk:∀v:List AFlow',k (us,(v,()))=again (((i+1:Nat):Int),(us,(v,()))):=by intro v; rw[←i64_s i (by omega)]; subst hk; rfl
   clear hk
   show stdW.idx us (i:Int) _=_
   rw[idx_w hi]
   show stdW.nth us (Int.toNat (i:Int)) _=_
   rw[nth_w hi,zaa (r_amounts hlen)]
   show _=some (payGo all (us[i]::us.drop (i+1)) acc)
   rw[payGo]
   have e3:=r_fSum (amts_ok hall us[i]) (Nat.le_trans (yky _ _) hlen)
   change zme (amts all us[i])=some (if I64 (sumU all us[i]) then (sumU all us[i],0,()) else (0,7,())) at e3
   by_cases hI:I64 (sumU all us[i])
   ·rw[if_pos hI]at e3
    rw[if_pos hI,zaa e3]
    show stdW.cnd ((0:Int) != 0) _ (stdW.cnd (sumU all us[i] != 0) (stdW.room (acc.length+1) 24 (k (us,(acc++[(us[i],sumU all us[i],())],())))) (k (us,(acc,()))))=_
    rw[cnd_n (by decide)]
    by_cases h0:sumU all us[i]=0
    ·rw[if_neg (by simp[h0]),cnd_n (by simp[h0])]
     exact(kk acc).trans (ha _ ⟨rfl,by simp only; omega⟩)
    ·rw[if_pos h0,cnd_y (by simp[h0]),room_w (by omega) (by omega)]
     exact(kk (acc++[(us[i],sumU all us[i],())])).trans (ha _ ⟨rfl,by simp; omega⟩)
   ·rw[if_neg hI]at e3
    rw[if_neg hI,zaa e3]
    show stdW.cnd ((7:Int) != 0) (some ([],(7,()))) _=_
    rw[cnd_y (by decide)]
 ·have hp:isP l=false:=by simpa using hp
  rw[hp,cnd_y (by decide),if_neg (by simp)]
theorem not_i(a:Int)(h : -9223372036854775808≤a∧a≤9223372036854775807):bits .xor .i64 (-1) a = -1 - a:=by
 have e1:BitVec.ofInt 64 (-1)=BitVec.allOnes 64:=by decide
 show IntKind.i64.wrap (((BitVec.ofInt 64 (-1) ^^^ BitVec.ofInt 64 a).toNat:Nat):Int)=_
 rw[e1,BitVec.allOnes_xor,BitVec.toNat_not,BitVec.toNat_ofInt,IntKind.wrap_i64]
 have:(2:Int) ^ 64=18446744073709551616:=by decide
 omega
theorem not_u(a:Int)(h:0≤a∧a<18446744073709551616):bits .xor .u64 18446744073709551615 a=18446744073709551615 - a:=by
 have e1:BitVec.ofInt 64 18446744073709551615=BitVec.allOnes 64:=by decide
 show IntKind.u64.wrap (((BitVec.ofInt 64 18446744073709551615 ^^^ BitVec.ofInt 64 a).toNat:Nat):Int)=_
 rw[e1,BitVec.allOnes_xor,BitVec.toNat_not,BitVec.toNat_ofInt,IntKind.wrap_u64]
 have:(2:Int) ^ 64=18446744073709551616:=by decide
 omega
theorem r_wSub{a b:Int}(ha:In128 a)(hb:In128 b):ygu (wide a) (wide b)=some (fit (a - b)):=by
 show zsm stdW (wide a) (wide b)=_
 unfold zsm
 have ha':=ha
 have hb':=hb
 unfold In128 at ha' hb'
 have t0:InTot 0:=by unfold InTot; omega
 have t1:InTot a:=by unfold InTot; omega
 have t2:InTot (a+(-b - 1)):=by unfold InTot; omega
 have t3:InTot (a - b):=by unfold InTot; omega
 have s1:zcf (wide a) 0 0 0=some ((),totT a):=by
  have:=r_tadd 0 (wide a) t0 (ygt a ha)
  rw[zvq,Int.zero_add]at this
  exact this
 rw[zaa s1]
 have ec:(bits .xor .i64 (if true=true then (-1) else (if true=true then ((2 ^ ((IntKind.bits .i64) - 1)) - 1) else ((2 ^ (IntKind.bits .i64)) - 1))) (wide b).1,bits .xor .u64 (if false=true then (-1) else (if false=true then ((2 ^ ((IntKind.bits .u64) - 1)) - 1) else ((2 ^ (IntKind.bits .u64)) - 1))) (wide b).2.1,())=wide (-b - 1):=by
  have c1:(if false=true then (-1:Int) else (if false=true then ((2 ^ ((IntKind.bits .u64) - 1)) - 1) else ((2 ^ (IntKind.bits .u64)) - 1)))=18446744073709551615:=by decide
  rw[c1,if_pos rfl]
  unfold wide
  show (bits .xor .i64 (-1) (b / 18446744073709551616),bits .xor .u64 18446744073709551615 (b % 18446744073709551616),())=_
  rw[not_i _ (by omega),not_u _ (by omega)]
  refine Prod.ext ?_ (Prod.ext ?_ rfl)
  ·show -1 - b / 18446744073709551616=(-b - 1) / 18446744073709551616; omega
  ·show 18446744073709551615 - b % 18446744073709551616=(-b - 1) % 18446744073709551616; omega
 have s2:=r_tadd a (wide (-b - 1)) t1 (ygt _ (by unfold In128; omega))
 rw[zvq]at s2
 show stdW.call (zcf _ (totT a).1 (totT a).2.1 (totT a).2.2.1) _=_
 rw[ec,zaa s2,zaa (r_wOf 1 (by unfold I64; omega))]
 have s3:=r_tadd (a+(-b - 1)) (wide 1) t2 (ygt _ (by unfold In128; omega))
 rw[zvq,show a+(-b - 1)+1=a - b by omega]at s3
 show stdW.call (zcf (wide 1) (totT (a+(-b - 1))).1 (totT (a+(-b - 1))).2.1 (totT (a+(-b - 1))).2.2.1) _=_
 rw[zaa s3]
 show stdW.call (zdq (totT (a - b)).1 (totT (a - b)).2.1 (totT (a - b)).2.2.1) _=_
 rw[zaa (r_tdone _ t3)]
theorem r_fSub{a b:Int}(ha:I64 a)(hb:I64 b):zxj a b=some (fits64 (a - b)):=by
 show yaa stdW a b=_
 unfold yaa
 have hd:In128 (a - b):=by unfold I64 at ha hb; unfold In128; omega
 have e:fit (a - b)=(wide (a - b),0,()):=if_pos hd
 rw[zaa (r_wOf a ha),zaa (r_wOf b hb),zaa (r_wSub (ypy ha) (ypy hb)),e]
 show stdW.call (zjh (wide (a - b)) 0) _=_
 rw[zaa (ymf hd)]
def moveP(l:List AFlow')(f t:AUnit')(n:Int):List AFlow'×Int×Unit:=
 if I64 (-n) then payP l [(f,(-n,())),(t,(n,()))] else if isP l=true then ([],(7,())) else ([],(3,()))
theorem r_move{l:List AFlow'}{f t:AUnit'}{n:Int}(h:okF l)(hn:I64 n)(hl:l.length≤1000):zgr l f t n=some (moveP l f t n):=by
 show zlj stdW l f t n=_
 unfold zlj moveP
 have e:=r_fSub (a:=0) (b:=n) (by unfold I64; omega) hn
 rw[Int.zero_sub]at e
 unfold fits64 at e
 by_cases hI:I64 (-n)
 ·rw[if_pos hI]at e
  rw[if_pos hI,zaa e]
  refine join_g λk hk=>?_
  show stdW.cnd ((0:Int) != 0) _ _=_
  rw[cnd_n (by decide)]
  subst hk
  show stdW.cnd false _ (stdW.call (znl l [(f,(-n,())),(t,(n,()))]) _)=_
  rw[cnd_n rfl,zaa (r_pay h (by
   intro x hx
   simp only[List.mem_cons,List.not_mem_nil,or_false]at hx
   rcases hx with rfl|rfl
   ·exact hI
   ·exact hn) (by simp; omega))]
 ·rw[if_neg hI]at e
  rw[if_neg hI,zaa e]
  refine join_g λk hk=>?_
  show stdW.cnd ((7:Int) != 0) _ _=_
  rw[cnd_y (by decide),zaa (r_is (by omega))]
  subst hk
  by_cases hp:isP l=true
  ·rw[hp,if_pos rfl]; rfl
  ·have hp:isP l=false:=by simpa using hp
   rw[hp,if_neg (by simp)]
   show stdW.cnd false _ (stdW.call (znl l _) _)=_
   unfold I64 at hI hn
   have hn2:n = -9223372036854775808:=by omega
   rw[cnd_n rfl,zaa (r_pay h (by
    intro x hx
    simp only[List.mem_cons,List.not_mem_nil,or_false]at hx
    rcases hx with rfl|rfl
    ·show I64 0; unfold I64; omega
    ·show I64 n; unfold I64; omega) (by simp; omega))]
   unfold payP
   rw[hp,if_neg (by simp)]
theorem eqF(a b:AFlow'):(a.1.1==b.1.1&&(a.1.2.1==b.1.2.1&&a.2.1==b.2.1))=decide (a=b):=by
 by_cases h:a=b
 ·subst h; simp
 ·rw[decide_eq_false h]
  cases hc:(a.1.1==b.1.1&&(a.1.2.1==b.1.2.1&&a.2.1==b.2.1)) with
  |false=>rfl
  |true=>
   simp only[Bool.and_eq_true,beq_iff_eq]at hc
   exact absurd (Prod.ext (extA hc.1 hc.2.1) (Prod.ext hc.2.2 rfl)) h
theorem r_same{a:List AFlow'}(hl:a.length≤1000000):zou a a=some true:=by
 show zkp stdW a a=_
 unfold zkp
 rw[cnd_n (by simp)]
 refine loop_n (N:=a.length) (by omega) (λ_ _=>True) (some true) trivial ?_ ?_
 ·rintro _ again _
  rw[zah]
 ·rintro i hi _ _ again ha
  rw[cnd_lt hi,idx_w hi,idx_w hi,nif_t,eqF,cnd_n (by simp),i64_s i (by omega)]
  exact ha _ trivial
theorem r_few17(l:List AFlow')(hl:l.length≤9223372036854775807):znu l=some (l.take 20):=by
 show zqh stdW l=_
 unfold zqh
 by_cases h:20<l.length
 ·rw[cnd_y (decide_eq_true (by omega)),bnd_w (by omega) (by omega)]; rfl
 ·rw[cnd_n (decide_eq_false (by omega)),List.take_of_length_le (by omega)]
theorem okD_flows{l:DT.den (.slc tAFlow)}(h:DT.okD (.slc tAFlow) l):okF l∧l.length≤9223372036854775807:=by
 refine⟨λx hx=>wf_i64 (h.1 x hx).2.1,?_⟩
 have:=h.2
 rwa [zap]at this
theorem ypo{X β:Type}{N:Nat}(hN:N<9223372036854775808){f:X→(X→Option β)→Option β}(st:Nat→X)(r:Option β)
  (hend:∀again:X→Option β,f (st N) again=r) (hstep:∀i,i<N→∀again:X→Option β,again (st (i+1))=r→f (st i) again=r):stdW.loop f (st 0)=r:=by
 have key:∀n i,i≤N→N - i<n→loopF n f (st i)=r:=by
  intro n
  induction n with
  |zero=>intro i _ h; omega
  |succ n ih=>
   intro i hi hn
   show f (st i) (loopF n f)=r
   by_cases h:i<N
   ·exact hstep i h _ (ih (i+1) (by omega) (by omega))
   ·have:i=N:=by omega
    subst this; exact hend _
 show loopF FU f (st 0)=r
 exact key FU 0 (Nat.zero_le _) (by rw[FU_eq]; omega)
def insL(l:List AFlow'):List AUnit':=l.foldl (λa x=>insA x.1 a) []
theorem insL_srt(l:List AFlow'):SrtA (insL l):=(ypw l [] List.Pairwise.nil).1
theorem yfx(l:List AFlow'):insL l=zci l:=ynm l
theorem insL_len(l:List AFlow'):(insL l).length≤l.length:=by rw[yfx]; exact zss l
theorem insL_step(l:List AFlow')(i:Nat)(h:i<l.length):insL (l.take (i+1))=insA l[i].1 (insL (l.take i)):=by
 unfold insL
 rw[List.take_succ_eq_append_getElem h,List.foldl_append]; rfl
theorem r_units{l:List AFlow'}(hl:l.length≤1000000):zrs l=some (zci l):=by
 show zhm stdW l=_
 unfold zhm
 refine ypo (N:=l.length) (by omega) (λi=>(insL (l.take i),((i:Int),()))) (some (zci l)) ?_ ?_
 ·intro again
  show stdW.cnd (decide ((l.length:Int)<(l.length:Int))) _ _=_
  rw[zah,List.take_length,yfx]
 ·intro i hi again ha
  show stdW.cnd (decide ((i:Int)<(l.length:Int))) _ _=_
  rw[cnd_lt hi]
  refine join_g λk hk=>?_
  have kk:k (insL (l.take (i+1)),())=some (zci l):=by
   subst hk
   show again (insL (l.take (i+1)),(IntKind.i64.wrap ((i:Int)+1),()))=_
   rw[i64_s i (by omega)]; exact ha
  clear hk ha
  show stdW.idx l (i:Int) _=_
  rw[idx_w hi]
  rw[insL_step l i hi]at kk
  have hs:=insL_srt (l.take i)
  have hlen:(insL (l.take i)).length≤1000000:=Nat.le_trans (insL_len _) (by rw[List.length_take]; omega)
  generalize insL (l.take i)=out at*
  generalize l[i].1=u at*
  refine ypo (N:=out.length) (by omega) (λj=>((((lowU u (out.take j)).length:Nat):Int),(decide (u∈out.take j),((j:Int),())))) (some (zci l)) ?_ ?_
  ·intro again2
   show stdW.cnd (decide ((out.length:Int)<(out.length:Int))) _ (stdW.cnd (!decide (u∈out.take out.length)) (stdW.bnd (((lowU u (out.take out.length)).length:Nat):Int) out.length _) (k (out,())))=_
   rw[zah,List.take_length]
   obtain⟨e1,e2⟩:=ysj hs u
   have hle:(lowU u out).length≤out.length:=List.length_filter_le _ _
   by_cases hu:u∈out
   ·rw[cnd_n (by simp[hu])]
    rw[insA,if_pos hu]at kk; exact kk
   ·rw[cnd_y (by simp[hu]),bnd_w (by omega) (by omega)]
    have l1:(out.take (lowU u out).length).length≤1000000:=by rw[List.length_take]; omega
    show stdW.room (out.take (lowU u out).length).length 16 (stdW.room ((out.take (lowU u out).length).length+1) 16 (stdW.bnd (((lowU u out).length:Nat):Int) out.length _))=_
    rw[room_w (by omega) (by omega),room_w (by omega) (by omega),bnd_w (by omega) (by omega)]
    show stdW.room ((out.take (lowU u out).length++[u]).length+(out.drop (lowU u out).length).length) 16 (k ((out.take (lowU u out).length++[u])++out.drop (lowU u out).length,()))=_
    rw[room_w (by simp only[List.length_append,List.length_drop,List.length_cons,List.length_nil]; omega) (by simp only[List.length_append,List.length_drop,List.length_cons,List.length_nil]; omega),e1,e2]
    rw[insA,if_neg hu]at kk
    rw[List.append_assoc]; exact kk
  ·intro j hj again2 ha2
   show stdW.cnd (decide ((j:Int)<(out.length:Int))) _ _=_
   rw[cnd_lt hj]
   refine join_g λk9 hk9=>?_
   have k9k:∀a b,k9 (a,(b,()))=again2 (a,(b,(((j+1:Nat):Int),()))):=by
    intro a b; rw[←i64_s j (by omega)]; subst hk9; rfl
   clear hk9
   refine join_g λk13 hk13=>?_
   have mem:decide (u∈out.take (j+1))=(decide (u∈out.take j)||decide (out[j]=u)):=by
    rw[List.take_succ_eq_append_getElem hj]
    rw[Bool.eq_iff_iff]
    simp only[decide_eq_true_eq,Bool.or_eq_true,List.mem_append,List.mem_singleton]
    exact or_congr_right ⟨λh=>h.symm,λh=>h.symm⟩
   have fin:∀b,b=decide (u∈out.take (j+1))→k13 (b,())=some (zci l):=by
    rintro _ rfl
    subst hk13
    show stdW.idx out (j:Int) _=_
    rw[idx_w hj,zaa (zpn _ _)]
    rw[low_step hs u j hj]at ha2
    by_cases hlt:ltA out[j] u
    ·rw[if_pos hlt]at ha2
     rw[decide_eq_true hlt,cnd_y rfl]
     show k9 (IntKind.i64.wrap ((j:Int)+1),_)=_
     rw[i64_s j (by omega)]
     exact(k9k _ _).trans ha2
    ·rw[if_neg hlt]at ha2
     rw[decide_eq_false hlt,cnd_n rfl]
     exact(k9k _ _).trans ha2
   clear hk13
   show stdW.cnd (decide (u∈out.take j)) (k13 (true,())) (stdW.idx out (j:Int) _)=_
   by_cases h1:u∈out.take j
   ·rw[cnd_y (decide_eq_true h1)]
    exact fin _ (by rw[mem]; simp[h1])
   ·rw[cnd_n (decide_eq_false h1),idx_w hj,nif_f,eqA]
    exact fin _ (by rw[mem]; simp[h1])
theorem zly{X β:Type}{N:Nat}(hN:N<9223372036854775808){f:X→(X→Option β)→Option β}(st:Nat→X)(r:Option β){z0:X}(hz:z0=st 0)
  (hend:∀again:X→Option β,f (st N) again=r) (hstep:∀i,i<N→∀again:X→Option β,again (st (i+1))=r→f (st i) again=r):stdW.loop f z0=r:=by
 subst hz; exact ypo hN st r hend hstep
theorem sumU_take(l:List AFlow')(u:AUnit')(i:Nat)(h:i<l.length):sumU (l.take (i+1)) u=sumU (l.take i) u+(if l[i].1=u then l[i].2.1 else 0):=by
 unfold sumU
 rw[ydw _ _ _ h,List.sum_append]
 split<;>simp
theorem yra{l:List AFlow'}(h:okF l)(u:AUnit')(hl:l.length≤1000000):sml (sumU l u):=by
 have h1:=sum_in (amts_ok h u)
 have h2:=yky l u
 unfold sumU sml; omega
theorem r_pay17{l fl:List AFlow'}(h:okF l)(hf:okF fl)(hl:l.length+fl.length≤1000000):ztm l fl=some (payP l fl):=by
 show zov stdW l fl=_
 unfold zov payP
 rw[zaa (r_is17 (by omega))]
 by_cases hp:isP l=true
 ·rw[hp,cnd_n (by decide),if_pos rfl,room_w (by omega) (by omega),room_w (by omega) (by omega)]
  have hall:okF (l++fl):=λx hx=>(List.mem_append.1 hx).elim (h x) (hf x)
  have hlen:(l++fl).length≤1000000:=by rw[List.length_append]; exact hl
  rw[zaa (r_units hlen)]
  have hul:=zss (l++fl)
  generalize l++fl=all at*
  generalize zci all=us at*
  refine zbp (l:=us) (by omega) (λi (s:List AFlow'×Unit)=>s.1.length≤i) (λus' (s:List AFlow'×Unit)=>some (payGo all us' s.1)) (Nat.le_refl _) ?_ ?_
  ·rintro⟨acc,⟨⟩⟩ again _
   rw[zah]; rfl
  ·rintro i hi ⟨acc,⟨⟩⟩ hacc again ha
   simp only at hacc
   rw[cnd_lt hi]
   refine join_g λk hk=>?_
   have kk:∀v:List AFlow',v.length≤i+1→k (v,())=some (payGo all (us.drop (i+1)) v):=by
    intro v hv
    subst hk
    show again (IntKind.i64.wrap ((i:Int)+1),(v,()))=_
    rw[i64_s i (by omega)]
    exact ha (v,()) hv
   clear hk ha
   show _=some (payGo all (us[i]::us.drop (i+1)) acc)
   rw[payGo]
   refine zly (N:=all.length) (by omega) (λj=>(((j:Nat):Int),((big (sumU (all.take j) us[i])).1,((big (sumU (all.take j) us[i])).2.1,(acc,()))))) _ (by rw[List.take_zero,show sumU [] us[i]=0 from rfl,big0]; rfl) ?_ ?_
   ·intro again2
    show stdW.cnd (decide ((all.length:Int)<(all.length:Int))) _ (stdW.call (zcz (big (sumU (all.take all.length) us[i]))) _)=_
    rw[zah,List.take_length,zaa (r_fits (yra hall us[i] hlen))]
    by_cases hI:I64 (sumU all us[i])
    ·rw[decide_eq_true hI,cnd_n (by decide),if_pos hI]
     have e:=r_int hI
     show stdW.call (zds (big (sumU all us[i]))) _=_
     rw[zaa e]
     by_cases h0:sumU all us[i]=0
     ·rw[cnd_n (by simp[h0]),if_neg (by simp[h0])]
      exact kk acc (by omega)
     ·rw[cnd_y (by simp[h0]),if_pos h0]
      show stdW.idx us (i:Int) _=_
      rw[idx_w hi,zaa e]
      show stdW.room (acc.length+1) 24 (k (acc++[(us[i],sumU all us[i],())],()))=_
      rw[room_w (by omega) (by omega)]
      exact kk _ (by simp; omega)
    ·rw[decide_eq_false hI,cnd_y (by decide),if_neg hI]
   ·intro j hj again2 ha2
    show stdW.cnd (decide ((j:Int)<(all.length:Int))) _ _=_
    rw[cnd_lt hj]
    refine join_g λk2 hk2=>?_
    have kk2:k2 ((big (sumU (all.take (j+1)) us[i])).1,((big (sumU (all.take (j+1)) us[i])).2.1,(acc,())))=again2 (((j+1:Nat):Int),((big (sumU (all.take (j+1)) us[i])).1,((big (sumU (all.take (j+1)) us[i])).2.1,(acc,())))):=by
     rw[←i64_s j (by omega)]; subst hk2; rfl
    rw[ha2]at kk2
    clear hk2 ha2
    show stdW.idx all (j:Int) _=_
    rw[idx_w hj]
    show stdW.idx us (i:Int) _=_
    rw[idx_w hi,nif_f,eqA]
    rw[sumU_take _ _ _ hj]at kk2
    by_cases hu:all[j].1=us[i]
    ·rw[if_pos hu]at kk2
     rw[cnd_y (decide_eq_true hu)]
     show stdW.idx all (j:Int) _=_
     have h2:I64 all[j].2.1:=hall _ (List.getElem_mem hj)
     rw[idx_w hj,both_w,zaa (r_of h2)]
     show stdW.call (zbt (big (sumU (all.take j) us[i])) (big all[j].2.1)) _=_
     rw[zaa (r_addB (yra (hall.take j) us[i] (by rw[List.length_take]; omega)) (zsc h2))]
     exact kk2
    ·rw[if_neg hu,Int.add_zero]at kk2
     rw[cnd_n (decide_eq_false hu)]
     exact kk2
 ·have hp:isP l=false:=by simpa using hp
  rw[hp,cnd_y (by decide),if_neg (by simp)]
theorem r_cmpB{a b:Int}(ha:sml a)(hb:sml b):zub (big a) (big b)=some (if a - b=0 then 0 else if a - b<0 then -1 else 1):=by
 unfold sml at*
 have:=r_cmp (nb_big a) (nb_big b) (Nat.le_trans (zlz ha) (by decide)) (Nat.le_trans (zlz hb) (by decide))
 rwa [bv_big,bv_big]at this
theorem yje(all:List AFlow'):∀(us:List AUnit') (acc:List AFlow'),(payGo all us acc).2.1=0→
  (payGo all us acc).1=acc++(us.filter λu=>decide (sumU all u≠0)).map (λu=>(u,sumU all u,()))∧∀u∈us,I64 (sumU all u)
 |[],acc,_=>by simp[payGo]
 |u::us,acc,h=>by
  unfold payGo at h ⊢
  by_cases hI:I64 (sumU all u)
  ·rw[if_pos hI]at h ⊢
   by_cases h0:sumU all u≠0
   ·rw[if_pos h0]at h ⊢
    obtain⟨h1,h2⟩:=yje all us _ h
    refine⟨?_,λx hx=>?_⟩
    ·rw[h1,List.filter_cons,if_pos (by simpa using h0)]; simp
    ·rcases List.mem_cons.1 hx with rfl|hx
     ·exact hI
     ·exact h2 x hx
   ·rw[if_neg h0]at h ⊢
    obtain⟨h1,h2⟩:=yje all us _ h
    refine⟨?_,λx hx=>?_⟩
    ·rw[h1,List.filter_cons,if_neg (by simpa using h0)]
    ·rcases List.mem_cons.1 hx with rfl|hx
     ·exact hI
     ·exact h2 x hx
  ·rw[if_neg hI]at h; simp at h
theorem zft(x:AFlow')(l:List AFlow')(u:AUnit'):sumU (x::l) u=(if x.1=u then amt x else 0)+sumU l u:=by
 unfold sumU amts ofFlow
 rw[List.filter_cons]
 by_cases h:x.1=u<;>simp[h]
theorem yrb(a b:List AFlow')(u:AUnit'):sumU (a++b) u=sumU a u+sumU b u:=by
 unfold sumU amts; rw[List.filter_append,List.map_append,List.sum_append]
theorem yln{l:List AFlow'}{u:AUnit'}(h:∀x∈l,x.1≠u):sumU l u=0:=by
 induction l with
 |nil=>rfl
 |cons x l ih=>rw[zft,if_neg (h x (by simp)),ih λy hy=>h y (by simp[hy])]; rfl
def resP(all:List AFlow')(us:List AUnit'):List AFlow':=(us.filter λu=>decide (sumU all u≠0)).map λu=>(u,sumU all u,())
theorem srt_nd{us:List AUnit'}(h:SrtA us):us.Nodup:=List.Pairwise.imp (λ{a b} (hab:ltA a b) (e:a=b)=>by subst e; exact zcd _ hab) h
theorem resP_is{all:List AFlow'}{us:List AUnit'}(h:SrtA us):isP (resP all us)=true:=by
 refine decide_eq_true ⟨λx hx=>?_,?_⟩
 ·obtain⟨u,hu,rfl⟩:=List.mem_map.1 hx
  simpa using(List.mem_filter.1 hu).2
 ·unfold resP
  rw[List.map_map]
  have:((λx:AFlow'=>x.1) ∘ λu=>((u,sumU all u,()):AFlow'))=id:=rfl
  rw[this,List.map_id]
  exact h.filter _
theorem getP_none{l:List AFlow'}{u:AUnit'}(h:∀x∈l,x.1≠u):getP l u=0:=by
 induction l with
 |nil=>rfl
 |cons x l ih=>rw[getP,if_neg (h x (by simp)),ih λy hy=>h y (by simp[hy])]
theorem zzu:∀{l:List AFlow'},(l.map (·.1)).Nodup→∀u,getP l u=sumU l u
 |[],_,u=>rfl
 |x::l,h,u=>by
  obtain⟨h1,h2⟩:=List.nodup_cons.1 h
  rw[getP,zft]
  by_cases hu:x.1=u
  ·rw[if_pos hu,if_pos hu,yln λy hy e=>h1 (List.mem_map.2 ⟨y,hy,e.trans hu.symm⟩)]
   show amt x=_; omega
  ·rw[if_neg hu,if_neg hu,zzu h2]; omega
theorem isP_nd{l:List AFlow'}(h:isP l=true):(l.map (·.1)).Nodup:=srt_nd (of_decide_eq_true h).2
theorem resP_get(all:List AFlow')(u:AUnit'):getP (resP all (zci all)) u=sumU all u:=by
 by_cases h0:sumU all u=0
 ·rw[h0]
  refine getP_none λx hx e=>?_
  obtain⟨v,hv,rfl⟩:=List.mem_map.1 hx
  have:=(List.mem_filter.1 hv).2
  simp only[decide_eq_true_eq]at this
  exact this (by rw[show v=u from e]; exact h0)
 ·rw[zzu (isP_nd (resP_is (yau all)))]
  have hu:u∈zci all:=by
   rw[ylj]
   by_cases hx:∃x∈all,x.1=u
   ·exact hx
   ·exact absurd (yln λx hx' e=>hx ⟨x,hx',e⟩) h0
  have key:∀us:List AUnit',us.Nodup→sumU (resP all us) u=if u∈us then sumU all u else 0:=by
   intro us
   induction us with
   |nil=>intro _; rfl
   |cons v us ih=>
    intro hn
    obtain⟨h1,h2⟩:=List.nodup_cons.1 hn
    have ih:=ih h2
    unfold resP at ih ⊢
    rw[List.filter_cons]
    by_cases hv:v=u
    ·subst hv
     rw[if_pos (by simpa using h0),List.map_cons,zft,ih,if_neg h1,if_pos rfl,if_pos (by simp)]
     show sumU all v+0=_; omega
    ·have e:(if u∈v::us then sumU all u else 0)=if u∈us then sumU all u else 0:=by
      by_cases hm:u∈us
      ·rw[if_pos hm,if_pos (by simp[hm])]
      ·rw[if_neg hm,if_neg (by simp[hm,Ne.symm hv])]
     rw[e,←ih]
     by_cases hz:sumU all v=0
     ·rw[if_neg (by simp[hz])]
     ·rw[if_pos (by simp[hz]),List.map_cons,zft,if_neg hv]; omega
  rw[key _ (srt_nd (yau all)),if_pos hu]
theorem payP_ok{l f:List AFlow'}(h:(payP l f).2.1=0):isP l=true∧(payP l f).1=resP (l++f) (zci (l++f))∧∀u∈zci (l++f),I64 (sumU (l++f) u):=by
 unfold payP at h ⊢
 by_cases hp:isP l=true
 ·rw[if_pos hp]at h ⊢
  obtain⟨h1,h2⟩:=yje _ _ _ h
  exact⟨hp,by rw[h1,List.nil_append]; rfl,h2⟩
 ·rw[if_neg hp]at h; simp at h
theorem resP_ok{all:List AFlow'}{us:List AUnit'}(h:∀u∈us,I64 (sumU all u)):okF (resP all us):=by
 intro x hx
 obtain⟨u,hu,rfl⟩:=List.mem_map.1 hx
 exact h u (List.mem_filter.1 hu).1
theorem resP_len(all:List AFlow')(us:List AUnit'):(resP all us).length≤us.length:=by
 unfold resP; rw[List.length_map]; exact List.length_filter_le _ _
end Go.Proofs.YtllkmncnmlmefaaGreat
namespace Go.Proofs.YtllkmncnmlmefaaGreat
open Go Go.Vc Go.RowKit
end Go.Proofs.YtllkmncnmlmefaaGreat

namespace Go.Proofs.YtllkmncnmlmefaaGreat
open Go Go.Vc Go.RowKit
def absI(z:Int):Int:=if z<0 then -z else z
theorem abs_bd{a:Int}(h:I64 a):0≤absI a∧absI a≤9223372036854775808:=by unfold I64 at h; unfold absI; split<;>omega
theorem ydr{β:Type}{a b r:Option β}(ha:a=r)(hb:b=r):stdW.both a b=r:=by rw[ha,hb]; exact both_w r
theorem nilq_w{β:Type}(e:Bool)(f:Bool→Option β):stdW.nilq e f=nilF e f:=rfl
theorem loop_P{X β:Type}{f:X→(X→Option β)→Option β}(Q:Option β→Prop)(μ:X→Nat)(R:X→Prop){z:X}(hz:R z)(hm:μ z<18446744073709551616)
  (h:∀z,R z→∀again:X→Option β,(∀z',R z'→μ z'<μ z→Q (again z'))→Q (f z again)):Q (stdW.loop f z):=by
 have key:∀n z,R z→μ z<n→Q (loopF n f z):=by
  intro n
  induction n with
  |zero=>intro z _ h; omega
  |succ n ih=>intro z hz hm; exact h z hz _ λz' hz' hm'=>ih z' hz' (by omega)
 exact key FU z hz (by rw[FU_eq]; exact hm)
theorem loop_ai{X β:Type}{N:Nat}(hN:N<9223372036854775808){f:X→(X→Option β)→Option β}(st:Nat→X)(Inv:Nat→Prop)(r:Option β){z0:X}(hz:z0=st 0)(h0:Inv 0)
  (hend:Inv N→∀again:X→Option β,f (st N) again=r) (hstep:∀i,i<N→Inv i→∀again:X→Option β,(Inv (i+1)→again (st (i+1))=r)→f (st i) again=r):stdW.loop f z0=r:=by
 subst hz
 have key:∀n i,i≤N→N - i<n→Inv i→loopF n f (st i)=r:=by
  intro n
  induction n with
  |zero=>intro i _ h; omega
  |succ n ih=>
   intro i hi hn hv
   show f (st i) (loopF n f)=r
   by_cases h:i<N
   ·exact hstep i h hv _ λhv'=>ih (i+1) (by omega) (by omega) hv'
   ·have:i=N:=by omega
    subst this; exact hend hv _
 show loopF FU f (st 0)=r
 exact key FU 0 (Nat.zero_le _) (by rw[FU_eq]; omega) h0
theorem ypr{X β:Type}{Q:Option β→Prop}{k0:X→Option β}{f:(X→Option β)→Option β}(h:∀k,k=k0→Q (f k)):Q (stdW.join k0 f):=h k0 rfl
end Go.Proofs.YtllkmncnmlmefaaGreat