import Derived.Test.YtbpbkmngbhgpfaaGreatB5
namespace Go.Proofs.YtbpbkmngbhgpfaaGreat
open Go Go.Vc Go.RowKit
set_option maxRecDepth 100000
@[reducible] def tAUnit:DT:=(.pair (.int .i64) (.pair (.int .i64) .unit))
abbrev AUnit':=Int×Int×Unit
@[reducible] def tAFlow:DT:=(.pair tAUnit (.pair (.int .i64) .unit))
abbrev AFlow':=AUnit'×Int×Unit
@[reducible] def tAPos:DT:=(.pair tAUnit (.pair (.slc tAUnit) .unit))
abbrev APos':=AUnit'×(List AUnit')×Unit
@[reducible] def tAMember:DT:=(.pair (.int .i64) (.pair (.int .i64) (.pair (.int .i64) (.pair (.int .i64) .unit))))
abbrev AMember':=Int×Int×Int×Int×Unit
@[reducible] def tAInst:DT:=(.pair (.int .i64) (.pair (.int .i64) (.pair (.int .i64) (.pair (.int .i64) (.pair (.slc (.int .i64)) .unit)))))
abbrev AInst':=Int×Int×Int×Int×(List Int)×Unit
@[reducible] def tAAsset:DT:=(.pair (.int .i64) (.pair (.int .i64) (.pair (.int .i64) .unit)))
abbrev zad:=Int×Int×Int×Unit
@[reducible] def tAAccount:DT:=(.pair (.int .i64) (.pair (.int .i64) (.pair (.int .i64) (.pair (.slc (.int .i64)) .unit))))
abbrev zaa:=Int×Int×Int×(List Int)×Unit
@[reducible] def tAChoice:DT:=(.pair tAUnit (.pair tAUnit (.pair .bool .unit)))
abbrev AChoice':=AUnit'×AUnit'×Bool×Unit
@[reducible] def tAGroup:DT:=(.pair (.int .i64) (.pair tAUnit (.pair (.int .i64) (.pair (.int .i64) (.pair (.int .i64) .unit)))))
abbrev AGroup':=Int×AUnit'×Int×Int×Int×Unit
@[reducible] def tAGive:DT:=(.pair (.int .i64) (.pair tAUnit (.pair tAUnit (.pair tAUnit (.pair (.int .i64) (.pair (.int .i64) (.pair (.int .i64) (.pair (.int .i64) .unit))))))))
abbrev AGive':=Int×AUnit'×AUnit'×AUnit'×Int×Int×Int×Int×Unit
@[reducible] def tAHold:DT:=(.pair tAUnit (.pair (.slc tAAsset) .unit))
abbrev AHold':=AUnit'×(List zad)×Unit
@[reducible] def tAState:DT:=(.pair (.int .i64) (.pair (.slc tAMember) (.pair (.slc tAInst) (.pair (.slc tAAsset) (.pair (.slc tAAccount) (.pair (.slc tAChoice) (.pair (.slc tAGroup) (.pair (.slc tAGive) (.pair (.slc tAPos) (.pair (.slc tAPos) (.pair (.slc tAFlow) (.pair (.slc tAHold) .unit))))))))))))
abbrev zba:=Int×(List AMember')×(List AInst')×(List zad)×(List zaa)×(List AChoice')×(List AGroup')×(List AGive')×(List APos')×(List APos')×(List AFlow')×(List AHold')×Unit
@[reducible] def tAReturn:DT:=(.pair tAUnit (.pair (.int .i64) (.pair (.slc tAAsset) .unit)))
abbrev zam:=AUnit'×Int×(List zad)×Unit
@[reducible] def tWideWide:DT:=(.pair (.int .i64) (.pair (.int .u64) .unit))
abbrev zag:=Int×Int×Unit
@[reducible] def tWideSize:DT:=(.pair (.int .u64) (.pair (.int .u64) .unit))
abbrev zja:=Int×Int×Unit
@[reducible] def tNovationref01Big:DT:=(.pair .bool (.pair (.slc (.int .u8)) .unit))
abbrev zab:=Bool×(List Int)×Unit
noncomputable def zhl(W:Wd)(a:zaa):Option zaa:=
 W.join (fun (z1:Int×Int×Int×List (Int)×Unit)=>some (z1.1,(z1.2.1,(z1.2.2.1,(z1.2.2.2.1,())))))
 fun k2=>
 W.cnd (decide (20<(a.2.2.2.1.length:Int))) (W.bnd 20 a.2.2.2.1.length fun h3=>(k2 (a.1,(a.2.1,(a.2.2.1,((a.2.2.2.1.take h3),()))))))
  ((k2 (a.1,(a.2.1,(a.2.2.1,(a.2.2.2.1,()))))))
noncomputable def zow(a:zaa):Option zaa:=zhl stdW a
noncomputable def zrf:ES:=⟨(.pair tAAccount .unit),(.v tAAccount),fun x=>zow x.1⟩
theorem yav:ECok Tryz.prog 46 (.es zrf)   := es_ok (A:=(.pair tAAccount .unit)) (Q:=(.v tAAccount)) (fun W x=>zhl W x.1) [] trivial [] [(3,⟨[],[(0,[.t (.int .i64),.t (.int .i64),.t (.int .i64),.t (.slc (.int .i64))])],[]⟩)] [] Tryz.func46 rfl (by decide +kernel) rfl rfl (fun W x=>by kernel_rfl)
noncomputable def zqm(W:Wd)(a:zad):Option Bool:=
 W.cnd (decide (0<a.1)) (
 W.cnd (decide (a.1<5)) (
  W.cnd (decide (0≤a.2.1)) (
  W.cnd (decide (a.2.1<2147483648)) (
   W.cnd (decide (0≤a.2.2.1)) (some (decide (a.2.2.1<10001)))
   (some false))
   (some false))
  (some false))
  (some false))
 (some false)
noncomputable def yee(a:zad):Option Bool:=zqm stdW a
noncomputable def ybx:ES:=⟨(.pair tAAsset .unit),(.v .bool),fun x=>yee x.1⟩
theorem yjw:ECok Tryz.prog 171 (.es ybx)   := es_ok (A:=(.pair tAAsset .unit)) (Q:=(.v .bool)) (fun W x=>zqm W x.1) [] trivial [] [] [] Tryz.func171 rfl (by decide +kernel) rfl rfl (fun W x=>by kernel_rfl)
noncomputable def zjp(W:Wd)(l:List zad)(id:Int):Option (zad×Bool×Unit):=
 W.loop (fun (z1:Int×Unit) again2=>
 W.cnd (decide (z1.1<(l.length:Int))) (W.idx l z1.1 fun x3=>
  W.cnd (x3.1==id) (W.idx l z1.1 fun x4=>some (x4,(true,())))
  ((again2 ((IntKind.i64.wrap (z1.1+1)),()))))
  (some ((0,(0,(0,()))),(false,()))))
 (0,())
noncomputable def ztl(l:List zad)(id:Int):Option (zad×Bool×Unit):=zjp stdW l id
noncomputable def zuw:ES:=⟨(.pair (.slc tAAsset) (.pair (.int .i64) .unit)),(.pair (.v tAAsset) (.pair (.v .bool) .unit)),fun x=>ztl x.1 x.2.1⟩
theorem yef:ECok Tryz.prog 122 (.es zuw)   := es_ok (A:=(.pair (.slc tAAsset) (.pair (.int .i64) .unit))) (Q:=(.pair (.v tAAsset) (.pair (.v .bool) .unit))) (fun W x=>zjp W x.1 x.2.1) [] trivial [] [] [(2,⟨[(6,.t (.int .i64))],[],[]⟩)] Tryz.func122 rfl (by decide +kernel) rfl rfl (fun W x=>by kernel_rfl)
noncomputable def zne(W:Wd)(l:List zad)(a:zad):Option ((List zad)×Int×Unit):=W.call (yee a) fun v1=>
 W.cnd (!v1) (some ([],(2,())))
 (W.call (ztl l a.1) fun v2=>
 W.cnd v2.2.1 (some ([],(12,())))
  (
  W.join (fun (z3:Int×Unit)=>W.bnd z3.1 l.length fun h4=>W.room (l.take h4).length 24 (W.room ((l.take h4).length+(a::[]).length) 24 (W.bnd z3.1 l.length fun h5=>W.room (((l.take h4)++(a::[])).length+((l.take l.length).drop h5).length) 24 (some ((((l.take h4)++(a::[]))++((l.take l.length).drop h5)),(0,()))))))
  fun k6=>
  W.loop (fun (z7:Int×Unit) again8=>
   W.cnd (decide (z7.1<(l.length:Int))) (W.idx l z7.1 fun x9=>
   W.cnd (decide (x9.1<a.1)) ((again8 ((IntKind.i64.wrap (z7.1+1)),())))
    ((k6 z7)))
   ((k6 z7)))
   (0,())))
noncomputable def zql(l:List zad)(a:zad):Option ((List zad)×Int×Unit):=zne stdW l a
noncomputable def zxs:ES:=⟨(.pair (.slc tAAsset) (.pair tAAsset .unit)),(.pair (.own 125 tAAsset) (.pair (.v (.int .i64)) .unit)),fun x=>zql x.1 x.2.1⟩
theorem ygy:ECok Tryz.prog 105 (.es zxs)   := es_ok (A:=(.pair (.slc tAAsset) (.pair tAAsset .unit))) (Q:=(.pair (.own 125 tAAsset) (.pair (.v (.int .i64)) .unit))) (fun W x=>zne W x.1 x.2.1) [(171,.es ybx),(122,.es zuw)] ⟨yjw,yef,trivial⟩ [(8,[],(ofL [(0,true),(1,true),(2,true),(3,true),(4,true),(5,true),(6,true),(7,true),(8,true),(9,true),(10,true),(11,true),(12,true),(13,true)]))] [(10,⟨[(9,.t (.int .i64))],[],[]⟩)] [(8,⟨[(9,.t (.int .i64))],[],[]⟩)] Tryz.func105 rfl (by decide +kernel) rfl rfl (fun W x=>by kernel_rfl)
noncomputable def zhg(W:Wd)(l:List zad):Option (List zad):=
 W.join (fun (z1:List (Int×Int×Int×Unit)×Unit)=>some z1.1)
 fun k2=>
 W.loop (fun (z3:List (Int×Int×Int×Unit)×Int×Unit) again4=>
  W.cnd (decide (z3.2.1<(l.length:Int))) (
  W.cnd (decide (z3.2.1<8)) (
   W.join (fun (z5:List (Int×Int×Int×Unit)×Unit)=>(again4 (z5.1,((IntKind.i64.wrap (z3.2.1+1)),()))))
   fun k6=>W.idx l z3.2.1 fun x7=>W.call (zql z3.1 x7) fun v8=>
   W.cnd (v8.2.1==0) ((k6 (v8.1,())))
    ((k6 (z3.1,()))))
   ((k2 (z3.1,()))))
  ((k2 (z3.1,()))))
  ([],(0,()))
noncomputable def zjo(l:List zad):Option (List zad):=zhg stdW l
noncomputable def zqk:ES:=⟨(.pair (.slc tAAsset) .unit),(.v (.slc tAAsset)),fun x=>zjo x.1⟩
theorem yas:ECok Tryz.prog 47 (.es zqk)   := es_ok (A:=(.pair (.slc tAAsset) .unit)) (Q:=(.v (.slc tAAsset))) (fun W x=>zhg W x.1) [(105,.es zxs)] ⟨ygy,trivial⟩ [] [(4,⟨[(3,.t (.slc tAAsset))],[],[]⟩),(8,⟨[(3,.t (.slc tAAsset))],[],[]⟩)] [(3,⟨[(3,.t (.slc tAAsset)),(4,.t (.int .i64))],[],[]⟩)] Tryz.func47 rfl (by decide +kernel) rfl rfl (fun W x=>by kernel_rfl)
noncomputable def zqj(W:Wd)(a:zaa):Option Bool:=
 W.join (fun (z1:Bool×Unit)=>
 W.cnd z1.1 (some false)
  (
  W.join (fun (z2:Bool×Unit)=>
  W.cnd z2.1 (some false)
   (
   W.loop (fun (z3:Int×Unit) again4=>
   W.cnd (decide (z3.1<(a.2.2.2.1.length:Int))) (
    W.join (fun (z5:Bool×Unit)=>
    W.cnd z5.1 (some false)
     ((again4 ((IntKind.i64.wrap (z3.1+1)),()))))
    fun k6=>W.idx a.2.2.2.1 z3.1 fun x7=>
    W.cnd (decide (x7<1)) ((k6 (true,())))
     (W.idx a.2.2.2.1 z3.1 fun x8=>
     W.cnd (decide (16<x8)) ((k6 (true,())))
     (
     W.cnd (decide (0<z3.1)) (W.idx a.2.2.2.1 z3.1 fun x9=>W.idx a.2.2.2.1 (IntKind.i64.wrap (z3.1 - 1)) fun x10=>(k6 ((decide (x9≤x10)),())))
      ((k6 (false,()))))))
    (some true))
   (0,())))
  fun k11=>
  W.cnd (a.2.2.1==1) (
   W.cnd (decide (0<(a.2.2.2.1.length:Int))) ((k11 (true,())))
   (
   W.cnd (a.2.2.1==4) ((k11 ((decide (1<(a.2.2.2.1.length:Int))),())))
    ((k11 (false,())))))
   (
   W.cnd (a.2.2.1==4) ((k11 ((decide (1<(a.2.2.2.1.length:Int))),())))
   ((k11 (false,()))))))
 fun k12=>
 W.cnd (decide (a.1<1)) ((k12 (true,())))
  (
  W.cnd (decide (16<a.1)) ((k12 (true,())))
  (
  W.cnd (decide (a.2.1<1)) ((k12 (true,())))
   (
   W.cnd (decide (8<a.2.1)) ((k12 (true,())))
   (
   W.cnd (decide (a.2.2.1<1)) ((k12 (true,())))
    ((k12 ((decide (4<a.2.2.1)),())))))))
noncomputable def zwb(a:zaa):Option Bool:=zqj stdW a
noncomputable def ybw:ES:=⟨(.pair tAAccount .unit),(.v .bool),fun x=>zwb x.1⟩
theorem yjv:ECok Tryz.prog 172 (.es ybw)   := es_ok (A:=(.pair tAAccount .unit)) (Q:=(.v .bool)) (fun W x=>zqj W x.1) [] trivial [(8,[],(ofL [(0,true),(1,true),(2,true),(3,true),(4,true),(5,true),(6,true),(7,true),(8,true),(9,true),(10,true),(11,true),(12,true),(13,true),(14,true),(15,true),(16,true),(17,true),(18,true),(19,true),(20,true),(21,true),(22,true),(23,true),(24,true),(25,true),(26,true),(27,true),(28,true),(29,true),(30,true),(31,true)]))] [(500031,⟨[(31,.t .bool)],[],[]⟩),(500051,⟨[(51,.t .bool)],[],[]⟩),(500090,⟨[(90,.t .bool)],[],[]⟩)] [(6,⟨[(3,.t (.int .i64))],[],[]⟩)] Tryz.func172 rfl (by decide +kernel) rfl rfl (fun W x=>by kernel_rfl)
noncomputable def zjn(W:Wd)(l:List zaa)(id:Int):Option (zaa×Bool×Unit):=
 W.loop (fun (z1:Int×Unit) again2=>
 W.cnd (decide (z1.1<(l.length:Int))) (W.idx l z1.1 fun x3=>
  W.cnd (x3.1==id) (W.idx l z1.1 fun x4=>some ((x4.1,(x4.2.1,(x4.2.2.1,(x4.2.2.2.1,())))),(true,())))
  ((again2 ((IntKind.i64.wrap (z1.1+1)),()))))
  (some ((0,(0,(0,([],())))),(false,()))))
 (0,())
noncomputable def ztk(l:List zaa)(id:Int):Option (zaa×Bool×Unit):=zjn stdW l id
noncomputable def zuv:ES:=⟨(.pair (.slc tAAccount) (.pair (.int .i64) .unit)),(.pair (.v tAAccount) (.pair (.v .bool) .unit)),fun x=>ztk x.1 x.2.1⟩
theorem yed:ECok Tryz.prog 173 (.es zuv)   := es_ok (A:=(.pair (.slc tAAccount) (.pair (.int .i64) .unit))) (Q:=(.pair (.v tAAccount) (.pair (.v .bool) .unit))) (fun W x=>zjn W x.1 x.2.1) [] trivial [] [] [(2,⟨[(6,.t (.int .i64))],[],[]⟩)] Tryz.func173 rfl (by decide +kernel) rfl rfl (fun W x=>by kernel_rfl)
noncomputable def znd(W:Wd)(l:List zaa)(a:zaa):Option ((List zaa)×Int×Unit):=W.call (zwb (a.1,(a.2.1,(a.2.2.1,(a.2.2.2.1,()))))) fun v1=>
 W.cnd (!v1) (some ([],(2,())))
 (W.call (ztk l a.1) fun v2=>
 W.cnd v2.2.1 (some ([],(12,())))
  (
  W.join (fun (z3:Int×Unit)=>W.bnd z3.1 l.length fun h4=>W.room (l.take h4).length 48 (W.room ((l.take h4).length+((a.1,(a.2.1,(a.2.2.1,(a.2.2.2.1,()))))::[]).length) 48 (W.bnd z3.1 l.length fun h5=>W.room (((l.take h4)++((a.1,(a.2.1,(a.2.2.1,(a.2.2.2.1,()))))::[])).length+((l.take l.length).drop h5).length) 48 (some ((((l.take h4)++((a.1,(a.2.1,(a.2.2.1,(a.2.2.2.1,()))))::[]))++((l.take l.length).drop h5)),(0,()))))))
  fun k6=>
  W.loop (fun (z7:Int×Unit) again8=>
   W.cnd (decide (z7.1<(l.length:Int))) (W.idx l z7.1 fun x9=>
   W.cnd (decide (x9.1<a.1)) ((again8 ((IntKind.i64.wrap (z7.1+1)),())))
    ((k6 z7)))
   ((k6 z7)))
   (0,())))
noncomputable def zqi(l:List zaa)(a:zaa):Option ((List zaa)×Int×Unit):=znd stdW l a
noncomputable def zxr:ES:=⟨(.pair (.slc tAAccount) (.pair tAAccount .unit)),(.pair (.own 69 tAAccount) (.pair (.v (.int .i64)) .unit)),fun x=>zqi x.1 x.2.1⟩
theorem ygx:ECok Tryz.prog 106 (.es zxr)   := es_ok (A:=(.pair (.slc tAAccount) (.pair tAAccount .unit))) (Q:=(.pair (.own 69 tAAccount) (.pair (.v (.int .i64)) .unit))) (fun W x=>znd W x.1 x.2.1) [(172,.es ybw),(173,.es zuv)] ⟨yjv,yed,trivial⟩ [(8,[],(ofL [(0,true),(1,true),(2,true),(3,true),(4,true),(5,true),(6,true),(7,true),(8,true),(9,true),(10,true),(11,true),(12,true),(13,true)]))] [(10,⟨[(9,.t (.int .i64))],[],[]⟩)] [(8,⟨[(9,.t (.int .i64))],[],[]⟩)] Tryz.func106 rfl (by decide +kernel) rfl rfl (fun W x=>by kernel_rfl)
noncomputable def zhf(W:Wd)(l:List zaa):Option (List zaa):=
 W.join (fun (z1:List (Int×Int×Int×List (Int)×Unit)×Unit)=>some z1.1)
 fun k2=>
 W.loop (fun (z3:List (Int×Int×Int×List (Int)×Unit)×Int×Unit) again4=>
  W.cnd (decide (z3.2.1<(l.length:Int))) (
  W.cnd (decide (z3.2.1<20)) (
   W.join (fun (z5:List (Int×Int×Int×List (Int)×Unit)×Unit)=>(again4 (z5.1,((IntKind.i64.wrap (z3.2.1+1)),()))))
   fun k6=>W.idx l z3.2.1 fun x7=>W.call (zqi z3.1 (x7.1,(x7.2.1,(x7.2.2.1,(x7.2.2.2.1,()))))) fun v8=>
   W.cnd (v8.2.1==0) ((k6 (v8.1,())))
    ((k6 (z3.1,()))))
   ((k2 (z3.1,()))))
  ((k2 (z3.1,()))))
  ([],(0,()))
noncomputable def zjm(l:List zaa):Option (List zaa):=zhf stdW l
noncomputable def zqh:ES:=⟨(.pair (.slc tAAccount) .unit),(.v (.slc tAAccount)),fun x=>zjm x.1⟩
theorem yar:ECok Tryz.prog 48 (.es zqh)   := es_ok (A:=(.pair (.slc tAAccount) .unit)) (Q:=(.v (.slc tAAccount))) (fun W x=>zhf W x.1) [(106,.es zxr)] ⟨ygx,trivial⟩ [] [(4,⟨[(3,.t (.slc tAAccount))],[],[]⟩),(8,⟨[(3,.t (.slc tAAccount))],[],[]⟩)] [(3,⟨[(3,.t (.slc tAAccount)),(4,.t (.int .i64))],[],[]⟩)] Tryz.func48 rfl (by decide +kernel) rfl rfl (fun W x=>by kernel_rfl)
noncomputable def zns(W:Wd)(l:List AFlow'):Option (List AFlow'):=
 W.cnd (decide (20<(l.length:Int))) (W.bnd 20 l.length fun h1=>some (l.take h1))
 (some l)
noncomputable def zme(l:List AFlow'):Option (List AFlow'):=zns stdW l
noncomputable def zzg:ES:=⟨(.pair (.slc tAFlow) .unit),(.v (.slc tAFlow)),fun x=>zme x.1⟩
theorem yie:ECok Tryz.prog 49 (.es zzg)   := es_ok (A:=(.pair (.slc tAFlow) .unit)) (Q:=(.v (.slc tAFlow))) (fun W x=>zns W x.1) [] trivial [] [] [] Tryz.func49 rfl (by decide +kernel) rfl rfl (fun W x=>by kernel_rfl)
noncomputable def znr(W:Wd)(l:List zad):Option (List zad):=
 W.cnd (decide (20<(l.length:Int))) (W.bnd 20 l.length fun h1=>some (l.take h1))
 (some l)
noncomputable def zzf(l:List zad):Option (List zad):=znr stdW l
noncomputable def zze:ES:=⟨(.pair (.slc tAAsset) .unit),(.v (.slc tAAsset)),fun x=>zzf x.1⟩
theorem yid:ECok Tryz.prog 8 (.es zze)   := es_ok (A:=(.pair (.slc tAAsset) .unit)) (Q:=(.v (.slc tAAsset))) (fun W x=>znr W x.1) [] trivial [] [] [] Tryz.func8 rfl (by decide +kernel) rfl rfl (fun W x=>by kernel_rfl)
noncomputable def znq(W:Wd)(l:List AHold'):Option (List AHold'):=
 W.join (fun (z1:List ((Int×Int×Unit)×List (Int×Int×Int×Unit)×Unit)×Unit)=>some z1.1)
 fun k2=>
 W.loop (fun (z3:Int×List ((Int×Int×Unit)×List (Int×Int×Int×Unit)×Unit)×Unit) again4=>
  W.cnd (decide (z3.1<(l.length:Int))) (
  W.cnd (decide (z3.1<10)) (W.idx l z3.1 fun x5=>W.idx l z3.1 fun x6=>W.call (zzf x6.2.1) fun v7=>W.room (z3.2.1.length+((x5.1,(v7,()))::[]).length) 40 ((again4 ((IntKind.i64.wrap (z3.1+1)),((z3.2.1++((x5.1,(v7,()))::[])),())))))
   ((k2 (z3.2.1,()))))
  ((k2 (z3.2.1,()))))
  (0,([],()))
noncomputable def zmd(l:List AHold'):Option (List AHold'):=znq stdW l
noncomputable def zzd:ES:=⟨(.pair (.slc tAHold) .unit),(.own 123 tAHold),fun x=>zmd x.1⟩
theorem yic:ECok Tryz.prog 50 (.es zzd)   := es_ok (A:=(.pair (.slc tAHold) .unit)) (Q:=(.own 123 tAHold)) (fun W x=>znq W x.1) [(8,.es zze)] ⟨yid,trivial⟩ [(5,[],(ofL [(0,true),(1,true),(2,true),(3,true),(4,true),(5,true),(6,true),(7,true),(8,true),(9,true),(10,true),(11,false),(12,true),(13,false),(14,false),(15,true)]))] [(6,⟨[(3,.row 1)],[],[.dead,.own 123 tAHold]⟩)] [(3,⟨[(3,.row 1),(4,.t (.int .i64))],[],[.dead,.own 123 tAHold]⟩)] Tryz.func50 rfl (by decide +kernel) rfl rfl (fun W x=>by kernel_rfl)
noncomputable def znp(W:Wd)(s:zba):Option zba:=
 W.join (fun (z1:List (Int×Int×Int×List (Int)×Unit)×Unit)=>W.call (zjo s.2.2.2.1) fun v2=>W.call (zjm z1.1) fun v3=>W.call (zme s.2.2.2.2.2.2.2.2.2.2.1) fun v4=>W.call (zmd s.2.2.2.2.2.2.2.2.2.2.2.1) fun v5=>some (0,([],([],(v2,(v3,([],([],([],([],([],(v4,(v5,())))))))))))))
 fun k6=>
 W.loop (fun (z7:Int×List (Int×Int×Int×List (Int)×Unit)×Unit) again8=>
  W.cnd (decide (z7.1<(s.2.2.2.2.1.length:Int))) (
  W.cnd (decide (z7.1<20)) (W.idx s.2.2.2.2.1 z7.1 fun x9=>W.call (zow (x9.1,(x9.2.1,(x9.2.2.1,(x9.2.2.2.1,()))))) fun v10=>W.room (z7.2.1.length+((v10.1,(v10.2.1,(v10.2.2.1,(v10.2.2.2.1,()))))::[]).length) 48 ((again8 ((IntKind.i64.wrap (z7.1+1)),((z7.2.1++((v10.1,(v10.2.1,(v10.2.2.1,(v10.2.2.2.1,()))))::[])),())))))
   ((k6 (z7.2.1,()))))
  ((k6 (z7.2.1,()))))
  (0,([],()))
noncomputable def zre(s:zba):Option zba:=znp stdW s
noncomputable def zzc:ES:=⟨(.pair tAState .unit),(.v tAState),fun x=>zre x.1⟩
theorem yib:ECok Tryz.prog 7 (.es zzc)   := es_ok (A:=(.pair tAState .unit)) (Q:=(.v tAState)) (fun W x=>znp W x.1) [(46,.es zrf),(47,.es zqk),(48,.es zqh),(49,.es zzg),(50,.es zzd)] ⟨yav,yas,yar,yie,yic,trivial⟩ [(6,[1],(ofL [(0,true),(1,true),(3,true),(5,true),(6,true),(8,true),(9,true),(2,false),(4,false),(7,false),(10,false),(11,true),(12,false)]))] [(6,⟨[(3,.row 1)],[],[.dead,.own 69 tAAccount]⟩)] [(3,⟨[(3,.row 1),(4,.t (.int .i64))],[],[.dead,.own 69 tAAccount]⟩)] Tryz.func7 rfl (by decide +kernel) rfl rfl (fun W x=>by kernel_rfl)
noncomputable def ziz(W:Wd)(a:AUnit')(b:AUnit'):Option Bool:=
 W.cnd (a.1 != b.1) (some (decide (a.1<b.1)))
 (some (decide (a.2.1<b.2.1)))
noncomputable def zea(a:AUnit')(b:AUnit'):Option Bool:=ziz stdW a b
noncomputable def zkt:ES:=⟨(.pair tAUnit (.pair tAUnit .unit)),(.v .bool),fun x=>zea x.1 x.2.1⟩
theorem zmv:ECok Tryz.prog 107 (.es zkt)   := es_ok (A:=(.pair tAUnit (.pair tAUnit .unit))) (Q:=(.v .bool)) (fun W x=>ziz W x.1 x.2.1) [] trivial [] [] [] Tryz.func107 rfl (by decide +kernel) rfl rfl (fun W x=>by kernel_rfl)
noncomputable def zlu(W:Wd)(l:List AFlow'):Option Bool:=
 W.loop (fun (z1:Int×Unit) again2=>
 W.cnd (decide (z1.1<(l.length:Int))) (W.idx l z1.1 fun x3=>
  W.join (fun (z4:Bool×Unit)=>
  W.cnd z4.1 (some false)
   ((again2 ((IntKind.i64.wrap (z1.1+1)),()))))
  fun k5=>
  W.cnd (x3.2.1==0) ((k5 (true,())))
   (
   W.cnd (decide (0<z1.1)) (W.idx l (IntKind.i64.wrap (z1.1 - 1)) fun x6=>W.call (zea x6.1 x3.1) fun v7=>(k5 ((!v7),())))
   ((k5 (false,())))))
  (some true))
 (0,())
noncomputable def zjs(l:List AFlow'):Option Bool:=zlu stdW l
noncomputable def ztn:ES:=⟨(.pair (.slc tAFlow) .unit),(.v .bool),fun x=>zjs x.1⟩
theorem zyh:ECok Tryz.prog 51 (.es ztn)   := es_ok (A:=(.pair (.slc tAFlow) .unit)) (Q:=(.v .bool)) (fun W x=>zlu W x.1) [(107,.es zkt)] ⟨zmv,trivial⟩ [(4,[],(ofL [(0,true),(1,true),(2,true),(3,true),(4,true),(5,true),(6,true),(7,true),(8,true),(9,true),(10,true),(11,true),(12,true),(13,true),(14,true),(15,false),(16,true),(17,true),(18,true)]))] [(500030,⟨[(30,.t .bool)],[],[]⟩)] [(2,⟨[(7,.t (.int .i64))],[],[]⟩)] Tryz.func51 rfl (by decide +kernel) rfl rfl (fun W x=>by kernel_rfl)
noncomputable def zgm(W:Wd)(x:zad):Option Bool:=
 W.cnd (decide (1≤x.1)) (
 W.cnd (decide (x.1≤4)) (
  W.cnd (decide (0≤x.2.1)) (
  W.cnd (decide (x.2.1≤255)) (some (decide (0<x.2.2.1)))
   (some false))
  (some false))
  (some false))
 (some false)
noncomputable def zio(x:zad):Option Bool:=zgm stdW x
noncomputable def zvb:ES:=⟨(.pair tAAsset .unit),(.v .bool),fun x=>zio x.1⟩
theorem yew:ECok Tryz.prog 174 (.es zvb)   := es_ok (A:=(.pair tAAsset .unit)) (Q:=(.v .bool)) (fun W x=>zgm W x.1) [] trivial [] [] [] Tryz.func174 rfl (by decide +kernel) rfl rfl (fun W x=>by kernel_rfl)
noncomputable def yda(W:Wd)(x:Int):Option Bool:=some (x != x)
noncomputable def zmn(x:Int):Option Bool:=yda stdW x
noncomputable def zzy:ES:=⟨(.pair (.int .i64) .unit),(.v .bool),fun x=>zmn x.1⟩
theorem yix:ECok Tryz.prog 269 (.es zzy)   := es_ok (A:=(.pair (.int .i64) .unit)) (Q:=(.v .bool)) (fun W x=>yda W x.1) [] trivial [] [] [] Tryz.func269 rfl (by decide +kernel) rfl rfl (fun W x=>by kernel_rfl)
noncomputable def zft(W:Wd)(x:Int)(y:Int):Option Int:=W.call (zmn x) fun v1=>W.call (zmn y) fun v2=>
 W.cnd v1 (
 W.cnd v2 (some 0)
  (some (-1)))
 (
 W.cnd v2 (some 1)
  (
  W.cnd (decide (x<y)) (some (-1))
  (
  W.cnd (decide (y<x)) (some 1)
   (some 0))))
noncomputable def zey(x:Int)(y:Int):Option Int:=zft stdW x y
noncomputable def zsc:ES:=⟨(.pair (.int .i64) (.pair (.int .i64) .unit)),(.v (.int .i64)),fun x=>zey x.1 x.2.1⟩
theorem ybb:ECok Tryz.prog 243 (.es zsc)   := es_ok (A:=(.pair (.int .i64) (.pair (.int .i64) .unit))) (Q:=(.v (.int .i64))) (fun W x=>zft W x.1 x.2.1) [(269,.es zzy)] ⟨yix,trivial⟩ [] [] [] Tryz.func243 rfl (by decide +kernel) rfl rfl (fun W x=>by kernel_rfl)
noncomputable def zzz(W:Wd)(vals:List Int):Option Int:=
 W.loop (fun (z1:Int×Unit) again2=>
 W.cnd (decide (z1.1<(vals.length:Int))) (W.idx vals z1.1 fun x3=>
  W.cnd (x3 != 0) (some x3)
  ((again2 ((IntKind.i64.wrap (z1.1+1)),()))))
  (some 0))
 (0,())
noncomputable def cmp_Or(vals:List Int):Option Int:=zzz stdW vals
noncomputable def ync:ES:=⟨(.pair (.slc (.int .i64)) .unit),(.v (.int .i64)),fun x=>cmp_Or x.1⟩
theorem cmp_Or_ok:ECok Tryz.prog 242 (.es ync)   := es_ok (A:=(.pair (.slc (.int .i64)) .unit)) (Q:=(.v (.int .i64))) (fun W x=>zzz W x.1) [] trivial [] [] [(3,⟨[(8,.t (.int .i64))],[],[]⟩)] Tryz.func242 rfl (by decide +kernel) rfl rfl (fun W x=>by kernel_rfl)
noncomputable def zgn(W:Wd)(a:zad)(b:zad):Option Int:=W.call (zey a.1 b.1) fun v1=>W.call (zey a.2.1 b.2.1) fun v2=>W.call (cmp_Or (v1::(v2::[]))) fun v3=>some v3
noncomputable def zge(a:zad)(b:zad):Option Int:=zgn stdW a b
noncomputable def zvd:ES:=⟨(.pair tAAsset (.pair tAAsset .unit)),(.v (.int .i64)),fun x=>zge x.1 x.2.1⟩
theorem yex:ECok Tryz.prog 175 (.es zvd)   := es_ok (A:=(.pair tAAsset (.pair tAAsset .unit))) (Q:=(.v (.int .i64))) (fun W x=>zgn W x.1 x.2.1) [(243,.es zsc),(242,.es ync)] ⟨ybb,cmp_Or_ok,trivial⟩ [(1,[],(ofL [(0,true),(1,true),(2,true),(3,true),(5,true),(6,true),(7,true),(8,true),(4,false),(9,false),(10,false),(11,false),(12,true)]))] [] [] Tryz.func175 rfl (by decide +kernel) rfl rfl (fun W x=>by kernel_rfl)
noncomputable def zjw(W:Wd)(l:List zad):Option Bool:=
 W.loop (fun (z1:Int×Unit) again2=>
 W.cnd (decide (z1.1<(l.length:Int))) (W.idx l z1.1 fun x3=>
  W.join (fun (z4:Bool×Unit)=>
  W.cnd z4.1 (some false)
   ((again2 ((IntKind.i64.wrap (z1.1+1)),()))))
  fun k5=>W.call (zio x3) fun v6=>
  W.cnd (!v6) (W.both ((k5 (true,()))) ((k5 (true,()))))
   (
   W.cnd (decide (0<z1.1)) (W.idx l (IntKind.i64.wrap (z1.1 - 1)) fun x7=>W.both (W.call (zge x7 x3) fun v8=>(k5 ((decide (0≤v8)),()))) (W.call (zge x7 x3) fun v9=>(k5 ((decide (0≤v9)),()))))
   (W.both ((k5 (false,()))) ((k5 (false,()))))))
  (some (decide ((l.length:Int)≤16))))
 (0,())
noncomputable def zma(l:List zad):Option Bool:=zjw stdW l
noncomputable def zqy:ES:=⟨(.pair (.slc tAAsset) .unit),(.v .bool),fun x=>zma x.1⟩
theorem ztu:ECok Tryz.prog 108 (.es zqy)   := es_ok (A:=(.pair (.slc tAAsset) .unit)) (Q:=(.v .bool)) (fun W x=>zjw W x.1) [(174,.es zvb),(175,.es zvd)] ⟨yew,yex,trivial⟩ [(4,[],(.rd 0 (.op 1 (.rd 2 (.rd 3 (.rd 4 (.rd 5 (.rd 6 (.rd 7 (.rd 8 (.rd 9 (.rd 10 (.two 11 12 (ofL [(12,false),(13,false),(14,true),(15,true),(16,true)]) (ofL [(11,false),(13,false),(14,true),(15,true),(16,true)]))))))))))))))] [(500028,⟨[(28,.t .bool)],[],[]⟩)] [(2,⟨[(7,.t (.int .i64))],[],[]⟩)] Tryz.func108 rfl (by decide +kernel) rfl rfl (fun W x=>by kernel_rfl)
noncomputable def zrm(W:Wd)(l:List AHold'):Option Bool:=
 W.loop (fun (z1:Int×Unit) again2=>
 W.cnd (decide (z1.1<(l.length:Int))) (W.idx l z1.1 fun x3=>
  W.join (fun (z4:Bool×Unit)=>
  W.cnd z4.1 (some false)
   ((again2 ((IntKind.i64.wrap (z1.1+1)),()))))
  fun k5=>
  W.cnd ((x3.2.1.length:Int)==0) (W.both ((k5 (true,()))) ((k5 (true,()))))
   (W.call (zma x3.2.1) fun v6=>
   W.cnd (!v6) (W.both ((k5 (true,()))) ((k5 (true,()))))
   (
   W.cnd (decide (0<z1.1)) (W.idx l (IntKind.i64.wrap (z1.1 - 1)) fun x7=>W.both (W.call (zea x7.1 x3.1) fun v8=>(k5 ((!v8),()))) (W.call (zea x7.1 x3.1) fun v9=>(k5 ((!v9),()))))
    (W.both ((k5 (false,()))) ((k5 (false,())))))))
  (some true))
 (0,())
noncomputable def zox(l:List AHold'):Option Bool:=zrm stdW l
noncomputable def zzl:ES:=⟨(.pair (.slc tAHold) .unit),(.v .bool),fun x=>zox x.1⟩
theorem ycp:ECok Tryz.prog 52 (.es zzl)   := es_ok (A:=(.pair (.slc tAHold) .unit)) (Q:=(.v .bool)) (fun W x=>zrm W x.1) [(108,.es zqy),(107,.es zkt)] ⟨ztu,zmv,trivial⟩ [(4,[],(.rd 0 (.rd 1 (.rd 2 (.rd 3 (.rd 4 (.rd 5 (.rd 6 (.op 7 (.rd 8 (.rd 9 (.rd 10 (.rd 11 (.rd 12 (.rd 13 (.rd 14 (.rd 15 (.rd 16 (.rd 17 (.rd 18 (.rd 20 (.two 19 21 (ofL [(21,false),(22,false),(23,true),(24,true),(25,true)]) (ofL [(19,false),(22,false),(23,true),(24,true),(25,true)])))))))))))))))))))))))] [(500037,⟨[(37,.t .bool)],[],[]⟩)] [(2,⟨[(7,.t (.int .i64))],[],[]⟩)] Tryz.func52 rfl (by decide +kernel) rfl rfl (fun W x=>by kernel_rfl)
noncomputable def zbz(W:Wd)(s:List Int):Option (List Int):=W.nilq (List.isEmpty s) fun g1=>
 W.cnd (Go.Vc.notIf false g1) (some [])
 (W.room ((0:Nat)+s.length) 8 (some ([]++s)))
noncomputable def zcf(s:List Int):Option (List Int):=zbz stdW s
noncomputable def zfh:ES:=⟨(.pair (.slc (.int .i64)) .unit),(.own 3 (.int .i64)),fun x=>zcf x.1⟩
theorem zla:ECok Tryz.prog 244 (.es zfh)   := es_ok (A:=(.pair (.slc (.int .i64)) .unit)) (Q:=(.own 3 (.int .i64))) (fun W x=>zbz W x.1) [] trivial [] [] [] Tryz.func244 rfl (by decide +kernel) rfl rfl (fun W x=>by kernel_rfl)
noncomputable def zmt(W:Wd)(a:zaa):Option zaa:=W.call (zcf a.2.2.2.1) fun v1=>some (a.1,(a.2.1,(a.2.2.1,(v1,()))))
noncomputable def zoc(a:zaa):Option zaa:=zmt stdW a
noncomputable def ydf:ES:=⟨(.pair tAAccount .unit),(.v tAAccount),fun x=>zoc x.1⟩
theorem ylf:ECok Tryz.prog 177 (.es ydf)   := es_ok (A:=(.pair tAAccount .unit)) (Q:=(.v tAAccount)) (fun W x=>zmt W x.1) [(244,.es zfh)] ⟨zla,trivial⟩ [] [] [] Tryz.func177 rfl (by decide +kernel) rfl rfl (fun W x=>by kernel_rfl)
noncomputable def zfu(W:Wd)(l:List zaa):Option (List zaa):=
 W.loop (fun (z1:Int×List (Int×Int×Int×List (Int)×Unit)×Unit) again2=>
 W.cnd (decide (z1.1<(l.length:Int))) (W.idx l z1.1 fun x3=>W.call (zoc (x3.1,(x3.2.1,(x3.2.2.1,(x3.2.2.2.1,()))))) fun v4=>W.room (z1.2.1.length+((v4.1,(v4.2.1,(v4.2.2.1,(v4.2.2.2.1,()))))::[]).length) 48 ((again2 ((IntKind.i64.wrap (z1.1+1)),((z1.2.1++((v4.1,(v4.2.1,(v4.2.2.1,(v4.2.2.2.1,()))))::[])),())))))
  (some z1.2.1))
 (0,([],()))
noncomputable def zgv(l:List zaa):Option (List zaa):=zfu stdW l
noncomputable def zsl:ES:=⟨(.pair (.slc tAAccount) .unit),(.own 69 tAAccount),fun x=>zgv x.1⟩
theorem ybf:ECok Tryz.prog 110 (.es zsl)   := es_ok (A:=(.pair (.slc tAAccount) .unit)) (Q:=(.own 69 tAAccount)) (fun W x=>zfu W x.1) [(177,.es ydf)] ⟨ylf,trivial⟩ [] [] [(3,⟨[(3,.row 1),(8,.t (.int .i64))],[],[.dead,.own 69 tAAccount]⟩)] Tryz.func110 rfl (by decide +kernel) rfl rfl (fun W x=>by kernel_rfl)
noncomputable def ydh(W:Wd)(a:zaa)(free10:Int):Option (Bool×(Int×Unit)):=some ((a.2.1 != free10),(free10,()))
noncomputable def zmu(a:zaa)(free10:Int):Option (Bool×(Int×Unit)):=ydh stdW a free10
noncomputable def zph:LS:=⟨[.v tAAccount,.ptr],[⟨3,[.v (.int .i64)]⟩],[⟨3,[.v (.int .i64)]⟩],(.q (.v .bool)),fun x=>zmu x.1 x.2.1⟩
theorem zvq:ECok Tryz.prog 111 (.ls zph)   := ls_ok (A:=[.v tAAccount,.ptr]) (B:=[⟨3,[.v (.int .i64)]⟩]) (E:=[⟨3,[.v (.int .i64)]⟩]) (Q:=(.q (.v .bool))) (fun W x=>ydh W x.1 x.2.1) [] trivial [] [] [] Tryz.func111 rfl (by decide +kernel) rfl rfl rfl rfl rfl (fun W x=>by kernel_rfl)
noncomputable def zaf(W:Wd)(s:List zaa)(f0_0:Int):Option (Int×(Int×Unit)):=
 W.loop (fun (z1:Int×Int×Unit) again2=>
 W.cnd (decide (z1.1<(s.length:Int))) (W.idx s z1.1 fun x3=>W.call (zmu (x3.1,(x3.2.1,(x3.2.2.1,(x3.2.2.2.1,())))) z1.2.1) fun v4=>
  W.cnd v4.1 (some (z1.1,v4.2))
  ((again2 ((IntKind.i64.wrap (z1.1+1)),v4.2))))
  (some ((-1),z1.2)))
 (0,(f0_0,()))
noncomputable def zah(s:List zaa)(f0_0:Int):Option (Int×(Int×Unit)):=zaf stdW s f0_0
noncomputable def zbe:LS:=⟨[.v (.slc tAAccount),.fn 111 1],[⟨3,[.v (.int .i64)]⟩],[⟨3,[.v (.int .i64)]⟩],(.q (.v (.int .i64))),fun x=>zah x.1 x.2.1⟩
theorem zcb:ECok Tryz.prog 176 (.ls zbe)   := ls_ok (A:=[.v (.slc tAAccount),.fn 111 1]) (B:=[⟨3,[.v (.int .i64)]⟩]) (E:=[⟨3,[.v (.int .i64)]⟩]) (Q:=(.q (.v (.int .i64)))) (fun W x=>zaf W x.1 x.2.1) [(111,.ls zph)] ⟨zvq,trivial⟩ [] [] [(2,⟨[(8,.t (.int .i64))],[(0,[.t (.int .i64)])],[]⟩)] Tryz.func176 rfl (by decide +kernel) rfl rfl rfl rfl rfl (fun W x=>by kernel_rfl)
noncomputable def zaj(W:Wd)(del0_0:Int)(s:List zaa):Option ((List zaa)×(Int×Unit)):=W.call (zah s del0_0) fun v1=>
 W.cnd (v1.1==(-1)) (some (s,v1.2))
 (
 W.loop (fun (z2:Int×Int×Int×List (Int×Int×Int×List (Int)×Unit)×Unit) again3=>
  W.cnd (decide (z2.2.1<(z2.2.2.2.1.length:Int))) (
  W.join (fun (z4:Int×Int×List (Int×Int×Int×List (Int)×Unit)×Unit)=>(again3 (z4.1,((IntKind.i64.wrap (z2.2.1+1)),(z4.2.1,(z4.2.2.1,()))))))
   fun k5=>W.idx z2.2.2.2.1 z2.2.1 fun x6=>W.nth z2.2.2.2.1 (Int.toNat z2.2.1) fun x7=>W.call (zmu (x7.1,(x7.2.1,(x7.2.2.1,(x7.2.2.2.1,())))) z2.2.2.1) fun v8=>
   W.cnd (!v8.1) (W.idx z2.2.2.2.1 z2.1 fun x9=>W.nth z2.2.2.2.1 (Int.toNat z2.1) fun x10=>(k5 ((IntKind.i64.wrap (z2.1+1)),(v8.2.1,((List.set z2.2.2.2.1 (Int.toNat z2.1) (x7.1,(x7.2.1,(x7.2.2.1,(x7.2.2.2.1,()))))),())))))
   ((k5 (z2.1,(v8.2.1,(z2.2.2.2.1,()))))))
  (W.bnd z2.1 z2.2.2.2.1.length fun h11=>W.bnd (h11:Int) z2.2.2.2.1.length fun h12=>W.bnd z2.1 ((z2.2.2.2.1.take h12)++(List.replicate (z2.2.2.2.1.length - h12) (0,(0,(0,([],())))))).length fun h13=>some ((((z2.2.2.2.1.take h12)++(List.replicate (z2.2.2.2.1.length - h12) (0,(0,(0,([],())))))).take h13),(z2.2.2.1,()))))
  (v1.1,((IntKind.i64.wrap (v1.1+1)),(v1.2.1,(s,())))))
noncomputable def zal(del0_0:Int)(s:List zaa):Option ((List zaa)×(Int×Unit)):=zaj stdW del0_0 s
noncomputable def zbc:LS:=⟨[.row 69 tAAccount,.fn 111 1],[⟨3,[.v (.int .i64)]⟩],[⟨3,[.v (.int .i64)]⟩],(.q (.v (.slc tAAccount))),fun x=>zal x.1 x.2.1⟩
theorem zca:ECok Tryz.prog 109 (.ls zbc)   := ls_ok (A:=[.row 69 tAAccount,.fn 111 1]) (B:=[⟨3,[.v (.int .i64)]⟩]) (E:=[⟨3,[.v (.int .i64)]⟩]) (Q:=(.q (.v (.slc tAAccount)))) (fun W x=>zaj W x.1 x.2.1) [(176,.lb zbe),(111,.ls zph)] ⟨zcb,zvq,trivial⟩ [] [(6,⟨[(0,.row 0),(5,.t (.int .i64))],[(0,[.t (.int .i64)])],[.own 69 tAAccount]⟩)] [(5,⟨[(0,.row 0),(5,.t (.int .i64)),(6,.t (.int .i64))],[(0,[.t (.int .i64)])],[.own 69 tAAccount]⟩)] Tryz.func109 rfl (by decide +kernel) rfl rfl rfl rfl rfl (fun W x=>by kernel_rfl)
noncomputable def zsn(W:Wd)(l:List zaa)(member:Int):Option (List zaa):=W.call (zgv l) fun v1=>W.call (zal member v1) fun v2=>some v2.1
noncomputable def zul(l:List zaa)(member:Int):Option (List zaa):=zsn stdW l member
noncomputable def yjf:ES:=⟨(.pair (.slc tAAccount) (.pair (.int .i64) .unit)),(.v (.slc tAAccount)),fun x=>zul x.1 x.2.1⟩
theorem acct_Of_ok:ECok Tryz.prog 53 (.es yjf)   := es_ok (A:=(.pair (.slc tAAccount) (.pair (.int .i64) .unit))) (Q:=(.v (.slc tAAccount))) (fun W x=>zsn W x.1 x.2.1) [(110,.es zsl),(109,.ls zbc)] ⟨ybf,zca,trivial⟩ [] [] [] Tryz.func53 rfl (by decide +kernel) rfl rfl (fun W x=>by kernel_rfl)
noncomputable def zgw(W:Wd)(a:zaa):Option (List AUnit'):=
 W.cnd (a.2.2.1==1) (some ((a.1,(0,()))::[]))
 (
 W.loop (fun (z1:Int×List (Int×Int×Unit)×Unit) again2=>
  W.cnd (decide (z1.1<(a.2.2.2.1.length:Int))) (W.idx a.2.2.2.1 z1.1 fun x3=>W.room (z1.2.1.length+((a.1,(x3,()))::[]).length) 16 ((again2 ((IntKind.i64.wrap (z1.1+1)),((z1.2.1++((a.1,(x3,()))::[])),())))))
  (some z1.2.1))
  (0,([],())))
noncomputable def ziy(a:zaa):Option (List AUnit'):=zgw stdW a
noncomputable def zvo:ES:=⟨(.pair tAAccount .unit),(.own 35 tAUnit),fun x=>ziy x.1⟩
theorem yge:ECok Tryz.prog 54 (.es zvo)   := es_ok (A:=(.pair tAAccount .unit)) (Q:=(.own 35 tAUnit)) (fun W x=>zgw W x.1) [] trivial [] [] [(5,⟨[(3,.row 1),(16,.t (.int .i64))],[],[.dead,.own 35 tAUnit]⟩)] Tryz.func54 rfl (by decide +kernel) rfl rfl (fun W x=>by kernel_rfl)
noncomputable def zih(W:Wd)(l:List AFlow')(u:AUnit'):Option Int:=
 W.loop (fun (z1:Int×Unit) again2=>
 W.cnd (decide (z1.1<(l.length:Int))) (W.idx l z1.1 fun x3=>
  W.cnd (Go.Vc.notIf false ((x3.1.1==u.1)&&(x3.1.2.1==u.2.1))) (some x3.2.1)
  ((again2 ((IntKind.i64.wrap (z1.1+1)),()))))
  (some 0))
 (0,())
noncomputable def zii(l:List AFlow')(u:AUnit'):Option Int:=zih stdW l u
noncomputable def zyi:ES:=⟨(.pair (.slc tAFlow) (.pair tAUnit .unit)),(.v (.int .i64)),fun x=>zii x.1 x.2.1⟩
theorem yhi:ECok Tryz.prog 65 (.es zyi)   := es_ok (A:=(.pair (.slc tAFlow) (.pair tAUnit .unit))) (Q:=(.v (.int .i64))) (fun W x=>zih W x.1 x.2.1) [] trivial [] [] [(2,⟨[(9,.t (.int .i64))],[],[]⟩)] Tryz.func65 rfl (by decide +kernel) rfl rfl (fun W x=>by kernel_rfl)
noncomputable def zaz(W:Wd)(s:List zad):Option (List zad):=W.nilq (List.isEmpty s) fun g1=>
 W.cnd (Go.Vc.notIf false g1) (some [])
 (W.room ((0:Nat)+s.length) 24 (some ([]++s)))
noncomputable def zak(s:List zad):Option (List zad):=zaz stdW s
noncomputable def zbx:ES:=⟨(.pair (.slc tAAsset) .unit),(.own 121 tAAsset),fun x=>zak x.1⟩
theorem zcu:ECok Tryz.prog 126 (.es zbx)   := es_ok (A:=(.pair (.slc tAAsset) .unit)) (Q:=(.own 121 tAAsset)) (fun W x=>zaz W x.1) [] trivial [] [] [] Tryz.func126 rfl (by decide +kernel) rfl rfl (fun W x=>by kernel_rfl)
noncomputable def ziq(W:Wd)(l:List AHold')(u:AUnit'):Option (List zad):=
 W.loop (fun (z1:Int×Unit) again2=>
 W.cnd (decide (z1.1<(l.length:Int))) (W.idx l z1.1 fun x3=>
  W.cnd (Go.Vc.notIf false ((x3.1.1==u.1)&&(x3.1.2.1==u.2.1))) (W.call (zak x3.2.1) fun v4=>some v4)
  ((again2 ((IntKind.i64.wrap (z1.1+1)),()))))
  (some []))
 (0,())
noncomputable def zir(l:List AHold')(u:AUnit'):Option (List zad):=ziq stdW l u
noncomputable def zzj:ES:=⟨(.pair (.slc tAHold) (.pair tAUnit .unit)),(.own 121 tAAsset),fun x=>zir x.1 x.2.1⟩
theorem yii:ECok Tryz.prog 66 (.es zzj)   := es_ok (A:=(.pair (.slc tAHold) (.pair tAUnit .unit))) (Q:=(.own 121 tAAsset)) (fun W x=>ziq W x.1 x.2.1) [(126,.es zbx)] ⟨zcu,trivial⟩ [] [] [(2,⟨[(9,.t (.int .i64))],[],[]⟩)] Tryz.func66 rfl (by decide +kernel) rfl rfl (fun W x=>by kernel_rfl)
noncomputable def zqd(W:Wd)(s:zba)(u:AUnit'):Option zam:=W.call (zii s.2.2.2.2.2.2.2.2.2.2.1 u) fun v1=>W.call (zir s.2.2.2.2.2.2.2.2.2.2.2.1 u) fun v2=>some (u,((if v1>0 then v1 else 0),(v2,())))
noncomputable def zon(s:zba)(u:AUnit'):Option zam:=zqd stdW s u
noncomputable def ygu:ES:=⟨(.pair tAState (.pair tAUnit .unit)),(.v tAReturn),fun x=>zon x.1 x.2.1⟩
theorem rest_Of_ok:ECok Tryz.prog 13 (.es ygu)   := es_ok (A:=(.pair tAState (.pair tAUnit .unit))) (Q:=(.v tAReturn)) (fun W x=>zqd W x.1 x.2.1) [(65,.es zyi),(66,.es zzj)] ⟨yhi,yii,trivial⟩ [(1,[2],(ofL [(0,true),(1,true),(2,true),(3,true),(6,true),(7,true),(8,true),(4,false),(5,true),(9,false),(10,true),(11,false)]))] [] [] Tryz.func13 rfl (by decide +kernel) rfl rfl (fun W x=>by kernel_rfl)
noncomputable def zdy(W:Wd)(l:List AFlow')(u:AUnit'):Option (List Int):=
 W.loop (fun (z1:Int×List (Int)×Unit) again2=>
 W.cnd (decide (z1.1<(l.length:Int))) (
  W.join (fun (z3:List (Int)×Unit)=>(again2 ((IntKind.i64.wrap (z1.1+1)),(z3.1,()))))
  fun k4=>W.idx l z1.1 fun x5=>
  W.cnd (Go.Vc.notIf false ((x5.1.1==u.1)&&(x5.1.2.1==u.2.1))) (W.room (z1.2.1.length+(x5.2.1::[]).length) 8 ((k4 ((z1.2.1++(x5.2.1::[])),()))))
   ((k4 (z1.2.1,()))))
  (some z1.2.1))
 (0,([],()))
noncomputable def zem(l:List AFlow')(u:AUnit'):Option (List Int):=zdy stdW l u
noncomputable def zls:ES:=⟨(.pair (.slc tAFlow) (.pair tAUnit .unit)),(.own 2 (.int .i64)),fun x=>zem x.1 x.2.1⟩
theorem zvu:ECok Tryz.prog 180 (.es zls)   := es_ok (A:=(.pair (.slc tAFlow) (.pair tAUnit .unit))) (Q:=(.own 2 (.int .i64))) (fun W x=>zdy W x.1 x.2.1) [] trivial [] [(7,⟨[(5,.row 1)],[],[.dead,.own 2 (.int .i64)]⟩)] [(3,⟨[(5,.row 1),(10,.t (.int .i64))],[],[.dead,.own 2 (.int .i64)]⟩)] Tryz.func180 rfl (by decide +kernel) rfl rfl (fun W x=>by kernel_rfl)
noncomputable def zpr(W:Wd)(n:Int):Option zag:=W.nn 63 (some ((Int.fdiv n (2 ^ (Min.min (Int.toNat 63) (Go.IntKind.bits Go.IntKind.i64)))),((IntKind.u64.wrap n),())))
noncomputable def zlc(n:Int):Option zag:=zpr stdW n
noncomputable def zpq:ES:=⟨(.pair (.int .i64) .unit),(.v tWideWide),fun x=>zlc x.1⟩
theorem zsx:ECok Tryz.prog 119 (.es zpq)   := es_ok (A:=(.pair (.int .i64) .unit)) (Q:=(.v tWideWide)) (fun W x=>zpr W x.1) [] trivial [] [] [] Tryz.func119 rfl (by decide +kernel) rfl rfl (fun W x=>by kernel_rfl)
noncomputable def zdd(W:Wd)(w:zag)(t0:Int)(t1:Int)(t2:Int):Option (Unit×(Int×Int×Int×Unit)):=W.call (add64 t2 w.2.1 0) fun v1=>W.call (add64 (IntKind.u64.wrap t1) (IntKind.u64.wrap w.1) v1.2.1) fun v2=>W.nn 63 (some ((),((IntKind.i64.wrap (t0+(IntKind.i64.wrap ((Int.fdiv w.1 (2 ^ (Min.min (Int.toNat 63) (Go.IntKind.bits Go.IntKind.i64))))+(IntKind.i64.wrap v2.2.1))))),((IntKind.i64.wrap v2.1),(v1.1,())))))
noncomputable def zdu(w:zag)(t0:Int)(t1:Int)(t2:Int):Option (Unit×(Int×Int×Int×Unit)):=zdd stdW w t0 t1 t2
noncomputable def zkv:LS:=⟨[.ptr,.v tWideWide],[⟨257,[.v (.int .i64),.v (.int .i64),.v (.int .u64)]⟩],[⟨257,[.v (.int .i64),.v (.int .i64),.v (.int .u64)]⟩],(.q .unit),fun x=>zdu x.1 x.2.1 x.2.2.1 x.2.2.2.1⟩
theorem zsv:ECok Tryz.prog 187 (.ls zkv)   := ls_ok (A:=[.ptr,.v tWideWide]) (B:=[⟨257,[.v (.int .i64),.v (.int .i64),.v (.int .u64)]⟩]) (E:=[⟨257,[.v (.int .i64),.v (.int .i64),.v (.int .u64)]⟩]) (Q:=(.q .unit)) (fun W x=>zdd W x.1 x.2.1 x.2.2.1 x.2.2.2.1) [(194,.es add64_s)] ⟨add64_ok,trivial⟩ [(1,[],(ofL [(0,true),(1,true),(2,true),(3,true),(4,true),(5,true),(6,true),(7,false),(8,true),(9,true),(10,true),(11,true),(12,true)])),(2,[],(ofL [(0,true),(1,true),(2,true),(3,true),(4,true),(5,true),(6,true),(7,true),(8,true),(9,true),(10,false),(11,true),(12,true),(13,true),(14,true),(15,true)])),(3,[0],(ofL [(0,true),(1,true),(2,true),(4,true),(5,true),(6,true),(7,true),(8,true),(9,true),(3,false),(10,true),(11,true),(12,true),(13,false)]))] [] [] Tryz.func187 rfl (by decide +kernel) rfl rfl rfl rfl rfl (fun W x=>by kernel_rfl)
noncomputable def zfe(W:Wd)(w:zag)(ok:Bool):Option (zag×Int×Unit):=
 W.cnd (!ok) (some ((0,(0,())),(7,())))
 (some (w,(0,())))
noncomputable def zgf(w:zag)(ok:Bool):Option (zag×Int×Unit):=zfe stdW w ok
noncomputable def zpo:ES:=⟨(.pair tWideWide (.pair .bool .unit)),(.pair (.v tWideWide) (.pair (.v (.int .i64)) .unit)),fun x=>zgf x.1 x.2.1⟩
theorem yak:ECok Tryz.prog 197 (.es zpo)   := es_ok (A:=(.pair tWideWide (.pair .bool .unit))) (Q:=(.pair (.v tWideWide) (.pair (.v (.int .i64)) .unit))) (fun W x=>zfe W x.1 x.2.1) [] trivial [] [] [] Tryz.func197 rfl (by decide +kernel) rfl rfl (fun W x=>by kernel_rfl)
noncomputable def zcv(W:Wd)(t0:Int)(t1:Int)(t2:Int):Option ((zag×Int×Unit)×(Int×Int×Int×Unit)):=W.nn 63 (W.call (zgf (t1,(t2,())) (t0==(Int.fdiv t1 (2 ^ (Min.min (Int.toNat 63) (Go.IntKind.bits Go.IntKind.i64)))))) fun v1=>some (v1,(t0,(t1,(t2,())))))
noncomputable def zdc(t0:Int)(t1:Int)(t2:Int):Option ((zag×Int×Unit)×(Int×Int×Int×Unit)):=zcv stdW t0 t1 t2
noncomputable def zhv:LS:=⟨[.ptr],[⟨257,[.v (.int .i64),.v (.int .i64),.v (.int .u64)]⟩],[⟨257,[.v (.int .i64),.v (.int .i64),.v (.int .u64)]⟩],(.q (.pair (.v tWideWide) (.pair (.v (.int .i64)) .unit))),fun x=>zdc x.1 x.2.1 x.2.2.1⟩
theorem zpm:ECok Tryz.prog 188 (.ls zhv)   := ls_ok (A:=[.ptr]) (B:=[⟨257,[.v (.int .i64),.v (.int .i64),.v (.int .u64)]⟩]) (E:=[⟨257,[.v (.int .i64),.v (.int .i64),.v (.int .u64)]⟩]) (Q:=(.q (.pair (.v tWideWide) (.pair (.v (.int .i64)) .unit)))) (fun W x=>zcv W x.1 x.2.1 x.2.2.1) [(197,.es zpo)] ⟨yak,trivial⟩ [(1,[1],(ofL [(0,true),(1,true),(2,true),(3,true),(4,true),(5,true),(6,true),(7,true),(8,true),(9,true),(10,true),(11,true),(12,true),(13,true),(14,true),(15,false),(16,true),(17,true),(18,false),(19,true)]))] [] [] Tryz.func188 rfl (by decide +kernel) rfl rfl rfl rfl rfl (fun W x=>by kernel_rfl)
noncomputable def zle(W:Wd)(l:List zag):Option (zag×Int×Unit):=
 W.loop (fun (z1:Int×Int×Int×Int×Unit) again2=>
 W.cnd (decide (z1.1<(l.length:Int))) (W.idx l z1.1 fun x3=>W.call (zdu x3 z1.2.1 z1.2.2.1 z1.2.2.2.1) fun v4=>(again2 ((IntKind.i64.wrap (z1.1+1)),v4.2)))
  (W.call (zdc z1.2.1 z1.2.2.1 z1.2.2.2.1) fun v5=>some v5.1))
 (0,(0,(0,(0,()))))
noncomputable def zmy(l:List zag):Option (zag×Int×Unit):=zle stdW l
noncomputable def ybj:ES:=⟨(.pair (.slc tWideWide) .unit),(.pair (.v tWideWide) (.pair (.v (.int .i64)) .unit)),fun x=>zmy x.1⟩
theorem yjo:ECok Tryz.prog 121 (.es ybj)   := es_ok (A:=(.pair (.slc tWideWide) .unit)) (Q:=(.pair (.v tWideWide) (.pair (.v (.int .i64)) .unit))) (fun W x=>zle W x.1) [(187,.ls zkv),(188,.ls zhv)] ⟨zsv,zpm,trivial⟩ [] [] [(3,⟨[(9,.t (.int .i64))],[(1,[.t (.int .i64),.t (.int .i64),.t (.int .u64)])],[]⟩)] Tryz.func121 rfl (by decide +kernel) rfl rfl (fun W x=>by kernel_rfl)
noncomputable def zld(W:Wd)(w:zag):Option (Int×Int×Unit):=W.call (zlc (IntKind.i64.wrap w.2.1)) fun v1=>
 W.cnd (Go.Vc.notIf true ((v1.1==w.1)&&(v1.2.1==w.2.1))) (some (0,(7,())))
 (some ((IntKind.i64.wrap w.2.1),(0,())))
noncomputable def zmx(w:zag):Option (Int×Int×Unit):=zld stdW w
noncomputable def zsz:ES:=⟨(.pair tWideWide .unit),(.pair (.v (.int .i64)) (.pair (.v (.int .i64)) .unit)),fun x=>zmx x.1⟩
theorem zxa:ECok Tryz.prog 132 (.es zsz)   := es_ok (A:=(.pair tWideWide .unit)) (Q:=(.pair (.v (.int .i64)) (.pair (.v (.int .i64)) .unit))) (fun W x=>zld W x.1) [(119,.es zpq)] ⟨zsx,trivial⟩ [(2,[],(ofL [(0,true),(2,true),(1,false),(3,true)]))] [] [] Tryz.func132 rfl (by decide +kernel) rfl rfl (fun W x=>by kernel_rfl)
noncomputable def zgq(W:Wd)(w:zag)(e:Int):Option (Int×Int×Unit):=
 W.cnd (e != 0) (some (0,(e,())))
 (W.call (zmx w) fun v1=>some v1)
noncomputable def zit(w:zag)(e:Int):Option (Int×Int×Unit):=zgq stdW w e
noncomputable def zvg:ES:=⟨(.pair tWideWide (.pair (.int .i64) .unit)),(.pair (.v (.int .i64)) (.pair (.v (.int .i64)) .unit)),fun x=>zit x.1 x.2.1⟩
theorem yfj:ECok Tryz.prog 120 (.es zvg)   := es_ok (A:=(.pair tWideWide (.pair (.int .i64) .unit))) (Q:=(.pair (.v (.int .i64)) (.pair (.v (.int .i64)) .unit))) (fun W x=>zgq W x.1 x.2.1) [(132,.es zsz)] ⟨zxa,trivial⟩ [] [] [] Tryz.func120 rfl (by decide +kernel) rfl rfl (fun W x=>by kernel_rfl)
noncomputable def zrs(W:Wd)(l:List Int):Option (Int×Int×Unit):=W.nn (l.length:Int) (W.room (Int.toNat (l.length:Int)) 16 (
 W.loop (fun (z1:Int×List (Int×Int×Unit)×Unit) again2=>
 W.cnd (decide (z1.1<(l.length:Int))) (W.idx l z1.1 fun x3=>W.call (zlc x3) fun v4=>W.room (z1.2.1.length+(v4::[]).length) 16 ((again2 ((IntKind.i64.wrap (z1.1+1)),((z1.2.1++(v4::[])),())))))
  (W.call (zmy z1.2.1) fun v5=>W.call (zit v5.1 v5.2.1) fun v6=>some v6))
 (0,([],()))))
noncomputable def zmj(l:List Int):Option (Int×Int×Unit):=zrs stdW l
noncomputable def zrq:ES:=⟨(.pair (.slc (.int .i64)) .unit),(.pair (.v (.int .i64)) (.pair (.v (.int .i64)) .unit)),fun x=>zmj x.1⟩
theorem zui:ECok Tryz.prog 61 (.es zrq)   := es_ok (A:=(.pair (.slc (.int .i64)) .unit)) (Q:=(.pair (.v (.int .i64)) (.pair (.v (.int .i64)) .unit))) (fun W x=>zrs W x.1) [(119,.es zpq),(121,.es ybj),(120,.es zvg)] ⟨zsx,yjo,yfj,trivial⟩ [] [] [(3,⟨[(4,.row 0),(12,.t (.int .i64))],[],[.own 188 tWideWide]⟩)] Tryz.func61 rfl (by decide +kernel) rfl rfl (fun W x=>by kernel_rfl)
noncomputable def zig(W:Wd)(l:List AFlow')(flows:List AFlow'):Option ((List AFlow')×Int×Unit):=W.call (zjs l) fun v1=>
 W.cnd (!v1) (some ([],(3,())))
 (W.call (zpa (l::(flows::[]))) fun v2=>W.call (namedO v2) fun v3=>
 W.loop (fun (z4:Int×List (Int×Int×Unit)×List ((Int×Int×Unit)×Int×Unit)×Unit) again5=>
  W.cnd (decide (z4.1<(v3.length:Int))) (
  W.join (fun (z6:List (Int×Int×Unit)×List ((Int×Int×Unit)×Int×Unit)×Unit)=>(again5 ((IntKind.i64.wrap (z4.1+1)),(z6.1,(z6.2.1,())))))
   fun k7=>W.idx z4.2.1 z4.1 fun x8=>W.nth z4.2.1 (Int.toNat z4.1) fun x9=>W.call (zem v2 x9) fun v10=>W.call (zmj v10) fun v11=>
   W.cnd (v11.2.1 != 0) (some ([],v11.2))
   (
   W.cnd (v11.1 != 0) (W.room (z4.2.2.1.length+((x9,(v11.1,()))::[]).length) 24 ((k7 (z4.2.1,((z4.2.2.1++((x9,(v11.1,()))::[])),())))))
    ((k7 (z4.2.1,(z4.2.2.1,()))))))
  (some (z4.2.2.1,(0,()))))
  (0,(v3,([],()))))
noncomputable def zfn(l:List AFlow')(flows:List AFlow'):Option ((List AFlow')×Int×Unit):=zig stdW l flows
noncomputable def zyf:ES:=⟨(.pair (.slc tAFlow) (.pair (.slc tAFlow) .unit)),(.pair (.own 111 tAFlow) (.pair (.v (.int .i64)) .unit)),fun x=>zfn x.1 x.2.1⟩
theorem yhh:ECok Tryz.prog 112 (.es zyf)   := es_ok (A:=(.pair (.slc tAFlow) (.pair (.slc tAFlow) .unit))) (Q:=(.pair (.own 111 tAFlow) (.pair (.v (.int .i64)) .unit))) (fun W x=>zig W x.1 x.2.1) [(51,.es ztn),(178,.es ynb),(179,.es named_s),(180,.es zls),(61,.es zrq)] ⟨zyh,concat_ok,named_ok,zvu,zui,trivial⟩ [] [(13,⟨[(7,.row 5),(20,.row 2)],[],[.dead,.dead,.own 35 tAUnit,.dead,.dead,.own 111 tAFlow]⟩)] [(6,⟨[(7,.row 5),(20,.row 2),(22,.t (.int .i64))],[],[.dead,.dead,.own 35 tAUnit,.dead,.dead,.own 111 tAFlow]⟩)] Tryz.func112 rfl (by decide +kernel) rfl rfl (fun W x=>by kernel_rfl)
noncomputable def zmg(W:Wd)(l:List AHold')(u:AUnit')(all:List zad):Option (List AHold'):=W.both (W.call (zak all) fun v1=>
 W.loop (fun (z2:Bool×Int×Int×Int×List (Int×Int×Int×Unit)×List ((Int×Int×Unit)×List (Int×Int×Int×Unit)×Unit)×Unit) again3=>
  W.cnd (decide (z2.2.1<(l.length:Int))) (
  W.join (fun (z4:Bool×List ((Int×Int×Unit)×List (Int×Int×Int×Unit)×Unit)×Unit)=>(again3 (z4.1,((IntKind.i64.wrap (z2.2.1+1)),(z2.2.2.1,(z2.2.2.2.1,(z2.2.2.2.2.1,(z4.2.1,()))))))))
   fun k5=>W.idx l z2.2.1 fun x6=>
   W.join (fun (z7:Bool×List ((Int×Int×Unit)×List (Int×Int×Int×Unit)×Unit)×Unit)=>
   W.cnd (Go.Vc.notIf true ((x6.1.1==u.1)&&(x6.1.2.1==u.2.1))) (W.call (zak x6.2.1) fun v8=>W.room (z7.2.1.length+((x6.1,(v8,()))::[]).length) 40 ((k5 (z7.1,((z7.2.1++((x6.1,(v8,()))::[])),())))))
    (
    W.cnd (!z7.1) (W.room (z7.2.1.length+(((z2.2.2.1,(z2.2.2.2.1,())),(z2.2.2.2.2.1,()))::[]).length) 40 ((k5 (true,((z7.2.1++(((z2.2.2.1,(z2.2.2.2.1,())),(z2.2.2.2.2.1,()))::[])),())))))
    ((k5 (z7.1,(z7.2.1,()))))))
   fun k9=>
   W.join (fun (z10:Bool×List ((Int×Int×Unit)×List (Int×Int×Int×Unit)×Unit)×Unit)=>
    W.cnd z10.1 (W.room (z10.2.1.length+(((z2.2.2.1,(z2.2.2.2.1,())),(z2.2.2.2.2.1,()))::[]).length) 40 ((k9 (true,((z10.2.1++(((z2.2.2.1,(z2.2.2.2.1,())),(z2.2.2.2.2.1,()))::[])),())))))
    ((k9 (z2.1,(z10.2.1,())))))
    fun k11=>
    W.cnd (!z2.1) (W.call (zea u x6.1) fun v12=>(k11 (v12,(z2.2.2.2.2.2.1,()))))
    ((k11 (false,(z2.2.2.2.2.2.1,())))))
  (
  W.join (fun (z13:List ((Int×Int×Unit)×List (Int×Int×Int×Unit)×Unit)×Unit)=>some z13.1)
   fun k14=>
   W.cnd (!z2.1) (W.room (z2.2.2.2.2.2.1.length+(((z2.2.2.1,(z2.2.2.2.1,())),(z2.2.2.2.2.1,()))::[]).length) 40 ((k14 ((z2.2.2.2.2.2.1++(((z2.2.2.1,(z2.2.2.2.1,())),(z2.2.2.2.2.1,()))::[])),()))))
   ((k14 (z2.2.2.2.2.2.1,())))))
  (((all.length:Int)==0),(0,(u.1,(u.2.1,(v1,([],()))))))) (W.call (zak all) fun v15=>
 W.loop (fun (z16:Bool×Int×Int×Int×List (Int×Int×Int×Unit)×List ((Int×Int×Unit)×List (Int×Int×Int×Unit)×Unit)×Unit) again17=>
  W.cnd (decide (z16.2.1<(l.length:Int))) (
  W.join (fun (z18:Bool×List ((Int×Int×Unit)×List (Int×Int×Int×Unit)×Unit)×Unit)=>(again17 (z18.1,((IntKind.i64.wrap (z16.2.1+1)),(z16.2.2.1,(z16.2.2.2.1,(z16.2.2.2.2.1,(z18.2.1,()))))))))
   fun k19=>W.idx l z16.2.1 fun x20=>
   W.join (fun (z21:Bool×List ((Int×Int×Unit)×List (Int×Int×Int×Unit)×Unit)×Unit)=>
   W.cnd (Go.Vc.notIf true ((x20.1.1==u.1)&&(x20.1.2.1==u.2.1))) (W.call (zak x20.2.1) fun v22=>W.room (z21.2.1.length+((x20.1,(v22,()))::[]).length) 40 ((k19 (z21.1,((z21.2.1++((x20.1,(v22,()))::[])),())))))
    (
    W.cnd (!z21.1) (W.room (z21.2.1.length+(((z16.2.2.1,(z16.2.2.2.1,())),(z16.2.2.2.2.1,()))::[]).length) 40 ((k19 (true,((z21.2.1++(((z16.2.2.1,(z16.2.2.2.1,())),(z16.2.2.2.2.1,()))::[])),())))))
    ((k19 (z21.1,(z21.2.1,()))))))
   fun k23=>
   W.join (fun (z24:Bool×List ((Int×Int×Unit)×List (Int×Int×Int×Unit)×Unit)×Unit)=>
    W.cnd z24.1 (W.room (z24.2.1.length+(((z16.2.2.1,(z16.2.2.2.1,())),(z16.2.2.2.2.1,()))::[]).length) 40 ((k23 (true,((z24.2.1++(((z16.2.2.1,(z16.2.2.2.1,())),(z16.2.2.2.2.1,()))::[])),())))))
    ((k23 (z16.1,(z24.2.1,())))))
    fun k25=>
    W.cnd (!z16.1) (W.call (zea u x20.1) fun v26=>(k25 (v26,(z16.2.2.2.2.2.1,()))))
    ((k25 (false,(z16.2.2.2.2.2.1,())))))
  (
  W.join (fun (z27:List ((Int×Int×Unit)×List (Int×Int×Int×Unit)×Unit)×Unit)=>some z27.1)
   fun k28=>
   W.cnd (!z16.1) (W.room (z16.2.2.2.2.2.1.length+(((z16.2.2.1,(z16.2.2.2.1,())),(z16.2.2.2.2.1,()))::[]).length) 40 ((k28 ((z16.2.2.2.2.2.1++(((z16.2.2.1,(z16.2.2.2.1,())),(z16.2.2.2.2.1,()))::[])),()))))
   ((k28 (z16.2.2.2.2.2.1,())))))
  (((all.length:Int)==0),(0,(u.1,(u.2.1,(v15,([],())))))))
noncomputable def zrk(l:List AHold')(u:AUnit')(all:List zad):Option (List AHold'):=zmg stdW l u all
noncomputable def ycm:ES:=⟨(.pair (.slc tAHold) (.pair tAUnit (.pair (.slc tAAsset) .unit))),(.own 123 tAHold),fun x=>zrk x.1 x.2.1 x.2.2.1⟩
theorem ykq:ECok Tryz.prog 248 (.es ycm)   := es_ok (A:=(.pair (.slc tAHold) (.pair tAUnit (.pair (.slc tAAsset) .unit)))) (Q:=(.own 123 tAHold)) (fun W x=>zmg W x.1 x.2.1 x.2.2.1) [(126,.es zbx),(107,.es zkt)] ⟨zcu,zmv,trivial⟩ [(2,[],(.rd 0 (.rd 1 (.two 2 4 (ofL [(3,true),(4,false),(5,false)]) (ofL [(2,false),(3,true),(5,false)]))))),(10,[],(ofL [(0,true),(1,true),(2,true),(3,true),(4,true),(5,false),(6,true),(7,false),(8,false),(9,true)]))] [(9,⟨[(7,.row 2),(9,.t .bool)],[],[.dead,.dead,.own 123 tAHold]⟩),(13,⟨[(7,.row 2),(9,.t .bool)],[],[.dead,.dead,.own 123 tAHold]⟩),(16,⟨[(7,.row 2)],[],[.dead,.dead,.own 123 tAHold]⟩),(500032,⟨[(7,.row 2),(32,.t .bool)],[],[.dead,.dead,.own 123 tAHold]⟩)] [(5,⟨[(7,.row 2),(9,.t .bool),(21,.t (.int .i64))],[(1,[.t (.int .i64),.t (.int .i64),.t (.slc tAAsset)])],[.dead,.dead,.own 123 tAHold]⟩)] Tryz.func248 rfl (by decide +kernel) rfl rfl (fun W x=>by kernel_rfl)
noncomputable def zfq(W:Wd)(l:List AHold')(u:AUnit')(now:List zad)(e:Int):Option ((List AHold')×Int×Unit):=W.call (zox l) fun v1=>
 W.cnd (!v1) (some ([],(3,())))
 (
 W.cnd (e != 0) (some ([],(e,())))
  (W.call (zrk l u now) fun v2=>some (v2,(0,()))))
noncomputable def zex(l:List AHold')(u:AUnit')(now:List zad)(e:Int):Option ((List AHold')×Int×Unit):=zfq stdW l u now e
noncomputable def zri:ES:=⟨(.pair (.slc tAHold) (.pair tAUnit (.pair (.slc tAAsset) (.pair (.int .i64) .unit)))),(.pair (.own 123 tAHold) (.pair (.v (.int .i64)) .unit)),fun x=>zex x.1 x.2.1 x.2.2.1 x.2.2.2.1⟩
theorem yax:ECok Tryz.prog 181 (.es zri)   := es_ok (A:=(.pair (.slc tAHold) (.pair tAUnit (.pair (.slc tAAsset) (.pair (.int .i64) .unit))))) (Q:=(.pair (.own 123 tAHold) (.pair (.v (.int .i64)) .unit))) (fun W x=>zfq W x.1 x.2.1 x.2.2.1 x.2.2.2.1) [(52,.es zzl),(248,.es ycm)] ⟨ycp,ykq,trivial⟩ [] [] [] Tryz.func181 rfl (by decide +kernel) rfl rfl (fun W x=>by kernel_rfl)
noncomputable def zmh(W:Wd)(l:List AHold')(u:AUnit')(all:List zad):Option ((List AHold')×Int×Unit):=
 W.join (fun (z1:Int×Unit)=>W.call (zex l u all z1.1) fun v2=>some (v2.1,v2.2))
 fun k3=>W.call (zma all) fun v4=>
 W.cnd (!v4) ((k3 (3,())))
  ((k3 (0,())))
noncomputable def zhm(l:List AHold')(u:AUnit')(all:List zad):Option ((List AHold')×Int×Unit):=zmh stdW l u all
noncomputable def ycn:ES:=⟨(.pair (.slc tAHold) (.pair tAUnit (.pair (.slc tAAsset) .unit))),(.pair (.own 123 tAHold) (.pair (.v (.int .i64)) .unit)),fun x=>zhm x.1 x.2.1 x.2.2.1⟩
theorem ykr:ECok Tryz.prog 113 (.es ycn)   := es_ok (A:=(.pair (.slc tAHold) (.pair tAUnit (.pair (.slc tAAsset) .unit)))) (Q:=(.pair (.own 123 tAHold) (.pair (.v (.int .i64)) .unit))) (fun W x=>zmh W x.1 x.2.1 x.2.2.1) [(108,.es zqy),(181,.es zri)] ⟨ztu,yax,trivial⟩ [] [(4,⟨[(8,.t (.int .i64))],[],[]⟩)] [] Tryz.func113 rfl (by decide +kernel) rfl rfl (fun W x=>by kernel_rfl)
noncomputable def zdp(W:Wd)(s:zba)(r:zam):Option (zba×Int×Unit):=W.call (zfn s.2.2.2.2.2.2.2.2.2.2.1 ((r.1,((IntKind.i64.wrap (0 - r.2.1)),()))::[])) fun v1=>
 W.join (fun (z2:Int×Int×List (Int×Int×Int×Int×Unit)×List (Int×Int×Int×Int×List (Int)×Unit)×List (Int×Int×Int×Unit)×List (Int×Int×Int×List (Int)×Unit)×List ((Int×Int×Unit)×(Int×Int×Unit)×Bool×Unit)×List (Int×(Int×Int×Unit)×Int×Int×Int×Unit)×List (Int×(Int×Int×Unit)×(Int×Int×Unit)×(Int×Int×Unit)×Int×Int×Int×Int×Unit)×List ((Int×Int×Unit)×List (Int×Int×Unit)×Unit)×List ((Int×Int×Unit)×List (Int×Int×Unit)×Unit)×List ((Int×Int×Unit)×List (Int×Int×Int×Unit)×Unit)×List ((Int×Int×Unit)×Int×Unit)×Unit)=>some ((z2.2.1,(z2.2.2.1,(z2.2.2.2.1,(z2.2.2.2.2.1,(z2.2.2.2.2.2.1,(z2.2.2.2.2.2.2.1,(z2.2.2.2.2.2.2.2.1,(z2.2.2.2.2.2.2.2.2.1,(z2.2.2.2.2.2.2.2.2.2.1,(z2.2.2.2.2.2.2.2.2.2.2.1,(z2.2.2.2.2.2.2.2.2.2.2.2.2.1,(z2.2.2.2.2.2.2.2.2.2.2.2.1,())))))))))))),(z2.1,())))
 fun k3=>
 W.cnd (v1.2.1==0) (W.call (zhm s.2.2.2.2.2.2.2.2.2.2.2.1 r.1 []) fun v4=>(k3 (v4.2.1,(s.1,(s.2.1,(s.2.2.1,(s.2.2.2.1,(s.2.2.2.2.1,(s.2.2.2.2.2.1,(s.2.2.2.2.2.2.1,(s.2.2.2.2.2.2.2.1,(s.2.2.2.2.2.2.2.2.1,(s.2.2.2.2.2.2.2.2.2.1,(v4.1,(v1.1,())))))))))))))))
  ((k3 (v1.2.1,(s.1,(s.2.1,(s.2.2.1,(s.2.2.2.1,(s.2.2.2.2.1,(s.2.2.2.2.2.1,(s.2.2.2.2.2.2.1,(s.2.2.2.2.2.2.2.1,(s.2.2.2.2.2.2.2.2.1,(s.2.2.2.2.2.2.2.2.2.1,(s.2.2.2.2.2.2.2.2.2.2.2.1,(v1.1,())))))))))))))))
noncomputable def zdh(s:zba)(r:zam):Option (zba×Int×Unit):=zdp stdW s r
noncomputable def zod:ES:=⟨(.pair tAState (.pair tAReturn .unit)),(.pair (.v tAState) (.pair (.v (.int .i64)) .unit)),fun x=>zdh x.1 x.2.1⟩
theorem zxn:ECok Tryz.prog 55 (.es zod)   := es_ok (A:=(.pair tAState (.pair tAReturn .unit))) (Q:=(.pair (.v tAState) (.pair (.v (.int .i64)) .unit))) (fun W x=>zdp W x.1 x.2.1) [(112,.es zyf),(113,.es ycn)] ⟨yhh,ykr,trivial⟩ [] [(5,⟨[(6,.t (.int .i64))],[(0,[.t (.int .i64),.t (.slc tAMember),.t (.slc tAInst),.t (.slc tAAsset),.t (.slc tAAccount),.t (.slc tAChoice),.t (.slc tAGroup),.t (.slc tAGive),.t (.slc tAPos),.t (.slc tAPos),.row 1,.t (.slc tAHold)])],[.dead,.own 111 tAFlow]⟩)] [] Tryz.func55 rfl (by decide +kernel) rfl rfl (fun W x=>by kernel_rfl)
noncomputable def zic(W:Wd)(s:zba)(id:Int):Option (zba×(List zam)×Int×Unit):=
 W.join (fun (z1:Bool×Unit)=>
 W.cnd z1.1 (some ((0,([],([],([],([],([],([],([],([],([],([],([],())))))))))))),([],(3,()))))
  (W.call (zul s.2.2.2.2.1 id) fun v2=>
  W.loop (fun (z3:Int×Int×List (Int×Int×Int×Int×Unit)×List (Int×Int×Int×Int×List (Int)×Unit)×List (Int×Int×Int×Unit)×List (Int×Int×Int×List (Int)×Unit)×List ((Int×Int×Unit)×(Int×Int×Unit)×Bool×Unit)×List (Int×(Int×Int×Unit)×Int×Int×Int×Unit)×List (Int×(Int×Int×Unit)×(Int×Int×Unit)×(Int×Int×Unit)×Int×Int×Int×Int×Unit)×List ((Int×Int×Unit)×List (Int×Int×Unit)×Unit)×List ((Int×Int×Unit)×List (Int×Int×Unit)×Unit)×List ((Int×Int×Unit)×Int×Unit)×List ((Int×Int×Unit)×List (Int×Int×Int×Unit)×Unit)×List ((Int×Int×Unit)×Int×List (Int×Int×Int×Unit)×Unit)×Unit) again4=>
  W.cnd (decide (z3.1<(v2.length:Int))) (W.idx v2 z3.1 fun x5=>W.call (ziy (x5.1,(x5.2.1,(x5.2.2.1,(x5.2.2.2.1,()))))) fun v6=>
   W.loop (fun (z7:Int×Int×List (Int×Int×Int×Int×Unit)×List (Int×Int×Int×Int×List (Int)×Unit)×List (Int×Int×Int×Unit)×List (Int×Int×Int×List (Int)×Unit)×List ((Int×Int×Unit)×(Int×Int×Unit)×Bool×Unit)×List (Int×(Int×Int×Unit)×Int×Int×Int×Unit)×List (Int×(Int×Int×Unit)×(Int×Int×Unit)×(Int×Int×Unit)×Int×Int×Int×Int×Unit)×List ((Int×Int×Unit)×List (Int×Int×Unit)×Unit)×List ((Int×Int×Unit)×List (Int×Int×Unit)×Unit)×List ((Int×Int×Unit)×Int×Unit)×List ((Int×Int×Unit)×List (Int×Int×Int×Unit)×Unit)×List ((Int×Int×Unit)×Int×List (Int×Int×Int×Unit)×Unit)×List (Int×Int×Unit)×Unit) again8=>
   W.cnd (decide (z7.1<(v6.length:Int))) (
    W.join (fun (z9:Int×List (Int×Int×Int×Int×Unit)×List (Int×Int×Int×Int×List (Int)×Unit)×List (Int×Int×Int×Unit)×List (Int×Int×Int×List (Int)×Unit)×List ((Int×Int×Unit)×(Int×Int×Unit)×Bool×Unit)×List (Int×(Int×Int×Unit)×Int×Int×Int×Unit)×List (Int×(Int×Int×Unit)×(Int×Int×Unit)×(Int×Int×Unit)×Int×Int×Int×Int×Unit)×List ((Int×Int×Unit)×List (Int×Int×Unit)×Unit)×List ((Int×Int×Unit)×List (Int×Int×Unit)×Unit)×List ((Int×Int×Unit)×Int×Unit)×List ((Int×Int×Unit)×List (Int×Int×Int×Unit)×Unit)×List ((Int×Int×Unit)×Int×List (Int×Int×Int×Unit)×Unit)×List (Int×Int×Unit)×Unit)=>(again8 ((IntKind.i64.wrap (z7.1+1)),(z9.1,(z9.2.1,(z9.2.2.1,(z9.2.2.2.1,(z9.2.2.2.2.1,(z9.2.2.2.2.2.1,(z9.2.2.2.2.2.2.1,(z9.2.2.2.2.2.2.2.1,(z9.2.2.2.2.2.2.2.2.1,(z9.2.2.2.2.2.2.2.2.2.1,(z9.2.2.2.2.2.2.2.2.2.2.1,(z9.2.2.2.2.2.2.2.2.2.2.2.1,(z9.2.2.2.2.2.2.2.2.2.2.2.2.1,(z9.2.2.2.2.2.2.2.2.2.2.2.2.2.1,())))))))))))))))))
    fun k10=>W.idx z7.2.2.2.2.2.2.2.2.2.2.2.2.2.2.1 z7.1 fun x11=>W.nth z7.2.2.2.2.2.2.2.2.2.2.2.2.2.2.1 (Int.toNat z7.1) fun x12=>W.call (zon (z7.2.1,(z7.2.2.1,(z7.2.2.2.1,(z7.2.2.2.2.1,(z7.2.2.2.2.2.1,(z7.2.2.2.2.2.2.1,(z7.2.2.2.2.2.2.2.1,(z7.2.2.2.2.2.2.2.2.1,(z7.2.2.2.2.2.2.2.2.2.1,(z7.2.2.2.2.2.2.2.2.2.2.1,(z7.2.2.2.2.2.2.2.2.2.2.2.1,(z7.2.2.2.2.2.2.2.2.2.2.2.2.1,())))))))))))) x12) fun v13=>
    W.join (fun (z14:List ((Int×Int×Unit)×Int×List (Int×Int×Int×Unit)×Unit)×List (Int×Int×Unit)×Unit)=>W.call (zdh (z7.2.1,(z7.2.2.1,(z7.2.2.2.1,(z7.2.2.2.2.1,(z7.2.2.2.2.2.1,(z7.2.2.2.2.2.2.1,(z7.2.2.2.2.2.2.2.1,(z7.2.2.2.2.2.2.2.2.1,(z7.2.2.2.2.2.2.2.2.2.1,(z7.2.2.2.2.2.2.2.2.2.2.1,(z7.2.2.2.2.2.2.2.2.2.2.2.1,(z7.2.2.2.2.2.2.2.2.2.2.2.2.1,())))))))))))) (v13.1,(v13.2.1,(v13.2.2.1,())))) fun v15=>
     W.cnd (v15.2.1 != 0) (some ((0,([],([],([],([],([],([],([],([],([],([],([],())))))))))))),([],v15.2)))
     (W.room (z14.1.length+((v13.1,(v13.2.1,(v13.2.2.1,())))::[]).length) 48 ((k10 (v15.1.1,(v15.1.2.1,(v15.1.2.2.1,(v15.1.2.2.2.1,(v15.1.2.2.2.2.1,(v15.1.2.2.2.2.2.1,(v15.1.2.2.2.2.2.2.1,(v15.1.2.2.2.2.2.2.2.1,(v15.1.2.2.2.2.2.2.2.2.1,(v15.1.2.2.2.2.2.2.2.2.2.1,(v15.1.2.2.2.2.2.2.2.2.2.2.1,(v15.1.2.2.2.2.2.2.2.2.2.2.2.1,((z14.1++((v13.1,(v13.2.1,(v13.2.2.1,())))::[])),(z14.2.1,()))))))))))))))))))
     fun k16=>
     W.cnd (v13.2.1==0) (
     W.cnd ((v13.2.2.1.length:Int)==0) ((k10 (z7.2.1,(z7.2.2.1,(z7.2.2.2.1,(z7.2.2.2.2.1,(z7.2.2.2.2.2.1,(z7.2.2.2.2.2.2.1,(z7.2.2.2.2.2.2.2.1,(z7.2.2.2.2.2.2.2.2.1,(z7.2.2.2.2.2.2.2.2.2.1,(z7.2.2.2.2.2.2.2.2.2.2.1,(z7.2.2.2.2.2.2.2.2.2.2.2.1,(z7.2.2.2.2.2.2.2.2.2.2.2.2.1,(z7.2.2.2.2.2.2.2.2.2.2.2.2.2.1,(z7.2.2.2.2.2.2.2.2.2.2.2.2.2.2.1,()))))))))))))))))
      ((k16 (z7.2.2.2.2.2.2.2.2.2.2.2.2.2.1,(z7.2.2.2.2.2.2.2.2.2.2.2.2.2.2.1,())))))
     ((k16 (z7.2.2.2.2.2.2.2.2.2.2.2.2.2.1,(z7.2.2.2.2.2.2.2.2.2.2.2.2.2.2.1,())))))
    ((again4 ((IntKind.i64.wrap (z3.1+1)),(z7.2.1,(z7.2.2.1,(z7.2.2.2.1,(z7.2.2.2.2.1,(z7.2.2.2.2.2.1,(z7.2.2.2.2.2.2.1,(z7.2.2.2.2.2.2.2.1,(z7.2.2.2.2.2.2.2.2.1,(z7.2.2.2.2.2.2.2.2.2.1,(z7.2.2.2.2.2.2.2.2.2.2.1,(z7.2.2.2.2.2.2.2.2.2.2.2.1,(z7.2.2.2.2.2.2.2.2.2.2.2.2.1,(z7.2.2.2.2.2.2.2.2.2.2.2.2.2.1,())))))))))))))))))
   (0,(z3.2.1,(z3.2.2.1,(z3.2.2.2.1,(z3.2.2.2.2.1,(z3.2.2.2.2.2.1,(z3.2.2.2.2.2.2.1,(z3.2.2.2.2.2.2.2.1,(z3.2.2.2.2.2.2.2.2.1,(z3.2.2.2.2.2.2.2.2.2.1,(z3.2.2.2.2.2.2.2.2.2.2.1,(z3.2.2.2.2.2.2.2.2.2.2.2.1,(z3.2.2.2.2.2.2.2.2.2.2.2.2.1,(z3.2.2.2.2.2.2.2.2.2.2.2.2.2.1,(v6,()))))))))))))))))
   (some ((z3.2.1,(z3.2.2.1,(z3.2.2.2.1,(z3.2.2.2.2.1,(z3.2.2.2.2.2.1,(z3.2.2.2.2.2.2.1,(z3.2.2.2.2.2.2.2.1,(z3.2.2.2.2.2.2.2.2.1,(z3.2.2.2.2.2.2.2.2.2.1,(z3.2.2.2.2.2.2.2.2.2.2.1,(z3.2.2.2.2.2.2.2.2.2.2.2.1,(z3.2.2.2.2.2.2.2.2.2.2.2.2.1,())))))))))))),(z3.2.2.2.2.2.2.2.2.2.2.2.2.2.1,(0,())))))
  (0,(s.1,(s.2.1,(s.2.2.1,(s.2.2.2.1,(s.2.2.2.2.1,(s.2.2.2.2.2.1,(s.2.2.2.2.2.2.1,(s.2.2.2.2.2.2.2.1,(s.2.2.2.2.2.2.2.2.1,(s.2.2.2.2.2.2.2.2.2.1,(s.2.2.2.2.2.2.2.2.2.2.1,(s.2.2.2.2.2.2.2.2.2.2.2.1,([],()))))))))))))))))
 fun k17=>W.call (zjs s.2.2.2.2.2.2.2.2.2.2.1) fun v18=>
 W.cnd (!v18) ((k17 (true,())))
  (W.call (zox s.2.2.2.2.2.2.2.2.2.2.2.1) fun v19=>(k17 ((!v19),())))
noncomputable def zgk(s:zba)(id:Int):Option (zba×(List zam)×Int×Unit):=zic stdW s id
noncomputable def zoo:ES:=⟨(.pair tAState (.pair (.int .i64) .unit)),(.pair (.v tAState) (.pair (.own 38 tAReturn) (.pair (.v (.int .i64)) .unit))),fun x=>zgk x.1 x.2.1⟩
theorem zur:ECok Tryz.prog 9 (.es zoo)   := es_ok (A:=(.pair tAState (.pair (.int .i64) .unit))) (Q:=(.pair (.v tAState) (.pair (.own 38 tAReturn) (.pair (.v (.int .i64)) .unit)))) (fun W x=>zic W x.1 x.2.1) [(51,.es ztn),(52,.es zzl),(53,.es yjf),(54,.es zvo),(13,.es ygu),(55,.es zod)] ⟨zyh,ycp,acct_Of_ok,yge,rest_Of_ok,zxn,trivial⟩ [(15,[0],(ofL [(0,true),(1,true),(2,true),(3,false),(4,false),(5,false),(6,true)]))] [(12,⟨[(7,.row 2),(36,.row 3)],[],[.dead,.dead,.own 38 tAReturn,.own 35 tAUnit]⟩),(16,⟨[(7,.row 2),(36,.row 3)],[(0,[.t (.int .i64),.t (.slc tAMember),.t (.slc tAInst),.t (.slc tAAsset),.t (.slc tAAccount),.t (.slc tAChoice),.t (.slc tAGroup),.t (.slc tAGive),.t (.slc tAPos),.t (.slc tAPos),.t (.slc tAFlow),.t (.slc tAHold)])],[.dead,.dead,.own 38 tAReturn,.own 35 tAUnit]⟩),(500024,⟨[(24,.t .bool)],[],[]⟩)] [(5,⟨[(7,.row 2),(31,.t (.int .i64))],[(0,[.t (.int .i64),.t (.slc tAMember),.t (.slc tAInst),.t (.slc tAAsset),.t (.slc tAAccount),.t (.slc tAChoice),.t (.slc tAGroup),.t (.slc tAGive),.t (.slc tAPos),.t (.slc tAPos),.t (.slc tAFlow),.t (.slc tAHold)])],[.dead,.dead,.own 38 tAReturn]⟩),(8,⟨[(7,.row 2),(36,.row 3),(38,.t (.int .i64))],[(0,[.t (.int .i64),.t (.slc tAMember),.t (.slc tAInst),.t (.slc tAAsset),.t (.slc tAAccount),.t (.slc tAChoice),.t (.slc tAGroup),.t (.slc tAGive),.t (.slc tAPos),.t (.slc tAPos),.t (.slc tAFlow),.t (.slc tAHold)])],[.dead,.dead,.own 38 tAReturn,.own 35 tAUnit]⟩)] Tryz.func9 rfl (by decide +kernel) rfl rfl (fun W x=>by kernel_rfl)
noncomputable def zpf(W:Wd)(l:List zad)(id:Int):Option (zad×Bool×Unit):=
 W.loop (fun (z1:Int×Unit) again2=>
 W.cnd (decide (z1.1<(l.length:Int))) (W.idx l z1.1 fun x3=>
  W.cnd (x3.1==id) (some (x3,(true,())))
  ((again2 ((IntKind.i64.wrap (z1.1+1)),()))))
  (some ((0,(0,(0,()))),(false,()))))
 (0,())
noncomputable def zoa(l:List zad)(id:Int):Option (zad×Bool×Unit):=zpf stdW l id
noncomputable def zvm:ES:=⟨(.pair (.slc tAAsset) (.pair (.int .i64) .unit)),(.pair (.v tAAsset) (.pair (.v .bool) .unit)),fun x=>zoa x.1 x.2.1⟩
theorem yga:ECok Tryz.prog 184 (.es zvm)   := es_ok (A:=(.pair (.slc tAAsset) (.pair (.int .i64) .unit))) (Q:=(.pair (.v tAAsset) (.pair (.v .bool) .unit))) (fun W x=>zpf W x.1 x.2.1) [] trivial [] [] [(2,⟨[(10,.t (.int .i64))],[],[]⟩)] Tryz.func184 rfl (by decide +kernel) rfl rfl (fun W x=>by kernel_rfl)
noncomputable def zkq(W:Wd)(p:Int):Option Bool:=
 W.cnd (decide (0≤p)) (some (decide (p≤2147483647)))
 (some false)
noncomputable def zhp(p:Int):Option Bool:=zkq stdW p
noncomputable def zog:ES:=⟨(.pair (.int .i64) .unit),(.v .bool),fun x=>zhp x.1⟩
theorem yah:ECok Tryz.prog 249 (.es zog)   := es_ok (A:=(.pair (.int .i64) .unit)) (Q:=(.v .bool)) (fun W x=>zkq W x.1) [] trivial [] [] [] Tryz.func249 rfl (by decide +kernel) rfl rfl (fun W x=>by kernel_rfl)
noncomputable def zmr(W:Wd)(a:zad):Option Int:=
 W.join (fun (z1:Bool×Unit)=>
 W.cnd z1.1 (some 2)
  (some 0))
 fun k2=>
 W.cnd (decide (a.1<1)) ((k2 (true,())))
  (
  W.cnd (decide (4<a.1)) ((k2 (true,())))
  (W.call (zhp a.2.1) fun v3=>
  W.cnd (!v3) ((k2 (true,())))
   (
   W.cnd (decide (a.2.2.1<0)) ((k2 (true,())))
   ((k2 ((decide (10000<a.2.2.1)),()))))))
noncomputable def zks(a:zad):Option Int:=zmr stdW a
noncomputable def zsi:ES:=⟨(.pair tAAsset .unit),(.v (.int .i64)),fun x=>zks x.1⟩
theorem ybe:ECok Tryz.prog 185 (.es zsi)   := es_ok (A:=(.pair tAAsset .unit)) (Q:=(.v (.int .i64))) (fun W x=>zmr W x.1) [(249,.es zog)] ⟨yah,trivial⟩ [] [(500026,⟨[(26,.t .bool)],[],[]⟩)] [] Tryz.func185 rfl (by decide +kernel) rfl rfl (fun W x=>by kernel_rfl)
noncomputable def zky(W:Wd)(w:zag):Option Bool:=some (decide (w.1<0))
noncomputable def zbr(w:zag):Option Bool:=zky stdW w
noncomputable def zer:ES:=⟨(.pair tWideWide .unit),(.v .bool),fun x=>zbr x.1⟩
theorem zgz:ECok Tryz.prog 196 (.es zer)   := es_ok (A:=(.pair tWideWide .unit)) (Q:=(.v .bool)) (fun W x=>zky W x.1) [] trivial [] [] [] Tryz.func196 rfl (by decide +kernel) rfl rfl (fun W x=>by kernel_rfl)
noncomputable def zgg(W:Wd)(w:zag):Option zja:=W.call (zbr w) fun v1=>
 W.cnd (!v1) (some ((IntKind.u64.wrap w.1),w.2))
 (W.call (sub64 0 w.2.1 0) fun v2=>W.call (sub64 0 (IntKind.u64.wrap w.1) v2.2.1) fun v3=>some (v3.1,(v2.1,())))
noncomputable def zdv(w:zag):Option zja:=zgg stdW w
noncomputable def zkx:ES:=⟨(.pair tWideWide .unit),(.v tWideSize),fun x=>zdv x.1⟩
theorem zsw:ECok Tryz.prog 192 (.es zkx)   := es_ok (A:=(.pair tWideWide .unit)) (Q:=(.v tWideSize)) (fun W x=>zgg W x.1) [(196,.es zer),(251,.es yjp)] ⟨zgz,ylp,trivial⟩ [] [] [] Tryz.func192 rfl (by decide +kernel) rfl rfl (fun W x=>by kernel_rfl)
noncomputable def zfx(W:Wd)(x:Int)(y:Int):Option (Int×Int×Unit):=W.nn 32 (W.nn 32 (W.nn 32 (W.nn 32 (W.nn 32 (some ((IntKind.u64.wrap ((IntKind.u64.wrap ((IntKind.u64.wrap ((Int.fdiv x (2 ^ (Min.min (Int.toNat 32) (Go.IntKind.bits Go.IntKind.u64))))*(Int.fdiv y (2 ^ (Min.min (Int.toNat 32) (Go.IntKind.bits Go.IntKind.u64))))))+(Int.fdiv (IntKind.u64.wrap ((IntKind.u64.wrap ((Int.fdiv x (2 ^ (Min.min (Int.toNat 32) (Go.IntKind.bits Go.IntKind.u64))))*(Go.bits Go.BinOp.and Go.IntKind.u64 y 4294967295)))+(Int.fdiv (IntKind.u64.wrap ((Go.bits Go.BinOp.and Go.IntKind.u64 x 4294967295)*(Go.bits Go.BinOp.and Go.IntKind.u64 y 4294967295))) (2 ^ (Min.min (Int.toNat 32) (Go.IntKind.bits Go.IntKind.u64)))))) (2 ^ (Min.min (Int.toNat 32) (Go.IntKind.bits Go.IntKind.u64))))))+(Int.fdiv (IntKind.u64.wrap ((Go.bits Go.BinOp.and Go.IntKind.u64 (IntKind.u64.wrap ((IntKind.u64.wrap ((Int.fdiv x (2 ^ (Min.min (Int.toNat 32) (Go.IntKind.bits Go.IntKind.u64))))*(Go.bits Go.BinOp.and Go.IntKind.u64 y 4294967295)))+(Int.fdiv (IntKind.u64.wrap ((Go.bits Go.BinOp.and Go.IntKind.u64 x 4294967295)*(Go.bits Go.BinOp.and Go.IntKind.u64 y 4294967295))) (2 ^ (Min.min (Int.toNat 32) (Go.IntKind.bits Go.IntKind.u64)))))) 4294967295)+(IntKind.u64.wrap ((Go.bits Go.BinOp.and Go.IntKind.u64 x 4294967295)*(Int.fdiv y (2 ^ (Min.min (Int.toNat 32) (Go.IntKind.bits Go.IntKind.u64)))))))) (2 ^ (Min.min (Int.toNat 32) (Go.IntKind.bits Go.IntKind.u64)))))),((IntKind.u64.wrap (x*y)),())))))))
noncomputable def zen(x:Int)(y:Int):Option (Int×Int×Unit):=zfx stdW x y
noncomputable def zim:ES:=⟨(.pair (.int .u64) (.pair (.int .u64) .unit)),(.pair (.v (.int .u64)) (.pair (.v (.int .u64)) .unit)),fun x=>zen x.1 x.2.1⟩
theorem zqx:ECok Tryz.prog 193 (.es zim)   := es_ok (A:=(.pair (.int .u64) (.pair (.int .u64) .unit))) (Q:=(.pair (.v (.int .u64)) (.pair (.v (.int .u64)) .unit))) (fun W x=>zfx W x.1 x.2.1) [] trivial [] [] [] Tryz.func193 rfl (by decide +kernel) rfl rfl (fun W x=>by kernel_rfl)
noncomputable def zeq(W:Wd)(s:zja)(minus:Bool):Option (zag×Bool×Unit):=
 W.cnd (!minus) (some (((IntKind.i64.wrap s.1),s.2),((decide (s.1<9223372036854775808)),())))
 (W.call (sub64 0 s.2.1 0) fun v1=>W.call (sub64 0 s.1 v1.2.1) fun v2=>
 W.cnd (decide (s.1<9223372036854775808)) (some (((IntKind.i64.wrap v2.1),(v1.1,())),(true,())))
  (
  W.cnd (s.1==9223372036854775808) (some (((IntKind.i64.wrap v2.1),(v1.1,())),((s.2.1==0),())))
  (some (((IntKind.i64.wrap v2.1),(v1.1,())),(false,())))))
noncomputable def zbw(s:zja)(minus:Bool):Option (zag×Bool×Unit):=zeq stdW s minus
noncomputable def zgy:ES:=⟨(.pair tWideSize (.pair .bool .unit)),(.pair (.v tWideWide) (.pair (.v .bool) .unit)),fun x=>zbw x.1 x.2.1⟩
theorem zoi:ECok Tryz.prog 195 (.es zgy)   := es_ok (A:=(.pair tWideSize (.pair .bool .unit))) (Q:=(.pair (.v tWideWide) (.pair (.v .bool) .unit))) (fun W x=>zeq W x.1 x.2.1) [(251,.es yjp)] ⟨ylp,trivial⟩ [(2,[1],(ofL [(0,true),(1,true),(2,true),(3,true),(4,true),(5,true),(6,true),(7,true),(8,true),(9,false),(10,true)])),(5,[1],(ofL [(0,true),(1,true),(2,true),(3,true),(4,true),(5,true),(6,true),(7,true),(8,true),(9,true),(10,true),(11,true),(12,true),(13,true),(14,true),(15,true),(16,true),(17,false),(18,true)]))] [] [] Tryz.func195 rfl (by decide +kernel) rfl rfl (fun W x=>by kernel_rfl)
noncomputable def zwz(W:Wd)(a:Int)(b:Int):Option zag:=W.call (zlc a) fun v1=>W.call (zlc b) fun v2=>W.call (zdv v1) fun v3=>W.call (zdv v2) fun v4=>W.call (zen v3.2.1 v4.2.1) fun v5=>W.both (W.call (zbr v1) fun v6=>W.both (W.call (zbr v2) fun v7=>W.both (W.call (zbw v5 (Go.Vc.notIf true (v6==v7))) fun v8=>some v8.1) (W.call (zbw v5 (Go.Vc.notIf true (v6==v7))) fun v9=>some v9.1)) (W.call (zbr v2) fun v10=>W.call (zbw v5 (Go.Vc.notIf true (v6==v10))) fun v11=>some v11.1)) (W.call (zbr v1) fun v12=>W.call (zbr v2) fun v13=>W.call (zbw v5 (Go.Vc.notIf true (v12==v13))) fun v14=>some v14.1)
noncomputable def zvw(a:Int)(b:Int):Option zag:=zwz stdW a b
noncomputable def ybh:ES:=⟨(.pair (.int .i64) (.pair (.int .i64) .unit)),(.v tWideWide),fun x=>zvw x.1 x.2.1⟩
theorem yjn:ECok Tryz.prog 131 (.es ybh)   := es_ok (A:=(.pair (.int .i64) (.pair (.int .i64) .unit))) (Q:=(.v tWideWide)) (fun W x=>zwz W x.1 x.2.1) [(119,.es zpq),(192,.es zkx),(193,.es zim),(196,.es zer),(195,.es zgy)] ⟨zsx,zsw,zqx,zgz,zoi,trivial⟩ [(2,[],(ofL [(0,true),(3,true),(1,false),(2,true),(4,false),(5,true),(6,false),(7,true),(8,true),(9,true),(10,true),(11,true)])),(3,[],(.rd 0 (.rd 1 (.rd 2 (.rd 3 (.rd 5 (.two 4 12 (.two 6 12 (.rd 7 (.two 8 12 (ofL [(9,true),(10,true),(11,true),(12,false),(13,false),(14,true)]) (ofL [(8,false),(9,true),(10,true),(11,true),(13,false),(14,true)]))) (ofL [(6,false),(7,true),(8,false),(9,true),(10,true),(11,true),(13,false),(14,true)])) (ofL [(4,false),(6,false),(7,true),(8,false),(9,true),(10,true),(11,true),(13,false),(14,true)]))))))))] [] [] Tryz.func131 rfl (by decide +kernel) rfl rfl (fun W x=>by kernel_rfl)
noncomputable def zmk(W:Wd)(l:List Int):Option (Int×Int×Unit):=
 W.loop (fun (z1:Int×Int×Unit) again2=>
 W.cnd (decide (z1.2.1<(l.length:Int))) (W.idx l z1.2.1 fun x3=>W.call (zvw z1.1 x3) fun v4=>W.call (zmx v4) fun v5=>
  W.cnd (v5.2.1 != 0) (some (0,v5.2))
  ((again2 (v5.1,((IntKind.i64.wrap (z1.2.1+1)),())))))
  (some (z1.1,(0,()))))
 (1,(0,()))
noncomputable def zkc(l:List Int):Option (Int×Int×Unit):=zmk stdW l
noncomputable def zrt:ES:=⟨(.pair (.slc (.int .i64)) .unit),(.pair (.v (.int .i64)) (.pair (.v (.int .i64)) .unit)),fun x=>zkc x.1⟩
theorem yaz:ECok Tryz.prog 186 (.es zrt)   := es_ok (A:=(.pair (.slc (.int .i64)) .unit)) (Q:=(.pair (.v (.int .i64)) (.pair (.v (.int .i64)) .unit))) (fun W x=>zmk W x.1) [(131,.es ybh),(132,.es zsz)] ⟨yjn,zxa,trivial⟩ [] [] [(3,⟨[(4,.t (.int .i64)),(11,.t (.int .i64))],[],[]⟩)] Tryz.func186 rfl (by decide +kernel) rfl rfl (fun W x=>by kernel_rfl)
noncomputable def zmq(W:Wd)(a:zad)(qty:Int):Option (Int×Int×Unit):=W.call (zks a) fun v1=>
 W.cnd (v1 != 0) (some (0,(v1,())))
 (W.call (zkc (qty::(a.2.1::[]))) fun v2=>some v2)
noncomputable def zkr(a:zad)(qty:Int):Option (Int×Int×Unit):=zmq stdW a qty
noncomputable def zsg:ES:=⟨(.pair tAAsset (.pair (.int .i64) .unit)),(.pair (.v (.int .i64)) (.pair (.v (.int .i64)) .unit)),fun x=>zkr x.1 x.2.1⟩
theorem ybd:ECok Tryz.prog 118 (.es zsg)   := es_ok (A:=(.pair tAAsset (.pair (.int .i64) .unit))) (Q:=(.pair (.v (.int .i64)) (.pair (.v (.int .i64)) .unit))) (fun W x=>zmq W x.1 x.2.1) [(185,.es zsi),(186,.es zrt)] ⟨ybe,yaz,trivial⟩ [] [] [] Tryz.func118 rfl (by decide +kernel) rfl rfl (fun W x=>by kernel_rfl)
noncomputable def zco(W:Wd)(as_:List zad)(l:List zad):Option (((List Int)×Int×Unit)×(Unit)):=W.call (zma l) fun v1=>
 W.cnd (!v1) (some (([],(3,())),()))
 (
 W.loop (fun (z2:Int×List (Int)×Unit) again3=>
  W.cnd (decide (z2.1<(l.length:Int))) (W.idx l z2.1 fun x4=>W.call (zoa as_ x4.1) fun v5=>
  W.cnd (!v5.2.1) (some (([],(11,())),()))
   (W.call (zkr v5.1 x4.2.2.1) fun v6=>
   W.cnd (v6.2.1 != 0) (some (([],v6.2),()))
   (W.room (z2.2.1.length+(v6.1::[]).length) 8 ((again3 ((IntKind.i64.wrap (z2.1+1)),((z2.2.1++(v6.1::[])),())))))))
  (some ((z2.2.1,(0,())),())))
  (0,([],())))
noncomputable def zbv(as_:List zad)(l:List zad):Option (((List Int)×Int×Unit)×(Unit)):=zco stdW as_ l
noncomputable def zdq:LS:=⟨[.v (.slc tAAsset),.v (.slc tAAsset),.fn 118 0],[],[],(.q (.pair (.own 2 (.int .i64)) (.pair (.v (.int .i64)) .unit))),fun x=>zbv x.1 x.2.1⟩
theorem zgs:ECok Tryz.prog 117 (.ls zdq)   := ls_ok (A:=[.v (.slc tAAsset),.v (.slc tAAsset),.fn 118 0]) (B:=[]) (E:=[]) (Q:=(.q (.pair (.own 2 (.int .i64)) (.pair (.v (.int .i64)) .unit)))) (fun W x=>zco W x.1 x.2.1) [(108,.es zqy),(184,.es zvm),(118,.es zsg)] ⟨ztu,yga,ybd,trivial⟩ [] [] [(5,⟨[(8,.row 1),(20,.t (.int .i64))],[],[.dead,.own 2 (.int .i64)]⟩)] Tryz.func117 rfl (by decide +kernel) rfl rfl rfl rfl rfl (fun W x=>by kernel_rfl)
noncomputable def zmm(W:Wd)(as_:List zad)(l:List zad):Option (Int×Int×Unit):=W.call (zbv as_ l) fun v1=>
 W.cnd (v1.1.2.1 != 0) (some (0,v1.1.2))
 (W.call (zmj v1.1.1) fun v2=>some v2)
noncomputable def zkf(as_:List zad)(l:List zad):Option (Int×Int×Unit):=zmm stdW as_ l
noncomputable def zsa:ES:=⟨(.pair (.slc tAAsset) (.pair (.slc tAAsset) .unit)),(.pair (.v (.int .i64)) (.pair (.v (.int .i64)) .unit)),fun x=>zkf x.1 x.2.1⟩
theorem yba:ECok Tryz.prog 60 (.es zsa)   := es_ok (A:=(.pair (.slc tAAsset) (.pair (.slc tAAsset) .unit))) (Q:=(.pair (.v (.int .i64)) (.pair (.v (.int .i64)) .unit))) (fun W x=>zmm W x.1 x.2.1) [(117,.ls zdq),(61,.es zrq)] ⟨zgs,zui,trivial⟩ [] [] [] Tryz.func60 rfl (by decide +kernel) rfl rfl (fun W x=>by kernel_rfl)
noncomputable def zom(W:Wd)(as_:List zad)(r:zam):Option (Int×Int×Unit):=W.call (zkf as_ r.2.2.1) fun v1=>
 W.cnd (v1.2.1 != 0) (some (0,v1.2))
 (W.call (zmj (v1.1::(r.2.1::[]))) fun v2=>some v2)
noncomputable def zna(as_:List zad)(r:zam):Option (Int×Int×Unit):=zom stdW as_ r
noncomputable def zup:ES:=⟨(.pair (.slc tAAsset) (.pair tAReturn .unit)),(.pair (.v (.int .i64)) (.pair (.v (.int .i64)) .unit)),fun x=>zna x.1 x.2.1⟩
theorem yea:ECok Tryz.prog 11 (.es zup)   := es_ok (A:=(.pair (.slc tAAsset) (.pair tAReturn .unit))) (Q:=(.pair (.v (.int .i64)) (.pair (.v (.int .i64)) .unit))) (fun W x=>zom W x.1 x.2.1) [(60,.es zsa),(61,.es zrq)] ⟨yba,zui,trivial⟩ [] [] [] Tryz.func11 rfl (by decide +kernel) rfl rfl (fun W x=>by kernel_rfl)
noncomputable def zmc(W:Wd):Option Bool:=W.call (zgk (0,([],([],([],(((1,(1,(1,([],()))))::[]),([],([],([],([],([],((((1,(0,())),(5,()))::[]),((((1,(0,())),(((1,(0,(4,())))::[]),()))::[]),())))))))))))) 1) fun v1=>
 W.join (fun (z2:Bool×List ((Int×Int×Unit)×Int×List (Int×Int×Int×Unit)×Unit)×Unit)=>
 W.cnd z2.1 (some false)
  (W.idx z2.2.1 0 fun x3=>W.nth z2.2.1 (Int.toNat 0) fun x4=>W.call (zna ((1,(3,(0,())))::[]) (x4.1,(x4.2.1,(x4.2.2.1,())))) fun v5=>
  W.cnd (v5.1==17) (some (v5.2.1==0))
  (some false)))
 fun k6=>
 W.cnd (v1.2.2.1 != 0) ((k6 (true,(v1.2.1,()))))
  (
  W.cnd ((v1.2.1.length:Int) != 1) ((k6 (true,(v1.2.1,()))))
  ((k6 (((IntKind.i64.wrap ((v1.1.2.2.2.2.2.2.2.2.2.2.1.length:Int)+(v1.1.2.2.2.2.2.2.2.2.2.2.2.1.length:Int))) != 0),(v1.2.1,())))))
noncomputable def zef:Option Bool:=zmc stdW
noncomputable def zrd:ES:=⟨.unit,(.v .bool),fun x=>zef ⟩
theorem yau:ECok Tryz.prog 17 (.es zrd)   := es_ok (A:=.unit) (Q:=(.v .bool)) (fun W x=>zmc W ) [(9,.es zoo),(11,.es zup)] ⟨zur,yea,trivial⟩ [] [(500042,⟨[(4,.row 4),(42,.t .bool)],[],[.dead,.dead,.dead,.dead,.own 38 tAReturn]⟩)] [] Tryz.func17 rfl (by decide +kernel) rfl rfl (fun W x=>by kernel_rfl)
noncomputable def yby(W:Wd)(u:Int):Option zab:=
 W.loop (fun (z1:Int×List (Int)×Unit) again2=>
 W.cnd (decide (0<z1.1)) (W.nz 2 (W.room (z1.2.1.length+((IntKind.u8.wrap (Int.tmod z1.1 2))::[]).length) 1 (W.nz 2 ((again2 ((IntKind.u64.wrap (Int.tdiv z1.1 2)),((z1.2.1++((IntKind.u8.wrap (Int.tmod z1.1 2))::[])),())))))))
  (some (false,(z1.2.1,()))))
 (u,([],()))
noncomputable def zqr(u:Int):Option zab:=yby stdW u
noncomputable def zya:ES:=⟨(.pair (.int .u64) .unit),(.v tNovationref01Big),fun x=>zqr x.1⟩
theorem yhb:ECok Tryz.prog 73 (.es zya)   := es_ok (A:=(.pair (.int .u64) .unit)) (Q:=(.v tNovationref01Big)) (fun W x=>yby W x.1) [] trivial [] [] [(2,⟨[(0,.t (.int .u64)),(3,.row 1)],[],[.dead,.own 5 (.int .u8)]⟩)] Tryz.func73 rfl (by decide +kernel) rfl rfl (fun W x=>by kernel_rfl)
noncomputable def zxu(W:Wd)(a:List Int)(b:List Int):Option (List Int):=
 W.loop (fun (z1:Int×Int×List (Int)×Unit) again2=>
 W.join (fun (z3:List (Int)×Unit)=>
  W.join (fun (z4:Int×List (Int)×Unit)=>
  W.join (fun (z5:Int×List (Int)×Unit)=>W.nz 2 (W.room (z5.2.1.length+((Int.tmod z5.1 2)::[]).length) 1 (W.nz 2 ((again2 ((IntKind.u8.wrap (Int.tdiv z5.1 2)),((IntKind.i64.wrap (z1.2.1+1)),((z5.2.1++((Int.tmod z5.1 2)::[])),()))))))))
   fun k6=>
   W.cnd (decide (z1.2.1<(b.length:Int))) (W.idx b z1.2.1 fun x7=>(k6 ((IntKind.u8.wrap (z4.1+x7)),(z4.2.1,()))))
   ((k6 (z4.1,(z4.2.1,())))))
  fun k8=>
  W.cnd (decide (z1.2.1<(a.length:Int))) (W.idx a z1.2.1 fun x9=>(k8 ((IntKind.u8.wrap (z1.1+x9)),(z3.1,()))))
   ((k8 (z1.1,(z3.1,())))))
  fun k10=>
  W.cnd (decide (z1.2.1<(a.length:Int))) ((k10 (z1.2.2.1,())))
  (
  W.cnd (decide (z1.2.1<(b.length:Int))) ((k10 (z1.2.2.1,())))
   (
   W.join (fun (z11:List (Int)×Unit)=>some z11.1)
   fun k12=>
   W.cnd (decide (0<z1.1)) (W.room (z1.2.2.1.length+(z1.1::[]).length) 1 ((k12 ((z1.2.2.1++(z1.1::[])),()))))
    ((k12 (z1.2.2.1,()))))))
 (0,(0,([],())))
noncomputable def zie(a:List Int)(b:List Int):Option (List Int):=zxu stdW a b
noncomputable def zlp:ES:=⟨(.pair (.slc (.int .u8)) (.pair (.slc (.int .u8)) .unit)),(.own 5 (.int .u8)),fun x=>zie x.1 x.2.1⟩
theorem zqo:ECok Tryz.prog 70 (.es zlp)   := es_ok (A:=(.pair (.slc (.int .u8)) (.pair (.slc (.int .u8)) .unit))) (Q:=(.own 5 (.int .u8))) (fun W x=>zxu W x.1 x.2.1) [] trivial [] [(6,⟨[(5,.row 1)],[],[.dead,.own 5 (.int .u8)]⟩),(8,⟨[(5,.row 1),(6,.t (.int .u8))],[],[.dead,.own 5 (.int .u8)]⟩),(10,⟨[(5,.row 1),(6,.t (.int .u8))],[],[.dead,.own 5 (.int .u8)]⟩),(14,⟨[(5,.row 1)],[],[.dead,.own 5 (.int .u8)]⟩)] [(4,⟨[(5,.row 1),(6,.t (.int .u8)),(7,.t (.int .i64))],[],[.dead,.own 5 (.int .u8)]⟩)] Tryz.func70 rfl (by decide +kernel) rfl rfl (fun W x=>by kernel_rfl)
noncomputable def zqq(W:Wd)(n:Int):Option zab:=
 W.cnd (decide (0≤n)) (W.call (zqr (IntKind.u64.wrap n)) fun v1=>some (v1.1,(v1.2.1,())))
 (W.call (zqr (IntKind.u64.wrap (IntKind.i64.wrap (0 - (IntKind.i64.wrap (n+1)))))) fun v2=>W.call (zie v2.2.1 (1::[])) fun v3=>some (true,(v3,())))
noncomputable def zda(n:Int):Option zab:=zqq stdW n
noncomputable def zng:ES:=⟨(.pair (.int .i64) .unit),(.v tNovationref01Big),fun x=>zda x.1⟩
theorem zor:ECok Tryz.prog 20 (.es zng)   := es_ok (A:=(.pair (.int .i64) .unit)) (Q:=(.v tNovationref01Big)) (fun W x=>zqq W x.1) [(73,.es zya),(70,.es zlp)] ⟨yhb,zqo,trivial⟩ [] [] [] Tryz.func20 rfl (by decide +kernel) rfl rfl (fun W x=>by kernel_rfl)
noncomputable def zxt(W:Wd)(neg:Bool)(b:List Int):Option zab:=
 W.join (fun (z1:Int×Unit)=>
 W.cnd neg (W.bnd z1.1 b.length fun h2=>some ((decide (0<z1.1)),((b.take h2),())))
  (W.bnd z1.1 b.length fun h3=>some (false,((b.take h3),()))))
 fun k4=>
 W.loop (fun (z5:Int×Unit) again6=>
  W.cnd (decide (0<z5.1)) (W.idx b (IntKind.i64.wrap (z5.1 - 1)) fun x7=>
  W.cnd (x7==0) ((again6 ((IntKind.i64.wrap (z5.1 - 1)),())))
   ((k4 z5)))
  ((k4 z5)))
  ((b.length:Int),())
noncomputable def zgd(neg:Bool)(b:List Int):Option zab:=zxt stdW neg b
noncomputable def zln:ES:=⟨(.pair .bool (.pair (.slc (.int .u8)) .unit)),(.v tNovationref01Big),fun x=>zgd x.1 x.2.1⟩
theorem zqn:ECok Tryz.prog 69 (.es zln)   := es_ok (A:=(.pair .bool (.pair (.slc (.int .u8)) .unit))) (Q:=(.v tNovationref01Big)) (fun W x=>zxt W x.1 x.2.1) [] trivial [] [(4,⟨[(5,.t (.int .i64))],[],[]⟩)] [(2,⟨[(5,.t (.int .i64))],[],[]⟩)] Tryz.func69 rfl (by decide +kernel) rfl rfl (fun W x=>by kernel_rfl)
noncomputable def zxv(W:Wd)(a:List Int)(b:List Int):Option Bool:=
 W.cnd ((a.length:Int) != (b.length:Int)) (some (decide ((a.length:Int)<(b.length:Int))))
 (
 W.loop (fun (z1:Int×Unit) again2=>
  W.cnd (decide (0<z1.1)) (W.idx a (IntKind.i64.wrap (z1.1 - 1)) fun x3=>W.idx b (IntKind.i64.wrap (z1.1 - 1)) fun x4=>
  W.cnd (x3 != x4) (W.idx a (IntKind.i64.wrap (z1.1 - 1)) fun x5=>W.idx b (IntKind.i64.wrap (z1.1 - 1)) fun x6=>some (decide (x5<x6)))
   ((again2 ((IntKind.i64.wrap (z1.1 - 1)),()))))
  (some false))
  ((a.length:Int),()))
noncomputable def ztm(a:List Int)(b:List Int):Option Bool:=zxv stdW a b
noncomputable def zuy:ES:=⟨(.pair (.slc (.int .u8)) (.pair (.slc (.int .u8)) .unit)),(.v .bool),fun x=>ztm x.1 x.2.1⟩
theorem yeg:ECok Tryz.prog 71 (.es zuy)   := es_ok (A:=(.pair (.slc (.int .u8)) (.pair (.slc (.int .u8)) .unit))) (Q:=(.v .bool)) (fun W x=>zxv W x.1 x.2.1) [] trivial [(6,[],(ofL [(0,true),(1,true),(2,true),(3,true),(4,true),(5,true),(6,true),(7,true),(8,true),(9,true),(10,true)])),(7,[],(ofL [(0,true),(1,true),(2,true),(3,true),(4,true),(5,true),(6,true),(7,true),(8,true),(9,true),(10,true),(11,true)]))] [] [(4,⟨[(5,.t (.int .i64))],[],[]⟩)] Tryz.func71 rfl (by decide +kernel) rfl rfl (fun W x=>by kernel_rfl)
noncomputable def zux(W:Wd)(a:List Int)(b:List Int):Option (List Int):=
 W.loop (fun (z1:Int×Int×List (Int)×Unit) again2=>
 W.cnd (decide (z1.2.1<(a.length:Int))) (
  W.join (fun (z3:Int×List (Int)×Unit)=>W.idx a z1.2.1 fun x4=>
  W.join (fun (z5:Int×List (Int)×Unit)=>W.nz 2 (W.room (z5.2.1.length+((Int.tmod (IntKind.u8.wrap ((IntKind.u8.wrap (x4+2)) - z3.1)) 2)::[]).length) 1 ((again2 (z5.1,((IntKind.i64.wrap (z1.2.1+1)),((z5.2.1++((Int.tmod (IntKind.u8.wrap ((IntKind.u8.wrap (x4+2)) - z3.1)) 2)::[])),())))))))
   fun k6=>
   W.cnd (decide ((IntKind.u8.wrap ((IntKind.u8.wrap (x4+2)) - z3.1))<2)) ((k6 (1,(z3.2.1,()))))
   ((k6 (0,(z3.2.1,())))))
  fun k7=>
  W.cnd (decide (z1.2.1<(b.length:Int))) (W.idx b z1.2.1 fun x8=>(k7 ((IntKind.u8.wrap (z1.1+x8)),(z1.2.2.1,()))))
   ((k7 (z1.1,(z1.2.2.1,())))))
  (some z1.2.2.1))
 (0,(0,([],())))
noncomputable def zjq(a:List Int)(b:List Int):Option (List Int):=zux stdW a b
noncomputable def zqp:ES:=⟨(.pair (.slc (.int .u8)) (.pair (.slc (.int .u8)) .unit)),(.own 5 (.int .u8)),fun x=>zjq x.1 x.2.1⟩
theorem yat:ECok Tryz.prog 72 (.es zqp)   := es_ok (A:=(.pair (.slc (.int .u8)) (.pair (.slc (.int .u8)) .unit))) (Q:=(.own 5 (.int .u8))) (fun W x=>zux W x.1 x.2.1) [] trivial [] [(9,⟨[(5,.row 1),(8,.t (.int .u8))],[],[.dead,.own 5 (.int .u8)]⟩),(13,⟨[(5,.row 1),(6,.t (.int .u8))],[],[.dead,.own 5 (.int .u8)]⟩)] [(4,⟨[(5,.row 1),(6,.t (.int .u8)),(7,.t (.int .i64))],[],[.dead,.own 5 (.int .u8)]⟩)] Tryz.func72 rfl (by decide +kernel) rfl rfl (fun W x=>by kernel_rfl)
noncomputable def znj(W:Wd)(a:zab)(b:zab):Option zab:=
 W.cnd (Go.Vc.notIf false (a.1==b.1)) (W.call (zie a.2.1 b.2.1) fun v1=>W.call (zgd a.1 v1) fun v2=>some (v2.1,(v2.2.1,())))
 (W.call (ztm a.2.1 b.2.1) fun v3=>
 W.cnd v3 (W.call (zjq b.2.1 a.2.1) fun v4=>W.call (zgd b.1 v4) fun v5=>some (v5.1,(v5.2.1,())))
  (W.call (zjq a.2.1 b.2.1) fun v6=>W.call (zgd a.1 v6) fun v7=>some (v7.1,(v7.2.1,()))))
noncomputable def zaw(a:zab)(b:zab):Option zab:=znj stdW a b
noncomputable def zev:ES:=⟨(.pair tNovationref01Big (.pair tNovationref01Big .unit)),(.v tNovationref01Big),fun x=>zaw x.1 x.2.1⟩
theorem zfm:ECok Tryz.prog 19 (.es zev)   := es_ok (A:=(.pair tNovationref01Big (.pair tNovationref01Big .unit))) (Q:=(.v tNovationref01Big)) (fun W x=>znj W x.1 x.2.1) [(70,.es zlp),(69,.es zln),(71,.es zuy),(72,.es zqp)] ⟨zqo,zqn,yeg,yat,trivial⟩ [(2,[2],(ofL [(0,true),(1,true),(2,true),(3,true),(4,true),(5,true),(6,false),(7,false),(8,false)])),(4,[2],(ofL [(0,true),(1,true),(2,true),(3,true),(4,true),(5,true),(6,false),(7,false),(8,false)])),(5,[2],(ofL [(0,true),(1,true),(2,true),(3,true),(4,true),(5,true),(6,false),(7,false),(8,false)]))] [] [] Tryz.func19 rfl (by decide +kernel) rfl rfl (fun W x=>by kernel_rfl)
noncomputable def zhd(W:Wd)(l:List AFlow'):Option zab:=
 W.loop (fun (z1:Int×Bool×List (Int)×Unit) again2=>
 W.cnd (decide (z1.1<(l.length:Int))) (
  W.join (fun (z3:Bool×List (Int)×Unit)=>(again2 ((IntKind.i64.wrap (z1.1+1)),(z3.1,(z3.2.1,())))))
  fun k4=>W.idx l z1.1 fun x5=>W.both (W.call (zda x5.2.1) fun v6=>W.call (zaw (z1.2.1,(z1.2.2.1,())) (v6.1,(v6.2.1,()))) fun v7=>(k4 (v7.1,(v7.2.1,())))) (W.call (zda x5.2.1) fun v8=>W.call (zaw (z1.2.1,(z1.2.2.1,())) (v8.1,(v8.2.1,()))) fun v9=>(k4 (v9.1,(v9.2.1,())))))
  (some (z1.2.1,(z1.2.2.1,()))))
 (0,(false,([],())))
noncomputable def zdj(l:List AFlow'):Option zab:=zhd stdW l
noncomputable def zqf:ES:=⟨(.pair (.slc tAFlow) .unit),(.v tNovationref01Big),fun x=>zdj x.1⟩
theorem yap:ECok Tryz.prog 18 (.es zqf)   := es_ok (A:=(.pair (.slc tAFlow) .unit)) (Q:=(.v tNovationref01Big)) (fun W x=>zhd W x.1) [(20,.es zng),(19,.es zev)] ⟨zor,zfm,trivial⟩ [(5,[1],(.rd 1 (.rd 2 (.rd 3 (.rd 4 (.rd 5 (.two 0 6 (ofL [(6,false),(7,false),(8,false)]) (ofL [(0,false),(7,false),(8,false)]))))))))] [(4,⟨[],[(1,[.t .bool,.t (.slc (.int .u8))])],[]⟩)] [(3,⟨[(4,.t (.int .i64))],[(1,[.t .bool,.t (.slc (.int .u8))])],[]⟩)] Tryz.func18 rfl (by decide +kernel) rfl rfl (fun W x=>by kernel_rfl)
noncomputable def znh(W:Wd)(a:zab):Option zab:=W.call (zgd (!a.1) a.2.1) fun v1=>some (v1.1,(v1.2.1,()))
noncomputable def zxz(a:zab):Option zab:=znh stdW a
noncomputable def zxy:ES:=⟨(.pair tNovationref01Big .unit),(.v tNovationref01Big),fun x=>zxz x.1⟩
theorem yha:ECok Tryz.prog 81 (.es zxy)   := es_ok (A:=(.pair tNovationref01Big .unit)) (Q:=(.v tNovationref01Big)) (fun W x=>znh W x.1) [(69,.es zln)] ⟨zqn,trivial⟩ [] [] [] Tryz.func81 rfl (by decide +kernel) rfl rfl (fun W x=>by kernel_rfl)
noncomputable def znf(W:Wd)(a:zab)(b:zab):Option zab:=W.call (zxz (b.1,(b.2.1,()))) fun v1=>W.call (zaw (a.1,(a.2.1,())) (v1.1,(v1.2.1,()))) fun v2=>some (v2.1,(v2.2.1,()))
noncomputable def zxx(a:zab)(b:zab):Option zab:=znf stdW a b
noncomputable def zxw:ES:=⟨(.pair tNovationref01Big (.pair tNovationref01Big .unit)),(.v tNovationref01Big),fun x=>zxx x.1 x.2.1⟩
theorem ygz:ECok Tryz.prog 74 (.es zxw)   := es_ok (A:=(.pair tNovationref01Big (.pair tNovationref01Big .unit))) (Q:=(.v tNovationref01Big)) (fun W x=>znf W x.1 x.2.1) [(81,.es zxy),(19,.es zev)] ⟨yha,zfm,trivial⟩ [(1,[2],(ofL [(0,true),(1,true),(2,false),(3,false),(4,false)]))] [] [] Tryz.func74 rfl (by decide +kernel) rfl rfl (fun W x=>by kernel_rfl)
noncomputable def zni(W:Wd)(a:zab)(b:zab):Option Int:=W.call (zxx (a.1,(a.2.1,())) (b.1,(b.2.1,()))) fun v1=>
 W.cnd ((v1.2.1.length:Int)==0) (some 0)
 (
 W.cnd v1.1 (some (-1))
  (some 1))
noncomputable def zif(a:zab)(b:zab):Option Int:=zni stdW a b
noncomputable def zyb:ES:=⟨(.pair tNovationref01Big (.pair tNovationref01Big .unit)),(.v (.int .i64)),fun x=>zif x.1 x.2.1⟩
theorem yhc:ECok Tryz.prog 21 (.es zyb)   := es_ok (A:=(.pair tNovationref01Big (.pair tNovationref01Big .unit))) (Q:=(.v (.int .i64))) (fun W x=>zni W x.1 x.2.1) [(74,.es zxw)] ⟨ygz,trivial⟩ [] [] [] Tryz.func21 rfl (by decide +kernel) rfl rfl (fun W x=>by kernel_rfl)
noncomputable def znb(W:Wd)(l:List zad)(asset:Int):Option zab:=
 W.loop (fun (z1:Int×Bool×List (Int)×Unit) again2=>
 W.cnd (decide (z1.1<(l.length:Int))) (
  W.join (fun (z3:Bool×List (Int)×Unit)=>(again2 ((IntKind.i64.wrap (z1.1+1)),(z3.1,(z3.2.1,())))))
  fun k4=>W.idx l z1.1 fun x5=>
  W.cnd (x5.1==asset) (W.idx l z1.1 fun x6=>W.both (W.call (zda x6.2.2.1) fun v7=>W.call (zaw (z1.2.1,(z1.2.2.1,())) (v7.1,(v7.2.1,()))) fun v8=>(k4 (v8.1,(v8.2.1,())))) (W.call (zda x6.2.2.1) fun v9=>W.call (zaw (z1.2.1,(z1.2.2.1,())) (v9.1,(v9.2.1,()))) fun v10=>(k4 (v10.1,(v10.2.1,())))))
   ((k4 (z1.2.1,(z1.2.2.1,())))))
  (some (z1.2.1,(z1.2.2.1,()))))
 (0,(false,([],())))
noncomputable def zcy(l:List zad)(asset:Int):Option zab:=znb stdW l asset
noncomputable def zop:ES:=⟨(.pair (.slc tAAsset) (.pair (.int .i64) .unit)),(.v tNovationref01Big),fun x=>zcy x.1 x.2.1⟩
theorem zut:ECok Tryz.prog 23 (.es zop)   := es_ok (A:=(.pair (.slc tAAsset) (.pair (.int .i64) .unit))) (Q:=(.v tNovationref01Big)) (fun W x=>znb W x.1 x.2.1) [(20,.es zng),(19,.es zev)] ⟨zor,zfm,trivial⟩ [(6,[1],(.rd 1 (.rd 2 (.rd 3 (.rd 4 (.rd 5 (.two 0 6 (ofL [(6,false),(7,false),(8,false)]) (ofL [(0,false),(7,false),(8,false)]))))))))] [(4,⟨[],[(1,[.t .bool,.t (.slc (.int .u8))])],[]⟩)] [(3,⟨[(6,.t (.int .i64))],[(1,[.t .bool,.t (.slc (.int .u8))])],[]⟩)] Tryz.func23 rfl (by decide +kernel) rfl rfl (fun W x=>by kernel_rfl)
noncomputable def zhc(W:Wd)(l:List AHold')(asset:Int):Option zab:=
 W.loop (fun (z1:Int×Bool×List (Int)×Unit) again2=>
 W.cnd (decide (z1.1<(l.length:Int))) (
  W.join (fun (z3:Bool×List (Int)×Unit)=>(again2 ((IntKind.i64.wrap (z1.1+1)),(z3.1,(z3.2.1,())))))
  fun k4=>W.idx l z1.1 fun x5=>W.both (W.call (zcy x5.2.1 asset) fun v6=>W.call (zaw (z1.2.1,(z1.2.2.1,())) (v6.1,(v6.2.1,()))) fun v7=>(k4 (v7.1,(v7.2.1,())))) (W.call (zcy x5.2.1 asset) fun v8=>W.call (zaw (z1.2.1,(z1.2.2.1,())) (v8.1,(v8.2.1,()))) fun v9=>(k4 (v9.1,(v9.2.1,())))))
  (some (z1.2.1,(z1.2.2.1,()))))
 (0,(false,([],())))
noncomputable def zdi(l:List AHold')(asset:Int):Option zab:=zhc stdW l asset
noncomputable def zqe:ES:=⟨(.pair (.slc tAHold) (.pair (.int .i64) .unit)),(.v tNovationref01Big),fun x=>zdi x.1 x.2.1⟩
theorem yao:ECok Tryz.prog 22 (.es zqe)   := es_ok (A:=(.pair (.slc tAHold) (.pair (.int .i64) .unit))) (Q:=(.v tNovationref01Big)) (fun W x=>zhc W x.1 x.2.1) [(23,.es zop),(19,.es zev)] ⟨zut,zfm,trivial⟩ [(5,[1],(.rd 1 (.rd 2 (.rd 3 (.rd 4 (.rd 5 (.rd 6 (.two 0 7 (ofL [(7,false),(8,false),(9,false)]) (ofL [(0,false),(8,false),(9,false)])))))))))] [(4,⟨[],[(1,[.t .bool,.t (.slc (.int .u8))])],[]⟩)] [(3,⟨[(6,.t (.int .i64))],[(1,[.t .bool,.t (.slc (.int .u8))])],[]⟩)] Tryz.func22 rfl (by decide +kernel) rfl rfl (fun W x=>by kernel_rfl)
noncomputable def zhe(W:Wd)(a:zaa):Option (List AUnit'):=
 W.cnd (a.2.2.1==1) (W.room ((a.1,(0,()))::[]).length 16 (some ((a.1,(0,()))::[])))
 (
 W.loop (fun (z1:Int×List (Int×Int×Unit)×Unit) again2=>
  W.cnd (decide (z1.1<(a.2.2.2.1.length:Int))) (W.idx a.2.2.2.1 z1.1 fun x3=>W.room (z1.2.1.length+((a.1,(x3,()))::[]).length) 16 ((again2 ((IntKind.i64.wrap (z1.1+1)),((z1.2.1++((a.1,(x3,()))::[])),())))))
  (some z1.2.1))
  (0,([],())))
noncomputable def zoq(a:zaa):Option (List AUnit'):=zhe stdW a
noncomputable def zqg:ES:=⟨(.pair tAAccount .unit),(.own 35 tAUnit),fun x=>zoq x.1⟩
theorem yaq:ECok Tryz.prog 24 (.es zqg)   := es_ok (A:=(.pair tAAccount .unit)) (Q:=(.own 35 tAUnit)) (fun W x=>zhe W x.1) [] trivial [(7,[],(ofL [(0,true),(1,true),(2,true),(3,true),(4,true),(5,true),(6,true),(7,true),(8,true),(9,false),(10,false),(11,true)]))] [] [(5,⟨[(3,.row 1),(4,.t (.int .i64))],[],[.dead,.own 35 tAUnit]⟩)] Tryz.func24 rfl (by decide +kernel) rfl rfl (fun W x=>by kernel_rfl)
noncomputable def znc(W:Wd)(l:List AFlow')(u:AUnit'):Option Int:=
 W.loop (fun (z1:Int×Unit) again2=>
 W.cnd (decide (z1.1<(l.length:Int))) (W.idx l z1.1 fun x3=>
  W.cnd (Go.Vc.notIf false ((x3.1.1==u.1)&&(x3.1.2.1==u.2.1))) (W.idx l z1.1 fun x4=>some x4.2.1)
  ((again2 ((IntKind.i64.wrap (z1.1+1)),()))))
  (some 0))
 (0,())
noncomputable def zdk(l:List AFlow')(u:AUnit'):Option Int:=znc stdW l u
noncomputable def zxq:ES:=⟨(.pair (.slc tAFlow) (.pair tAUnit .unit)),(.v (.int .i64)),fun x=>zdk x.1 x.2.1⟩
theorem ygw:ECok Tryz.prog 25 (.es zxq)   := es_ok (A:=(.pair (.slc tAFlow) (.pair tAUnit .unit))) (Q:=(.v (.int .i64))) (fun W x=>znc W x.1 x.2.1) [] trivial [(4,[],(ofL [(0,true),(1,true),(2,true),(3,true),(4,true),(5,true),(6,true)]))] [] [(2,⟨[(5,.t (.int .i64))],[],[]⟩)] Tryz.func25 rfl (by decide +kernel) rfl rfl (fun W x=>by kernel_rfl)
noncomputable def zjk(W:Wd)(l:List AHold')(u:AUnit'):Option (List zad):=
 W.loop (fun (z1:Int×Unit) again2=>
 W.cnd (decide (z1.1<(l.length:Int))) (W.idx l z1.1 fun x3=>
  W.cnd (Go.Vc.notIf false ((x3.1.1==u.1)&&(x3.1.2.1==u.2.1))) (W.idx l z1.1 fun x4=>some x4.2.1)
  ((again2 ((IntKind.i64.wrap (z1.1+1)),()))))
  (some []))
 (0,())
noncomputable def zav(l:List AHold')(u:AUnit'):Option (List zad):=zjk stdW l u
noncomputable def zus:ES:=⟨(.pair (.slc tAHold) (.pair tAUnit .unit)),(.v (.slc tAAsset)),fun x=>zav x.1 x.2.1⟩
theorem yeb:ECok Tryz.prog 27 (.es zus)   := es_ok (A:=(.pair (.slc tAHold) (.pair tAUnit .unit))) (Q:=(.v (.slc tAAsset))) (fun W x=>zjk W x.1 x.2.1) [] trivial [(4,[],(ofL [(0,true),(1,true),(2,true),(3,true),(4,true),(5,true),(6,true)]))] [] [(2,⟨[(5,.t (.int .i64))],[],[]⟩)] Tryz.func27 rfl (by decide +kernel) rfl rfl (fun W x=>by kernel_rfl)
noncomputable def zjl(W:Wd)(a:List zad)(b:List zad):Option Bool:=
 W.cnd ((a.length:Int) != (b.length:Int)) (some false)
 (
 W.loop (fun (z1:Int×Unit) again2=>
  W.cnd (decide (z1.1<(a.length:Int))) (W.idx a z1.1 fun x3=>W.idx b z1.1 fun x4=>
  W.cnd (Go.Vc.notIf true ((x3.1==x4.1)&&((x3.2.1==x4.2.1)&&(x3.2.2.1==x4.2.2.1)))) (some false)
   ((again2 ((IntKind.i64.wrap (z1.1+1)),()))))
  (some true))
  (0,()))
noncomputable def zcj(a:List zad)(b:List zad):Option Bool:=zjl stdW a b
noncomputable def zuu:ES:=⟨(.pair (.slc tAAsset) (.pair (.slc tAAsset) .unit)),(.v .bool),fun x=>zcj x.1 x.2.1⟩
theorem yec:ECok Tryz.prog 26 (.es zuu)   := es_ok (A:=(.pair (.slc tAAsset) (.pair (.slc tAAsset) .unit))) (Q:=(.v .bool)) (fun W x=>zjl W x.1 x.2.1) [] trivial [(6,[],(ofL [(0,true),(1,true),(2,true),(3,true),(4,true),(5,true),(6,true),(7,true),(8,true)]))] [] [(4,⟨[(5,.t (.int .i64))],[],[]⟩)] Tryz.func26 rfl (by decide +kernel) rfl rfl (fun W x=>by kernel_rfl)
noncomputable def zfd(W:Wd)(s:zba)(id:Int):Option Bool:=W.call (zre (s.1,(s.2.1,(s.2.2.1,(s.2.2.2.1,(s.2.2.2.2.1,(s.2.2.2.2.2.1,(s.2.2.2.2.2.2.1,(s.2.2.2.2.2.2.2.1,(s.2.2.2.2.2.2.2.2.1,(s.2.2.2.2.2.2.2.2.2.1,(s.2.2.2.2.2.2.2.2.2.2.1,(s.2.2.2.2.2.2.2.2.2.2.2.1,()))))))))))))) fun v1=>W.call (zgk (v1.1,(v1.2.1,(v1.2.2.1,(v1.2.2.2.1,(v1.2.2.2.2.1,(v1.2.2.2.2.2.1,(v1.2.2.2.2.2.2.1,(v1.2.2.2.2.2.2.2.1,(v1.2.2.2.2.2.2.2.2.1,(v1.2.2.2.2.2.2.2.2.2.1,(v1.2.2.2.2.2.2.2.2.2.2.1,(v1.2.2.2.2.2.2.2.2.2.2.2.1,())))))))))))) id) fun v2=>
 W.cnd (v2.2.2.1 != 0) (
 W.cnd ((v2.2.1.length:Int)==0) (W.call (zef) fun v3=>some v3)
  (some false))
 (W.call (zdj v2.1.2.2.2.2.2.2.2.2.2.2.1) fun v4=>
 W.loop (fun (z5:Int×Bool×List (Int)×List ((Int×Int×Unit)×Int×List (Int×Int×Int×Unit)×Unit)×Unit) again6=>
  W.cnd (decide (z5.1<(z5.2.2.2.1.length:Int))) (
  W.join (fun (z7:Bool×List (Int)×List ((Int×Int×Unit)×Int×List (Int×Int×Int×Unit)×Unit)×Unit)=>(again6 ((IntKind.i64.wrap (z5.1+1)),(z7.1,(z7.2.1,(z7.2.2.1,()))))))
   fun k8=>W.idx z5.2.2.2.1 z5.1 fun x9=>W.both (W.nth z5.2.2.2.1 (Int.toNat z5.1) fun x10=>W.call (zda x10.2.1) fun v11=>W.call (zaw (z5.2.1,(z5.2.2.1,())) (v11.1,(v11.2.1,()))) fun v12=>(k8 (v12.1,(v12.2.1,(z5.2.2.2.1,()))))) (W.nth z5.2.2.2.1 (Int.toNat z5.1) fun x13=>W.both (W.call (zda x13.2.1) fun v14=>W.call (zaw (z5.2.1,(z5.2.2.1,())) (v14.1,(v14.2.1,()))) fun v15=>(k8 (v15.1,(v15.2.1,(z5.2.2.2.1,()))))) (W.call (zda x13.2.1) fun v16=>W.call (zaw (z5.2.1,(z5.2.2.1,())) (v16.1,(v16.2.1,()))) fun v17=>(k8 (v17.1,(v17.2.1,(z5.2.2.2.1,())))))))
  (W.call (zdj v1.2.2.2.2.2.2.2.2.2.2.1) fun v18=>W.call (zif (z5.2.1,(z5.2.2.1,())) (v18.1,(v18.2.1,()))) fun v19=>
  W.cnd (v19 != 0) (some false)
   (
   W.loop (fun (z20:Int×List ((Int×Int×Unit)×Int×List (Int×Int×Int×Unit)×Unit)×Unit) again21=>
   W.cnd (decide (z20.1≤4)) (W.call (zdi v2.1.2.2.2.2.2.2.2.2.2.2.2.1 z20.1) fun v22=>
    W.loop (fun (z23:Int×Bool×List (Int)×List ((Int×Int×Unit)×Int×List (Int×Int×Int×Unit)×Unit)×Unit) again24=>
    W.cnd (decide (z23.1<(z23.2.2.2.1.length:Int))) (
     W.join (fun (z25:Bool×List (Int)×List ((Int×Int×Unit)×Int×List (Int×Int×Int×Unit)×Unit)×Unit)=>(again24 ((IntKind.i64.wrap (z23.1+1)),(z25.1,(z25.2.1,(z25.2.2.1,()))))))
     fun k26=>W.idx z23.2.2.2.1 z23.1 fun x27=>W.both (W.nth z23.2.2.2.1 (Int.toNat z23.1) fun x28=>W.call (zcy x28.2.2.1 z20.1) fun v29=>W.call (zaw (z23.2.1,(z23.2.2.1,())) (v29.1,(v29.2.1,()))) fun v30=>(k26 (v30.1,(v30.2.1,(z23.2.2.2.1,()))))) (W.nth z23.2.2.2.1 (Int.toNat z23.1) fun x31=>W.both (W.call (zcy x31.2.2.1 z20.1) fun v32=>W.call (zaw (z23.2.1,(z23.2.2.1,())) (v32.1,(v32.2.1,()))) fun v33=>(k26 (v33.1,(v33.2.1,(z23.2.2.2.1,()))))) (W.call (zcy x31.2.2.1 z20.1) fun v34=>W.call (zaw (z23.2.1,(z23.2.2.1,())) (v34.1,(v34.2.1,()))) fun v35=>(k26 (v35.1,(v35.2.1,(z23.2.2.2.1,())))))))
     (W.call (zdi v1.2.2.2.2.2.2.2.2.2.2.2.1 z20.1) fun v36=>W.call (zif (z23.2.1,(z23.2.2.1,())) (v36.1,(v36.2.1,()))) fun v37=>
     W.cnd (v37 != 0) (some false)
     ((again21 ((IntKind.i64.wrap (z20.1+1)),(z23.2.2.2.1,()))))))
    (0,(v22.1,(v22.2.1,(z20.2.1,())))))
    (
    W.loop (fun (z38:Int×Unit) again39=>
    W.cnd (decide (z38.1<(v1.2.2.2.2.1.length:Int))) (
     W.join (fun (z40:Unit)=>(again39 ((IntKind.i64.wrap (z38.1+1)),())))
     fun k41=>W.idx v1.2.2.2.2.1 z38.1 fun x42=>W.call (zoq (x42.1,(x42.2.1,(x42.2.2.1,(x42.2.2.2.1,()))))) fun v43=>
     W.loop (fun (z44:Int×List (Int×Int×Unit)×Unit) again45=>
      W.cnd (decide (z44.1<(z44.2.1.length:Int))) (W.idx v1.2.2.2.2.1 z38.1 fun x46=>
      W.cnd (x46.2.1 != id) (
       W.join (fun (z47:Bool×List (Int×Int×Unit)×Unit)=>
       W.cnd z47.1 (some false)
        ((again45 ((IntKind.i64.wrap (z44.1+1)),(z47.2.1,())))))
       fun k48=>W.idx z44.2.1 z44.1 fun x49=>W.idx z44.2.1 z44.1 fun x50=>W.both (W.nth z44.2.1 (Int.toNat z44.1) fun x51=>W.both (W.call (zdk v2.1.2.2.2.2.2.2.2.2.2.2.1 x51) fun v52=>W.nth z44.2.1 (Int.toNat z44.1) fun x53=>W.call (zdk v1.2.2.2.2.2.2.2.2.2.2.1 x53) fun v54=>
        W.cnd (v52 != v54) (W.both (W.both ((k48 (true,(z44.2.1,())))) ((k48 (true,(z44.2.1,()))))) ((k48 (true,(z44.2.1,())))))
         (W.idx z44.2.1 z44.1 fun x55=>W.idx z44.2.1 z44.1 fun x56=>W.both (W.nth z44.2.1 (Int.toNat z44.1) fun x57=>W.both (W.call (zav v2.1.2.2.2.2.2.2.2.2.2.2.2.1 x57) fun v58=>W.nth z44.2.1 (Int.toNat z44.1) fun x59=>W.call (zav v1.2.2.2.2.2.2.2.2.2.2.2.1 x59) fun v60=>W.call (zcj v58 v60) fun v61=>(k48 ((!v61),(z44.2.1,())))) (W.nth z44.2.1 (Int.toNat z44.1) fun x62=>W.call (zav v2.1.2.2.2.2.2.2.2.2.2.2.2.1 x57) fun v63=>W.call (zav v1.2.2.2.2.2.2.2.2.2.2.2.1 x62) fun v64=>W.call (zcj v63 v64) fun v65=>(k48 ((!v65),(z44.2.1,()))))) (W.nth z44.2.1 (Int.toNat z44.1) fun x66=>W.nth z44.2.1 (Int.toNat z44.1) fun x67=>W.call (zav v2.1.2.2.2.2.2.2.2.2.2.2.2.1 x67) fun v68=>W.call (zav v1.2.2.2.2.2.2.2.2.2.2.2.1 x66) fun v69=>W.call (zcj v68 v69) fun v70=>(k48 ((!v70),(z44.2.1,())))))) (W.nth z44.2.1 (Int.toNat z44.1) fun x71=>W.call (zdk v2.1.2.2.2.2.2.2.2.2.2.2.1 x51) fun v72=>W.call (zdk v1.2.2.2.2.2.2.2.2.2.2.1 x71) fun v73=>
        W.cnd (v72 != v73) (W.both (W.both ((k48 (true,(z44.2.1,())))) ((k48 (true,(z44.2.1,()))))) ((k48 (true,(z44.2.1,())))))
         (W.idx z44.2.1 z44.1 fun x74=>W.idx z44.2.1 z44.1 fun x75=>W.both (W.nth z44.2.1 (Int.toNat z44.1) fun x76=>W.both (W.call (zav v2.1.2.2.2.2.2.2.2.2.2.2.2.1 x76) fun v77=>W.nth z44.2.1 (Int.toNat z44.1) fun x78=>W.call (zav v1.2.2.2.2.2.2.2.2.2.2.2.1 x78) fun v79=>W.call (zcj v77 v79) fun v80=>(k48 ((!v80),(z44.2.1,())))) (W.nth z44.2.1 (Int.toNat z44.1) fun x81=>W.call (zav v2.1.2.2.2.2.2.2.2.2.2.2.2.1 x76) fun v82=>W.call (zav v1.2.2.2.2.2.2.2.2.2.2.2.1 x81) fun v83=>W.call (zcj v82 v83) fun v84=>(k48 ((!v84),(z44.2.1,()))))) (W.nth z44.2.1 (Int.toNat z44.1) fun x85=>W.nth z44.2.1 (Int.toNat z44.1) fun x86=>W.call (zav v2.1.2.2.2.2.2.2.2.2.2.2.2.1 x86) fun v87=>W.call (zav v1.2.2.2.2.2.2.2.2.2.2.2.1 x85) fun v88=>W.call (zcj v87 v88) fun v89=>(k48 ((!v89),(z44.2.1,()))))))) (W.nth z44.2.1 (Int.toNat z44.1) fun x90=>W.nth z44.2.1 (Int.toNat z44.1) fun x91=>W.call (zdk v2.1.2.2.2.2.2.2.2.2.2.2.1 x91) fun v92=>W.call (zdk v1.2.2.2.2.2.2.2.2.2.2.1 x90) fun v93=>
        W.cnd (v92 != v93) (W.both (W.both ((k48 (true,(z44.2.1,())))) ((k48 (true,(z44.2.1,()))))) ((k48 (true,(z44.2.1,())))))
        (W.idx z44.2.1 z44.1 fun x94=>W.idx z44.2.1 z44.1 fun x95=>W.both (W.nth z44.2.1 (Int.toNat z44.1) fun x96=>W.both (W.call (zav v2.1.2.2.2.2.2.2.2.2.2.2.2.1 x96) fun v97=>W.nth z44.2.1 (Int.toNat z44.1) fun x98=>W.call (zav v1.2.2.2.2.2.2.2.2.2.2.2.1 x98) fun v99=>W.call (zcj v97 v99) fun v100=>(k48 ((!v100),(z44.2.1,())))) (W.nth z44.2.1 (Int.toNat z44.1) fun x101=>W.call (zav v2.1.2.2.2.2.2.2.2.2.2.2.2.1 x96) fun v102=>W.call (zav v1.2.2.2.2.2.2.2.2.2.2.2.1 x101) fun v103=>W.call (zcj v102 v103) fun v104=>(k48 ((!v104),(z44.2.1,()))))) (W.nth z44.2.1 (Int.toNat z44.1) fun x105=>W.nth z44.2.1 (Int.toNat z44.1) fun x106=>W.call (zav v2.1.2.2.2.2.2.2.2.2.2.2.2.1 x106) fun v107=>W.call (zav v1.2.2.2.2.2.2.2.2.2.2.2.1 x105) fun v108=>W.call (zcj v107 v108) fun v109=>(k48 ((!v109),(z44.2.1,())))))))
       ((k41 ())))
      ((k41 ())))
      (0,(v43,())))
     (W.call (zef) fun v110=>some v110))
    (0,())))
   (1,(z5.2.2.2.1,())))))
  (0,(v4.1,(v4.2.1,(v2.2.1,())))))
noncomputable def zjx(s:zba)(id:Int):Option Bool:=zfd stdW s id
noncomputable def zzb:ES:=⟨(.pair tAState (.pair (.int .i64) .unit)),(.v .bool),fun x=>zjx x.1 x.2.1⟩
theorem zvv:ECok Tryz.prog 4 (.es zzb)   := es_ok (A:=(.pair tAState (.pair (.int .i64) .unit))) (Q:=(.v .bool)) (fun W x=>zfd W x.1 x.2.1) [(7,.es zzc),(9,.es zoo),(17,.es zrd),(18,.es zqf),(20,.es zng),(19,.es zev),(21,.es zyb),(22,.es zqe),(23,.es zop),(24,.es zqg),(25,.es zxq),(27,.es zus),(26,.es zuu)] ⟨yib,zur,yau,yap,zor,zfm,yhc,yao,zut,yaq,ygw,yeb,yec,trivial⟩ [(9,[2],(.rd 1 (.rd 2 (.rd 3 (.rd 4 (.two 0 5 (ofL [(5,false),(6,false),(7,false),(8,false)]) (.two 0 6 (ofL [(6,false),(7,false),(8,false)]) (ofL [(0,false),(7,false),(8,false)])))))))),(10,[],(ofL [(0,true),(1,true),(2,true),(3,false),(4,false),(5,true)])),(19,[3],(.rd 1 (.rd 2 (.rd 3 (.rd 4 (.rd 6 (.two 0 5 (ofL [(5,false),(7,false),(8,false),(9,false)]) (.two 0 7 (ofL [(7,false),(8,false),(9,false)]) (ofL [(0,false),(8,false),(9,false)]))))))))),(20,[],(ofL [(0,true),(1,true),(2,true),(3,true),(4,false),(5,false),(6,true)])),(29,[],(.rd 0 (.rd 1 (.rd 2 (.rd 3 (.rd 4 (.rd 7 (.rd 8 (.rd 9 (.rd 10 (.rd 11 (.two 5 12 (.two 6 12 (.op 12 (.op 13 (.rd 14 (.rd 15 (.rd 16 (.rd 17 (.rd 18 (.rd 19 (.rd 20 (.rd 23 (.rd 24 (.rd 25 (.rd 26 (.rd 27 (.two 21 28 (.two 22 28 (ofL [(28,false),(29,false),(30,false),(31,true),(32,true)]) (ofL [(22,false),(29,false),(30,false),(31,true),(32,true)])) (ofL [(21,false),(22,false),(29,false),(30,false),(31,true),(32,true)])))))))))))))))) (.op 6 (.op 13 (.rd 14 (.rd 15 (.rd 16 (.rd 17 (.rd 18 (.rd 19 (.rd 20 (.rd 23 (.rd 24 (.rd 25 (.rd 26 (.rd 27 (.two 21 28 (.two 22 28 (ofL [(28,false),(29,false),(30,false),(31,true),(32,true)]) (ofL [(22,false),(29,false),(30,false),(31,true),(32,true)])) (ofL [(21,false),(22,false),(29,false),(30,false),(31,true),(32,true)]))))))))))))))))) (.op 5 (.op 6 (.op 13 (.rd 14 (.rd 15 (.rd 16 (.rd 17 (.rd 18 (.rd 19 (.rd 20 (.rd 23 (.rd 24 (.rd 25 (.rd 26 (.rd 27 (.two 21 28 (.two 22 28 (ofL [(28,false),(29,false),(30,false),(31,true),(32,true)]) (ofL [(22,false),(29,false),(30,false),(31,true),(32,true)])) (ofL [(21,false),(22,false),(29,false),(30,false),(31,true),(32,true)])))))))))))))))))))))))))))))] [(8,⟨[(6,.row 0)],[(2,[.t .bool,.t (.slc (.int .u8))])],[.own 38 tAReturn]⟩),(18,⟨[(6,.row 0)],[(3,[.t .bool,.t (.slc (.int .u8))])],[.own 38 tAReturn]⟩),(24,⟨[],[],[]⟩),(500147,⟨[(14,.row 0),(147,.t .bool)],[],[.own 35 tAUnit]⟩)] [(7,⟨[(6,.row 0),(9,.t (.int .i64))],[(2,[.t .bool,.t (.slc (.int .u8))])],[.own 38 tAReturn]⟩),(13,⟨[(6,.row 0),(10,.t (.int .i64))],[],[.own 38 tAReturn]⟩),(17,⟨[(6,.row 0),(12,.t (.int .i64))],[(3,[.t .bool,.t (.slc (.int .u8))])],[.own 38 tAReturn]⟩),(23,⟨[(13,.t (.int .i64))],[],[]⟩),(27,⟨[(14,.row 0),(15,.t (.int .i64))],[],[.own 35 tAUnit]⟩)] Tryz.func4 rfl (by decide +kernel) rfl rfl (fun W x=>by kernel_rfl)
end Go.Proofs.YtbpbkmngbhgpfaaGreat

namespace Go.Proofs.YtbpbkmngbhgpfaaGreat
open Go Go.Vc Go.RowKit
theorem r_nat(u:Nat)(hu:u<18446744073709551616):zqr (u:Int)=some (bigS false u):=nat_is u hu
theorem r_plus{xs ys:List Int}(hx:Nrm xs)(hy:Nrm ys)(lx:xs.length≤1000)(ly:ys.length≤1000):zie xs ys=some (bitsOf (valB xs+valB ys)):=plus_is hx hy lx ly
theorem r_less{xs ys:List Int}(hx:Nrm xs)(hy:Nrm ys)(lx:xs.length≤1000)(ly:ys.length≤1000):ztm xs ys=some (decide (valB xs<valB ys)):=less_is hx hy lx ly
theorem r_minus{xs ys:List Int}(hx:Nrm xs)(hy:Nrm ys)(lx:xs.length≤1000)(hle:valB ys≤valB xs):zjq xs ys=some (bitsK xs.length (valB xs - valB ys)):=minus_is hx hy lx hle
theorem r_trim{g:Bool}{xs:List Int}(h:bitL xs)(lx:xs.length≤1000):zgd g xs=some (bigS g (valB xs)):=trim_is h lx
end Go.Proofs.YtbpbkmngbhgpfaaGreat

namespace Go.Proofs.YtbpbkmngbhgpfaaGreat
open Go Go.Vc Go.RowKit
theorem yaf{n k K:Nat}(h:n<2 ^ k)(hk:k≤K):(bitsOf n).length≤K:=Nat.le_trans (yfx k n h) hk
theorem pw{a b k:Nat}(ha:a<2 ^ k)(hb:b<2 ^ k):a+b<2 ^ (k+1):=by rw[Nat.pow_succ]; omega
theorem zac{α β:Type}{o:Option α}{a:α}(h:o=some a)(K:α→Option β):stdW.call o K=K a:=by subst h; rfl
theorem ylk{xs:List Int}(h:Nrm xs){k:Nat}(hl:xs.length≤k):valB xs<2 ^ k:=Nat.lt_of_lt_of_le (ztc xs h.bits) (Nat.pow_le_pow_right (by omega) hl)
theorem sum_len{a b:List Int}(ha:Nrm a)(hb:Nrm b){k:Nat}(la:a.length≤k)(lb:b.length≤k):(bitsOf (valB a+valB b)).length≤k+1:=yaf (pw (ylk ha la) (ylk hb lb)) (Nat.le_refl _)
theorem r_add{x y:BigT}(hx:Nb x)(hy:Nb y)(lx:x.2.1.length≤900)(ly:y.2.1.length≤900):zaw x y=some (big (bv x+bv y)):=by
 show znj stdW x y=_
 have nx:=nb_nrm hx
 have ny:=nb_nrm hy
 unfold znj
 have eta:∀z:BigT,(some (z.1,(z.2.1,())):Option BigT)=some z:=fun z=>rfl
 by_cases h:x.1=y.1
 ·have e:notIf false (x.1==y.1)=true:=by simp[notIf,h]
  have hs:(bitsOf (valB x.2.1+valB y.2.1)).length≤1000:=Nat.le_trans (sum_len nx ny lx ly) (by omega)
  rw[e]
  show (stdW.call _ _:Option BigT)=_
  rw[zac (r_plus nx ny (by omega) (by omega)),zac (r_trim (yja _) hs),eta,add_same h]
 ·have e:notIf false (x.1==y.1)=false:=by simp[notIf,h]
  rw[e]
  show (stdW.call _ _:Option BigT)=_
  rw[zac (r_less nx ny (by omega) (by omega))]
  by_cases hl:valB x.2.1<valB y.2.1
  ·rw[decide_eq_true hl]
   show (stdW.call _ _:Option BigT)=_
   rw[zac (r_minus ny nx (by omega) (by omega)),zac (r_trim (bitL_K _ _) (by rw[len_K]; omega)),eta,add_less ny h hl]
  ·rw[decide_eq_false hl]
   show (stdW.call _ _:Option BigT)=_
   rw[zac (r_minus nx ny (by omega) (by omega)),zac (r_trim (bitL_K _ _) (by rw[len_K]; omega)),eta,add_more nx h hl]
end Go.Proofs.YtbpbkmngbhgpfaaGreat

namespace Go.Vc
open Go Go.RowKit
variable {β:Type}
theorem zfp{α S:Type}{l:List α}(hl:l.length≤9223372036854775807){f:Int×S→(Int×S→Option β)→Option β}(Inv:Nat→S→Prop)(g:List α→S→Option β){s0:S}(h0:Inv 0 s0)
  (hend:∀s (again:Int×S→Option β),Inv l.length s→f ((l.length:Int),s) again=g [] s)
  (hstep:∀i (h:i<l.length) s,Inv i s→∀again:Int×S→Option β,(∀s',Inv (i+1) s'→again (((i+1:Nat):Int),s')=g (l.drop (i+1)) s')→f ((i:Int),s) again=g (l[i]::l.drop (i+1)) s):
  stdW.loop f (0,s0)=g l s0:=by
 refine(zga (fun z=>(l.length+1) - z.1.toNat) (fun z=>∃i:Nat,z.1=(i:Int)∧i≤l.length∧Inv i z.2) (fun z=>g (l.drop z.1.toNat) z.2) ⟨0,rfl,by omega,h0⟩ (by show l.length+1 - 0<_; omega) ?_).trans ?_
 ·rintro⟨z,s⟩ ⟨i,hi,hle,hs⟩ again ha
  dsimp only at hi hs
  subst hi
  simp only[Int.toNat_natCast]
  by_cases h:i<l.length
  ·rw[zny l i h]
   refine hstep i h s hs again fun s' hs'=>?_
   have:=ha (((i+1:Nat):Int),s') ⟨i+1,rfl,by omega,hs'⟩ (by simp only[Int.toNat_natCast]; omega)
   simpa only[Int.toNat_natCast]using this
  ·obtain rfl:i=l.length:=by omega
   rw[List.drop_length]
   exact hend s again hs
 ·simp
theorem cnd_lt{i n:Nat}(h:i<n)(a b:Option β):stdW.cnd (decide ((i:Int)<(n:Int))) a b=a:=by rw[decide_eq_true (by omega)]; rfl
theorem zax{n:Nat}(a b:Option β):stdW.cnd (decide ((n:Int)<(n:Int))) a b=b:=by rw[decide_eq_false (by omega)]; rfl
theorem cnd_b{c:Bool}(a b:Option β):stdW.cnd c a b=if c=true then a else b:=by cases c<;>rfl
theorem cnd_y{c:Bool}(h:c=true)(a b:Option β):stdW.cnd c a b=a:=by subst h; rfl
theorem cnd_n{c:Bool}(h:c=false)(a b:Option β):stdW.cnd c a b=b:=by subst h; rfl
theorem idx_w{α:Type}{l:List α}{i:Nat}(h:i<l.length)(K:α→Option β):stdW.idx l (i:Int) K=K l[i]:=idx_eq h K
theorem nth_w{α:Type}{l:List α}{i:Nat}(h:i<l.length)(K:α→Option β):stdW.nth l (Int.toNat (i:Int)) K=K l[i]:=by
 show idxR l _ K=_
 unfold idxR
 rw[Int.toNat_natCast,List.getElem?_eq_getElem h]
theorem room_w{n b:Nat}(h:n≤281474976710656)(h2:n*b≤140737488355328)(K:Option β):stdW.room n b K=K:=zxl h h2 K
theorem nn_w{b:Int}(h:0≤b)(K:Option β):stdW.nn b K=K:=nn_eq h K
theorem both_w(a:Option β):stdW.both a a=a:=both_eq a
theorem join_w{X:Type}(k:X→Option β)(f:(X→Option β)→Option β):stdW.join k f=f k:=rfl
theorem bnd_w{i:Int}{n:Nat}(h:0≤i)(h2:i≤n)(K:Nat→Option β):stdW.bnd i n K=K i.toNat:=bnd_eq h h2 K
theorem i64_s(i:Nat)(h:i<9223372036854775807):IntKind.i64.wrap ((i:Int)+1)=((i+1:Nat):Int):=yfd i h
end Go.Vc
namespace Go.Vc
variable {β:Type}
theorem loop_n{S:Type}{N:Nat}(hN:N<9223372036854775807){f:Int×S→(Int×S→Option β)→Option β}(Inv:Nat→S→Prop)(r:Option β){s0:S}(h0:Inv 0 s0)
  (hend:∀s (again:Int×S→Option β),Inv N s→f (((N:Nat):Int),s) again=r)
  (hstep:∀i,i<N→∀s,Inv i s→∀again:Int×S→Option β,(∀s',Inv (i+1) s'→again (((i+1:Nat):Int),s')=r)→f ((i:Int),s) again=r):
  stdW.loop f (0,s0)=r:=by
 refine(zga (fun z=>(N+1) - z.1.toNat) (fun z=>∃i:Nat,z.1=(i:Int)∧i≤N∧Inv i z.2) (fun _=>r) ⟨0,rfl,by omega,h0⟩ (by show N+1 - 0<_; omega) ?_)
 rintro⟨z,s⟩ ⟨i,hi,hle,hs⟩ again ha
 dsimp only at hi hs
 subst hi
 by_cases h:i<N
 ·refine hstep i h s hs again fun s' hs'=>?_
  exact ha (((i+1:Nat):Int),s') ⟨i+1,rfl,by omega,hs'⟩ (by simp only[Int.toNat_natCast]; omega)
 ·obtain rfl:i=N:=by omega
  exact hend s again hs
def sumBy{α:Type}(f:α→Int)(l:List α):Int:=(l.map f).sum
theorem zde{α:Type}(f:α→Int):sumBy f []=0:=rfl
theorem zbb{α:Type}(f:α→Int)(x:α)(l:List α):sumBy f (x::l)=f x+sumBy f l:=by simp[sumBy]
theorem zff{α:Type}(f:α→Int)(a b:List α):sumBy f (a++b)=sumBy f a+sumBy f b:=by simp[sumBy]
theorem sumBy_take{α:Type}(f:α→Int)(l:List α)(i:Nat)(h:i<l.length):sumBy f (l.take (i+1))=sumBy f (l.take i)+f l[i]:=by
 rw[show l.take (i+1)=l.take i++[l[i]] by simp,zff,zbb,zde]; omega
theorem zha{α:Type}{f:α→Int}{B:Int}:∀{l:List α},(∀x∈l,-B≤f x∧f x≤B) → -(B*(l.length:Int))≤sumBy f l∧sumBy f l≤B*(l.length:Int)
 |[],_=>by simp[sumBy]
 |x::l,h=>by
  have h1:=h x (by simp)
  have h2:=zha (l:=l) fun w hw=>h w (by simp[hw])
  rw[zbb,List.length_cons,Int.natCast_add,Int.mul_add]
  omega
theorem ykx{α:Type}(p:α→Bool)(l:List α)(i:Nat)(h:i<l.length):(l.take (i+1)).filter p=(l.take i).filter p++(if p l[i]=true then [l[i]] else []):=by
 rw[show l.take (i+1)=l.take i++[l[i]] by simp,List.filter_append]
 congr 1
 by_cases hp:p l[i]=true<;>simp[hp]
end Go.Vc


namespace Go.Proofs.YtbpbkmngbhgpfaaGreat
open Go Go.Vc Go.RowKit
def wv(w:zag):Int:=w.1*18446744073709551616+w.2.1
def wOk(w:zag):Prop:=(-9223372036854775808≤w.1∧w.1≤9223372036854775807)∧(0≤w.2.1∧w.2.1<18446744073709551616)
def wide(z:Int):zag:=(z / 18446744073709551616,z % 18446744073709551616,())
def In128(z:Int):Prop := -170141183460469231731687303715884105728≤z∧z<170141183460469231731687303715884105728
instance (z:Int):Decidable (In128 z):=by unfold In128; infer_instance
theorem yji(z:Int):wv (wide z)=z:=by unfold wide wv; simp only; omega
theorem wv_in(w:zag)(h:wOk w):In128 (wv w):=by unfold wOk at h; unfold In128 wv; omega
theorem wide_ok(z:Int)(h:In128 z):wOk (wide z):=by unfold In128 at h; unfold wOk wide; simp only; omega
theorem wide_inj{a b:Int}(h:wide a=wide b):a=b:=by rw[←yji a,h,yji]
theorem shr63(n:Int)(h : -9223372036854775808≤n∧n≤9223372036854775807):n.fdiv (2 ^ min (Int.toNat 63) IntKind.i64.bits)=n / 18446744073709551616:=by
 have e:(2:Int) ^ min (Int.toNat 63) IntKind.i64.bits=9223372036854775808:=by decide +kernel
 rw[e,Int.fdiv_eq_ediv_of_nonneg _ (by omega)]; omega
def fit(z:Int):zag×Int×Unit:=if In128 z then (wide z,0,()) else ((0,0,()),7,())
def I64(n:Int):Prop := -9223372036854775808≤n∧n≤9223372036854775807
theorem i64_128{n:Int}(h:I64 n):In128 n:=by unfold I64 at h; unfold In128; omega
theorem r_wOf(n:Int)(h:I64 n):zlc n=some (wide n):=by
 show zpr stdW n=_
 unfold zpr
 rw[nn_w (by omega),shr63 n h,IntKind.wrap_u64]; rfl
def totT(V:Int):Int×Int×Int×Unit:=(V / 340282366920938463463374607431768211456,IntKind.i64.wrap (V / 18446744073709551616),V % 18446744073709551616,())
def InTot(V:Int):Prop := -1569275433846670190958947355801916604025588861116008628224≤V∧V<1569275433846670190958947355801916604025588861116008628224
theorem yjk(z:Int):IntKind.u64.wrap (IntKind.i64.wrap z)=z % 18446744073709551616:=by
 rw[IntKind.wrap_u64,IntKind.wrap_i64]; omega
theorem ybg(z:Int):IntKind.i64.wrap (z % 18446744073709551616)=IntKind.i64.wrap z:=by
 rw[IntKind.wrap_i64,IntKind.wrap_i64]; omega
theorem tot_next(V x y:Int)(hV:InTot V)(hx : -9223372036854775808≤x∧x≤9223372036854775807)(hy:0≤y∧y<18446744073709551616):
  ((IntKind.i64.wrap (V / 340282366920938463463374607431768211456+IntKind.i64.wrap (x.fdiv (2 ^ min (Int.toNat 63) IntKind.i64.bits)+IntKind.i64.wrap ((IntKind.u64.wrap (IntKind.i64.wrap (V / 18446744073709551616))+IntKind.u64.wrap x+(V % 18446744073709551616+y+0) / 18446744073709551616) / 18446744073709551616))),
   IntKind.i64.wrap ((IntKind.u64.wrap (IntKind.i64.wrap (V / 18446744073709551616))+IntKind.u64.wrap x+(V % 18446744073709551616+y+0) / 18446744073709551616) % 18446744073709551616),
   (V % 18446744073709551616+y+0) % 18446744073709551616,()):Int×Int×Int×Unit)=totT (V+(x*18446744073709551616+y)):=by
 unfold InTot at hV
 rw[yjk,ybg,shr63 x hx,IntKind.wrap_u64]
 have e1:(V+(x*18446744073709551616+y)) / 18446744073709551616=V / 18446744073709551616+x+(V % 18446744073709551616+y+0) / 18446744073709551616:=by omega
 have e0:(V+(x*18446744073709551616+y)) / 340282366920938463463374607431768211456=(V / 18446744073709551616+x+(V % 18446744073709551616+y+0) / 18446744073709551616) / 18446744073709551616:=by omega
 have e3:V / 340282366920938463463374607431768211456=V / 18446744073709551616 / 18446744073709551616:=by omega
 unfold totT
 rw[e1,e0,e3]
 have hc:0≤(V % 18446744073709551616+y+0) / 18446744073709551616∧(V % 18446744073709551616+y+0) / 18446744073709551616≤1:=by omega
 generalize (V % 18446744073709551616+y+0) / 18446744073709551616=c at*
 have hu : -92233720368547758080000000000000000000≤V / 18446744073709551616∧V / 18446744073709551616<92233720368547758080000000000000000000:=by omega
 generalize V / 18446744073709551616=u at*
 have f1:(V+(x*18446744073709551616+y)) % 18446744073709551616=(V % 18446744073709551616+y+0) % 18446744073709551616:=by omega
 rw[f1]
 have g2:(u % 18446744073709551616+x % 18446744073709551616+c) / 18446744073709551616≤2∧0≤(u % 18446744073709551616+x % 18446744073709551616+c) / 18446744073709551616:=by omega
 have g1:IntKind.i64.wrap ((u % 18446744073709551616+x % 18446744073709551616+c) / 18446744073709551616)=(u % 18446744073709551616+x % 18446744073709551616+c) / 18446744073709551616:=IntWalk.i64_in _ (by omega)
 rw[g1]
 have g3:IntKind.i64.wrap (x / 18446744073709551616+(u % 18446744073709551616+x % 18446744073709551616+c) / 18446744073709551616)=x / 18446744073709551616+(u % 18446744073709551616+x % 18446744073709551616+c) / 18446744073709551616:=IntWalk.i64_in _ (by omega)
 rw[g3]
 have g4:u / 18446744073709551616+(x / 18446744073709551616+(u % 18446744073709551616+x % 18446744073709551616+c) / 18446744073709551616)=(u+x+c) / 18446744073709551616:=by omega
 rw[g4]
 have g5:IntKind.i64.wrap ((u+x+c) / 18446744073709551616)=(u+x+c) / 18446744073709551616:=IntWalk.i64_in _ (by omega)
 rw[g5]
 have g6:IntKind.i64.wrap (u % 18446744073709551616+x % 18446744073709551616+c)=IntKind.i64.wrap (u+x+c):=by rw[IntKind.wrap_i64,IntKind.wrap_i64]; omega
 rw[g6]
theorem ynj{x y c:Int}(hx:0≤x)(hy:0≤y)(hc0:0≤c)(hc:c≤1):add64 x y c=some ((x+y+c) % 18446744073709551616,(x+y+c) / 18446744073709551616,()):=by unfold add64; rw[if_pos ⟨hx,hy,hc0,hc⟩]
theorem r_tadd(V:Int)(x:zag)(hV:InTot V)(hx:wOk x):zdu x (totT V).1 (totT V).2.1 (totT V).2.2.1=some ((),totT (V+wv x)):=by
 unfold wOk at hx
 show zdd stdW x (V / 340282366920938463463374607431768211456) (IntKind.i64.wrap (V / 18446744073709551616)) (V % 18446744073709551616)=_
 unfold zdd wv
 rw[←tot_next V x.1 x.2.1 hV hx.1 hx.2]
 have hV':=hV
 unfold InTot at hV'
 rw[zac (ynj (by omega) (by omega) (by omega) (by omega)),zac (ynj (by rw[IntKind.wrap_u64]; omega) (by rw[IntKind.wrap_u64]; omega) (by show 0≤(V % 18446744073709551616+x.2.1+0) / 18446744073709551616; omega) (by show (V % 18446744073709551616+x.2.1+0) / 18446744073709551616≤1; omega)),nn_w (by omega)]
theorem tot_fits(V:Int)(hV:InTot V):(V / 340282366920938463463374607431768211456==(IntKind.i64.wrap (V / 18446744073709551616)).fdiv (2 ^ min (Int.toNat 63) IntKind.i64.bits))=decide (In128 V):=by
 have hr : -9223372036854775808≤IntKind.i64.wrap (V / 18446744073709551616)∧IntKind.i64.wrap (V / 18446744073709551616)≤9223372036854775807:=by
  rw[IntKind.wrap_i64]; omega
 rw[shr63 _ hr]
 unfold InTot at hV
 by_cases h:In128 V
 ·rw[decide_eq_true h]
  unfold In128 at h
  rw[IntWalk.i64_in _ (by omega)]
  first|(simp; done)|(simp; omega)|skip
 ·rw[decide_eq_false h]
  unfold In128 at h
  rw[IntKind.wrap_i64]
  simp; omega
theorem r_ranged(w:zag)(ok:Bool):zgf w ok=some (if ok=true then (w,0,()) else ((0,0,()),7,())):=by
 show zfe stdW w ok=_
 unfold zfe
 cases ok<;>rfl
theorem r_tdone(V:Int)(hV:InTot V):zdc (totT V).1 (totT V).2.1 (totT V).2.2.1=some (fit V,totT V):=by
 show zcv stdW _ _ _=_
 unfold zcv
 rw[nn_w (by omega),zac (r_ranged _ _)]
 have:=tot_fits V hV
 show some ((if (V / 340282366920938463463374607431768211456==(IntKind.i64.wrap (V / 18446744073709551616)).fdiv (2 ^ min (Int.toNat 63) IntKind.i64.bits))=true then _ else _),_)=_
 rw[this]
 unfold fit
 by_cases h:In128 V
 ·rw[if_pos (decide_eq_true h),if_pos h]
  have e:IntKind.i64.wrap (V / 18446744073709551616)=V / 18446744073709551616:=by unfold In128 at h; exact IntWalk.i64_in _ (by omega)
  show some (((IntKind.i64.wrap (V / 18446744073709551616),V % 18446744073709551616,()),0,()),_)=_
  rw[e]; rfl
 ·rw[decide_eq_false h,if_neg (by simp),if_neg h]
def sumW(l:List zag):Int:=(l.map wv).sum
theorem sumW_in:∀(l:List zag),(∀w∈l,wOk w) → -(170141183460469231731687303715884105728*(l.length:Int))≤sumW l∧sumW l≤170141183460469231731687303715884105728*(l.length:Int)
 |[],_=>by simp[sumW]
 |x::l,h=>by
  have h1:=wv_in x (h x (by simp))
  have h2:=sumW_in l fun w hw=>h w (by simp[hw])
  unfold In128 at h1
  simp only[sumW,List.map_cons,List.sum_cons,List.length_cons]at h2 ⊢
  omega
theorem yln(l:List zag)(h:∀w∈l,wOk w)(hl:l.length<9223372036854775807):InTot (sumW l):=by
 have:=sumW_in l h
 unfold InTot; omega
theorem sumW_app(a b:List zag):sumW (a++b)=sumW a+sumW b:=by unfold sumW; simp
theorem sumW_one(a:zag):sumW [a]=wv a:=by unfold sumW; simp
theorem sumW_take(l:List zag)(i:Nat)(h:i<l.length):sumW (l.take (i+1))=sumW (l.take i)+wv l[i]:=by
 rw[show l.take (i+1)=l.take i++[l[i]] by simp,sumW_app,sumW_one]
theorem r_wAdd(l:List zag)(h:∀w∈l,wOk w)(hl:l.length<9223372036854775807):zmy l=some (fit (sumW l)):=by
 show zle stdW l=_
 unfold zle
 refine zfp (l:=l) (by omega) (fun i s=>s=totT (sumW (l.take i))) (fun _ _=>some (fit (sumW l))) (by simp[sumW]; rfl) ?_ ?_
 ·rintro _ again rfl
  rw[List.take_length,zax,zac (r_tdone _ (yln l h hl))]
 ·rintro i hi _ rfl again ha
  rw[cnd_lt hi,idx_w hi,zac (r_tadd _ _ (yln _ (fun w hw=>h w (List.mem_of_mem_take hw)) (by rw[List.length_take]; omega)) (h _ (List.getElem_mem hi)))]
  dsimp only
  rw[i64_s i (by omega)]
  exact ha _ (by rw[sumW_take l i hi])
end Go.Proofs.YtbpbkmngbhgpfaaGreat

namespace Go.Proofs.YtbpbkmngbhgpfaaGreat
open Go Go.Vc Go.RowKit
theorem r_neg{a:BigT}(h:Nb a)(la:a.2.1.length≤1000):zxz a=some (big (-(bv a))):=by
 show znh stdW a=_
 unfold znh
 rw[zac (r_trim (nb_nrm h).bits la),neg_is]
theorem r_sub{a b:BigT}(ha:Nb a)(hb:Nb b)(la:a.2.1.length≤900)(lb:b.2.1.length≤900):zxx a b=some (big (bv a - bv b)):=by
 show znf stdW a b=_
 unfold znf
 have e:∀z:BigT,(z.1,(z.2.1,()))=z:=fun z=>rfl
 rw[e,e,zac (r_neg hb (by omega)),e,zac (r_add ha (nb_big _) la (by rw[neg_len hb]; exact lb)),e,bv_big]
 congr 2
theorem r_cmp{a b:BigT}(ha:Nb a)(hb:Nb b)(la:a.2.1.length≤900)(lb:b.2.1.length≤900):zif a b=some (if bv a - bv b=0 then 0 else if bv a - bv b<0 then -1 else 1):=by
 show zni stdW a b=_
 unfold zni
 have e:∀z:BigT,(z.1,(z.2.1,()))=z:=fun z=>rfl
 rw[e,e,zac (r_sub ha hb la lb)]
 by_cases h:bv a - bv b=0
 ·rw[cnd_y (by have:=(ynf (bv a - bv b)).2 h; simp[this]),if_pos h]
 ·rw[cnd_n (by have:=mt (ynf (bv a - bv b)).1 h; simpa using this),if_neg h,cnd_b]
  show (if decide (bv a - bv b<0)=true then _ else _)=_
  by_cases h2:bv a - bv b<0
  ·rw[if_pos (by simpa using h2),if_pos h2]
  ·rw[if_neg (by simpa using h2),if_neg h2]
theorem r_of{n:Int}(h:I64 n):zda n=some (big n):=by
 show zqq stdW n=_
 unfold I64 at h
 unfold zqq
 by_cases h0:0≤n
 ·rw[cnd_y (decide_eq_true h0),u64_id n (by omega)]
  obtain⟨m,rfl⟩:=Int.eq_ofNat_of_zero_le h0
  rw[zac (r_nat m (by omega)),bigS_f]
 ·rw[cnd_n (decide_eq_false h0),of_neg (by omega) (by omega)]
  obtain⟨m,hm⟩:=Int.eq_ofNat_of_zero_le (show 0 ≤ -(n+1) by omega)
  rw[hm,zac (r_nat m (by omega))]
  have hl:(bitsOf m).length≤1000:=yaf (show m<2 ^ 64 by omega) (by omega)
  show stdW.call (zie (bitsOf m) [1]) _=_
  rw[zac (r_plus (ymh m) nrm1 hl (by simp)),of_negB (by omega) (by omega) hm.symm]
  rfl
theorem zwh{z:Int}(h : -170141183460469231731687303715884105728≤z∧z≤170141183460469231731687303715884105728):(big z).2.1.length≤200:=by
 refine len_big z ?_
 have:(2:Nat) ^ 200=1606938044258990275541962092341162602522202993782792835301376:=by decide
 omega
end Go.Proofs.YtbpbkmngbhgpfaaGreat

namespace Go.Proofs.YtbpbkmngbhgpfaaGreat
open Go Go.Vc Go.RowKit
def sml(z:Int):Prop := -170141183460469231731687303715884105728≤z∧z≤170141183460469231731687303715884105728
instance (z:Int):Decidable (I64 z):=by unfold I64; infer_instance
def fits64(z:Int):Int×Int×Unit:=if I64 z then (z,0,()) else (0,7,())
theorem nif_t(c:Bool):notIf true c=!c:=by cases c<;>rfl
theorem nif_f(c:Bool):notIf false c=c:=by cases c<;>rfl
theorem r_wInt{z:Int}(h:In128 z):zmx (wide z)=some (fits64 z):=by
 show zld stdW (wide z)=_
 unfold zld
 have hw:IntKind.i64.wrap (wide z).2.1=IntKind.i64.wrap z:=ybg z
 have hI:I64 (IntKind.i64.wrap z):=by unfold I64; rw[IntKind.wrap_i64]; omega
 rw[hw,zac (r_wOf _ hI),nif_t]
 unfold fits64
 by_cases hz:I64 z
 ·have e:IntKind.i64.wrap z=z:=by unfold I64 at hz; exact IntWalk.i64_in _ (by omega)
  rw[if_pos hz,e,cnd_n (by simp)]
 ·rw[if_neg hz,cnd_y ?_]
  rw[Bool.not_eq_true']
  cases hc:((wide (IntKind.i64.wrap z)).1==(wide z).1&&(wide (IntKind.i64.wrap z)).2.1==(wide z).2.1) with
  |false=>rfl
  |true=>
   simp only[Bool.and_eq_true,beq_iff_eq]at hc
   have:wide (IntKind.i64.wrap z)=wide z:=Prod.ext hc.1 (Prod.ext hc.2 rfl)
   exact absurd (wide_inj this▸hI) hz
theorem r_narrow0{z:Int}(h:In128 z):zit (wide z) 0=some (fits64 z):=by
 show zgq stdW (wide z) 0=_
 unfold zgq
 rw[cnd_n (by decide),zac (r_wInt h)]
theorem sum_in{l:List Int}(h:∀x∈l,I64 x) : -(9223372036854775808*(l.length:Int))≤l.sum∧l.sum≤9223372036854775808*(l.length:Int):=by
 have:=zha (f:=fun x:Int=>x) (B:=9223372036854775808) (l:=l) (fun x hx=>by have:=h x hx; unfold I64 at this; omega)
 simpa[sumBy]using this
theorem sumW_wide(l:List Int):sumW (l.map wide)=l.sum:=by
 unfold sumW
 rw[List.map_map]
 have:(wv ∘ wide)=id:=funext yji
 rw[this,List.map_id]
theorem wides_ok{l:List Int}(h:∀x∈l,I64 x):∀w∈l.map wide,wOk w:=by
 intro w hw
 obtain⟨x,hx,rfl⟩:=List.mem_map.1 hw
 exact wide_ok _ (i64_128 (h x hx))
theorem sum128{l:List Int}(h:∀x∈l,I64 x)(hl:l.length≤1000000):In128 l.sum:=by
 have:=sum_in h; unfold In128; omega
theorem r_wSum{l:List Int}(h:∀x∈l,I64 x)(hl:l.length≤1000000):zmy (l.map wide)=some (wide l.sum,0,()):=by
 rw[r_wAdd _ (wides_ok h) (by rw[List.length_map]; omega),sumW_wide]
 unfold fit; rw[if_pos (sum128 h hl)]
theorem r_fSum{l:List Int}(h:∀x∈l,I64 x)(hl:l.length≤1000000):zmj l=some (fits64 l.sum):=by
 show zrs stdW l=_
 unfold zrs
 rw[nn_w (by omega),room_w (by simp; omega) (by simp; omega)]
 refine loop_n (N:=l.length) (by omega) (fun i s=>s=((l.take i).map wide,())) (some (fits64 l.sum)) rfl ?_ ?_
 ·rintro _ again rfl
  rw[zax,List.take_length,zac (r_wSum h hl),zac (r_narrow0 (sum128 h hl))]
 ·rintro i hi _ rfl again ha
  rw[cnd_lt hi,idx_w hi,zac (r_wOf _ (h _ (List.getElem_mem hi))),i64_s i (by omega),room_w (by simp; omega) (by simp; omega)]
  refine ha _ ?_
  rw[List.take_succ_eq_append_getElem hi,List.map_append]; rfl
end Go.Proofs.YtbpbkmngbhgpfaaGreat

namespace Go.Proofs.YtbpbkmngbhgpfaaGreat
open Go Go.Vc Go.RowKit
theorem join_g{X β:Type}{k0:X→Option β}{f:(X→Option β)→Option β}{r:Option β}(h:∀k,k=k0→f k=r):stdW.join k0 f=r:=h k0 rfl
theorem r_lessA(a b:AUnit'):zea a b=some (decide (ltA a b)):=by
 show ziz stdW a b=_
 unfold ziz
 by_cases h:a.1=b.1
 ·rw[cnd_n (by simp[h])]
  congr 1; refine decide_eq_decide.2 ?_; unfold ltA; omega
 ·rw[cnd_y (by simp[h])]
  congr 1; refine decide_eq_decide.2 ?_; unfold ltA; omega
def PInv(l:List AFlow'):Prop:=(∀x∈l,x.2.1≠0)∧SrtA (l.map (·.1))
instance (l:List AFlow'):Decidable (PInv l):=by unfold PInv SrtA; infer_instance
def isP(l:List AFlow'):Bool:=decide (PInv l)
theorem isP_bad0{l:List AFlow'}{i:Nat}(hi:i<l.length)(h:l[i].2.1=0):isP l=false:=
 decide_eq_false fun hp=>hp.1 _ (List.getElem_mem hi) h
theorem isP_bad1{l:List AFlow'}{i:Nat}(hi:i<l.length)(h0:0<i)(h:¬ltA (l[i - 1]'(by omega)).1 l[i].1):isP l=false:=
 decide_eq_false fun hp=>h (by
  have:=List.pairwise_iff_getElem.1 hp.2 (i - 1) i (by simp; omega) (by simpa using hi) (by omega)
  simpa using this)
theorem ymr{l:List AFlow'}{i:Nat}(hi:i<l.length)(inv:PInv (l.take i))(h1:l[i].2.1≠0)(h2:∀h0:0<i,ltA (l[i - 1]'(by omega)).1 l[i].1):PInv (l.take (i+1)):=by
 rw[List.take_succ_eq_append_getElem hi]
 refine⟨fun x hx=>?_,?_⟩
 ·rcases List.mem_append.1 hx with hx|hx
  ·exact inv.1 x hx
  ·simp at hx; rw[hx]; exact h1
 ·show SrtA ((l.take i++[l[i]]).map (·.1))
  rw[List.map_append]
  refine List.pairwise_append.2 ⟨inv.2,by simp,fun a ha b hb=>?_⟩
  simp only[List.map_cons,List.map_nil,List.mem_singleton]at hb
  subst hb
  obtain⟨k,hk,hka⟩:=List.mem_iff_getElem.1 ha
  have hk':k<i:=by simp at hk; omega
  have h3:=h2 (by omega)
  by_cases hki:k=i - 1
  ·subst hki; rw[←hka]; simpa using h3
  ·have h4:=List.pairwise_iff_getElem.1 inv.2 k (i - 1) (by simpa using hk) (by simp; omega) (by omega)
   rw[hka]at h4
   refine ltA_tr h4 ?_
   simpa using h3
theorem isP_end{l:List AFlow'}(h:PInv (l.take l.length)):isP l=true:=by rw[List.take_length]at h; exact decide_eq_true h
theorem r_is{l:List AFlow'}(hl:l.length≤1000000):zjs l=some (isP l):=by
 show zlu stdW l=_
 unfold zlu
 refine loop_n (N:=l.length) (by omega) (fun i _=>PInv (l.take i)) (some (isP l)) (by simp[PInv]) ?_ ?_
 ·rintro _ again h
  rw[zax,isP_end h]
 ·rintro i hi _ inv again ha
  rw[cnd_lt hi,idx_w hi]
  refine join_g fun k hk=>?_
  have kt:k (true,())=some false:=by subst hk; rfl
  have kf:k (false,())=again (((i+1:Nat):Int),()):=by rw[←i64_s i (by omega)]; subst hk; rfl
  clear hk
  by_cases h1:l[i].2.1=0
  ·rw[cnd_y (by simpa using h1),kt,isP_bad0 hi h1]
  ·rw[cnd_n (by simpa using h1)]
   by_cases h0:0<i
   ·rw[cnd_y (decide_eq_true (by omega)),znu i h0 (by rw[zbj]; omega),idx_w (by omega),zac (r_lessA _ _)]
    by_cases h2:ltA (l[i - 1]'(by omega)).1 l[i].1
    ·rw[decide_eq_true h2]
     exact kf.trans (ha _ (ymr hi inv h1 fun _=>h2))
    ·rw[decide_eq_false h2,isP_bad1 hi h0 h2]; exact kt
   ·rw[cnd_n (decide_eq_false (by omega))]
    exact kf.trans (ha _ (ymr hi inv h1 fun h=>absurd h h0))
theorem eqA(a b:AUnit'):(a.1==b.1&&a.2.1==b.2.1)=decide (a=b):=by
 by_cases h:a=b
 ·subst h; simp
 ·rw[decide_eq_false h]
  cases hc:(a.1==b.1&&a.2.1==b.2.1) with
  |false=>rfl
  |true=>simp only[Bool.and_eq_true,beq_iff_eq]at hc; exact absurd (extA hc.1 hc.2) h
def getP:List AFlow'→AUnit'→Int
 |[],_=>0
 |x::l,u=>if x.1=u then x.2.1 else getP l u
theorem r_get{l:List AFlow'}{u:AUnit'}(hl:l.length≤1000000):zii l u=some (getP l u):=by
 show zih stdW l u=_
 unfold zih
 refine zfp (l:=l) (by omega) (fun _ _=>True) (fun l _=>some (getP l u)) trivial ?_ ?_
 ·rintro _ again _
  rw[zax]; rfl
 ·rintro i hi _ _ again ha
  rw[cnd_lt hi,idx_w hi,nif_f,eqA]
  unfold getP
  by_cases h:l[i].1=u
  ·rw[cnd_y (decide_eq_true h),if_pos h]
  ·rw[cnd_n (decide_eq_false h),if_neg h,i64_s i (by omega)]
   exact ha _ trivial
theorem r_get17{l:List AFlow'}{u:AUnit'}(hl:l.length≤1000000):zdk l u=some (getP l u):=by
 show znc stdW l u=_
 unfold znc
 refine zfp (l:=l) (by omega) (fun _ _=>True) (fun l _=>some (getP l u)) trivial ?_ ?_
 ·rintro _ again _
  rw[zax]; rfl
 ·rintro i hi _ _ again ha
  rw[cnd_lt hi,idx_w hi,nif_f,eqA]
  unfold getP
  by_cases h:l[i].1=u
  ·rw[cnd_y (decide_eq_true h),if_pos h,idx_w hi]
  ·rw[cnd_n (decide_eq_false h),if_neg h,i64_s i (by omega)]
   exact ha _ trivial
def amt(x:AFlow'):Int:=x.2.1
def okF(l:List AFlow'):Prop:=∀x∈l,I64 (amt x)
theorem sumA_in{l:List AFlow'}(h:okF l) : -(9223372036854775808*(l.length:Int))≤sumBy amt l∧sumBy amt l≤9223372036854775808*(l.length:Int):=
 zha fun x hx=>by have:=h x hx; unfold I64 at this; omega
theorem ydu{l:List AFlow'}(h:okF l)(hl:l.length≤1000000):sml (sumBy amt l)∧In128 (sumBy amt l):=by
 have:=sumA_in h; unfold sml In128; omega
theorem okF.take{l:List AFlow'}(h:okF l)(i:Nat):okF (l.take i):=fun x hx=>h x (List.mem_of_mem_take hx)
theorem r_addB{a b:Int}(ha:sml a)(hb:sml b):zaw (big a) (big b)=some (big (a+b)):=by
 unfold sml at*
 have:=r_add (nb_big a) (nb_big b) (Nat.le_trans (zwh ha) (by decide)) (Nat.le_trans (zwh hb) (by decide))
 rwa [bv_big,bv_big]at this
theorem big0:big 0=(false,([],())):=by unfold big; simp[bits0]
theorem ykp{n:Int}(h:I64 n):sml n:=by unfold I64 at h; unfold sml; omega
theorem yhe{l:List AFlow'}(h:okF l)(hl:l.length≤1000000):zdj l=some (big (sumBy amt l)):=by
 show zhd stdW l=_
 unfold zhd
 refine loop_n (N:=l.length) (by omega) (fun i s=>s=big (sumBy amt (l.take i))) (some (big (sumBy amt l))) (by rw[List.take_zero,zde,big0]) ?_ ?_
 ·rintro _ again rfl
  rw[zax,List.take_length]
 ·rintro i hi _ rfl again ha
  have h1:=(ydu (h.take i) (by rw[List.length_take]; omega)).1
  have h2:=h _ (List.getElem_mem hi)
  rw[cnd_lt hi]
  refine join_g fun k hk=>?_
  have kk:∀v:BigT,k (v.1,(v.2.1,()))=again (((i+1:Nat):Int),v):=by intro v; rw[←i64_s i (by omega)]; subst hk; rfl
  clear hk
  rw[idx_w hi,both_w,zac (r_of (n:=l[i].2.1) h2)]
  show stdW.call (zaw (big (sumBy amt (l.take i))) (big (l[i].2.1))) _=_
  rw[zac (r_addB (b:=l[i].2.1) h1 (ykp h2)),kk]
  refine ha _ ?_
  rw[sumBy_take _ _ _ hi]; rfl
end Go.Proofs.YtbpbkmngbhgpfaaGreat

namespace Go.Proofs.YtbpbkmngbhgpfaaGreat
open Go Go.Vc Go.RowKit
def ofFlow(u:AUnit')(x:AFlow'):Bool:=decide (x.1=u)
def amts(l:List AFlow')(u:AUnit'):List Int:=(l.filter (ofFlow u)).map amt
def sumU(l:List AFlow')(u:AUnit'):Int:=(amts l u).sum
theorem yni(l:List AFlow')(u:AUnit'):(amts l u).length≤l.length:=by
 unfold amts; rw[List.length_map]; exact List.length_filter_le _ _
theorem amts_ok{l:List AFlow'}(h:okF l)(u:AUnit'):∀x∈amts l u,I64 x:=by
 intro x hx
 obtain⟨y,hy,rfl⟩:=List.mem_map.1 hx
 exact h y (List.mem_filter.1 hy).1
theorem yjd(l:List AFlow')(u:AUnit')(i:Nat)(h:i<l.length):amts (l.take (i+1)) u=amts (l.take i) u++(if l[i].1=u then [l[i].2.1] else []):=by
 unfold amts
 rw[ykx _ _ _ h,List.map_append]
 unfold ofFlow
 by_cases hu:l[i].1=u<;>simp[hu,amt]
theorem r_amounts{l:List AFlow'}{u:AUnit'}(hl:l.length≤1000000):zem l u=some (amts l u):=by
 show zdy stdW l u=_
 unfold zdy
 refine loop_n (N:=l.length) (by omega) (fun i s=>s=(amts (l.take i) u,())) (some (amts l u)) rfl ?_ ?_
 ·rintro _ again rfl
  rw[zax,List.take_length]
 ·rintro i hi _ rfl again ha
  rw[cnd_lt hi]
  refine join_g fun k hk=>?_
  have kk:∀v:List Int,k (v,())=again (((i+1:Nat):Int),(v,())):=by intro v; rw[←i64_s i (by omega)]; subst hk; rfl
  clear hk
  have hlen:=yni (l.take i) u
  rw[List.length_take]at hlen
  rw[idx_w hi,nif_f,eqA]
  by_cases h:l[i].1=u
  ·rw[cnd_y (decide_eq_true h),room_w (by simp; omega) (by simp; omega),kk]
   refine ha _ ?_
   rw[yjd _ _ _ hi,if_pos h]
  ·rw[cnd_n (decide_eq_false h),kk]
   refine ha _ ?_
   rw[yjd _ _ _ hi,if_neg h,List.append_nil]
def payGo(all:List AFlow'):List AUnit'→List AFlow'→List AFlow'×Int×Unit
 |[],acc=>(acc,0,())
 |u::us,acc=>if I64 (sumU all u) then (if sumU all u≠0 then payGo all us (acc++[(u,sumU all u,())]) else payGo all us acc) else ([],7,())
def payP(l fl:List AFlow'):List AFlow'×Int×Unit:=if isP l=true then payGo (l++fl) (zcz (l++fl)) [] else ([],3,())
theorem ygj(l:List AFlow'):(zcz l).length≤l.length:=by
 unfold zcz
 rw[List.length_map,yjq]
 exact Nat.le_trans (ylm _) (by simp)
theorem r_pay{l fl:List AFlow'}(h:okF l)(hf:okF fl)(hl:l.length+fl.length≤1000000):zfn l fl=some (payP l fl):=by
 show zig stdW l fl=_
 unfold zig payP
 rw[zac (r_is (by omega))]
 by_cases hp:isP l=true
 ·rw[hp,cnd_n (by decide),if_pos rfl]
  have hall:okF (l++fl):=fun x hx=>(List.mem_append.1 hx).elim (h x) (hf x)
  have e1:zpa (l::(fl::[]))=some (l++fl):=by
   unfold zpa
   rw[show (l::(fl::[])).flatten=l++fl by simp,if_pos (by rw[List.length_append]; omega)]
  have hlen:(l++fl).length≤1000000:=by rw[List.length_append]; exact hl
  have e2:namedO (l++fl)=some (zcz (l++fl)):=by unfold namedO; rw[if_pos (by omega)]
  rw[zac e1,zac e2]
  have hul:=ygj (l++fl)
  generalize l++fl=all at*
  generalize zcz all=us at*
  refine zfp (l:=us) (by omega) (fun i (s:List AUnit'×List AFlow'×Unit)=>s.1=us∧s.2.1.length≤i) (fun us' (s:List AUnit'×List AFlow'×Unit)=>some (payGo all us' s.2.1)) ⟨rfl,Nat.le_refl _⟩ ?_ ?_
  ·rintro⟨_,acc,⟨⟩⟩ again ⟨rfl,_⟩
   rw[zax]; rfl
  ·rintro i hi ⟨us',acc,⟨⟩⟩ ⟨hus,hacc⟩ again ha
   have hus:us=us':=hus.symm
   subst hus
   simp only at hacc
   rw[cnd_lt hi]
   refine join_g fun k hk=>?_
   have kk:∀v:List AFlow',k (us,(v,()))=again (((i+1:Nat):Int),(us,(v,()))):=by intro v; rw[←i64_s i (by omega)]; subst hk; rfl
   clear hk
   show stdW.idx us (i:Int) _=_
   rw[idx_w hi]
   show stdW.nth us (Int.toNat (i:Int)) _=_
   rw[nth_w hi,zac (r_amounts hlen)]
   show _=some (payGo all (us[i]::us.drop (i+1)) acc)
   rw[payGo]
   have e3:=r_fSum (amts_ok hall us[i]) (Nat.le_trans (yni _ _) hlen)
   change zmj (amts all us[i])=some (if I64 (sumU all us[i]) then (sumU all us[i],0,()) else (0,7,())) at e3
   by_cases hI:I64 (sumU all us[i])
   ·rw[if_pos hI]at e3
    rw[if_pos hI,zac e3]
    show stdW.cnd ((0:Int) != 0) _ (stdW.cnd (sumU all us[i] != 0) (stdW.room (acc.length+1) 24 (k (us,(acc++[(us[i],sumU all us[i],())],())))) (k (us,(acc,()))))=_
    rw[cnd_n (by decide)]
    by_cases h0:sumU all us[i]=0
    ·rw[if_neg (by simp[h0]),cnd_n (by simp[h0])]
     exact(kk acc).trans (ha _ ⟨rfl,by simp only; omega⟩)
    ·rw[if_pos h0,cnd_y (by simp[h0]),room_w (by omega) (by omega)]
     exact(kk (acc++[(us[i],sumU all us[i],())])).trans (ha _ ⟨rfl,by simp; omega⟩)
   ·rw[if_neg hI]at e3
    rw[if_neg hI,zac e3]
    show stdW.cnd ((7:Int) != 0) (some ([],(7,()))) _=_
    rw[cnd_y (by decide)]
 ·have hp:isP l=false:=by simpa using hp
  rw[hp,cnd_y (by decide),if_neg (by simp)]
end Go.Proofs.YtbpbkmngbhgpfaaGreat

namespace Go.Proofs.YtbpbkmngbhgpfaaGreat
open Go Go.Vc Go.RowKit
theorem zym(all:List AFlow'):∀(us:List AUnit') (acc:List AFlow'),(payGo all us acc).1.length≤acc.length+us.length
 |[],acc=>by simp[payGo]
 |u::us,acc=>by
  unfold payGo
  split
  ·split
   ·have:=zym all us (acc++[(u,sumU all u,())]); simp at this ⊢; omega
   ·have:=zym all us acc; simp at this ⊢; omega
  ·simp
theorem payP_len(l f:List AFlow'):(payP l f).1.length≤l.length+f.length:=by
 unfold payP
 split
 ·have:=zym (l++f) (zcz (l++f)) []
  have h2:=ygj (l++f)
  simp at this h2 ⊢; omega
 ·simp
theorem r_few17(l:List AFlow')(hl:l.length≤9223372036854775807):zme l=some (l.take 20):=by
 show zns stdW l=_
 unfold zns
 by_cases h:20<l.length
 ·rw[cnd_y (decide_eq_true (by omega)),bnd_w (by omega) (by omega)]; rfl
 ·rw[cnd_n (decide_eq_false (by omega)),List.take_of_length_le (by omega)]
end Go.Proofs.YtbpbkmngbhgpfaaGreat

namespace Go.Proofs.YtbpbkmngbhgpfaaGreat
open Go Go.Vc Go.RowKit
theorem loop_at{X β:Type}{N:Nat}(hN:N<9223372036854775808){f:X→(X→Option β)→Option β}(st:Nat→X)(r:Option β)
  (hend:∀again:X→Option β,f (st N) again=r) (hstep:∀i,i<N→∀again:X→Option β,again (st (i+1))=r→f (st i) again=r):stdW.loop f (st 0)=r:=by
 have key:∀n i,i≤N→N - i<n→loopF n f (st i)=r:=by
  intro n
  induction n with
  |zero=>intro i _ h; omega
  |succ n ih=>
   intro i hi hn
   show f (st i) (loopF n f)=r
   by_cases h:i<N
   ·exact hstep i h _ (ih (i+1) (by omega) (by omega))
   ·have:i=N:=by omega
    subst this; exact hend _
 show loopF FU f (st 0)=r
 exact key FU 0 (Nat.zero_le _) (by rw[FU_eq]; omega)
end Go.Proofs.YtbpbkmngbhgpfaaGreat

namespace Go.Proofs.YtbpbkmngbhgpfaaGreat
open Go Go.Vc Go.RowKit
theorem zgo{X β:Type}{N:Nat}(hN:N<9223372036854775808){f:X→(X→Option β)→Option β}(st:Nat→X)(r:Option β){z0:X}(hz:z0=st 0)
  (hend:∀again:X→Option β,f (st N) again=r) (hstep:∀i,i<N→∀again:X→Option β,again (st (i+1))=r→f (st i) again=r):stdW.loop f z0=r:=by
 subst hz; exact loop_at hN st r hend hstep
end Go.Proofs.YtbpbkmngbhgpfaaGreat

namespace Go.Proofs.YtbpbkmngbhgpfaaGreat
open Go Go.Vc Go.RowKit
theorem r_cmpB{a b:Int}(ha:sml a)(hb:sml b):zif (big a) (big b)=some (if a - b=0 then 0 else if a - b<0 then -1 else 1):=by
 unfold sml at*
 have:=r_cmp (nb_big a) (nb_big b) (Nat.le_trans (zwh ha) (by decide)) (Nat.le_trans (zwh hb) (by decide))
 rwa [bv_big,bv_big]at this
theorem yen(all:List AFlow'):∀(us:List AUnit') (acc:List AFlow'),(payGo all us acc).2.1=0→
  (payGo all us acc).1=acc++(us.filter fun u=>decide (sumU all u≠0)).map (fun u=>(u,sumU all u,()))∧∀u∈us,I64 (sumU all u)
 |[],acc,_=>by simp[payGo]
 |u::us,acc,h=>by
  unfold payGo at h ⊢
  by_cases hI:I64 (sumU all u)
  ·rw[if_pos hI]at h ⊢
   by_cases h0:sumU all u≠0
   ·rw[if_pos h0]at h ⊢
    obtain⟨h1,h2⟩:=yen all us _ h
    refine⟨?_,fun x hx=>?_⟩
    ·rw[h1,List.filter_cons,if_pos (by simpa using h0)]; simp
    ·rcases List.mem_cons.1 hx with rfl|hx
     ·exact hI
     ·exact h2 x hx
   ·rw[if_neg h0]at h ⊢
    obtain⟨h1,h2⟩:=yen all us _ h
    refine⟨?_,fun x hx=>?_⟩
    ·rw[h1,List.filter_cons,if_neg (by simpa using h0)]
    ·rcases List.mem_cons.1 hx with rfl|hx
     ·exact hI
     ·exact h2 x hx
  ·rw[if_neg hI]at h; simp at h
theorem zhy(x:AFlow')(l:List AFlow')(u:AUnit'):sumU (x::l) u=(if x.1=u then amt x else 0)+sumU l u:=by
 unfold sumU amts ofFlow
 rw[List.filter_cons]
 by_cases h:x.1=u<;>simp[h]
theorem sumU_app(a b:List AFlow')(u:AUnit'):sumU (a++b) u=sumU a u+sumU b u:=by
 unfold sumU amts; rw[List.filter_append,List.map_append,List.sum_append]
theorem ygo{l:List AFlow'}{u:AUnit'}(h:∀x∈l,x.1≠u):sumU l u=0:=by
 induction l with
 |nil=>rfl
 |cons x l ih=>rw[zhy,if_neg (h x (by simp)),ih fun y hy=>h y (by simp[hy])]; rfl
theorem one_of{us:List AUnit'}(hn:us.Nodup){v:AUnit'}(z:Int):sumBy (fun u=>if v=u then z else 0) us=if v∈us then z else 0:=by
 induction us with
 |nil=>rfl
 |cons u us ih=>
  obtain⟨h1,h2⟩:=List.nodup_cons.1 hn
  rw[zbb,ih h2]
  by_cases hv:v=u
  ·subst hv; rw[if_pos rfl,if_neg h1,if_pos (by simp)]; omega
  ·rw[if_neg hv]
   by_cases hm:v∈us
   ·rw[if_pos hm,if_pos (by simp[hm])]; omega
   ·rw[if_neg hm,if_neg (by simp[hm,hv])]; rfl
theorem sumBy_add{α:Type}(f g:α→Int)(l:List α):sumBy (fun x=>f x+g x) l=sumBy f l+sumBy g l:=by
 induction l with
 |nil=>rfl
 |cons x l ih=>rw[zbb,zbb,zbb,ih]; omega
theorem ygn:∀(l:List AFlow') {us:List AUnit'},us.Nodup→(∀x∈l,x.1∈us)→sumBy (sumU l) us=sumBy amt l
 |[],us,_,_=>by
  have:∀us:List AUnit',sumBy (sumU []) us=0:=by
   intro us; induction us with
   |nil=>rfl
   |cons u us ih=>rw[zbb,ih]; rfl
  rw[this]; rfl
 |x::l,us,hn,h=>by
  have e:sumU (x::l)=fun u=>(if x.1=u then amt x else 0)+sumU l u:=funext (zhy x l)
  rw[e,sumBy_add,one_of hn,if_pos (h x (by simp)),ygn l hn fun y hy=>h y (by simp[hy]),zbb]
def resP(all:List AFlow')(us:List AUnit'):List AFlow':=(us.filter fun u=>decide (sumU all u≠0)).map fun u=>(u,sumU all u,())
theorem srt_nd{us:List AUnit'}(h:SrtA us):us.Nodup:=List.Pairwise.imp (fun {a b} (hab:ltA a b) (e:a=b)=>by subst e; exact ltA_irr _ hab) h
theorem resP_sum(all:List AFlow'):sumBy amt (resP all (zcz all))=sumBy amt all:=by
 have e:∀us:List AUnit',sumBy amt (resP all us)=sumBy (sumU all) us:=by
  intro us
  induction us with
  |nil=>rfl
  |cons u us ih=>
   unfold resP at ih ⊢
   rw[List.filter_cons,zbb,←ih]
   by_cases h:sumU all u=0
   ·rw[if_neg (by simp[h]),h]; omega
   ·rw[if_pos (by simp[h]),List.map_cons,zbb]; rfl
 rw[e,ygn all (srt_nd (zpt all)) fun x hx=>(ygi all x.1).2 ⟨x,hx,rfl⟩]
theorem resP_is{all:List AFlow'}{us:List AUnit'}(h:SrtA us):isP (resP all us)=true:=by
 refine decide_eq_true ⟨fun x hx=>?_,?_⟩
 ·obtain⟨u,hu,rfl⟩:=List.mem_map.1 hx
  simpa using(List.mem_filter.1 hu).2
 ·unfold resP
  rw[List.map_map]
  have:((fun x:AFlow'=>x.1) ∘ fun u=>((u,sumU all u,()):AFlow'))=id:=rfl
  rw[this,List.map_id]
  exact h.filter _
theorem getP_none{l:List AFlow'}{u:AUnit'}(h:∀x∈l,x.1≠u):getP l u=0:=by
 induction l with
 |nil=>rfl
 |cons x l ih=>rw[getP,if_neg (h x (by simp)),ih fun y hy=>h y (by simp[hy])]
theorem yfg:∀{l:List AFlow'},(l.map (·.1)).Nodup→∀u,getP l u=sumU l u
 |[],_,u=>rfl
 |x::l,h,u=>by
  obtain⟨h1,h2⟩:=List.nodup_cons.1 h
  rw[getP,zhy]
  by_cases hu:x.1=u
  ·rw[if_pos hu,if_pos hu,ygo fun y hy e=>h1 (List.mem_map.2 ⟨y,hy,e.trans hu.symm⟩)]
   show amt x=_; omega
  ·rw[if_neg hu,if_neg hu,yfg h2]; omega
theorem isP_nd{l:List AFlow'}(h:isP l=true):(l.map (·.1)).Nodup:=srt_nd (of_decide_eq_true h).2
theorem resP_get(all:List AFlow')(u:AUnit'):getP (resP all (zcz all)) u=sumU all u:=by
 by_cases h0:sumU all u=0
 ·rw[h0]
  refine getP_none fun x hx e=>?_
  obtain⟨v,hv,rfl⟩:=List.mem_map.1 hx
  have:=(List.mem_filter.1 hv).2
  simp only[decide_eq_true_eq]at this
  exact this (by rw[show v=u from e]; exact h0)
 ·rw[yfg (isP_nd (resP_is (zpt all)))]
  have hu:u∈zcz all:=by
   rw[ygi]
   by_cases hx:∃x∈all,x.1=u
   ·exact hx
   ·exact absurd (ygo fun x hx' e=>hx ⟨x,hx',e⟩) h0
  have key:∀us:List AUnit',us.Nodup→sumU (resP all us) u=if u∈us then sumU all u else 0:=by
   intro us
   induction us with
   |nil=>intro _; rfl
   |cons v us ih=>
    intro hn
    obtain⟨h1,h2⟩:=List.nodup_cons.1 hn
    have ih:=ih h2
    unfold resP at ih ⊢
    rw[List.filter_cons]
    by_cases hv:v=u
    ·subst hv
     rw[if_pos (by simpa using h0),List.map_cons,zhy,ih,if_neg h1,if_pos rfl,if_pos (by simp)]
     show sumU all v+0=_; omega
    ·have e:(if u∈v::us then sumU all u else 0)=if u∈us then sumU all u else 0:=by
      by_cases hm:u∈us
      ·rw[if_pos hm,if_pos (by simp[hm])]
      ·rw[if_neg hm,if_neg (by simp[hm,Ne.symm hv])]
     rw[e,←ih]
     by_cases hz:sumU all v=0
     ·rw[if_neg (by simp[hz])]
     ·rw[if_pos (by simp[hz]),List.map_cons,zhy,if_neg hv]; omega
  rw[key _ (srt_nd (zpt all)),if_pos hu]
end Go.Proofs.YtbpbkmngbhgpfaaGreat

namespace Go.Proofs.YtbpbkmngbhgpfaaGreat
open Go Go.Vc Go.RowKit
theorem payP_ok{l f:List AFlow'}(h:(payP l f).2.1=0):isP l=true∧(payP l f).1=resP (l++f) (zcz (l++f))∧∀u∈zcz (l++f),I64 (sumU (l++f) u):=by
 unfold payP at h ⊢
 by_cases hp:isP l=true
 ·rw[if_pos hp]at h ⊢
  obtain⟨h1,h2⟩:=yen _ _ _ h
  exact⟨hp,by rw[h1,List.nil_append]; rfl,h2⟩
 ·rw[if_neg hp]at h; simp at h
theorem resP_ok{all:List AFlow'}{us:List AUnit'}(h:∀u∈us,I64 (sumU all u)):okF (resP all us):=by
 intro x hx
 obtain⟨u,hu,rfl⟩:=List.mem_map.1 hx
 exact h u (List.mem_filter.1 hu).1
end Go.Proofs.YtbpbkmngbhgpfaaGreat

namespace Go.Proofs.YtbpbkmngbhgpfaaGreat
open Go Go.Vc Go.RowKit
end Go.Proofs.YtbpbkmngbhgpfaaGreat

namespace Go.Proofs.YtbpbkmngbhgpfaaGreat
open Go Go.Vc Go.RowKit
theorem zfz{β:Type}{a b r:Option β}(ha:a=r)(hb:b=r):stdW.both a b=r:=by rw[ha,hb]; exact both_w r
theorem nilq_w{β:Type}(e:Bool)(f:Bool→Option β):stdW.nilq e f=nilF e f:=rfl
end Go.Proofs.YtbpbkmngbhgpfaaGreat

namespace Go.Proofs.YtbpbkmngbhgpfaaGreat
open Go Go.Vc Go.RowKit
end Go.Proofs.YtbpbkmngbhgpfaaGreat

namespace Go.Proofs.YtbpbkmngbhgpfaaGreat
open Go Go.Vc Go.RowKit
abbrev ALot':=zad
theorem loop_P{X β:Type}{f:X→(X→Option β)→Option β}(Q:Option β→Prop)(μ:X→Nat)(R:X→Prop){z:X}(hz:R z)(hm:μ z<18446744073709551616)
  (h:∀z,R z→∀again:X→Option β,(∀z',R z'→μ z'<μ z→Q (again z'))→Q (f z again)):Q (stdW.loop f z):=by
 have key:∀n z,R z→μ z<n→Q (loopF n f z):=by
  intro n
  induction n with
  |zero=>intro z _ h; omega
  |succ n ih=>intro z hz hm; exact h z hz _ fun z' hz' hm'=>ih z' hz' (by omega)
 exact key FU z hz (by rw[FU_eq]; exact hm)
theorem zka{X β:Type}{Q:Option β→Prop}{k0:X→Option β}{f:(X→Option β)→Option β}(h:∀k,k=k0→Q (f k)):Q (stdW.join k0 f):=h k0 rfl
theorem yfh{p:List AFlow'}(h:okF p)(u:AUnit'):I64 (getP p u):=by
 induction p with
 |nil=>show I64 0; unfold I64; omega
 |cons x p ih=>
  rw[getP]
  split
  ·exact h x (by simp)
  ·exact ih fun y hy=>h y (by simp[hy])
def ltL(a b:ALot'):Prop:=a.1<b.1∨(a.1=b.1∧a.2.1<b.2.1)
instance (a b:ALot'):Decidable (ltL a b):=by unfold ltL; infer_instance
def rightL(x:ALot'):Prop:=(1≤x.1∧x.1≤4)∧(0≤x.2.1∧x.2.1≤255)∧0<x.2.2.1
instance (x:ALot'):Decidable (rightL x):=by unfold rightL; infer_instance
def LInv(l:List ALot'):Prop:=(∀x∈l,rightL x)∧l.Pairwise ltL∧l.length≤16
instance (l:List ALot'):Decidable (LInv l):=by unfold LInv; infer_instance
def isL(l:List ALot'):Bool:=decide (LInv l)
def HInv(l:List AHold'):Prop:=(∀h∈l,h.2.1≠[]∧LInv h.2.1)∧SrtA (l.map (·.1))
instance (l:List AHold'):Decidable (HInv l):=by unfold HInv SrtA; infer_instance
def isH(l:List AHold'):Bool:=decide (HInv l)
def okT(l:List ALot'):Prop:=l.length≤20∧∀x∈l,I64 x.2.2.1
def HS(l:List AHold'):Prop:=SrtA (l.map (·.1))∧∀h∈l,okT h.2.1
def lotsH:List AHold'→AUnit'→List ALot'
 |[],_=>[]
 |h::l,u=>if h.1=u then h.2.1 else lotsH l u
def zap(l:List AHold')(u:AUnit'):List AHold':=l.filter fun h=>decide (h.1≠u)
theorem yjm{l:List AHold'}(h:HS l)(u:AUnit'):HS (zap l u):=by
 refine⟨?_,fun x hx=>h.2 x (List.mem_filter.1 hx).1⟩
 have:List.Sublist ((zap l u).map (·.1)) (l.map (·.1)):=List.Sublist.map _ (List.filter_sublist)
 exact List.Pairwise.sublist this h.1
theorem ymk{l:List AHold'}(h:∀x∈l,okT x.2.1)(u:AUnit'):okT (lotsH l u):=by
 induction l with
 |nil=>exact⟨by simp[lotsH],fun x hx=>by cases hx⟩
 |cons x l ih=>
  rw[lotsH]
  split
  ·exact h x (by simp)
  ·exact ih fun y hy=>h y (by simp[hy])
theorem yhu(l:List AHold')(u x:AUnit'):lotsH (zap l u) x=if x=u then [] else lotsH l x:=by
 induction l with
 |nil=>simp[zap,lotsH]
 |cons h l ih=>
  unfold zap at ih ⊢
  rw[List.filter_cons]
  by_cases hu:h.1=u
  ·rw[if_neg (by simpa using hu),ih,lotsH]
   by_cases hx:x=u
   ·rw[if_pos hx,if_pos hx]
   ·rw[if_neg hx,if_neg hx,if_neg fun e=>hx (e.symm.trans hu)]
  ·rw[if_pos (by simpa using hu),lotsH,lotsH,ih]
   by_cases hx:h.1=x
   ·rw[if_pos hx,if_pos hx,if_neg fun e=>hu (hx.trans e)]
   ·rw[if_neg hx,if_neg hx]
def qtyL(k:Int)(l:List ALot'):Int:=sumBy (fun x=>if x.1=k then x.2.2.1 else 0) l
def qtyH(k:Int)(l:List AHold'):Int:=sumBy (fun h=>qtyL k h.2.1) l
theorem yjx{l:List AHold'}(hs:SrtA (l.map (·.1)))(u:AUnit')(k:Int):qtyH k (zap l u)+qtyL k (lotsH l u)=qtyH k l:=by
 induction l with
 |nil=>rfl
 |cons h l ih=>
  obtain⟨h1,h2⟩:=List.pairwise_cons.1 hs
  have ih:=ih h2
  unfold zap at ih ⊢
  rw[List.filter_cons,lotsH]
  by_cases hu:h.1=u
  ·have e:l.filter (fun h=>decide (h.1≠u))=l:=List.filter_eq_self.2 fun x hx=>decide_eq_true fun e=>by
    have:ltA h.1 x.1:=h1 _ (List.mem_map_of_mem hx)
    rw[hu,e]at this; exact ltA_irr u this
   rw[if_neg (by simpa using hu),if_pos hu,e]
   unfold qtyH
   rw[zbb]; omega
  ·rw[if_pos (by simpa using hu),if_neg hu]
   unfold qtyH at ih ⊢
   rw[zbb,zbb]; omega
def backR(p:List AFlow')(h:List AHold')(u:AUnit'):zam:=(u,(max 0 (getP p u),(lotsH h u,())))
abbrev PH:=List AFlow'×List AHold'×List zam
def giveS(z:PH)(u:AUnit'):PH:=
 if max 0 (getP z.1 u)=0∧lotsH z.2.1 u=[] then z
 else ((payP z.1 [(u,(-(max 0 (getP z.1 u)),()))]).1,zap z.2.1 u,z.2.2++[backR z.1 z.2.1 u])
theorem ztp{all:List AFlow'}:∀{us:List AUnit'} (acc:List AFlow'),(∀u∈us,I64 (sumU all u))→(payGo all us acc).2.1=0
 |[],_,_=>rfl
 |u::us,acc,h=>by
  unfold payGo
  rw[if_pos (h u (by simp))]
  split
  ·exact ztp _ fun x hx=>h x (by simp[hx])
  ·exact ztp _ fun x hx=>h x (by simp[hx])
theorem ymf{p:List AFlow'}(hp:isP p=true)(hf:okF p)(u:AUnit')(c:Int)(hc:c=max 0 (getP p u)):
  (payP p [(u,(-c,()))]).2.1=0∧isP (payP p [(u,(-c,()))]).1=true∧okF (payP p [(u,(-c,()))]).1∧
  (payP p [(u,(-c,()))]).1.length≤p.length+1∧
  (∀x,getP (payP p [(u,(-c,()))]).1 x=if x=u then getP p u - c else getP p x)∧
  sumBy amt (payP p [(u,(-c,()))]).1+c=sumBy amt p:=by
 have hs:∀x,sumU (p++[(u,(-c,()))]) x=if x=u then getP p u - c else getP p x:=fun x=>by
  rw[sumU_app,zhy,←yfg (isP_nd hp)]
  show getP p x+((if u=x then -c else 0)+0)=_
  by_cases h:x=u
  ·subst h; rw[if_pos rfl,if_pos rfl]; omega
  ·rw[if_neg (Ne.symm h),if_neg h]; omega
 have hI:∀x,I64 (sumU (p++[(u,(-c,()))]) x):=fun x=>by
  have h1:=yfh hf x
  have h2:=yfh hf u
  rw[hs x]
  split
  ·unfold I64 at *; omega
  ·exact h1
 have h0:(payP p [(u,(-c,()))]).2.1=0:=by
  unfold payP
  rw[if_pos hp]
  exact ztp _ fun x _=>hI x
 obtain⟨_,h8,h9⟩:=payP_ok h0
 refine⟨h0,by rw[h8]; exact resP_is (zpt _),by rw[h8]; exact resP_ok h9,payP_len _ _,fun x=>by rw[h8,resP_get,hs x],?_⟩
 rw[h8,resP_sum,zff,zbb,zde]
 show sumBy amt p+(-c+0)+c=sumBy amt p
 omega
structure GOk(p0:List AFlow')(h0:List AHold')(z:PH)(us:List AUnit'):Prop where
 p:isP z.1=true
 f:okF z.1
 h:HS z.2.1
 lp:z.1.length≤p0.length+us.length
 lh:z.2.1.length≤h0.length
 cash:sumBy amt z.1+sumBy (fun r:zam=>r.2.1) z.2.2=sumBy amt p0
 qty:∀k,qtyH k z.2.1+sumBy (fun r:zam=>qtyL k r.2.2.1) z.2.2=qtyH k h0
 get:∀x,x∉us→getP z.1 x=getP p0 x∧lotsH z.2.1 x=lotsH h0 x
 len:z.2.2.length≤us.length
 ret:∀r∈z.2.2,0≤r.2.1∧r.2.1≤9223372036854775807∧okT r.2.2.1
theorem give_step{p0:List AFlow'}{h0:List AHold'}{z:PH}{us:List AUnit'}(G:GOk p0 h0 z us)(u:AUnit'):GOk p0 h0 (giveS z u) (us++[u]):=by
 have hap:(us++[u]).length=us.length+1:=by simp
 have lotsI:okT (lotsH z.2.1 u):=ymk G.h.2 u
 unfold giveS
 split
 ·exact⟨G.p,G.f,G.h,by have:=G.lp; omega,G.lh,G.cash,G.qty,fun x hx=>G.get x fun h=>hx (by simp[h]),by have:=G.len; omega,G.ret⟩
 ·obtain⟨_,b2,b3,b4,b5,b6⟩:=ymf G.p G.f u _ rfl
  have hg:=yfh G.f u
  refine⟨b2,b3,yjm G.h u,by show (payP z.1 _).1.length≤_; have:=G.lp; omega,Nat.le_trans (List.length_filter_le _ _) G.lh,?_,fun k=>?_,fun x hx=>?_,by rw[List.length_append]; have:=G.len; simp; omega,fun r hr=>?_⟩
  ·show sumBy amt (payP z.1 _).1+sumBy (fun r:zam=>r.2.1) (z.2.2++[backR z.1 z.2.1 u])=_
   rw[zff,zbb,zde]
   have:=G.cash
   show sumBy amt (payP z.1 _).1+(sumBy _ z.2.2+(max 0 (getP z.1 u)+0))=_
   omega
  ·show qtyH k (zap z.2.1 u)+sumBy (fun r:zam=>qtyL k r.2.2.1) (z.2.2++[backR z.1 z.2.1 u])=_
   rw[zff,zbb,zde]
   have h1:=G.qty k
   have h2:=yjx G.h.1 u k
   show qtyH k (zap z.2.1 u)+(sumBy _ z.2.2+(qtyL k (lotsH z.2.1 u)+0))=_
   omega
  ·have hxu:x≠u:=fun e=>hx (by simp[e])
   have:=G.get x fun h=>hx (by simp[h])
   refine⟨?_,?_⟩
   ·rw[←this.1]
    show getP (payP z.1 _).1 x=_
    rw[b5,if_neg hxu]
   ·rw[←this.2]
    show lotsH (zap z.2.1 u) x=_
    rw[yhu,if_neg hxu]
  ·rcases List.mem_append.1 hr with hr|hr
   ·exact G.ret r hr
   ·simp only[List.mem_singleton]at hr
    subst hr
    refine⟨?_,?_,lotsI⟩
    ·show 0≤max 0 (getP z.1 u); omega
    ·show max 0 (getP z.1 u)≤_; unfold I64 at hg; omega
theorem give_start{p0:List AFlow'}{h0:List AHold'}(hp:isP p0=true)(hf:okF p0)(hh:HS h0):GOk p0 h0 (p0,h0,[]) []:=
 ⟨hp,hf,hh,by simp,Nat.le_refl _,by show sumBy amt p0+0=_; omega,fun k=>by show qtyH k h0+0=_; omega,fun x _=>⟨rfl,rfl⟩,Nat.le_refl _,fun r hr=>by cases hr⟩
end Go.Proofs.YtbpbkmngbhgpfaaGreat

namespace Go.Proofs.YtbpbkmngbhgpfaaGreat
open Go Go.Vc Go.RowKit
theorem yeh{s:List ALot'}(h:s.length≤1000000):zak s=some s:=by
 show zaz stdW s=_
 unfold zaz
 rw[nilq_w]
 refine nilF_eq ?_ fun he=>?_
 ·show stdW.cnd (notIf false false) _ _=_
  rw[cnd_n (by decide),room_w (by omega) (by omega)]; rfl
 ·have:s=[]:=by simpa using he
  subst this; rfl
theorem r_cloneI{s:List Int}(h:s.length≤1000000):zcf s=some s:=by
 show zbz stdW s=_
 unfold zbz
 rw[nilq_w]
 refine nilF_eq ?_ fun he=>?_
 ·show stdW.cnd (notIf false false) _ _=_
  rw[cnd_n (by decide),room_w (by omega) (by omega)]; rfl
 ·have:s=[]:=by simpa using he
  subst this; rfl
def okAs(l:List zaa):Prop:=(∀a∈l,a.2.2.2.1.length≤1000)∧l.length≤1000
theorem r_copiedA{l:List zaa}(h:okAs l):zgv l=some l:=by
 have hl:=h.2
 show zfu stdW l=_
 unfold zfu
 refine zgo (N:=l.length) (by omega) (fun i=>((i:Int),(l.take i,()))) _ rfl ?_ ?_
 ·intro again
  show stdW.cnd (decide ((l.length:Int)<(l.length:Int))) _ (some (l.take l.length))=_
  rw[zax,List.take_length]
 ·intro i hi again ha
  have h2:=h.1 _ (List.getElem_mem hi)
  have e:zoc (l[i].1,(l[i].2.1,(l[i].2.2.1,(l[i].2.2.2.1,()))))=some l[i]:=by
   show zmt stdW l[i]=_
   unfold zmt
   rw[zac (r_cloneI (by omega))]
  show stdW.cnd (decide ((i:Int)<(l.length:Int))) (stdW.idx l (i:Int) fun x3=>stdW.call (zoc (x3.1,(x3.2.1,(x3.2.2.1,(x3.2.2.2.1,()))))) fun v4=>stdW.room ((l.take i).length+1) 48 (again (IntKind.i64.wrap ((i:Int)+1),(l.take i++[(v4.1,(v4.2.1,(v4.2.2.1,(v4.2.2.2.1,()))))],())))) _=_
  have:(l.take i).length≤1000:=by rw[List.length_take]; omega
  rw[cnd_lt hi,idx_w hi,zac e,room_w (by omega) (by omega),i64_s i (by omega)]
  rw[List.take_succ_eq_append_getElem hi]at ha
  exact ha
def isM(id:Int)(a:zaa):Bool:=decide (a.2.1=id)
theorem r_of1(a:zaa)(id:Int):zmu (a.1,(a.2.1,(a.2.2.1,(a.2.2.2.1,())))) id=some (!(isM id a),(id,())):=by
 show some ((a.2.1 != id),(id,()))=_
 unfold isM
 by_cases h:a.2.1=id<;>simp[h]
theorem r_ixM{l:List zaa}{id:Int}(hl:l.length≤1000000):
  (zah l id=some (-1,(id,()))∧∀a∈l,isM id a=true)∨
  ∃i:Nat,i<l.length∧zah l id=some ((i:Int),(id,()))∧(∀a∈l.take i,isM id a=true)∧∀h:i<l.length,isM id l[i]=false:=by
 show (zaf stdW l id=_∧_)∨∃i:Nat,_∧zaf stdW l id=_∧_
 unfold zaf
 refine loop_P (fun o=>(o=some ((-1:Int),(id,()))∧∀a∈l,isM id a=true)∨∃i:Nat,i<l.length∧o=some ((i:Int),(id,()))∧(∀a∈l.take i,isM id a=true)∧∀h:i<l.length,isM id l[i]=false) (fun z=>l.length+1 - z.1.toNat)
  (fun z=>∃j:Nat,j≤l.length∧z=((j:Int),(id,()))∧∀a∈l.take j,isM id a=true) ⟨0,Nat.zero_le _,rfl,by simp⟩ (by show _ - (0:Int).toNat<_; omega) ?_
 rintro _ ⟨j,hj,rfl,hp⟩ again ha
 show (stdW.cnd (decide ((j:Int)<(l.length:Int))) _ _=_∧_)∨∃i:Nat,_∧stdW.cnd (decide ((j:Int)<(l.length:Int))) _ _=_∧_
 by_cases h:j<l.length
 ·rw[cnd_lt h]
  show (stdW.idx l (j:Int) _=_∧_)∨∃i:Nat,_∧stdW.idx l (j:Int) _=_∧_
  rw[idx_w h,zac (r_of1 _ _)]
  by_cases hv:isM id l[j]=true
  ·rw[hv,cnd_n (by rfl)]
   show (again (IntKind.i64.wrap ((j:Int)+1),(id,()))=_∧_)∨∃i:Nat,_∧again (IntKind.i64.wrap ((j:Int)+1),(id,()))=_∧_
   rw[i64_s j (by omega)]
   refine ha _ ⟨j+1,by omega,rfl,fun a hm=>?_⟩ (by show _ - ((j+1:Nat):Int).toNat<_ - ((j:Nat):Int).toNat; omega)
   rw[List.take_succ_eq_append_getElem h]at hm
   rcases List.mem_append.1 hm with hm|hm
   ·exact hp a hm
   ·simp only[List.mem_singleton]at hm; subst hm; exact hv
  ·have hv:isM id l[j]=false:=by simpa using hv
   rw[hv,cnd_y (by rfl)]
   exact .inr ⟨j,h,rfl,hp,fun _=>hv⟩
 ·have:j=l.length:=by omega
  subst this
  rw[zax]
  rw[List.take_length]at hp
  exact .inl ⟨rfl,hp⟩
theorem r_delM{l:List zaa}{id:Int}(hl:l.length≤1000000):zal id l=some (l.filter (isM id),(id,())):=by
 show zaj stdW id l=_
 unfold zaj
 rcases r_ixM (id:=id) hl with ⟨e,hall⟩|⟨i0,hi0,e,hp,hn⟩
 ·rw[zac e,cnd_y (by rfl),List.filter_eq_self.2 hall]
 ·rw[zac e,cnd_n (show ((i0:Int) == -1)=false by simp)]
  have hi0':i0+1≤l.length:=hi0
  have hf0:(l.take (i0+1)).filter (isM id)=l.take i0:=by
   rw[List.take_succ_eq_append_getElem hi0,List.filter_append,List.filter_eq_self.2 hp,List.filter_cons,hn hi0]; simp
  have hz:((i0:Int),((IntKind.i64.wrap ((i0:Int)+1)),(id,(l,()))))=(((i0:Nat):Int),(((i0+1:Nat):Int),(id,(l,())))):=by rw[i64_s i0 (by omega)]
  show stdW.loop _ ((i0:Int),((IntKind.i64.wrap ((i0:Int)+1)),(id,(l,()))))=_
  rw[hz]
  refine(zga (fun z=>l.length+1 - z.2.1.toNat) (fun z=>∃(i j:Nat) (s:List zaa),i<j∧j≤l.length∧s.length=l.length∧s.take i=(l.take j).filter (isM id)∧s.drop j=l.drop j∧z=((i:Int),((j:Int),(id,(s,()))))) (fun _=>some (l.filter (isM id),(id,()))) ⟨i0,i0+1,l,by omega,hi0',rfl,hf0.symm,rfl,rfl⟩ (by show l.length+1 - (((i0+1:Nat):Int)).toNat<_; omega) ?_)
  rintro _ ⟨i,j,s,hij,hj,hs,ht,hd,rfl⟩ again ha
  show stdW.cnd (decide ((j:Int)<(s.length:Int))) _ _=_
  by_cases h:j<s.length
  ·have hjl:j<l.length:=by omega
   have hx:s[j]=l[j]:=by
    have h1:(s.drop j)[0]?=(l.drop j)[0]?:=by rw[hd]
    rw[List.getElem?_drop,List.getElem?_drop,Nat.add_zero,List.getElem?_eq_getElem h,List.getElem?_eq_getElem hjl]at h1
    exact Option.some.inj h1
   rw[cnd_lt h]
   refine join_g fun k5 hk5=>?_
   have kk:∀(i':Nat) (s':List zaa),i'<j+1→s'.length=l.length→s'.take i'=(l.take (j+1)).filter (isM id)→s'.drop (j+1)=l.drop (j+1)→k5 ((i':Int),(id,(s',())))=some (l.filter (isM id),(id,())):=by
    intro i' s' g1 g2 g3 g4
    subst hk5
    show again ((i':Int),(IntKind.i64.wrap ((j:Int)+1),(id,(s',()))))=_
    rw[i64_s j (by omega)]
    exact ha _ ⟨i',j+1,s',by omega,by omega,g2,g3,g4,rfl⟩ (by show l.length+1 - (((j+1:Nat):Int)).toNat<l.length+1 - (((j:Nat):Int)).toNat; omega)
   clear hk5 ha
   have hd1:s.drop (j+1)=l.drop (j+1):=by
    have:=congrArg (List.drop 1) hd
    rwa [List.drop_drop,List.drop_drop]at this
   have il:i<s.length:=by omega
   show stdW.idx s (j:Int) _=_
   rw[idx_w h]
   show stdW.nth s (Int.toNat (j:Int)) _=_
   rw[nth_w h,hx,zac (r_of1 _ _)]
   by_cases hv:isM id l[j]=true
   ·rw[hv,cnd_y (by rfl)]
    show stdW.idx s (i:Int) _=_
    rw[idx_w il]
    show stdW.nth s (Int.toNat (i:Int)) _=_
    rw[nth_w il]
    show k5 (IntKind.i64.wrap ((i:Int)+1),(id,(s.set (Int.toNat (i:Int)) l[j],())))=_
    rw[Int.toNat_natCast,i64_s i (by omega)]
    refine kk (i+1) (s.set i l[j]) (by omega) (by rw[List.length_set]; exact hs) ?_ ?_
    ·rw[List.take_succ_eq_append_getElem hjl,List.filter_append,←ht,List.filter_cons,hv,List.filter_nil,if_pos rfl]
     have h1:i<(s.set i l[j]).length:=by rw[List.length_set]; exact il
     rw[List.take_succ_eq_append_getElem h1,List.getElem_set_self]
     congr 1
     rw[List.take_set_of_le (Nat.le_refl _)]
    ·rw[List.drop_set_of_lt (by omega)]; exact hd1
   ·have hv:isM id l[j]=false:=by simpa using hv
    rw[hv,cnd_n (by rfl)]
    refine kk i s (by omega) hs ?_ hd1
    rw[List.take_succ_eq_append_getElem hjl,List.filter_append,List.filter_cons,hv,ht]; simp
  ·have:j=s.length:=by omega
   subst this
   have hll:s.length=l.length:=hs
   rw[zax]
   show stdW.bnd (i:Int) s.length _=_
   rw[bnd_w (by omega) (by omega),Int.toNat_natCast]
   show stdW.bnd (i:Int) s.length _=_
   rw[bnd_w (by omega) (by omega),Int.toNat_natCast]
   show stdW.bnd (i:Int) (s.take i++List.replicate (s.length - i) (0,(0,(0,([],()))))).length _=_
   have hlt:(s.take i).length=i:=by rw[List.length_take]; omega
   rw[bnd_w (by omega) (by rw[List.length_append,hlt]; omega),Int.toNat_natCast]
   show some ((s.take i++List.replicate (s.length - i) (0,(0,(0,([],()))))).take i,(id,()))=_
   rw[List.take_append_of_le_length (by omega),List.take_take,Nat.min_self,ht,hll,List.take_length]
theorem r_aof{l:List zaa}{id:Int}(h:okAs l):zul l id=some (l.filter (isM id)):=by
 show zsn stdW l id=_
 unfold zsn
 have hl:=h.2
 rw[zac (r_copiedA h),zac (r_delM (by omega))]
def unitsA(a:zaa):List AUnit':=if a.2.2.1=1 then [(a.1,(0,()))] else a.2.2.2.1.map fun c=>(a.1,(c,()))
theorem r_aunits{a:zaa}(h:a.2.2.2.1.length≤1000):ziy (a.1,(a.2.1,(a.2.2.1,(a.2.2.2.1,()))))=some (unitsA a):=by
 show zgw stdW a=_
 unfold zgw unitsA
 by_cases hk:a.2.2.1=1
 ·rw[cnd_y (by simpa using hk),if_pos hk]
 ·rw[cnd_n (by simpa using hk),if_neg hk]
  refine zgo (N:=a.2.2.2.1.length) (by omega) (fun i=>((i:Int),((a.2.2.2.1.take i).map (fun c=>((a.1,(c,())):AUnit')),()))) _ rfl ?_ ?_
  ·intro again
   show stdW.cnd (decide ((a.2.2.2.1.length:Int)<(a.2.2.2.1.length:Int))) _ (some _)=_
   rw[zax,List.take_length]
  ·intro i hi again ha
   show stdW.cnd (decide ((i:Int)<(a.2.2.2.1.length:Int))) (stdW.idx a.2.2.2.1 (i:Int) fun x3=>stdW.room (((a.2.2.2.1.take i).map (fun c=>((a.1,(c,())):AUnit'))).length+1) 16 (again (IntKind.i64.wrap ((i:Int)+1),((a.2.2.2.1.take i).map (fun c=>((a.1,(c,())):AUnit'))++[(a.1,(x3,()))],())))) _=_
   have:((a.2.2.2.1.take i).map (fun c=>((a.1,(c,())):AUnit'))).length≤1000:=by rw[List.length_map,List.length_take]; omega
   rw[cnd_lt hi,idx_w hi,room_w (by omega) (by omega),i64_s i (by omega)]
   rw[List.take_succ_eq_append_getElem hi,List.map_append]at ha
   exact ha
theorem r_units15{a:zaa}(h:a.2.2.2.1.length≤1000):zoq (a.1,(a.2.1,(a.2.2.1,(a.2.2.2.1,()))))=some (unitsA a):=by
 show zhe stdW a=_
 unfold zhe unitsA
 by_cases hk:a.2.2.1=1
 ·rw[cnd_y (by simpa using hk),if_pos hk,room_w (by simp) (by simp)]
 ·rw[cnd_n (by simpa using hk),if_neg hk]
  refine zgo (N:=a.2.2.2.1.length) (by omega) (fun i=>((i:Int),((a.2.2.2.1.take i).map (fun c=>((a.1,(c,())):AUnit')),()))) _ rfl ?_ ?_
  ·intro again
   show stdW.cnd (decide ((a.2.2.2.1.length:Int)<(a.2.2.2.1.length:Int))) _ (some _)=_
   rw[zax,List.take_length]
  ·intro i hi again ha
   show stdW.cnd (decide ((i:Int)<(a.2.2.2.1.length:Int))) (stdW.idx a.2.2.2.1 (i:Int) fun x3=>stdW.room (((a.2.2.2.1.take i).map (fun c=>((a.1,(c,())):AUnit'))).length+1) 16 (again (IntKind.i64.wrap ((i:Int)+1),((a.2.2.2.1.take i).map (fun c=>((a.1,(c,())):AUnit'))++[(a.1,(x3,()))],())))) _=_
   have:((a.2.2.2.1.take i).map (fun c=>((a.1,(c,())):AUnit'))).length≤1000:=by rw[List.length_map,List.length_take]; omega
   rw[cnd_lt hi,idx_w hi,room_w (by omega) (by omega),i64_s i (by omega)]
   rw[List.take_succ_eq_append_getElem hi,List.map_append]at ha
   exact ha
theorem ybp{a:zaa}:∀u∈unitsA a,u.1=a.1:=by
 intro u hu
 unfold unitsA at hu
 split at hu
 ·simp only[List.mem_singleton]at hu; rw[hu]
 ·obtain⟨c,_,rfl⟩:=List.mem_map.1 hu; rfl
theorem unitsA_len{a:zaa}(h:a.2.2.2.1.length≤1000):(unitsA a).length≤1000:=by
 unfold unitsA
 split
 ·simp
 ·rw[List.length_map]; exact h
end Go.Proofs.YtbpbkmngbhgpfaaGreat

namespace Go.Proofs.YtbpbkmngbhgpfaaGreat
open Go Go.Vc Go.RowKit
theorem r_cmp3(x y:Int):∃r,zey x y=some r:=by
 show ∃r,zft stdW x y=some r
 unfold zft
 have e:∀x:Int,zmn x=some false:=fun x=>by
  show some (x != x)=_
  simp
 rw[zac (e x),zac (e y),cnd_n rfl,cnd_n rfl]
 by_cases h:x<y
 ·rw[cnd_y (decide_eq_true h)]; exact⟨_,rfl⟩
 ·rw[cnd_n (decide_eq_false h)]
  by_cases h2:y<x
  ·rw[cnd_y (decide_eq_true h2)]; exact⟨_,rfl⟩
  ·rw[cnd_n (decide_eq_false h2)]; exact⟨_,rfl⟩
theorem r_or(vals:List Int)(hl:vals.length≤1000000):∃r,cmp_Or vals=some r:=by
 show ∃r,zzz stdW vals=some r
 unfold zzz
 refine loop_P (fun o=>∃r,o=some r) (fun z=>vals.length+1 - z.1.toNat) (fun z=>∃j:Nat,j≤vals.length∧z=((j:Int),())) ⟨0,Nat.zero_le _,rfl⟩ (by show _ - (0:Int).toNat<_; omega) ?_
 rintro _ ⟨j,hj,rfl⟩ again ha
 show ∃r,stdW.cnd (decide ((j:Int)<(vals.length:Int))) _ _=some r
 by_cases h:j<vals.length
 ·rw[cnd_lt h]
  show ∃r,stdW.idx vals (j:Int) _=some r
  rw[idx_w h]
  by_cases h0:vals[j]=0
  ·rw[cnd_n (by simp[h0])]
   show ∃r,again (IntKind.i64.wrap ((j:Int)+1),())=some r
   rw[i64_s j (by omega)]
   exact ha _ ⟨j+1,by omega,rfl⟩ (by show _ - ((j+1:Nat):Int).toNat<_ - ((j:Nat):Int).toNat; omega)
  ·rw[cnd_y (by simp[h0])]; exact⟨_,rfl⟩
 ·have:j=vals.length:=by omega
  subst this
  rw[zax]; exact⟨_,rfl⟩
theorem r_lorder(a b:ALot'):∃r,zge a b=some r:=by
 show ∃r,zgn stdW a b=some r
 unfold zgn
 obtain⟨r1,e1⟩:=r_cmp3 a.1 b.1
 obtain⟨r2,e2⟩:=r_cmp3 a.2.1 b.2.1
 obtain⟨r3,e3⟩:=r_or (r1::(r2::[])) (by simp)
 rw[zac e1,zac e2,zac e3]; exact⟨_,rfl⟩
theorem r_lright(x:ALot'):∃r,zio x=some r:=by
 show ∃r,zgm stdW x=some r
 unfold zgm
 by_cases h1:1≤x.1
 ·rw[cnd_y (decide_eq_true h1)]
  by_cases h2:x.1≤4
  ·rw[cnd_y (decide_eq_true h2)]
   by_cases h3:0≤x.2.1
   ·rw[cnd_y (decide_eq_true h3)]
    by_cases h4:x.2.1≤255
    ·rw[cnd_y (decide_eq_true h4)]; exact⟨_,rfl⟩
    ·rw[cnd_n (decide_eq_false h4)]; exact⟨_,rfl⟩
   ·rw[cnd_n (decide_eq_false h3)]; exact⟨_,rfl⟩
  ·rw[cnd_n (decide_eq_false h2)]; exact⟨_,rfl⟩
 ·rw[cnd_n (decide_eq_false h1)]; exact⟨_,rfl⟩
theorem r_lis{l:List ALot'}(hl:l.length≤1000000):∃b,zma l=some b:=by
 show ∃b,zjw stdW l=some b
 unfold zjw
 refine loop_P (fun o=>∃b,o=some b) (fun z=>l.length+1 - z.1.toNat) (fun z=>∃j:Nat,j≤l.length∧z=((j:Int),())) ⟨0,Nat.zero_le _,rfl⟩ (by show _ - (0:Int).toNat<_; omega) ?_
 rintro _ ⟨j,hj,rfl⟩ again ha
 show ∃b,stdW.cnd (decide ((j:Int)<(l.length:Int))) _ _=some b
 by_cases h:j<l.length
 ·rw[cnd_lt h]
  show ∃b,stdW.idx l (j:Int) _=some b
  rw[idx_w h]
  refine zka (Q:=fun o=>∃b,o=some b) fun k5 hk=>?_
  have kt:k5 (true,())=some false:=by subst hk; rfl
  have kf:∃b,k5 (false,())=some b:=by
   subst hk
   show ∃b,stdW.cnd false (some false) (again (IntKind.i64.wrap ((j:Int)+1),()))=some b
   rw[cnd_n rfl,i64_s j (by omega)]
   exact ha _ ⟨j+1,by omega,rfl⟩ (by show _ - ((j+1:Nat):Int).toNat<_ - ((j:Nat):Int).toNat; omega)
  clear hk ha
  obtain⟨b6,e6⟩:=r_lright l[j]
  rw[zac e6]
  have kb:∀c,∃b,k5 (c,())=some b:=fun c=>by cases c; exact kf; exact⟨_,kt⟩
  cases b6 with
  |false=>rw[cnd_y (by rfl)]; exact⟨false,zfz kt kt⟩
  |true=>
   rw[cnd_n (by rfl)]
   show ∃b,stdW.cnd (decide (0<(j:Int))) (stdW.idx l (IntKind.i64.wrap ((j:Int) - 1)) _) _=some b
   by_cases h0:0<j
   ·rw[cnd_y (decide_eq_true (by omega)),znu j h0 (by rw[zbj]; omega),idx_w (by omega)]
    obtain⟨r,e⟩:=r_lorder (l[j - 1]'(by omega)) l[j]
    rw[zac e]
    obtain⟨b,hb⟩:=kb (decide (0≤r))
    exact⟨b,zfz hb hb⟩
   ·rw[cnd_n (decide_eq_false (by omega))]
    obtain⟨b,hb⟩:=kf
    exact⟨b,zfz hb hb⟩
 ·have:j=l.length:=by omega
  subst this
  rw[zax]; exact⟨_,rfl⟩
theorem srt_next{α:Type}{f:α→AUnit'}{l:List α}{i:Nat}(hi:i<l.length)(inv:SrtA ((l.take i).map f))(h2:∀h0:0<i,ltA (f (l[i - 1]'(by omega))) (f l[i])):SrtA ((l.take (i+1)).map f):=by
 rw[List.take_succ_eq_append_getElem hi,List.map_append]
 refine List.pairwise_append.2 ⟨inv,by simp,fun a ha b hb=>?_⟩
 simp only[List.map_cons,List.map_nil,List.mem_singleton]at hb
 subst hb
 obtain⟨k,hk,hka⟩:=List.mem_iff_getElem.1 ha
 have hk':k<i:=by simp at hk; omega
 have h3:=h2 (by omega)
 by_cases hki:k=i - 1
 ·subst hki; rw[←hka]; simpa using h3
 ·have h4:=List.pairwise_iff_getElem.1 inv k (i - 1) (by simpa using hk) (by simp; omega) (by omega)
  rw[hka]at h4
  refine ltA_tr h4 ?_
  simpa using h3
def okHs(l:List AHold'):Prop:=(∀h∈l,okT h.2.1)∧l.length≤1000
theorem r_his{l:List AHold'}(h:okHs l):∃b,zox l=some b∧(b=true→SrtA (l.map (·.1))):=by
 have hl:=h.2
 show ∃b,zrm stdW l=some b∧_
 unfold zrm
 refine loop_P (fun o=>∃b,o=some b∧(b=true→SrtA (l.map (·.1)))) (fun z=>l.length+1 - z.1.toNat) (fun z=>∃j:Nat,j≤l.length∧z=((j:Int),())∧SrtA ((l.take j).map (·.1))) ⟨0,Nat.zero_le _,rfl,List.Pairwise.nil⟩ (by show _ - (0:Int).toNat<_; omega) ?_
 rintro _ ⟨j,hj,rfl,hs⟩ again ha
 show ∃b,stdW.cnd (decide ((j:Int)<(l.length:Int))) _ _=some b∧_
 by_cases hjl:j<l.length
 ·rw[cnd_lt hjl]
  show ∃b,stdW.idx l (j:Int) _=some b∧_
  rw[idx_w hjl]
  refine zka (Q:=fun o=>∃b,o=some b∧(b=true→SrtA (l.map (·.1)))) fun k5 hk=>?_
  have kt:k5 (true,())=some false:=by subst hk; rfl
  have kf:(∀h0:0<j,ltA (l[j - 1]'(by omega)).1 l[j].1)→∃b,k5 (false,())=some b∧(b=true→SrtA (l.map (·.1))):=by
   intro h2
   subst hk
   show ∃b,stdW.cnd false (some false) (again (IntKind.i64.wrap ((j:Int)+1),()))=some b∧_
   rw[cnd_n rfl,i64_s j (by omega)]
   exact ha _ ⟨j+1,by omega,rfl,srt_next hjl hs h2⟩ (by show _ - ((j+1:Nat):Int).toNat<_ - ((j:Nat):Int).toNat; omega)
  clear hk ha
  have bad:∃b,stdW.both (k5 (true,())) (k5 (true,()))=some b∧(b=true→SrtA (l.map (·.1))):=⟨false,zfz kt kt,fun h=>by cases h⟩
  show ∃b,stdW.cnd ((l[j].2.1.length:Int)==0) _ _=some b∧_
  by_cases h0:(l[j].2.1.length:Int)=0
  ·rw[cnd_y (by simpa using h0)]; exact bad
  ·rw[cnd_n (by simpa using h0)]
   obtain⟨b6,e6⟩:=r_lis (l:=l[j].2.1) (by have:=(h.1 _ (List.getElem_mem hjl)).1; omega)
   rw[zac e6]
   cases b6 with
   |false=>rw[cnd_y (by rfl)]; exact bad
   |true=>
    rw[cnd_n (by rfl)]
    show ∃b,stdW.cnd (decide (0<(j:Int))) (stdW.idx l (IntKind.i64.wrap ((j:Int) - 1)) _) _=some b∧_
    by_cases hj0:0<j
    ·rw[cnd_y (decide_eq_true (by omega)),znu j hj0 (by rw[zbj]; omega),idx_w (by omega),zac (r_lessA _ _)]
     by_cases hlt:ltA (l[j - 1]'(by omega)).1 l[j].1
     ·obtain⟨b,hb,hb2⟩:=kf fun _=>hlt
      rw[decide_eq_true hlt]
      exact⟨b,zfz hb hb,hb2⟩
     ·rw[decide_eq_false hlt]
      exact bad
    ·obtain⟨b,hb,hb2⟩:=kf fun h=>absurd h hj0
     rw[cnd_n (decide_eq_false (by omega))]
     exact⟨b,zfz hb hb,hb2⟩
 ·have:j=l.length:=by omega
  subst this
  rw[List.take_length]at hs
  rw[zax]; exact⟨true,rfl,fun _=>hs⟩
theorem r_hlots{l:List AHold'}{u:AUnit'}(h:okHs l):zir l u=some (lotsH l u):=by
 have hl:=h.2
 show ziq stdW l u=_
 unfold ziq
 refine zfp (l:=l) (by omega) (s0:=()) (fun _ _=>True) (fun l' _=>some (lotsH l' u)) trivial ?_ ?_
 ·rintro _ again _
  rw[zax]; rfl
 ·rintro i hi _ _ again ha
  have h2:=(h.1 _ (List.getElem_mem hi)).1
  rw[cnd_lt hi,idx_w hi,nif_f,eqA]
  show _=some (lotsH (l[i]::l.drop (i+1)) u)
  rw[lotsH]
  by_cases h:l[i].1=u
  ·rw[cnd_y (decide_eq_true h),if_pos h,zac (yeh (by omega))]
  ·rw[cnd_n (decide_eq_false h),if_neg h]
   show again (IntKind.i64.wrap ((i:Int)+1),())=_
   rw[i64_s i (by omega)]
   exact ha _ trivial
theorem yma{l:List AHold'}{u:AUnit'}(hl:l.length≤1000):zav l u=some (lotsH l u):=by
 show zjk stdW l u=_
 unfold zjk
 refine zfp (l:=l) (by omega) (s0:=()) (fun _ _=>True) (fun l' _=>some (lotsH l' u)) trivial ?_ ?_
 ·rintro _ again _
  rw[zax]; rfl
 ·rintro i hi _ _ again ha
  rw[cnd_lt hi,idx_w hi,nif_f,eqA]
  show _=some (lotsH (l[i]::l.drop (i+1)) u)
  rw[lotsH]
  by_cases h:l[i].1=u
  ·rw[cnd_y (decide_eq_true h),if_pos h,idx_w hi]
  ·rw[cnd_n (decide_eq_false h),if_neg h]
   show again (IntKind.i64.wrap ((i:Int)+1),())=_
   rw[i64_s i (by omega)]
   exact ha _ trivial
theorem r_hset{l:List AHold'}{u:AUnit'}(h:okHs l):zrk l u []=some (zap l u):=by
 have hl:=h.2
 show zmg stdW l u []=_
 unfold zmg
 have one:(stdW.call (zak []) fun v1=>
 stdW.loop (fun (z2:Bool×Int×Int×Int×List (Int×Int×Int×Unit)×List ((Int×Int×Unit)×List (Int×Int×Int×Unit)×Unit)×Unit) again3=>
  stdW.cnd (decide (z2.2.1<(l.length:Int))) (
  stdW.join (fun (z4:Bool×List ((Int×Int×Unit)×List (Int×Int×Int×Unit)×Unit)×Unit)=>(again3 (z4.1,((IntKind.i64.wrap (z2.2.1+1)),(z2.2.2.1,(z2.2.2.2.1,(z2.2.2.2.2.1,(z4.2.1,()))))))))
   fun k5=>stdW.idx l z2.2.1 fun x6=>
   stdW.join (fun (z7:Bool×List ((Int×Int×Unit)×List (Int×Int×Int×Unit)×Unit)×Unit)=>
   stdW.cnd (Go.Vc.notIf true ((x6.1.1==u.1)&&(x6.1.2.1==u.2.1))) (stdW.call (zak x6.2.1) fun v8=>stdW.room (z7.2.1.length+((x6.1,(v8,()))::[]).length) 40 ((k5 (z7.1,((z7.2.1++((x6.1,(v8,()))::[])),())))))
    (
    stdW.cnd (!z7.1) (stdW.room (z7.2.1.length+(((z2.2.2.1,(z2.2.2.2.1,())),(z2.2.2.2.2.1,()))::[]).length) 40 ((k5 (true,((z7.2.1++(((z2.2.2.1,(z2.2.2.2.1,())),(z2.2.2.2.2.1,()))::[])),())))))
    ((k5 (z7.1,(z7.2.1,()))))))
   fun k9=>
   stdW.join (fun (z10:Bool×List ((Int×Int×Unit)×List (Int×Int×Int×Unit)×Unit)×Unit)=>
    stdW.cnd z10.1 (stdW.room (z10.2.1.length+(((z2.2.2.1,(z2.2.2.2.1,())),(z2.2.2.2.2.1,()))::[]).length) 40 ((k9 (true,((z10.2.1++(((z2.2.2.1,(z2.2.2.2.1,())),(z2.2.2.2.2.1,()))::[])),())))))
    ((k9 (z2.1,(z10.2.1,())))))
    fun k11=>
    stdW.cnd (!z2.1) (stdW.call (zea u x6.1) fun v12=>(k11 (v12,(z2.2.2.2.2.2.1,()))))
    ((k11 (false,(z2.2.2.2.2.2.1,())))))
  (
  stdW.join (fun (z13:List ((Int×Int×Unit)×List (Int×Int×Int×Unit)×Unit)×Unit)=>some z13.1)
   fun k14=>
   stdW.cnd (!z2.1) (stdW.room (z2.2.2.2.2.2.1.length+(((z2.2.2.1,(z2.2.2.2.1,())),(z2.2.2.2.2.1,()))::[]).length) 40 ((k14 ((z2.2.2.2.2.2.1++(((z2.2.2.1,(z2.2.2.2.1,())),(z2.2.2.2.2.1,()))::[])),()))))
   ((k14 (z2.2.2.2.2.2.1,())))))
  (((([]:List ALot').length:Int)==0),(0,(u.1,(u.2.1,(v1,([],())))))))=some (zap l u):=by
  rw[zac (yeh (s:=[]) (by simp))]
  refine zgo (N:=l.length) (by omega) (fun i=>(true,((i:Int),(u.1,(u.2.1,([],(zap (l.take i) u,()))))))) _ rfl ?_ ?_
  ·intro again
   show stdW.cnd (decide ((l.length:Int)<(l.length:Int))) _ _=_
   rw[zax]
   refine join_g fun k14 hk=>?_
   have kk:∀x,k14 (x,())=some x:=by intro x; subst hk; rfl
   clear hk
   show stdW.cnd (!true) _ (k14 (zap (l.take l.length) u,()))=_
   rw[cnd_n (by rfl),kk,List.take_length]
  ·intro i hi again ha
   have h2:=(h.1 _ (List.getElem_mem hi)).1
   have hwl:(zap (l.take i) u).length≤1000:=Nat.le_trans (List.length_filter_le _ _) (by rw[List.length_take]; omega)
   show stdW.cnd (decide ((i:Int)<(l.length:Int))) _ _=_
   rw[cnd_lt hi]
   refine join_g fun k5 hk5=>?_
   have k5':k5 (true,(zap (l.take (i+1)) u,()))=some (zap l u):=by
    subst hk5
    show again (true,(IntKind.i64.wrap ((i:Int)+1),_))=_
    rw[i64_s i (by omega)]; exact ha
   clear hk5 ha
   show stdW.idx l (i:Int) _=_
   rw[idx_w hi]
   have es:zap (l.take (i+1)) u=if l[i].1=u then zap (l.take i) u else zap (l.take i) u++[l[i]]:=by
    unfold zap
    rw[List.take_succ_eq_append_getElem hi,List.filter_append,List.filter_cons,List.filter_nil]
    by_cases hu:l[i].1=u
    ·rw[if_pos hu,if_neg (by simpa using hu),List.append_nil]
    ·rw[if_neg hu,if_pos (by simpa using hu)]
   rw[es]at k5'
   refine join_g fun k9 hk9=>?_
   have k9':k9 (true,(zap (l.take i) u,()))=some (zap l u):=by
    subst hk9
    show stdW.cnd (Go.Vc.notIf true ((l[i].1.1==u.1)&&(l[i].1.2.1==u.2.1))) _ _=_
    rw[nif_t,eqA]
    by_cases hu:l[i].1=u
    ·rw[if_pos hu]at k5'
     rw[cnd_n (by simp[hu])]
     show stdW.cnd (!true) _ (k5 (true,(zap (l.take i) u,())))=_
     rw[cnd_n (by rfl)]; exact k5'
    ·rw[if_neg hu]at k5'
     rw[cnd_y (by simp[hu]),zac (yeh (by omega))]
     show stdW.room ((zap (l.take i) u).length+1) 40 (k5 (true,(zap (l.take i) u++[l[i]],())))=_
     rw[room_w (by omega) (by omega)]; exact k5'
   clear hk9
   refine join_g fun k11 hk11=>?_
   have k11':k11 (false,(zap (l.take i) u,()))=some (zap l u):=by
    subst hk11
    show stdW.cnd false _ (k9 (true,(zap (l.take i) u,())))=_
    rw[cnd_n rfl]; exact k9'
   clear hk11
   show stdW.cnd (!true) _ (k11 (false,(zap (l.take i) u,())))=_
   rw[cnd_n (by rfl)]; exact k11'
 exact zfz one one
theorem r_hSet{l:List AHold'}{u:AUnit'}(h:okHs l):∃b,zhm l u []=some (if b=true then (zap l u,(0,())) else ([],(3,()))):=by
 show ∃b,zmh stdW l u []=_
 unfold zmh
 obtain⟨b1,e1,_⟩:=r_his h
 have e2:zma []=some true:=by
  show zjw stdW []=_
  unfold zjw
  refine zfp (l:=([]:List ALot')) (by simp) (s0:=()) (fun _ _=>True) (fun _ _=>some true) trivial ?_ ?_
  ·rintro _ again _
   rw[zax]; rfl
  ·intro i hi; simp at hi
 refine⟨b1,?_⟩
 refine join_g fun k hk=>?_
 have kk:k (0,())=some (if b1=true then (zap l u,(0,())) else ([],(3,()))):=by
  subst hk
  show stdW.call (zex l u [] 0) _=_
  have e3:zex l u [] 0=some (if b1=true then (zap l u,(0,())) else ([],(3,()))):=by
   show zfq stdW l u [] 0=_
   unfold zfq
   rw[zac e1]
   cases b1 with
   |false=>rw[cnd_y (by rfl)]; rfl
   |true=>rw[cnd_n (by rfl),cnd_n (by rfl),zac (r_hset h)]; rfl
  rw[zac e3]
 clear hk
 rw[zac e2,cnd_n (by rfl)]
 exact kk
end Go.Proofs.YtbpbkmngbhgpfaaGreat
