import Derived.Test.YtbpbkmngbhgpfaaGreatB5
namespace Go.Proofs.YtbpbkmngbhgpfaaGreat
open Go Go.Vc Go.RowKit
set_option maxRecDepth 100000
@[reducible] def tAUnit:DT:=(.pair (.int .i64) (.pair (.int .i64) .unit))
abbrev AUnit':=Int×Int×Unit
@[reducible] def tAFlow:DT:=(.pair tAUnit (.pair (.int .i64) .unit))
abbrev AFlow':=AUnit'×Int×Unit
@[reducible] def tAPos:DT:=(.pair tAUnit (.pair (.slc tAUnit) .unit))
abbrev APos':=AUnit'×(List AUnit')×Unit
@[reducible] def tAMember:DT:=(.pair (.int .i64) (.pair (.int .i64) (.pair (.int .i64) (.pair (.int .i64) .unit))))
abbrev AMember':=Int×Int×Int×Int×Unit
@[reducible] def tAInst:DT:=(.pair (.int .i64) (.pair (.int .i64) (.pair (.int .i64) (.pair (.int .i64) (.pair (.slc (.int .i64)) .unit)))))
abbrev AInst':=Int×Int×Int×Int×(List Int)×Unit
@[reducible] def tAAsset:DT:=(.pair (.int .i64) (.pair (.int .i64) (.pair (.int .i64) .unit)))
abbrev zac:=Int×Int×Int×Unit
@[reducible] def tAAccount:DT:=(.pair (.int .i64) (.pair (.int .i64) (.pair (.int .i64) (.pair (.slc (.int .i64)) .unit))))
abbrev zad:=Int×Int×Int×(List Int)×Unit
@[reducible] def tAChoice:DT:=(.pair tAUnit (.pair tAUnit (.pair .bool .unit)))
abbrev AChoice':=AUnit'×AUnit'×Bool×Unit
@[reducible] def tAGroup:DT:=(.pair (.int .i64) (.pair tAUnit (.pair (.int .i64) (.pair (.int .i64) (.pair (.int .i64) .unit)))))
abbrev AGroup':=Int×AUnit'×Int×Int×Int×Unit
@[reducible] def tAGive:DT:=(.pair (.int .i64) (.pair tAUnit (.pair tAUnit (.pair tAUnit (.pair (.int .i64) (.pair (.int .i64) (.pair (.int .i64) (.pair (.int .i64) .unit))))))))
abbrev AGive':=Int×AUnit'×AUnit'×AUnit'×Int×Int×Int×Int×Unit
@[reducible] def tAHold:DT:=(.pair tAUnit (.pair (.slc tAAsset) .unit))
abbrev AHold':=AUnit'×(List zac)×Unit
@[reducible] def tAState:DT:=(.pair (.int .i64) (.pair (.slc tAMember) (.pair (.slc tAInst) (.pair (.slc tAAsset) (.pair (.slc tAAccount) (.pair (.slc tAChoice) (.pair (.slc tAGroup) (.pair (.slc tAGive) (.pair (.slc tAPos) (.pair (.slc tAPos) (.pair (.slc tAFlow) (.pair (.slc tAHold) .unit))))))))))))
abbrev zan:=Int×(List AMember')×(List AInst')×(List zac)×(List zad)×(List AChoice')×(List AGroup')×(List AGive')×(List APos')×(List APos')×(List AFlow')×(List AHold')×Unit
@[reducible] def tAReturn:DT:=(.pair tAUnit (.pair (.int .i64) (.pair (.slc tAAsset) .unit)))
abbrev zaq:=AUnit'×Int×(List zac)×Unit
@[reducible] def tWideWide:DT:=(.pair (.int .i64) (.pair (.int .u64) .unit))
abbrev zaf:=Int×Int×Unit
@[reducible] def tWideSize:DT:=(.pair (.int .u64) (.pair (.int .u64) .unit))
abbrev zhz:=Int×Int×Unit
@[reducible] def tNovationref01Big:DT:=(.pair .bool (.pair (.slc (.int .u8)) .unit))
abbrev zab:=Bool×(List Int)×Unit
noncomputable def zip(W:Wd)(a:zad):Option zad:=
 W.join (fun (z1:Int×Int×Int×List (Int)×Unit)=>some (z1.1,(z1.2.1,(z1.2.2.1,(z1.2.2.2.1,())))))
 fun k2=>
 W.cnd (decide (20<(a.2.2.2.1.length:Int))) (W.bnd 20 a.2.2.2.1.length fun h3=>(k2 (a.1,(a.2.1,(a.2.2.1,((a.2.2.2.1.take h3),()))))))
  ((k2 (a.1,(a.2.1,(a.2.2.1,(a.2.2.2.1,()))))))
noncomputable def zqw(a:zad):Option zad:=zip stdW a
noncomputable def ztp:ES:=⟨(.pair tAAccount .unit),(.v tAAccount),fun x=>zqw x.1⟩
theorem yei:ECok Tryz.prog 46 (.es ztp)   := es_ok (A:=(.pair tAAccount .unit)) (Q:=(.v tAAccount)) (fun W x=>zip W x.1) [] trivial [] [(3,⟨[],[(0,[.t (.int .i64),.t (.int .i64),.t (.int .i64),.t (.slc (.int .i64))])],[]⟩)] [] Tryz.func46 rfl (by decide +kernel) rfl rfl (fun W x=>by kernel_rfl)
noncomputable def zss(W:Wd)(a:zac):Option Bool:=
 W.cnd (decide (0<a.1)) (
 W.cnd (decide (a.1<5)) (
  W.cnd (decide (0≤a.2.1)) (
  W.cnd (decide (a.2.1<2147483648)) (
   W.cnd (decide (0≤a.2.2.1)) (some (decide (a.2.2.1<10001)))
   (some false))
   (some false))
  (some false))
  (some false))
 (some false)
noncomputable def yif(a:zac):Option Bool:=zss stdW a
noncomputable def yfn:ES:=⟨(.pair tAAsset .unit),(.v .bool),fun x=>yif x.1⟩
theorem yoc:ECok Tryz.prog 171 (.es yfn)   := es_ok (A:=(.pair tAAsset .unit)) (Q:=(.v .bool)) (fun W x=>zss W x.1) [] trivial [] [] [] Tryz.func171 rfl (by decide +kernel) rfl rfl (fun W x=>by kernel_rfl)
noncomputable def zlc(W:Wd)(l:List zac)(id:Int):Option (zac×Bool×Unit):=
 W.loop (fun (z1:Int×Unit) again2=>
 W.cnd (decide (z1.1<(l.length:Int))) (W.idx l z1.1 fun x3=>
  W.cnd (x3.1==id) (W.idx l z1.1 fun x4=>some (x4,(true,())))
  ((again2 ((IntKind.i64.wrap (z1.1+1)),()))))
  (some ((0,(0,(0,()))),(false,()))))
 (0,())
noncomputable def zph(l:List zac)(id:Int):Option (zac×Bool×Unit):=zlc stdW l id
noncomputable def znh:ES:=⟨(.pair (.slc tAAsset) (.pair (.int .i64) .unit)),(.pair (.v tAAsset) (.pair (.v .bool) .unit)),fun x=>zph x.1 x.2.1⟩
theorem zsv:ECok Tryz.prog 122 (.es znh)   := es_ok (A:=(.pair (.slc tAAsset) (.pair (.int .i64) .unit))) (Q:=(.pair (.v tAAsset) (.pair (.v .bool) .unit))) (fun W x=>zlc W x.1 x.2.1) [] trivial [] [] [(2,⟨[(6,.t (.int .i64))],[],[]⟩)] Tryz.func122 rfl (by decide +kernel) rfl rfl (fun W x=>by kernel_rfl)
noncomputable def zpg(W:Wd)(l:List zac)(a:zac):Option ((List zac)×Int×Unit):=W.call (yif a) fun v1=>
 W.cnd (!v1) (some ([],(2,())))
 (W.call (zph l a.1) fun v2=>
 W.cnd v2.2.1 (some ([],(12,())))
  (
  W.join (fun (z3:Int×Unit)=>W.bnd z3.1 l.length fun h4=>W.room (l.take h4).length 24 (W.room ((l.take h4).length+(a::[]).length) 24 (W.bnd z3.1 l.length fun h5=>W.room (((l.take h4)++(a::[])).length+((l.take l.length).drop h5).length) 24 (some ((((l.take h4)++(a::[]))++((l.take l.length).drop h5)),(0,()))))))
  fun k6=>
  W.loop (fun (z7:Int×Unit) again8=>
   W.cnd (decide (z7.1<(l.length:Int))) (W.idx l z7.1 fun x9=>
   W.cnd (decide (x9.1<a.1)) ((again8 ((IntKind.i64.wrap (z7.1+1)),())))
    ((k6 z7)))
   ((k6 z7)))
   (0,())))
noncomputable def zsr(l:List zac)(a:zac):Option ((List zac)×Int×Unit):=zpg stdW l a
noncomputable def ybf:ES:=⟨(.pair (.slc tAAsset) (.pair tAAsset .unit)),(.pair (.own 125 tAAsset) (.pair (.v (.int .i64)) .unit)),fun x=>zsr x.1 x.2.1⟩
theorem yle:ECok Tryz.prog 105 (.es ybf)   := es_ok (A:=(.pair (.slc tAAsset) (.pair tAAsset .unit))) (Q:=(.pair (.own 125 tAAsset) (.pair (.v (.int .i64)) .unit))) (fun W x=>zpg W x.1 x.2.1) [(171,.es yfn),(122,.es znh)] ⟨yoc,zsv,trivial⟩ [(8,[],(ofL [(0,true),(1,true),(2,true),(3,true),(4,true),(5,true),(6,true),(7,true),(8,true),(9,true),(10,true),(11,true),(12,true),(13,true)]))] [(10,⟨[(9,.t (.int .i64))],[],[]⟩)] [(8,⟨[(9,.t (.int .i64))],[],[]⟩)] Tryz.func105 rfl (by decide +kernel) rfl rfl (fun W x=>by kernel_rfl)
noncomputable def zij(W:Wd)(l:List zac):Option (List zac):=
 W.join (fun (z1:List (Int×Int×Int×Unit)×Unit)=>some z1.1)
 fun k2=>
 W.loop (fun (z3:List (Int×Int×Int×Unit)×Int×Unit) again4=>
  W.cnd (decide (z3.2.1<(l.length:Int))) (
  W.cnd (decide (z3.2.1<8)) (
   W.join (fun (z5:List (Int×Int×Int×Unit)×Unit)=>(again4 (z5.1,((IntKind.i64.wrap (z3.2.1+1)),()))))
   fun k6=>W.idx l z3.2.1 fun x7=>W.call (zsr z3.1 x7) fun v8=>
   W.cnd (v8.2.1==0) ((k6 (v8.1,())))
    ((k6 (z3.1,()))))
   ((k2 (z3.1,()))))
  ((k2 (z3.1,()))))
  ([],(0,()))
noncomputable def zlb(l:List zac):Option (List zac):=zij stdW l
noncomputable def zsq:ES:=⟨(.pair (.slc tAAsset) .unit),(.v (.slc tAAsset)),fun x=>zlb x.1⟩
theorem yee:ECok Tryz.prog 47 (.es zsq)   := es_ok (A:=(.pair (.slc tAAsset) .unit)) (Q:=(.v (.slc tAAsset))) (fun W x=>zij W x.1) [(105,.es ybf)] ⟨yle,trivial⟩ [] [(4,⟨[(3,.t (.slc tAAsset))],[],[]⟩),(8,⟨[(3,.t (.slc tAAsset))],[],[]⟩)] [(3,⟨[(3,.t (.slc tAAsset)),(4,.t (.int .i64))],[],[]⟩)] Tryz.func47 rfl (by decide +kernel) rfl rfl (fun W x=>by kernel_rfl)
noncomputable def zsp(W:Wd)(a:zad):Option Bool:=
 W.join (fun (z1:Bool×Unit)=>
 W.cnd z1.1 (some false)
  (
  W.join (fun (z2:Bool×Unit)=>
  W.cnd z2.1 (some false)
   (
   W.loop (fun (z3:Int×Unit) again4=>
   W.cnd (decide (z3.1<(a.2.2.2.1.length:Int))) (
    W.join (fun (z5:Bool×Unit)=>
    W.cnd z5.1 (some false)
     ((again4 ((IntKind.i64.wrap (z3.1+1)),()))))
    fun k6=>W.idx a.2.2.2.1 z3.1 fun x7=>
    W.cnd (decide (x7<1)) ((k6 (true,())))
     (W.idx a.2.2.2.1 z3.1 fun x8=>
     W.cnd (decide (16<x8)) ((k6 (true,())))
     (
     W.cnd (decide (0<z3.1)) (W.idx a.2.2.2.1 z3.1 fun x9=>W.idx a.2.2.2.1 (IntKind.i64.wrap (z3.1 - 1)) fun x10=>(k6 ((decide (x9≤x10)),())))
      ((k6 (false,()))))))
    (some true))
   (0,())))
  fun k11=>
  W.cnd (a.2.2.1==1) (
   W.cnd (decide (0<(a.2.2.2.1.length:Int))) ((k11 (true,())))
   (
   W.cnd (a.2.2.1==4) ((k11 ((decide (1<(a.2.2.2.1.length:Int))),())))
    ((k11 (false,())))))
   (
   W.cnd (a.2.2.1==4) ((k11 ((decide (1<(a.2.2.2.1.length:Int))),())))
   ((k11 (false,()))))))
 fun k12=>
 W.cnd (decide (a.1<1)) ((k12 (true,())))
  (
  W.cnd (decide (16<a.1)) ((k12 (true,())))
  (
  W.cnd (decide (a.2.1<1)) ((k12 (true,())))
   (
   W.cnd (decide (8<a.2.1)) ((k12 (true,())))
   (
   W.cnd (decide (a.2.2.1<1)) ((k12 (true,())))
    ((k12 ((decide (4<a.2.2.1)),())))))))
noncomputable def zzb(a:zad):Option Bool:=zsp stdW a
noncomputable def yfm:ES:=⟨(.pair tAAccount .unit),(.v .bool),fun x=>zzb x.1⟩
theorem yob:ECok Tryz.prog 172 (.es yfm)   := es_ok (A:=(.pair tAAccount .unit)) (Q:=(.v .bool)) (fun W x=>zsp W x.1) [] trivial [(8,[],(ofL [(0,true),(1,true),(2,true),(3,true),(4,true),(5,true),(6,true),(7,true),(8,true),(9,true),(10,true),(11,true),(12,true),(13,true),(14,true),(15,true),(16,true),(17,true),(18,true),(19,true),(20,true),(21,true),(22,true),(23,true),(24,true),(25,true),(26,true),(27,true),(28,true),(29,true),(30,true),(31,true)]))] [(500031,⟨[(31,.t .bool)],[],[]⟩),(500051,⟨[(51,.t .bool)],[],[]⟩),(500090,⟨[(90,.t .bool)],[],[]⟩)] [(6,⟨[(3,.t (.int .i64))],[],[]⟩)] Tryz.func172 rfl (by decide +kernel) rfl rfl (fun W x=>by kernel_rfl)
noncomputable def zkz(W:Wd)(l:List zad)(id:Int):Option (zad×Bool×Unit):=
 W.loop (fun (z1:Int×Unit) again2=>
 W.cnd (decide (z1.1<(l.length:Int))) (W.idx l z1.1 fun x3=>
  W.cnd (x3.1==id) (W.idx l z1.1 fun x4=>some ((x4.1,(x4.2.1,(x4.2.2.1,(x4.2.2.2.1,())))),(true,())))
  ((again2 ((IntKind.i64.wrap (z1.1+1)),()))))
  (some ((0,(0,(0,([],())))),(false,()))))
 (0,())
noncomputable def zwb(l:List zad)(id:Int):Option (zad×Bool×Unit):=zkz stdW l id
noncomputable def zxs:ES:=⟨(.pair (.slc tAAccount) (.pair (.int .i64) .unit)),(.pair (.v tAAccount) (.pair (.v .bool) .unit)),fun x=>zwb x.1 x.2.1⟩
theorem yie:ECok Tryz.prog 173 (.es zxs)   := es_ok (A:=(.pair (.slc tAAccount) (.pair (.int .i64) .unit))) (Q:=(.pair (.v tAAccount) (.pair (.v .bool) .unit))) (fun W x=>zkz W x.1 x.2.1) [] trivial [] [] [(2,⟨[(6,.t (.int .i64))],[],[]⟩)] Tryz.func173 rfl (by decide +kernel) rfl rfl (fun W x=>by kernel_rfl)
noncomputable def zpf(W:Wd)(l:List zad)(a:zad):Option ((List zad)×Int×Unit):=W.call (zzb (a.1,(a.2.1,(a.2.2.1,(a.2.2.2.1,()))))) fun v1=>
 W.cnd (!v1) (some ([],(2,())))
 (W.call (zwb l a.1) fun v2=>
 W.cnd v2.2.1 (some ([],(12,())))
  (
  W.join (fun (z3:Int×Unit)=>W.bnd z3.1 l.length fun h4=>W.room (l.take h4).length 48 (W.room ((l.take h4).length+((a.1,(a.2.1,(a.2.2.1,(a.2.2.2.1,()))))::[]).length) 48 (W.bnd z3.1 l.length fun h5=>W.room (((l.take h4)++((a.1,(a.2.1,(a.2.2.1,(a.2.2.2.1,()))))::[])).length+((l.take l.length).drop h5).length) 48 (some ((((l.take h4)++((a.1,(a.2.1,(a.2.2.1,(a.2.2.2.1,()))))::[]))++((l.take l.length).drop h5)),(0,()))))))
  fun k6=>
  W.loop (fun (z7:Int×Unit) again8=>
   W.cnd (decide (z7.1<(l.length:Int))) (W.idx l z7.1 fun x9=>
   W.cnd (decide (x9.1<a.1)) ((again8 ((IntKind.i64.wrap (z7.1+1)),())))
    ((k6 z7)))
   ((k6 z7)))
   (0,())))
noncomputable def zso(l:List zad)(a:zad):Option ((List zad)×Int×Unit):=zpf stdW l a
noncomputable def ybe:ES:=⟨(.pair (.slc tAAccount) (.pair tAAccount .unit)),(.pair (.own 69 tAAccount) (.pair (.v (.int .i64)) .unit)),fun x=>zso x.1 x.2.1⟩
theorem yld:ECok Tryz.prog 106 (.es ybe)   := es_ok (A:=(.pair (.slc tAAccount) (.pair tAAccount .unit))) (Q:=(.pair (.own 69 tAAccount) (.pair (.v (.int .i64)) .unit))) (fun W x=>zpf W x.1 x.2.1) [(172,.es yfm),(173,.es zxs)] ⟨yob,yie,trivial⟩ [(8,[],(ofL [(0,true),(1,true),(2,true),(3,true),(4,true),(5,true),(6,true),(7,true),(8,true),(9,true),(10,true),(11,true),(12,true),(13,true)]))] [(10,⟨[(9,.t (.int .i64))],[],[]⟩)] [(8,⟨[(9,.t (.int .i64))],[],[]⟩)] Tryz.func106 rfl (by decide +kernel) rfl rfl (fun W x=>by kernel_rfl)
noncomputable def zih(W:Wd)(l:List zad):Option (List zad):=
 W.join (fun (z1:List (Int×Int×Int×List (Int)×Unit)×Unit)=>some z1.1)
 fun k2=>
 W.loop (fun (z3:List (Int×Int×Int×List (Int)×Unit)×Int×Unit) again4=>
  W.cnd (decide (z3.2.1<(l.length:Int))) (
  W.cnd (decide (z3.2.1<20)) (
   W.join (fun (z5:List (Int×Int×Int×List (Int)×Unit)×Unit)=>(again4 (z5.1,((IntKind.i64.wrap (z3.2.1+1)),()))))
   fun k6=>W.idx l z3.2.1 fun x7=>W.call (zso z3.1 (x7.1,(x7.2.1,(x7.2.2.1,(x7.2.2.2.1,()))))) fun v8=>
   W.cnd (v8.2.1==0) ((k6 (v8.1,())))
    ((k6 (z3.1,()))))
   ((k2 (z3.1,()))))
  ((k2 (z3.1,()))))
  ([],(0,()))
noncomputable def zkx(l:List zad):Option (List zad):=zih stdW l
noncomputable def zsn:ES:=⟨(.pair (.slc tAAccount) .unit),(.v (.slc tAAccount)),fun x=>zkx x.1⟩
theorem yed:ECok Tryz.prog 48 (.es zsn)   := es_ok (A:=(.pair (.slc tAAccount) .unit)) (Q:=(.v (.slc tAAccount))) (fun W x=>zih W x.1) [(106,.es ybe)] ⟨yld,trivial⟩ [] [(4,⟨[(3,.t (.slc tAAccount))],[],[]⟩),(8,⟨[(3,.t (.slc tAAccount))],[],[]⟩)] [(3,⟨[(3,.t (.slc tAAccount)),(4,.t (.int .i64))],[],[]⟩)] Tryz.func48 rfl (by decide +kernel) rfl rfl (fun W x=>by kernel_rfl)
noncomputable def zpt(W:Wd)(l:List AFlow'):Option (List AFlow'):=
 W.cnd (decide (20<(l.length:Int))) (W.bnd 20 l.length fun h1=>some (l.take h1))
 (some l)
noncomputable def zoa(l:List AFlow'):Option (List AFlow'):=zpt stdW l
noncomputable def yco:ES:=⟨(.pair (.slc tAFlow) .unit),(.v (.slc tAFlow)),fun x=>zoa x.1⟩
theorem ymj:ECok Tryz.prog 49 (.es yco)   := es_ok (A:=(.pair (.slc tAFlow) .unit)) (Q:=(.v (.slc tAFlow))) (fun W x=>zpt W x.1) [] trivial [] [] [] Tryz.func49 rfl (by decide +kernel) rfl rfl (fun W x=>by kernel_rfl)
noncomputable def zps(W:Wd)(l:List zac):Option (List zac):=
 W.cnd (decide (20<(l.length:Int))) (W.bnd 20 l.length fun h1=>some (l.take h1))
 (some l)
noncomputable def ztq(l:List zac):Option (List zac):=zps stdW l
noncomputable def zqx:ES:=⟨(.pair (.slc tAAsset) .unit),(.v (.slc tAAsset)),fun x=>ztq x.1⟩
theorem zyd:ECok Tryz.prog 8 (.es zqx)   := es_ok (A:=(.pair (.slc tAAsset) .unit)) (Q:=(.v (.slc tAAsset))) (fun W x=>zps W x.1) [] trivial [] [] [] Tryz.func8 rfl (by decide +kernel) rfl rfl (fun W x=>by kernel_rfl)
noncomputable def zpr(W:Wd)(l:List AHold'):Option (List AHold'):=
 W.join (fun (z1:List ((Int×Int×Unit)×List (Int×Int×Int×Unit)×Unit)×Unit)=>some z1.1)
 fun k2=>
 W.loop (fun (z3:Int×List ((Int×Int×Unit)×List (Int×Int×Int×Unit)×Unit)×Unit) again4=>
  W.cnd (decide (z3.1<(l.length:Int))) (
  W.cnd (decide (z3.1<10)) (W.idx l z3.1 fun x5=>W.idx l z3.1 fun x6=>W.call (ztq x6.2.1) fun v7=>W.room (z3.2.1.length+((x5.1,(v7,()))::[]).length) 40 ((again4 ((IntKind.i64.wrap (z3.1+1)),((z3.2.1++((x5.1,(v7,()))::[])),())))))
   ((k2 (z3.2.1,()))))
  ((k2 (z3.2.1,()))))
  (0,([],()))
noncomputable def znz(l:List AHold'):Option (List AHold'):=zpr stdW l
noncomputable def ycn:ES:=⟨(.pair (.slc tAHold) .unit),(.own 123 tAHold),fun x=>znz x.1⟩
theorem ymi:ECok Tryz.prog 50 (.es ycn)   := es_ok (A:=(.pair (.slc tAHold) .unit)) (Q:=(.own 123 tAHold)) (fun W x=>zpr W x.1) [(8,.es zqx)] ⟨zyd,trivial⟩ [(5,[],(ofL [(0,true),(1,true),(2,true),(3,true),(4,true),(5,true),(6,true),(7,true),(8,true),(9,true),(10,true),(11,false),(12,true),(13,false),(14,false),(15,true)]))] [(6,⟨[(3,.row 1)],[],[.dead,.own 123 tAHold]⟩)] [(3,⟨[(3,.row 1),(4,.t (.int .i64))],[],[.dead,.own 123 tAHold]⟩)] Tryz.func50 rfl (by decide +kernel) rfl rfl (fun W x=>by kernel_rfl)
noncomputable def zpq(W:Wd)(s:zan):Option zan:=
 W.join (fun (z1:List (Int×Int×Int×List (Int)×Unit)×Unit)=>W.call (zlb s.2.2.2.1) fun v2=>W.call (zkx z1.1) fun v3=>W.call (zoa s.2.2.2.2.2.2.2.2.2.2.1) fun v4=>W.call (znz s.2.2.2.2.2.2.2.2.2.2.2.1) fun v5=>some (0,([],([],(v2,(v3,([],([],([],([],([],(v4,(v5,())))))))))))))
 fun k6=>
 W.loop (fun (z7:Int×List (Int×Int×Int×List (Int)×Unit)×Unit) again8=>
  W.cnd (decide (z7.1<(s.2.2.2.2.1.length:Int))) (
  W.cnd (decide (z7.1<20)) (W.idx s.2.2.2.2.1 z7.1 fun x9=>W.call (zqw (x9.1,(x9.2.1,(x9.2.2.1,(x9.2.2.2.1,()))))) fun v10=>W.room (z7.2.1.length+((v10.1,(v10.2.1,(v10.2.2.1,(v10.2.2.2.1,()))))::[]).length) 48 ((again8 ((IntKind.i64.wrap (z7.1+1)),((z7.2.1++((v10.1,(v10.2.1,(v10.2.2.1,(v10.2.2.2.1,()))))::[])),())))))
   ((k6 (z7.2.1,()))))
  ((k6 (z7.2.1,()))))
  (0,([],()))
noncomputable def zto(s:zan):Option zan:=zpq stdW s
noncomputable def ycm:ES:=⟨(.pair tAState .unit),(.v tAState),fun x=>zto x.1⟩
theorem ymh:ECok Tryz.prog 7 (.es ycm)   := es_ok (A:=(.pair tAState .unit)) (Q:=(.v tAState)) (fun W x=>zpq W x.1) [(46,.es ztp),(47,.es zsq),(48,.es zsn),(49,.es yco),(50,.es ycn)] ⟨yei,yee,yed,ymj,ymi,trivial⟩ [(6,[1],(ofL [(0,true),(1,true),(3,true),(5,true),(6,true),(8,true),(9,true),(2,false),(4,false),(7,false),(10,false),(11,true),(12,false)]))] [(6,⟨[(3,.row 1)],[],[.dead,.own 69 tAAccount]⟩)] [(3,⟨[(3,.row 1),(4,.t (.int .i64))],[],[.dead,.own 69 tAAccount]⟩)] Tryz.func7 rfl (by decide +kernel) rfl rfl (fun W x=>by kernel_rfl)
noncomputable def zkb(W:Wd)(a:AUnit')(b:AUnit'):Option Bool:=
 W.cnd (a.1 != b.1) (some (decide (a.1<b.1)))
 (some (decide (a.2.1<b.2.1)))
noncomputable def zed(a:AUnit')(b:AUnit'):Option Bool:=zkb stdW a b
noncomputable def zmj:ES:=⟨(.pair tAUnit (.pair tAUnit .unit)),(.v .bool),fun x=>zed x.1 x.2.1⟩
theorem zop:ECok Tryz.prog 107 (.es zmj)   := es_ok (A:=(.pair tAUnit (.pair tAUnit .unit))) (Q:=(.v .bool)) (fun W x=>zkb W x.1 x.2.1) [] trivial [] [] [] Tryz.func107 rfl (by decide +kernel) rfl rfl (fun W x=>by kernel_rfl)
noncomputable def znp(W:Wd)(l:List AFlow'):Option Bool:=
 W.loop (fun (z1:Int×Unit) again2=>
 W.cnd (decide (z1.1<(l.length:Int))) (W.idx l z1.1 fun x3=>
  W.join (fun (z4:Bool×Unit)=>
  W.cnd z4.1 (some false)
   ((again2 ((IntKind.i64.wrap (z1.1+1)),()))))
  fun k5=>
  W.cnd (x3.2.1==0) ((k5 (true,())))
   (
   W.cnd (decide (0<z1.1)) (W.idx l (IntKind.i64.wrap (z1.1 - 1)) fun x6=>W.call (zed x6.1 x3.1) fun v7=>(k5 ((!v7),())))
   ((k5 (false,())))))
  (some true))
 (0,())
noncomputable def zlm(l:List AFlow'):Option Bool:=znp stdW l
noncomputable def zwe:ES:=⟨(.pair (.slc tAFlow) .unit),(.v .bool),fun x=>zlm x.1⟩
theorem ybs:ECok Tryz.prog 51 (.es zwe)   := es_ok (A:=(.pair (.slc tAFlow) .unit)) (Q:=(.v .bool)) (fun W x=>znp W x.1) [(107,.es zmj)] ⟨zop,trivial⟩ [(4,[],(ofL [(0,true),(1,true),(2,true),(3,true),(4,true),(5,true),(6,true),(7,true),(8,true),(9,true),(10,true),(11,true),(12,true),(13,true),(14,true),(15,false),(16,true),(17,true),(18,true)]))] [(500030,⟨[(30,.t .bool)],[],[]⟩)] [(2,⟨[(7,.t (.int .i64))],[],[]⟩)] Tryz.func51 rfl (by decide +kernel) rfl rfl (fun W x=>by kernel_rfl)
noncomputable def zhj(W:Wd)(x:zac):Option Bool:=
 W.cnd (decide (1≤x.1)) (
 W.cnd (decide (x.1≤4)) (
  W.cnd (decide (0≤x.2.1)) (
  W.cnd (decide (x.2.1≤255)) (some (decide (0<x.2.2.1)))
   (some false))
  (some false))
  (some false))
 (some false)
noncomputable def zjp(x:zac):Option Bool:=zhj stdW x
noncomputable def zxz:ES:=⟨(.pair tAAsset .unit),(.v .bool),fun x=>zjp x.1⟩
theorem yiu:ECok Tryz.prog 174 (.es zxz)   := es_ok (A:=(.pair tAAsset .unit)) (Q:=(.v .bool)) (fun W x=>zhj W x.1) [] trivial [] [] [] Tryz.func174 rfl (by decide +kernel) rfl rfl (fun W x=>by kernel_rfl)
noncomputable def ygw(W:Wd)(x:Int):Option Bool:=some (x != x)
noncomputable def zoi(x:Int):Option Bool:=ygw stdW x
noncomputable def ydj:ES:=⟨(.pair (.int .i64) .unit),(.v .bool),fun x=>zoi x.1⟩
theorem ynd:ECok Tryz.prog 269 (.es ydj)   := es_ok (A:=(.pair (.int .i64) .unit)) (Q:=(.v .bool)) (fun W x=>ygw W x.1) [] trivial [] [] [] Tryz.func269 rfl (by decide +kernel) rfl rfl (fun W x=>by kernel_rfl)
noncomputable def zgk(W:Wd)(x:Int)(y:Int):Option Int:=W.call (zoi x) fun v1=>W.call (zoi y) fun v2=>
 W.cnd v1 (
 W.cnd v2 (some 0)
  (some (-1)))
 (
 W.cnd v2 (some 1)
  (
  W.cnd (decide (x<y)) (some (-1))
  (
  W.cnd (decide (y<x)) (some 1)
   (some 0))))
noncomputable def zfk(x:Int)(y:Int):Option Int:=zgk stdW x y
noncomputable def zun:ES:=⟨(.pair (.int .i64) (.pair (.int .i64) .unit)),(.v (.int .i64)),fun x=>zfk x.1 x.2.1⟩
theorem yeo:ECok Tryz.prog 243 (.es zun)   := es_ok (A:=(.pair (.int .i64) (.pair (.int .i64) .unit))) (Q:=(.v (.int .i64))) (fun W x=>zgk W x.1 x.2.1) [(269,.es ydj)] ⟨ynd,trivial⟩ [] [] [] Tryz.func243 rfl (by decide +kernel) rfl rfl (fun W x=>by kernel_rfl)
noncomputable def ydk(W:Wd)(vals:List Int):Option Int:=
 W.loop (fun (z1:Int×Unit) again2=>
 W.cnd (decide (z1.1<(vals.length:Int))) (W.idx vals z1.1 fun x3=>
  W.cnd (x3 != 0) (some x3)
  ((again2 ((IntKind.i64.wrap (z1.1+1)),()))))
  (some 0))
 (0,())
noncomputable def cmp_Or(vals:List Int):Option Int:=ydk stdW vals
noncomputable def yrs:ES:=⟨(.pair (.slc (.int .i64)) .unit),(.v (.int .i64)),fun x=>cmp_Or x.1⟩
theorem cmp_Or_ok:ECok Tryz.prog 242 (.es yrs)   := es_ok (A:=(.pair (.slc (.int .i64)) .unit)) (Q:=(.v (.int .i64))) (fun W x=>ydk W x.1) [] trivial [] [] [(3,⟨[(8,.t (.int .i64))],[],[]⟩)] Tryz.func242 rfl (by decide +kernel) rfl rfl (fun W x=>by kernel_rfl)
noncomputable def zhk(W:Wd)(a:zac)(b:zac):Option Int:=W.call (zfk a.1 b.1) fun v1=>W.call (zfk a.2.1 b.2.1) fun v2=>W.call (cmp_Or (v1::(v2::[]))) fun v3=>some v3
noncomputable def zgy(a:zac)(b:zac):Option Int:=zhk stdW a b
noncomputable def zyb:ES:=⟨(.pair tAAsset (.pair tAAsset .unit)),(.v (.int .i64)),fun x=>zgy x.1 x.2.1⟩
theorem yiv:ECok Tryz.prog 175 (.es zyb)   := es_ok (A:=(.pair tAAsset (.pair tAAsset .unit))) (Q:=(.v (.int .i64))) (fun W x=>zhk W x.1 x.2.1) [(243,.es zun),(242,.es yrs)] ⟨yeo,cmp_Or_ok,trivial⟩ [(1,[],(ofL [(0,true),(1,true),(2,true),(3,true),(5,true),(6,true),(7,true),(8,true),(4,false),(9,false),(10,false),(11,false),(12,true)]))] [] [] Tryz.func175 rfl (by decide +kernel) rfl rfl (fun W x=>by kernel_rfl)
noncomputable def ztg(W:Wd)(l:List zac):Option Bool:=
 W.loop (fun (z1:Int×Unit) again2=>
 W.cnd (decide (z1.1<(l.length:Int))) (W.idx l z1.1 fun x3=>
  W.join (fun (z4:Bool×Unit)=>
  W.cnd z4.1 (some false)
   ((again2 ((IntKind.i64.wrap (z1.1+1)),()))))
  fun k5=>W.call (zjp x3) fun v6=>
  W.cnd (!v6) (W.both ((k5 (true,()))) ((k5 (true,()))))
   (
   W.cnd (decide (0<z1.1)) (W.idx l (IntKind.i64.wrap (z1.1 - 1)) fun x7=>W.both (W.call (zgy x7 x3) fun v8=>(k5 ((decide (0≤v8)),()))) (W.call (zgy x7 x3) fun v9=>(k5 ((decide (0≤v9)),()))))
   (W.both ((k5 (false,()))) ((k5 (false,()))))))
  (some (decide ((l.length:Int)≤16))))
 (0,())
noncomputable def znw(l:List zac):Option Bool:=ztg stdW l
noncomputable def ztf:ES:=⟨(.pair (.slc tAAsset) .unit),(.v .bool),fun x=>znw x.1⟩
theorem zwl:ECok Tryz.prog 108 (.es ztf)   := es_ok (A:=(.pair (.slc tAAsset) .unit)) (Q:=(.v .bool)) (fun W x=>ztg W x.1) [(174,.es zxz),(175,.es zyb)] ⟨yiu,yiv,trivial⟩ [(4,[],(.rd 0 (.op 1 (.rd 2 (.rd 3 (.rd 4 (.rd 5 (.rd 6 (.rd 7 (.rd 8 (.rd 9 (.rd 10 (.two 11 12 (ofL [(12,false),(13,false),(14,true),(15,true),(16,true)]) (ofL [(11,false),(13,false),(14,true),(15,true),(16,true)]))))))))))))))] [(500028,⟨[(28,.t .bool)],[],[]⟩)] [(2,⟨[(7,.t (.int .i64))],[],[]⟩)] Tryz.func108 rfl (by decide +kernel) rfl rfl (fun W x=>by kernel_rfl)
noncomputable def ztx(W:Wd)(l:List AHold'):Option Bool:=
 W.loop (fun (z1:Int×Unit) again2=>
 W.cnd (decide (z1.1<(l.length:Int))) (W.idx l z1.1 fun x3=>
  W.join (fun (z4:Bool×Unit)=>
  W.cnd z4.1 (some false)
   ((again2 ((IntKind.i64.wrap (z1.1+1)),()))))
  fun k5=>
  W.cnd ((x3.2.1.length:Int)==0) (W.both ((k5 (true,()))) ((k5 (true,()))))
   (W.call (znw x3.2.1) fun v6=>
   W.cnd (!v6) (W.both ((k5 (true,()))) ((k5 (true,()))))
   (
   W.cnd (decide (0<z1.1)) (W.idx l (IntKind.i64.wrap (z1.1 - 1)) fun x7=>W.both (W.call (zed x7.1 x3.1) fun v8=>(k5 ((!v8),()))) (W.call (zed x7.1 x3.1) fun v9=>(k5 ((!v9),()))))
    (W.both ((k5 (false,()))) ((k5 (false,())))))))
  (some true))
 (0,())
noncomputable def zoe(l:List AHold'):Option Bool:=ztx stdW l
noncomputable def ycu:ES:=⟨(.pair (.slc tAHold) .unit),(.v .bool),fun x=>zoe x.1⟩
theorem ygj:ECok Tryz.prog 52 (.es ycu)   := es_ok (A:=(.pair (.slc tAHold) .unit)) (Q:=(.v .bool)) (fun W x=>ztx W x.1) [(108,.es ztf),(107,.es zmj)] ⟨zwl,zop,trivial⟩ [(4,[],(.rd 0 (.rd 1 (.rd 2 (.rd 3 (.rd 4 (.rd 5 (.rd 6 (.op 7 (.rd 8 (.rd 9 (.rd 10 (.rd 11 (.rd 12 (.rd 13 (.rd 14 (.rd 15 (.rd 16 (.rd 17 (.rd 18 (.rd 20 (.two 19 21 (ofL [(21,false),(22,false),(23,true),(24,true),(25,true)]) (ofL [(19,false),(22,false),(23,true),(24,true),(25,true)])))))))))))))))))))))))] [(500037,⟨[(37,.t .bool)],[],[]⟩)] [(2,⟨[(7,.t (.int .i64))],[],[]⟩)] Tryz.func52 rfl (by decide +kernel) rfl rfl (fun W x=>by kernel_rfl)
noncomputable def zce(W:Wd)(s:List Int):Option (List Int):=W.nilq (List.isEmpty s) fun g1=>
 W.cnd (Go.Vc.notIf false g1) (some [])
 (W.room ((0:Nat)+s.length) 8 (some ([]++s)))
noncomputable def zcm(s:List Int):Option (List Int):=zce stdW s
noncomputable def zft:ES:=⟨(.pair (.slc (.int .i64)) .unit),(.own 3 (.int .i64)),fun x=>zcm x.1⟩
theorem zmq:ECok Tryz.prog 244 (.es zft)   := es_ok (A:=(.pair (.slc (.int .i64)) .unit)) (Q:=(.own 3 (.int .i64))) (fun W x=>zce W x.1) [] trivial [] [] [] Tryz.func244 rfl (by decide +kernel) rfl rfl (fun W x=>by kernel_rfl)
noncomputable def zon(W:Wd)(a:zad):Option zad:=W.call (zcm a.2.2.2.1) fun v1=>some (a.1,(a.2.1,(a.2.2.1,(v1,()))))
noncomputable def zqb(a:zad):Option zad:=zon stdW a
noncomputable def yhb:ES:=⟨(.pair tAAccount .unit),(.v tAAccount),fun x=>zqb x.1⟩
theorem ypl:ECok Tryz.prog 177 (.es yhb)   := es_ok (A:=(.pair tAAccount .unit)) (Q:=(.v tAAccount)) (fun W x=>zon W x.1) [(244,.es zft)] ⟨zmq,trivial⟩ [] [] [] Tryz.func177 rfl (by decide +kernel) rfl rfl (fun W x=>by kernel_rfl)
noncomputable def zgo(W:Wd)(l:List zad):Option (List zad):=
 W.loop (fun (z1:Int×List (Int×Int×Int×List (Int)×Unit)×Unit) again2=>
 W.cnd (decide (z1.1<(l.length:Int))) (W.idx l z1.1 fun x3=>W.call (zqb (x3.1,(x3.2.1,(x3.2.2.1,(x3.2.2.2.1,()))))) fun v4=>W.room (z1.2.1.length+((v4.1,(v4.2.1,(v4.2.2.1,(v4.2.2.2.1,()))))::[]).length) 48 ((again2 ((IntKind.i64.wrap (z1.1+1)),((z1.2.1++((v4.1,(v4.2.1,(v4.2.2.1,(v4.2.2.2.1,()))))::[])),())))))
  (some z1.2.1))
 (0,([],()))
noncomputable def zhx(l:List zad):Option (List zad):=zgo stdW l
noncomputable def zux:ES:=⟨(.pair (.slc tAAccount) .unit),(.own 69 tAAccount),fun x=>zhx x.1⟩
theorem yet:ECok Tryz.prog 110 (.es zux)   := es_ok (A:=(.pair (.slc tAAccount) .unit)) (Q:=(.own 69 tAAccount)) (fun W x=>zgo W x.1) [(177,.es yhb)] ⟨ypl,trivial⟩ [] [] [(3,⟨[(3,.row 1),(8,.t (.int .i64))],[],[.dead,.own 69 tAAccount]⟩)] Tryz.func110 rfl (by decide +kernel) rfl rfl (fun W x=>by kernel_rfl)
noncomputable def yhd(W:Wd)(a:zad)(free10:Int):Option (Bool×(Int×Unit)):=some ((a.2.1 != free10),(free10,()))
noncomputable def zoo(a:zad)(free10:Int):Option (Bool×(Int×Unit)):=yhd stdW a free10
noncomputable def zrg:LS:=⟨[.v tAAccount,.ptr],[⟨3,[.v (.int .i64)]⟩],[⟨3,[.v (.int .i64)]⟩],(.q (.v .bool)),fun x=>zoo x.1 x.2.1⟩
theorem zyp:ECok Tryz.prog 111 (.ls zrg)   := ls_ok (A:=[.v tAAccount,.ptr]) (B:=[⟨3,[.v (.int .i64)]⟩]) (E:=[⟨3,[.v (.int .i64)]⟩]) (Q:=(.q (.v .bool))) (fun W x=>yhd W x.1 x.2.1) [] trivial [] [] [] Tryz.func111 rfl (by decide +kernel) rfl rfl rfl rfl rfl (fun W x=>by kernel_rfl)
noncomputable def zag(W:Wd)(s:List zad)(f0_0:Int):Option (Int×(Int×Unit)):=
 W.loop (fun (z1:Int×Int×Unit) again2=>
 W.cnd (decide (z1.1<(s.length:Int))) (W.idx s z1.1 fun x3=>W.call (zoo (x3.1,(x3.2.1,(x3.2.2.1,(x3.2.2.2.1,())))) z1.2.1) fun v4=>
  W.cnd v4.1 (some (z1.1,v4.2))
  ((again2 ((IntKind.i64.wrap (z1.1+1)),v4.2))))
  (some ((-1),z1.2)))
 (0,(f0_0,()))
noncomputable def zah(s:List zad)(f0_0:Int):Option (Int×(Int×Unit)):=zag stdW s f0_0
noncomputable def zbd:LS:=⟨[.v (.slc tAAccount),.fn 111 1],[⟨3,[.v (.int .i64)]⟩],[⟨3,[.v (.int .i64)]⟩],(.q (.v (.int .i64))),fun x=>zah x.1 x.2.1⟩
theorem zch:ECok Tryz.prog 176 (.ls zbd)   := ls_ok (A:=[.v (.slc tAAccount),.fn 111 1]) (B:=[⟨3,[.v (.int .i64)]⟩]) (E:=[⟨3,[.v (.int .i64)]⟩]) (Q:=(.q (.v (.int .i64)))) (fun W x=>zag W x.1 x.2.1) [(111,.ls zrg)] ⟨zyp,trivial⟩ [] [] [(2,⟨[(8,.t (.int .i64))],[(0,[.t (.int .i64)])],[]⟩)] Tryz.func176 rfl (by decide +kernel) rfl rfl rfl rfl rfl (fun W x=>by kernel_rfl)
noncomputable def zak(W:Wd)(del0_0:Int)(s:List zad):Option ((List zad)×(Int×Unit)):=W.call (zah s del0_0) fun v1=>
 W.cnd (v1.1==(-1)) (some (s,v1.2))
 (
 W.loop (fun (z2:Int×Int×Int×List (Int×Int×Int×List (Int)×Unit)×Unit) again3=>
  W.cnd (decide (z2.2.1<(z2.2.2.2.1.length:Int))) (
  W.join (fun (z4:Int×Int×List (Int×Int×Int×List (Int)×Unit)×Unit)=>(again3 (z4.1,((IntKind.i64.wrap (z2.2.1+1)),(z4.2.1,(z4.2.2.1,()))))))
   fun k5=>W.idx z2.2.2.2.1 z2.2.1 fun x6=>W.nth z2.2.2.2.1 (Int.toNat z2.2.1) fun x7=>W.call (zoo (x7.1,(x7.2.1,(x7.2.2.1,(x7.2.2.2.1,())))) z2.2.2.1) fun v8=>
   W.cnd (!v8.1) (W.idx z2.2.2.2.1 z2.1 fun x9=>W.nth z2.2.2.2.1 (Int.toNat z2.1) fun x10=>(k5 ((IntKind.i64.wrap (z2.1+1)),(v8.2.1,((List.set z2.2.2.2.1 (Int.toNat z2.1) (x7.1,(x7.2.1,(x7.2.2.1,(x7.2.2.2.1,()))))),())))))
   ((k5 (z2.1,(v8.2.1,(z2.2.2.2.1,()))))))
  (W.bnd z2.1 z2.2.2.2.1.length fun h11=>W.bnd (h11:Int) z2.2.2.2.1.length fun h12=>W.bnd z2.1 ((z2.2.2.2.1.take h12)++(List.replicate (z2.2.2.2.1.length - h12) (0,(0,(0,([],())))))).length fun h13=>some ((((z2.2.2.2.1.take h12)++(List.replicate (z2.2.2.2.1.length - h12) (0,(0,(0,([],())))))).take h13),(z2.2.2.1,()))))
  (v1.1,((IntKind.i64.wrap (v1.1+1)),(v1.2.1,(s,())))))
noncomputable def zam(del0_0:Int)(s:List zad):Option ((List zad)×(Int×Unit)):=zak stdW del0_0 s
noncomputable def zbb:LS:=⟨[.row 69 tAAccount,.fn 111 1],[⟨3,[.v (.int .i64)]⟩],[⟨3,[.v (.int .i64)]⟩],(.q (.v (.slc tAAccount))),fun x=>zam x.1 x.2.1⟩
theorem zcf:ECok Tryz.prog 109 (.ls zbb)   := ls_ok (A:=[.row 69 tAAccount,.fn 111 1]) (B:=[⟨3,[.v (.int .i64)]⟩]) (E:=[⟨3,[.v (.int .i64)]⟩]) (Q:=(.q (.v (.slc tAAccount)))) (fun W x=>zak W x.1 x.2.1) [(176,.lb zbd),(111,.ls zrg)] ⟨zch,zyp,trivial⟩ [] [(6,⟨[(0,.row 0),(5,.t (.int .i64))],[(0,[.t (.int .i64)])],[.own 69 tAAccount]⟩)] [(5,⟨[(0,.row 0),(5,.t (.int .i64)),(6,.t (.int .i64))],[(0,[.t (.int .i64)])],[.own 69 tAAccount]⟩)] Tryz.func109 rfl (by decide +kernel) rfl rfl rfl rfl rfl (fun W x=>by kernel_rfl)
noncomputable def zuz(W:Wd)(l:List zad)(member:Int):Option (List zad):=W.call (zhx l) fun v1=>W.call (zam member v1) fun v2=>some v2.1
noncomputable def zxe(l:List zad)(member:Int):Option (List zad):=zuz stdW l member
noncomputable def ynj:ES:=⟨(.pair (.slc tAAccount) (.pair (.int .i64) .unit)),(.v (.slc tAAccount)),fun x=>zxe x.1 x.2.1⟩
theorem acct_Of_ok:ECok Tryz.prog 53 (.es ynj)   := es_ok (A:=(.pair (.slc tAAccount) (.pair (.int .i64) .unit))) (Q:=(.v (.slc tAAccount))) (fun W x=>zuz W x.1 x.2.1) [(110,.es zux),(109,.ls zbb)] ⟨yet,zcf,trivial⟩ [] [] [] Tryz.func53 rfl (by decide +kernel) rfl rfl (fun W x=>by kernel_rfl)
noncomputable def zhy(W:Wd)(a:zad):Option (List AUnit'):=
 W.cnd (a.2.2.1==1) (some ((a.1,(0,()))::[]))
 (
 W.loop (fun (z1:Int×List (Int×Int×Unit)×Unit) again2=>
  W.cnd (decide (z1.1<(a.2.2.2.1.length:Int))) (W.idx a.2.2.2.1 z1.1 fun x3=>W.room (z1.2.1.length+((a.1,(x3,()))::[]).length) 16 ((again2 ((IntKind.i64.wrap (z1.1+1)),((z1.2.1++((a.1,(x3,()))::[])),())))))
  (some z1.2.1))
  (0,([],())))
noncomputable def zka(a:zad):Option (List AUnit'):=zhy stdW a
noncomputable def zyn:ES:=⟨(.pair tAAccount .unit),(.own 35 tAUnit),fun x=>zka x.1⟩
theorem yke:ECok Tryz.prog 54 (.es zyn)   := es_ok (A:=(.pair tAAccount .unit)) (Q:=(.own 35 tAUnit)) (fun W x=>zhy W x.1) [] trivial [] [] [(5,⟨[(3,.row 1),(16,.t (.int .i64))],[],[.dead,.own 35 tAUnit]⟩)] Tryz.func54 rfl (by decide +kernel) rfl rfl (fun W x=>by kernel_rfl)
noncomputable def zji(W:Wd)(l:List AFlow')(u:AUnit'):Option Int:=
 W.loop (fun (z1:Int×Unit) again2=>
 W.cnd (decide (z1.1<(l.length:Int))) (W.idx l z1.1 fun x3=>
  W.cnd (Go.Vc.notIf false ((x3.1.1==u.1)&&(x3.1.2.1==u.2.1))) (some x3.2.1)
  ((again2 ((IntKind.i64.wrap (z1.1+1)),()))))
  (some 0))
 (0,())
noncomputable def zjj(l:List AFlow')(u:AUnit'):Option Int:=zji stdW l u
noncomputable def ybt:ES:=⟨(.pair (.slc tAFlow) (.pair tAUnit .unit)),(.v (.int .i64)),fun x=>zjj x.1 x.2.1⟩
theorem ylo:ECok Tryz.prog 65 (.es ybt)   := es_ok (A:=(.pair (.slc tAFlow) (.pair tAUnit .unit))) (Q:=(.v (.int .i64))) (fun W x=>zji W x.1 x.2.1) [] trivial [] [] [(2,⟨[(9,.t (.int .i64))],[],[]⟩)] Tryz.func65 rfl (by decide +kernel) rfl rfl (fun W x=>by kernel_rfl)
noncomputable def zba(W:Wd)(s:List zac):Option (List zac):=W.nilq (List.isEmpty s) fun g1=>
 W.cnd (Go.Vc.notIf false g1) (some [])
 (W.room ((0:Nat)+s.length) 24 (some ([]++s)))
noncomputable def zal(s:List zac):Option (List zac):=zba stdW s
noncomputable def zcc:ES:=⟨(.pair (.slc tAAsset) .unit),(.own 121 tAAsset),fun x=>zal x.1⟩
theorem zdb:ECok Tryz.prog 126 (.es zcc)   := es_ok (A:=(.pair (.slc tAAsset) .unit)) (Q:=(.own 121 tAAsset)) (fun W x=>zba W x.1) [] trivial [] [] [] Tryz.func126 rfl (by decide +kernel) rfl rfl (fun W x=>by kernel_rfl)
noncomputable def zjr(W:Wd)(l:List AHold')(u:AUnit'):Option (List zac):=
 W.loop (fun (z1:Int×Unit) again2=>
 W.cnd (decide (z1.1<(l.length:Int))) (W.idx l z1.1 fun x3=>
  W.cnd (Go.Vc.notIf false ((x3.1.1==u.1)&&(x3.1.2.1==u.2.1))) (W.call (zal x3.2.1) fun v4=>some v4)
  ((again2 ((IntKind.i64.wrap (z1.1+1)),()))))
  (some []))
 (0,())
noncomputable def zjs(l:List AHold')(u:AUnit'):Option (List zac):=zjr stdW l u
noncomputable def ycs:ES:=⟨(.pair (.slc tAHold) (.pair tAUnit .unit)),(.own 121 tAAsset),fun x=>zjs x.1 x.2.1⟩
theorem ymn:ECok Tryz.prog 66 (.es ycs)   := es_ok (A:=(.pair (.slc tAHold) (.pair tAUnit .unit))) (Q:=(.own 121 tAAsset)) (fun W x=>zjr W x.1 x.2.1) [(126,.es zcc)] ⟨zdb,trivial⟩ [] [] [(2,⟨[(9,.t (.int .i64))],[],[]⟩)] Tryz.func66 rfl (by decide +kernel) rfl rfl (fun W x=>by kernel_rfl)
noncomputable def zsd(W:Wd)(s:zan)(u:AUnit'):Option zaq:=W.call (zjj s.2.2.2.2.2.2.2.2.2.2.1 u) fun v1=>W.call (zjs s.2.2.2.2.2.2.2.2.2.2.2.1 u) fun v2=>some (u,((if v1>0 then v1 else 0),(v2,())))
noncomputable def zff(s:zan)(u:AUnit'):Option zaq:=zsd stdW s u
noncomputable def yas:ES:=⟨(.pair tAState (.pair tAUnit .unit)),(.v tAReturn),fun x=>zff x.1 x.2.1⟩
theorem yfk:ECok Tryz.prog 13 (.es yas)   := es_ok (A:=(.pair tAState (.pair tAUnit .unit))) (Q:=(.v tAReturn)) (fun W x=>zsd W x.1 x.2.1) [(65,.es ybt),(66,.es ycs)] ⟨ylo,ymn,trivial⟩ [(1,[2],(ofL [(0,true),(1,true),(2,true),(3,true),(6,true),(7,true),(8,true),(4,false),(5,true),(9,false),(10,true),(11,false)]))] [] [] Tryz.func13 rfl (by decide +kernel) rfl rfl (fun W x=>by kernel_rfl)
noncomputable def zeb(W:Wd)(l:List AFlow')(u:AUnit'):Option (List Int):=
 W.loop (fun (z1:Int×List (Int)×Unit) again2=>
 W.cnd (decide (z1.1<(l.length:Int))) (
  W.join (fun (z3:List (Int)×Unit)=>(again2 ((IntKind.i64.wrap (z1.1+1)),(z3.1,()))))
  fun k4=>W.idx l z1.1 fun x5=>
  W.cnd (Go.Vc.notIf false ((x5.1.1==u.1)&&(x5.1.2.1==u.2.1))) (W.room (z1.2.1.length+(x5.2.1::[]).length) 8 ((k4 ((z1.2.1++(x5.2.1::[])),()))))
   ((k4 (z1.2.1,()))))
  (some z1.2.1))
 (0,([],()))
noncomputable def zeu(l:List AFlow')(u:AUnit'):Option (List Int):=zeb stdW l u
noncomputable def znn:ES:=⟨(.pair (.slc tAFlow) (.pair tAUnit .unit)),(.own 2 (.int .i64)),fun x=>zeu x.1 x.2.1⟩
theorem zyt:ECok Tryz.prog 180 (.es znn)   := es_ok (A:=(.pair (.slc tAFlow) (.pair tAUnit .unit))) (Q:=(.own 2 (.int .i64))) (fun W x=>zeb W x.1 x.2.1) [] trivial [] [(7,⟨[(5,.row 1)],[],[.dead,.own 2 (.int .i64)]⟩)] [(3,⟨[(5,.row 1),(10,.t (.int .i64))],[],[.dead,.own 2 (.int .i64)]⟩)] Tryz.func180 rfl (by decide +kernel) rfl rfl (fun W x=>by kernel_rfl)
noncomputable def zrq(W:Wd)(n:Int):Option zaf:=W.nn 63 (some ((Int.fdiv n (2 ^ (Min.min (Int.toNat 63) (Go.IntKind.bits Go.IntKind.i64)))),((IntKind.u64.wrap n),())))
noncomputable def zms(n:Int):Option zaf:=zrq stdW n
noncomputable def zrp:ES:=⟨(.pair (.int .i64) .unit),(.v tWideWide),fun x=>zms x.1⟩
theorem zvj:ECok Tryz.prog 119 (.es zrp)   := es_ok (A:=(.pair (.int .i64) .unit)) (Q:=(.v tWideWide)) (fun W x=>zrq W x.1) [] trivial [] [] [] Tryz.func119 rfl (by decide +kernel) rfl rfl (fun W x=>by kernel_rfl)
noncomputable def zdl(W:Wd)(w:zaf)(t0:Int)(t1:Int)(t2:Int):Option (Unit×(Int×Int×Int×Unit)):=W.call (add64 t2 w.2.1 0) fun v1=>W.call (add64 (IntKind.u64.wrap t1) (IntKind.u64.wrap w.1) v1.2.1) fun v2=>W.nn 63 (some ((),((IntKind.i64.wrap (t0+(IntKind.i64.wrap ((Int.fdiv w.1 (2 ^ (Min.min (Int.toNat 63) (Go.IntKind.bits Go.IntKind.i64))))+(IntKind.i64.wrap v2.2.1))))),((IntKind.i64.wrap v2.1),(v1.1,())))))
noncomputable def zdy(w:zaf)(t0:Int)(t1:Int)(t2:Int):Option (Unit×(Int×Int×Int×Unit)):=zdl stdW w t0 t1 t2
noncomputable def zml:LS:=⟨[.ptr,.v tWideWide],[⟨257,[.v (.int .i64),.v (.int .i64),.v (.int .u64)]⟩],[⟨257,[.v (.int .i64),.v (.int .i64),.v (.int .u64)]⟩],(.q .unit),fun x=>zdy x.1 x.2.1 x.2.2.1 x.2.2.2.1⟩
theorem zvh:ECok Tryz.prog 187 (.ls zml)   := ls_ok (A:=[.ptr,.v tWideWide]) (B:=[⟨257,[.v (.int .i64),.v (.int .i64),.v (.int .u64)]⟩]) (E:=[⟨257,[.v (.int .i64),.v (.int .i64),.v (.int .u64)]⟩]) (Q:=(.q .unit)) (fun W x=>zdl W x.1 x.2.1 x.2.2.1 x.2.2.2.1) [(194,.es add64_s)] ⟨add64_ok,trivial⟩ [(1,[],(ofL [(0,true),(1,true),(2,true),(3,true),(4,true),(5,true),(6,true),(7,false),(8,true),(9,true),(10,true),(11,true),(12,true)])),(2,[],(ofL [(0,true),(1,true),(2,true),(3,true),(4,true),(5,true),(6,true),(7,true),(8,true),(9,true),(10,false),(11,true),(12,true),(13,true),(14,true),(15,true)])),(3,[0],(ofL [(0,true),(1,true),(2,true),(4,true),(5,true),(6,true),(7,true),(8,true),(9,true),(3,false),(10,true),(11,true),(12,true),(13,false)]))] [] [] Tryz.func187 rfl (by decide +kernel) rfl rfl rfl rfl rfl (fun W x=>by kernel_rfl)
noncomputable def zfr(W:Wd)(w:zaf)(ok:Bool):Option (zaf×Int×Unit):=
 W.cnd (!ok) (some ((0,(0,())),(7,())))
 (some (w,(0,())))
noncomputable def zgz(w:zaf)(ok:Bool):Option (zaf×Int×Unit):=zfr stdW w ok
noncomputable def zrn:ES:=⟨(.pair tWideWide (.pair .bool .unit)),(.pair (.v tWideWide) (.pair (.v (.int .i64)) .unit)),fun x=>zgz x.1 x.2.1⟩
theorem ydw:ECok Tryz.prog 197 (.es zrn)   := es_ok (A:=(.pair tWideWide (.pair .bool .unit))) (Q:=(.pair (.v tWideWide) (.pair (.v (.int .i64)) .unit))) (fun W x=>zfr W x.1 x.2.1) [] trivial [] [] [] Tryz.func197 rfl (by decide +kernel) rfl rfl (fun W x=>by kernel_rfl)
noncomputable def zdd(W:Wd)(t0:Int)(t1:Int)(t2:Int):Option ((zaf×Int×Unit)×(Int×Int×Int×Unit)):=W.nn 63 (W.call (zgz (t1,(t2,())) (t0==(Int.fdiv t1 (2 ^ (Min.min (Int.toNat 63) (Go.IntKind.bits Go.IntKind.i64)))))) fun v1=>some (v1,(t0,(t1,(t2,())))))
noncomputable def zdk(t0:Int)(t1:Int)(t2:Int):Option ((zaf×Int×Unit)×(Int×Int×Int×Unit)):=zdd stdW t0 t1 t2
noncomputable def ziw:LS:=⟨[.ptr],[⟨257,[.v (.int .i64),.v (.int .i64),.v (.int .u64)]⟩],[⟨257,[.v (.int .i64),.v (.int .i64),.v (.int .u64)]⟩],(.q (.pair (.v tWideWide) (.pair (.v (.int .i64)) .unit))),fun x=>zdk x.1 x.2.1 x.2.2.1⟩
theorem zrl:ECok Tryz.prog 188 (.ls ziw)   := ls_ok (A:=[.ptr]) (B:=[⟨257,[.v (.int .i64),.v (.int .i64),.v (.int .u64)]⟩]) (E:=[⟨257,[.v (.int .i64),.v (.int .i64),.v (.int .u64)]⟩]) (Q:=(.q (.pair (.v tWideWide) (.pair (.v (.int .i64)) .unit)))) (fun W x=>zdd W x.1 x.2.1 x.2.2.1) [(197,.es zrn)] ⟨ydw,trivial⟩ [(1,[1],(ofL [(0,true),(1,true),(2,true),(3,true),(4,true),(5,true),(6,true),(7,true),(8,true),(9,true),(10,true),(11,true),(12,true),(13,true),(14,true),(15,false),(16,true),(17,true),(18,false),(19,true)]))] [] [] Tryz.func188 rfl (by decide +kernel) rfl rfl rfl rfl rfl (fun W x=>by kernel_rfl)
noncomputable def zmv(W:Wd)(l:List zaf):Option (zaf×Int×Unit):=
 W.loop (fun (z1:Int×Int×Int×Int×Unit) again2=>
 W.cnd (decide (z1.1<(l.length:Int))) (W.idx l z1.1 fun x3=>W.call (zdy x3 z1.2.1 z1.2.2.1 z1.2.2.2.1) fun v4=>(again2 ((IntKind.i64.wrap (z1.1+1)),v4.2)))
  (W.call (zdk z1.2.1 z1.2.2.1 z1.2.2.2.1) fun v5=>some v5.1))
 (0,(0,(0,(0,()))))
noncomputable def zos(l:List zaf):Option (zaf×Int×Unit):=zmv stdW l
noncomputable def yey:ES:=⟨(.pair (.slc tWideWide) .unit),(.pair (.v tWideWide) (.pair (.v (.int .i64)) .unit)),fun x=>zos x.1⟩
theorem yns:ECok Tryz.prog 121 (.es yey)   := es_ok (A:=(.pair (.slc tWideWide) .unit)) (Q:=(.pair (.v tWideWide) (.pair (.v (.int .i64)) .unit))) (fun W x=>zmv W x.1) [(187,.ls zml),(188,.ls ziw)] ⟨zvh,zrl,trivial⟩ [] [] [(3,⟨[(9,.t (.int .i64))],[(1,[.t (.int .i64),.t (.int .i64),.t (.int .u64)])],[]⟩)] Tryz.func121 rfl (by decide +kernel) rfl rfl (fun W x=>by kernel_rfl)
noncomputable def zmu(W:Wd)(w:zaf):Option (Int×Int×Unit):=W.call (zms (IntKind.i64.wrap w.2.1)) fun v1=>
 W.cnd (Go.Vc.notIf true ((v1.1==w.1)&&(v1.2.1==w.2.1))) (some (0,(7,())))
 (some ((IntKind.i64.wrap w.2.1),(0,())))
noncomputable def zor(w:zaf):Option (Int×Int×Unit):=zmu stdW w
noncomputable def zvl:ES:=⟨(.pair tWideWide .unit),(.pair (.v (.int .i64)) (.pair (.v (.int .i64)) .unit)),fun x=>zor x.1⟩
theorem yac:ECok Tryz.prog 132 (.es zvl)   := es_ok (A:=(.pair tWideWide .unit)) (Q:=(.pair (.v (.int .i64)) (.pair (.v (.int .i64)) .unit))) (fun W x=>zmu W x.1) [(119,.es zrp)] ⟨zvj,trivial⟩ [(2,[],(ofL [(0,true),(2,true),(1,false),(3,true)]))] [] [] Tryz.func132 rfl (by decide +kernel) rfl rfl (fun W x=>by kernel_rfl)
noncomputable def zhn(W:Wd)(w:zaf)(e:Int):Option (Int×Int×Unit):=
 W.cnd (e != 0) (some (0,(e,())))
 (W.call (zor w) fun v1=>some v1)
noncomputable def zju(w:zaf)(e:Int):Option (Int×Int×Unit):=zhn stdW w e
noncomputable def zyf:ES:=⟨(.pair tWideWide (.pair (.int .i64) .unit)),(.pair (.v (.int .i64)) (.pair (.v (.int .i64)) .unit)),fun x=>zju x.1 x.2.1⟩
theorem yjh:ECok Tryz.prog 120 (.es zyf)   := es_ok (A:=(.pair tWideWide (.pair (.int .i64) .unit))) (Q:=(.pair (.v (.int .i64)) (.pair (.v (.int .i64)) .unit))) (fun W x=>zhn W x.1 x.2.1) [(132,.es zvl)] ⟨yac,trivial⟩ [] [] [] Tryz.func120 rfl (by decide +kernel) rfl rfl (fun W x=>by kernel_rfl)
noncomputable def zud(W:Wd)(l:List Int):Option (Int×Int×Unit):=W.nn (l.length:Int) (W.room (Int.toNat (l.length:Int)) 16 (
 W.loop (fun (z1:Int×List (Int×Int×Unit)×Unit) again2=>
 W.cnd (decide (z1.1<(l.length:Int))) (W.idx l z1.1 fun x3=>W.call (zms x3) fun v4=>W.room (z1.2.1.length+(v4::[]).length) 16 ((again2 ((IntKind.i64.wrap (z1.1+1)),((z1.2.1++(v4::[])),())))))
  (W.call (zos z1.2.1) fun v5=>W.call (zju v5.1 v5.2.1) fun v6=>some v6))
 (0,([],()))))
noncomputable def zog(l:List Int):Option (Int×Int×Unit):=zud stdW l
noncomputable def zub:ES:=⟨(.pair (.slc (.int .i64)) .unit),(.pair (.v (.int .i64)) (.pair (.v (.int .i64)) .unit)),fun x=>zog x.1⟩
theorem zxb:ECok Tryz.prog 61 (.es zub)   := es_ok (A:=(.pair (.slc (.int .i64)) .unit)) (Q:=(.pair (.v (.int .i64)) (.pair (.v (.int .i64)) .unit))) (fun W x=>zud W x.1) [(119,.es zrp),(121,.es yey),(120,.es zyf)] ⟨zvj,yns,yjh,trivial⟩ [] [] [(3,⟨[(4,.row 0),(12,.t (.int .i64))],[],[.own 188 tWideWide]⟩)] Tryz.func61 rfl (by decide +kernel) rfl rfl (fun W x=>by kernel_rfl)
noncomputable def zjh(W:Wd)(l:List AFlow')(flows:List AFlow'):Option ((List AFlow')×Int×Unit):=W.call (zlm l) fun v1=>
 W.cnd (!v1) (some ([],(3,())))
 (W.call (zra (l::(flows::[]))) fun v2=>W.call (namedO v2) fun v3=>
 W.loop (fun (z4:Int×List (Int×Int×Unit)×List ((Int×Int×Unit)×Int×Unit)×Unit) again5=>
  W.cnd (decide (z4.1<(v3.length:Int))) (
  W.join (fun (z6:List (Int×Int×Unit)×List ((Int×Int×Unit)×Int×Unit)×Unit)=>(again5 ((IntKind.i64.wrap (z4.1+1)),(z6.1,(z6.2.1,())))))
   fun k7=>W.idx z4.2.1 z4.1 fun x8=>W.nth z4.2.1 (Int.toNat z4.1) fun x9=>W.call (zeu v2 x9) fun v10=>W.call (zog v10) fun v11=>
   W.cnd (v11.2.1 != 0) (some ([],v11.2))
   (
   W.cnd (v11.1 != 0) (W.room (z4.2.2.1.length+((x9,(v11.1,()))::[]).length) 24 ((k7 (z4.2.1,((z4.2.2.1++((x9,(v11.1,()))::[])),())))))
    ((k7 (z4.2.1,(z4.2.2.1,()))))))
  (some (z4.2.2.1,(0,()))))
  (0,(v3,([],()))))
noncomputable def zhg(l:List AFlow')(flows:List AFlow'):Option ((List AFlow')×Int×Unit):=zjh stdW l flows
noncomputable def ybq:ES:=⟨(.pair (.slc tAFlow) (.pair (.slc tAFlow) .unit)),(.pair (.own 111 tAFlow) (.pair (.v (.int .i64)) .unit)),fun x=>zhg x.1 x.2.1⟩
theorem yln:ECok Tryz.prog 112 (.es ybq)   := es_ok (A:=(.pair (.slc tAFlow) (.pair (.slc tAFlow) .unit))) (Q:=(.pair (.own 111 tAFlow) (.pair (.v (.int .i64)) .unit))) (fun W x=>zjh W x.1 x.2.1) [(51,.es zwe),(178,.es yrr),(179,.es named_s),(180,.es znn),(61,.es zub)] ⟨ybs,concat_ok,named_ok,zyt,zxb,trivial⟩ [] [(13,⟨[(7,.row 5),(20,.row 2)],[],[.dead,.dead,.own 35 tAUnit,.dead,.dead,.own 111 tAFlow]⟩)] [(6,⟨[(7,.row 5),(20,.row 2),(22,.t (.int .i64))],[],[.dead,.dead,.own 35 tAUnit,.dead,.dead,.own 111 tAFlow]⟩)] Tryz.func112 rfl (by decide +kernel) rfl rfl (fun W x=>by kernel_rfl)
noncomputable def zoc(W:Wd)(l:List AHold')(u:AUnit')(all:List zac):Option (List AHold'):=W.both (W.call (zal all) fun v1=>
 W.loop (fun (z2:Bool×Int×Int×Int×List (Int×Int×Int×Unit)×List ((Int×Int×Unit)×List (Int×Int×Int×Unit)×Unit)×Unit) again3=>
  W.cnd (decide (z2.2.1<(l.length:Int))) (
  W.join (fun (z4:Bool×List ((Int×Int×Unit)×List (Int×Int×Int×Unit)×Unit)×Unit)=>(again3 (z4.1,((IntKind.i64.wrap (z2.2.1+1)),(z2.2.2.1,(z2.2.2.2.1,(z2.2.2.2.2.1,(z4.2.1,()))))))))
   fun k5=>W.idx l z2.2.1 fun x6=>
   W.join (fun (z7:Bool×List ((Int×Int×Unit)×List (Int×Int×Int×Unit)×Unit)×Unit)=>
   W.cnd (Go.Vc.notIf true ((x6.1.1==u.1)&&(x6.1.2.1==u.2.1))) (W.call (zal x6.2.1) fun v8=>W.room (z7.2.1.length+((x6.1,(v8,()))::[]).length) 40 ((k5 (z7.1,((z7.2.1++((x6.1,(v8,()))::[])),())))))
    (
    W.cnd (!z7.1) (W.room (z7.2.1.length+(((z2.2.2.1,(z2.2.2.2.1,())),(z2.2.2.2.2.1,()))::[]).length) 40 ((k5 (true,((z7.2.1++(((z2.2.2.1,(z2.2.2.2.1,())),(z2.2.2.2.2.1,()))::[])),())))))
    ((k5 (z7.1,(z7.2.1,()))))))
   fun k9=>
   W.join (fun (z10:Bool×List ((Int×Int×Unit)×List (Int×Int×Int×Unit)×Unit)×Unit)=>
    W.cnd z10.1 (W.room (z10.2.1.length+(((z2.2.2.1,(z2.2.2.2.1,())),(z2.2.2.2.2.1,()))::[]).length) 40 ((k9 (true,((z10.2.1++(((z2.2.2.1,(z2.2.2.2.1,())),(z2.2.2.2.2.1,()))::[])),())))))
    ((k9 (z2.1,(z10.2.1,())))))
    fun k11=>
    W.cnd (!z2.1) (W.call (zed u x6.1) fun v12=>(k11 (v12,(z2.2.2.2.2.2.1,()))))
    ((k11 (false,(z2.2.2.2.2.2.1,())))))
  (
  W.join (fun (z13:List ((Int×Int×Unit)×List (Int×Int×Int×Unit)×Unit)×Unit)=>some z13.1)
   fun k14=>
   W.cnd (!z2.1) (W.room (z2.2.2.2.2.2.1.length+(((z2.2.2.1,(z2.2.2.2.1,())),(z2.2.2.2.2.1,()))::[]).length) 40 ((k14 ((z2.2.2.2.2.2.1++(((z2.2.2.1,(z2.2.2.2.1,())),(z2.2.2.2.2.1,()))::[])),()))))
   ((k14 (z2.2.2.2.2.2.1,())))))
  (((all.length:Int)==0),(0,(u.1,(u.2.1,(v1,([],()))))))) (W.call (zal all) fun v15=>
 W.loop (fun (z16:Bool×Int×Int×Int×List (Int×Int×Int×Unit)×List ((Int×Int×Unit)×List (Int×Int×Int×Unit)×Unit)×Unit) again17=>
  W.cnd (decide (z16.2.1<(l.length:Int))) (
  W.join (fun (z18:Bool×List ((Int×Int×Unit)×List (Int×Int×Int×Unit)×Unit)×Unit)=>(again17 (z18.1,((IntKind.i64.wrap (z16.2.1+1)),(z16.2.2.1,(z16.2.2.2.1,(z16.2.2.2.2.1,(z18.2.1,()))))))))
   fun k19=>W.idx l z16.2.1 fun x20=>
   W.join (fun (z21:Bool×List ((Int×Int×Unit)×List (Int×Int×Int×Unit)×Unit)×Unit)=>
   W.cnd (Go.Vc.notIf true ((x20.1.1==u.1)&&(x20.1.2.1==u.2.1))) (W.call (zal x20.2.1) fun v22=>W.room (z21.2.1.length+((x20.1,(v22,()))::[]).length) 40 ((k19 (z21.1,((z21.2.1++((x20.1,(v22,()))::[])),())))))
    (
    W.cnd (!z21.1) (W.room (z21.2.1.length+(((z16.2.2.1,(z16.2.2.2.1,())),(z16.2.2.2.2.1,()))::[]).length) 40 ((k19 (true,((z21.2.1++(((z16.2.2.1,(z16.2.2.2.1,())),(z16.2.2.2.2.1,()))::[])),())))))
    ((k19 (z21.1,(z21.2.1,()))))))
   fun k23=>
   W.join (fun (z24:Bool×List ((Int×Int×Unit)×List (Int×Int×Int×Unit)×Unit)×Unit)=>
    W.cnd z24.1 (W.room (z24.2.1.length+(((z16.2.2.1,(z16.2.2.2.1,())),(z16.2.2.2.2.1,()))::[]).length) 40 ((k23 (true,((z24.2.1++(((z16.2.2.1,(z16.2.2.2.1,())),(z16.2.2.2.2.1,()))::[])),())))))
    ((k23 (z16.1,(z24.2.1,())))))
    fun k25=>
    W.cnd (!z16.1) (W.call (zed u x20.1) fun v26=>(k25 (v26,(z16.2.2.2.2.2.1,()))))
    ((k25 (false,(z16.2.2.2.2.2.1,())))))
  (
  W.join (fun (z27:List ((Int×Int×Unit)×List (Int×Int×Int×Unit)×Unit)×Unit)=>some z27.1)
   fun k28=>
   W.cnd (!z16.1) (W.room (z16.2.2.2.2.2.1.length+(((z16.2.2.1,(z16.2.2.2.1,())),(z16.2.2.2.2.1,()))::[]).length) 40 ((k28 ((z16.2.2.2.2.2.1++(((z16.2.2.1,(z16.2.2.2.1,())),(z16.2.2.2.2.1,()))::[])),()))))
   ((k28 (z16.2.2.2.2.2.1,())))))
  (((all.length:Int)==0),(0,(u.1,(u.2.1,(v15,([],())))))))
noncomputable def ztv(l:List AHold')(u:AUnit')(all:List zac):Option (List AHold'):=zoc stdW l u all
noncomputable def ygg:ES:=⟨(.pair (.slc tAHold) (.pair tAUnit (.pair (.slc tAAsset) .unit))),(.own 123 tAHold),fun x=>ztv x.1 x.2.1 x.2.2.1⟩
theorem yov:ECok Tryz.prog 248 (.es ygg)   := es_ok (A:=(.pair (.slc tAHold) (.pair tAUnit (.pair (.slc tAAsset) .unit)))) (Q:=(.own 123 tAHold)) (fun W x=>zoc W x.1 x.2.1 x.2.2.1) [(126,.es zcc),(107,.es zmj)] ⟨zdb,zop,trivial⟩ [(2,[],(.rd 0 (.rd 1 (.two 2 4 (ofL [(3,true),(4,false),(5,false)]) (ofL [(2,false),(3,true),(5,false)]))))),(10,[],(ofL [(0,true),(1,true),(2,true),(3,true),(4,true),(5,false),(6,true),(7,false),(8,false),(9,true)]))] [(9,⟨[(7,.row 2),(9,.t .bool)],[],[.dead,.dead,.own 123 tAHold]⟩),(13,⟨[(7,.row 2),(9,.t .bool)],[],[.dead,.dead,.own 123 tAHold]⟩),(16,⟨[(7,.row 2)],[],[.dead,.dead,.own 123 tAHold]⟩),(500032,⟨[(7,.row 2),(32,.t .bool)],[],[.dead,.dead,.own 123 tAHold]⟩)] [(5,⟨[(7,.row 2),(9,.t .bool),(21,.t (.int .i64))],[(1,[.t (.int .i64),.t (.int .i64),.t (.slc tAAsset)])],[.dead,.dead,.own 123 tAHold]⟩)] Tryz.func248 rfl (by decide +kernel) rfl rfl (fun W x=>by kernel_rfl)
noncomputable def zgf(W:Wd)(l:List AHold')(u:AUnit')(now:List zac)(e:Int):Option ((List AHold')×Int×Unit):=W.call (zoe l) fun v1=>
 W.cnd (!v1) (some ([],(3,())))
 (
 W.cnd (e != 0) (some ([],(e,())))
  (W.call (ztv l u now) fun v2=>some (v2,(0,()))))
noncomputable def zfj(l:List AHold')(u:AUnit')(now:List zac)(e:Int):Option ((List AHold')×Int×Unit):=zgf stdW l u now e
noncomputable def ztt:ES:=⟨(.pair (.slc tAHold) (.pair tAUnit (.pair (.slc tAAsset) (.pair (.int .i64) .unit)))),(.pair (.own 123 tAHold) (.pair (.v (.int .i64)) .unit)),fun x=>zfj x.1 x.2.1 x.2.2.1 x.2.2.2.1⟩
theorem yek:ECok Tryz.prog 181 (.es ztt)   := es_ok (A:=(.pair (.slc tAHold) (.pair tAUnit (.pair (.slc tAAsset) (.pair (.int .i64) .unit))))) (Q:=(.pair (.own 123 tAHold) (.pair (.v (.int .i64)) .unit))) (fun W x=>zgf W x.1 x.2.1 x.2.2.1 x.2.2.2.1) [(52,.es ycu),(248,.es ygg)] ⟨ygj,yov,trivial⟩ [] [] [] Tryz.func181 rfl (by decide +kernel) rfl rfl (fun W x=>by kernel_rfl)
noncomputable def zod(W:Wd)(l:List AHold')(u:AUnit')(all:List zac):Option ((List AHold')×Int×Unit):=
 W.join (fun (z1:Int×Unit)=>W.call (zfj l u all z1.1) fun v2=>some (v2.1,v2.2))
 fun k3=>W.call (znw all) fun v4=>
 W.cnd (!v4) ((k3 (3,())))
  ((k3 (0,())))
noncomputable def zlu(l:List AHold')(u:AUnit')(all:List zac):Option ((List AHold')×Int×Unit):=zod stdW l u all
noncomputable def ygh:ES:=⟨(.pair (.slc tAHold) (.pair tAUnit (.pair (.slc tAAsset) .unit))),(.pair (.own 123 tAHold) (.pair (.v (.int .i64)) .unit)),fun x=>zlu x.1 x.2.1 x.2.2.1⟩
theorem yow:ECok Tryz.prog 113 (.es ygh)   := es_ok (A:=(.pair (.slc tAHold) (.pair tAUnit (.pair (.slc tAAsset) .unit)))) (Q:=(.pair (.own 123 tAHold) (.pair (.v (.int .i64)) .unit))) (fun W x=>zod W x.1 x.2.1 x.2.2.1) [(108,.es ztf),(181,.es ztt)] ⟨zwl,yek,trivial⟩ [] [(4,⟨[(8,.t (.int .i64))],[],[]⟩)] [] Tryz.func113 rfl (by decide +kernel) rfl rfl (fun W x=>by kernel_rfl)
noncomputable def zes(W:Wd)(s:zan)(r:zaq):Option (zan×Int×Unit):=W.call (zhg s.2.2.2.2.2.2.2.2.2.2.1 ((r.1,((IntKind.i64.wrap (0 - r.2.1)),()))::[])) fun v1=>
 W.join (fun (z2:Int×Int×List (Int×Int×Int×Int×Unit)×List (Int×Int×Int×Int×List (Int)×Unit)×List (Int×Int×Int×Unit)×List (Int×Int×Int×List (Int)×Unit)×List ((Int×Int×Unit)×(Int×Int×Unit)×Bool×Unit)×List (Int×(Int×Int×Unit)×Int×Int×Int×Unit)×List (Int×(Int×Int×Unit)×(Int×Int×Unit)×(Int×Int×Unit)×Int×Int×Int×Int×Unit)×List ((Int×Int×Unit)×List (Int×Int×Unit)×Unit)×List ((Int×Int×Unit)×List (Int×Int×Unit)×Unit)×List ((Int×Int×Unit)×List (Int×Int×Int×Unit)×Unit)×List ((Int×Int×Unit)×Int×Unit)×Unit)=>some ((z2.2.1,(z2.2.2.1,(z2.2.2.2.1,(z2.2.2.2.2.1,(z2.2.2.2.2.2.1,(z2.2.2.2.2.2.2.1,(z2.2.2.2.2.2.2.2.1,(z2.2.2.2.2.2.2.2.2.1,(z2.2.2.2.2.2.2.2.2.2.1,(z2.2.2.2.2.2.2.2.2.2.2.1,(z2.2.2.2.2.2.2.2.2.2.2.2.2.1,(z2.2.2.2.2.2.2.2.2.2.2.2.1,())))))))))))),(z2.1,())))
 fun k3=>
 W.cnd (v1.2.1==0) (W.call (zlu s.2.2.2.2.2.2.2.2.2.2.2.1 r.1 []) fun v4=>(k3 (v4.2.1,(s.1,(s.2.1,(s.2.2.1,(s.2.2.2.1,(s.2.2.2.2.1,(s.2.2.2.2.2.1,(s.2.2.2.2.2.2.1,(s.2.2.2.2.2.2.2.1,(s.2.2.2.2.2.2.2.2.1,(s.2.2.2.2.2.2.2.2.2.1,(v4.1,(v1.1,())))))))))))))))
  ((k3 (v1.2.1,(s.1,(s.2.1,(s.2.2.1,(s.2.2.2.1,(s.2.2.2.2.1,(s.2.2.2.2.2.1,(s.2.2.2.2.2.2.1,(s.2.2.2.2.2.2.2.1,(s.2.2.2.2.2.2.2.2.1,(s.2.2.2.2.2.2.2.2.2.1,(s.2.2.2.2.2.2.2.2.2.2.2.1,(v1.1,())))))))))))))))
noncomputable def zel(s:zan)(r:zaq):Option (zan×Int×Unit):=zes stdW s r
noncomputable def zqc:ES:=⟨(.pair tAState (.pair tAReturn .unit)),(.pair (.v tAState) (.pair (.v (.int .i64)) .unit)),fun x=>zel x.1 x.2.1⟩
theorem yar:ECok Tryz.prog 55 (.es zqc)   := es_ok (A:=(.pair tAState (.pair tAReturn .unit))) (Q:=(.pair (.v tAState) (.pair (.v (.int .i64)) .unit))) (fun W x=>zes W x.1 x.2.1) [(112,.es ybq),(113,.es ygh)] ⟨yln,yow,trivial⟩ [] [(5,⟨[(6,.t (.int .i64))],[(0,[.t (.int .i64),.t (.slc tAMember),.t (.slc tAInst),.t (.slc tAAsset),.t (.slc tAAccount),.t (.slc tAChoice),.t (.slc tAGroup),.t (.slc tAGive),.t (.slc tAPos),.t (.slc tAPos),.row 1,.t (.slc tAHold)])],[.dead,.own 111 tAFlow]⟩)] [] Tryz.func55 rfl (by decide +kernel) rfl rfl (fun W x=>by kernel_rfl)
noncomputable def zjd(W:Wd)(s:zan)(id:Int):Option (zan×(List zaq)×Int×Unit):=
 W.join (fun (z1:Bool×Unit)=>
 W.cnd z1.1 (some ((0,([],([],([],([],([],([],([],([],([],([],([],())))))))))))),([],(3,()))))
  (W.call (zxe s.2.2.2.2.1 id) fun v2=>
  W.loop (fun (z3:Int×Int×List (Int×Int×Int×Int×Unit)×List (Int×Int×Int×Int×List (Int)×Unit)×List (Int×Int×Int×Unit)×List (Int×Int×Int×List (Int)×Unit)×List ((Int×Int×Unit)×(Int×Int×Unit)×Bool×Unit)×List (Int×(Int×Int×Unit)×Int×Int×Int×Unit)×List (Int×(Int×Int×Unit)×(Int×Int×Unit)×(Int×Int×Unit)×Int×Int×Int×Int×Unit)×List ((Int×Int×Unit)×List (Int×Int×Unit)×Unit)×List ((Int×Int×Unit)×List (Int×Int×Unit)×Unit)×List ((Int×Int×Unit)×Int×Unit)×List ((Int×Int×Unit)×List (Int×Int×Int×Unit)×Unit)×List ((Int×Int×Unit)×Int×List (Int×Int×Int×Unit)×Unit)×Unit) again4=>
  W.cnd (decide (z3.1<(v2.length:Int))) (W.idx v2 z3.1 fun x5=>W.call (zka (x5.1,(x5.2.1,(x5.2.2.1,(x5.2.2.2.1,()))))) fun v6=>
   W.loop (fun (z7:Int×Int×List (Int×Int×Int×Int×Unit)×List (Int×Int×Int×Int×List (Int)×Unit)×List (Int×Int×Int×Unit)×List (Int×Int×Int×List (Int)×Unit)×List ((Int×Int×Unit)×(Int×Int×Unit)×Bool×Unit)×List (Int×(Int×Int×Unit)×Int×Int×Int×Unit)×List (Int×(Int×Int×Unit)×(Int×Int×Unit)×(Int×Int×Unit)×Int×Int×Int×Int×Unit)×List ((Int×Int×Unit)×List (Int×Int×Unit)×Unit)×List ((Int×Int×Unit)×List (Int×Int×Unit)×Unit)×List ((Int×Int×Unit)×Int×Unit)×List ((Int×Int×Unit)×List (Int×Int×Int×Unit)×Unit)×List ((Int×Int×Unit)×Int×List (Int×Int×Int×Unit)×Unit)×List (Int×Int×Unit)×Unit) again8=>
   W.cnd (decide (z7.1<(v6.length:Int))) (
    W.join (fun (z9:Int×List (Int×Int×Int×Int×Unit)×List (Int×Int×Int×Int×List (Int)×Unit)×List (Int×Int×Int×Unit)×List (Int×Int×Int×List (Int)×Unit)×List ((Int×Int×Unit)×(Int×Int×Unit)×Bool×Unit)×List (Int×(Int×Int×Unit)×Int×Int×Int×Unit)×List (Int×(Int×Int×Unit)×(Int×Int×Unit)×(Int×Int×Unit)×Int×Int×Int×Int×Unit)×List ((Int×Int×Unit)×List (Int×Int×Unit)×Unit)×List ((Int×Int×Unit)×List (Int×Int×Unit)×Unit)×List ((Int×Int×Unit)×Int×Unit)×List ((Int×Int×Unit)×List (Int×Int×Int×Unit)×Unit)×List ((Int×Int×Unit)×Int×List (Int×Int×Int×Unit)×Unit)×List (Int×Int×Unit)×Unit)=>(again8 ((IntKind.i64.wrap (z7.1+1)),(z9.1,(z9.2.1,(z9.2.2.1,(z9.2.2.2.1,(z9.2.2.2.2.1,(z9.2.2.2.2.2.1,(z9.2.2.2.2.2.2.1,(z9.2.2.2.2.2.2.2.1,(z9.2.2.2.2.2.2.2.2.1,(z9.2.2.2.2.2.2.2.2.2.1,(z9.2.2.2.2.2.2.2.2.2.2.1,(z9.2.2.2.2.2.2.2.2.2.2.2.1,(z9.2.2.2.2.2.2.2.2.2.2.2.2.1,(z9.2.2.2.2.2.2.2.2.2.2.2.2.2.1,())))))))))))))))))
    fun k10=>W.idx z7.2.2.2.2.2.2.2.2.2.2.2.2.2.2.1 z7.1 fun x11=>W.nth z7.2.2.2.2.2.2.2.2.2.2.2.2.2.2.1 (Int.toNat z7.1) fun x12=>W.call (zff (z7.2.1,(z7.2.2.1,(z7.2.2.2.1,(z7.2.2.2.2.1,(z7.2.2.2.2.2.1,(z7.2.2.2.2.2.2.1,(z7.2.2.2.2.2.2.2.1,(z7.2.2.2.2.2.2.2.2.1,(z7.2.2.2.2.2.2.2.2.2.1,(z7.2.2.2.2.2.2.2.2.2.2.1,(z7.2.2.2.2.2.2.2.2.2.2.2.1,(z7.2.2.2.2.2.2.2.2.2.2.2.2.1,())))))))))))) x12) fun v13=>
    W.join (fun (z14:List ((Int×Int×Unit)×Int×List (Int×Int×Int×Unit)×Unit)×List (Int×Int×Unit)×Unit)=>W.call (zel (z7.2.1,(z7.2.2.1,(z7.2.2.2.1,(z7.2.2.2.2.1,(z7.2.2.2.2.2.1,(z7.2.2.2.2.2.2.1,(z7.2.2.2.2.2.2.2.1,(z7.2.2.2.2.2.2.2.2.1,(z7.2.2.2.2.2.2.2.2.2.1,(z7.2.2.2.2.2.2.2.2.2.2.1,(z7.2.2.2.2.2.2.2.2.2.2.2.1,(z7.2.2.2.2.2.2.2.2.2.2.2.2.1,())))))))))))) (v13.1,(v13.2.1,(v13.2.2.1,())))) fun v15=>
     W.cnd (v15.2.1 != 0) (some ((0,([],([],([],([],([],([],([],([],([],([],([],())))))))))))),([],v15.2)))
     (W.room (z14.1.length+((v13.1,(v13.2.1,(v13.2.2.1,())))::[]).length) 48 ((k10 (v15.1.1,(v15.1.2.1,(v15.1.2.2.1,(v15.1.2.2.2.1,(v15.1.2.2.2.2.1,(v15.1.2.2.2.2.2.1,(v15.1.2.2.2.2.2.2.1,(v15.1.2.2.2.2.2.2.2.1,(v15.1.2.2.2.2.2.2.2.2.1,(v15.1.2.2.2.2.2.2.2.2.2.1,(v15.1.2.2.2.2.2.2.2.2.2.2.1,(v15.1.2.2.2.2.2.2.2.2.2.2.2.1,((z14.1++((v13.1,(v13.2.1,(v13.2.2.1,())))::[])),(z14.2.1,()))))))))))))))))))
     fun k16=>
     W.cnd (v13.2.1==0) (
     W.cnd ((v13.2.2.1.length:Int)==0) ((k10 (z7.2.1,(z7.2.2.1,(z7.2.2.2.1,(z7.2.2.2.2.1,(z7.2.2.2.2.2.1,(z7.2.2.2.2.2.2.1,(z7.2.2.2.2.2.2.2.1,(z7.2.2.2.2.2.2.2.2.1,(z7.2.2.2.2.2.2.2.2.2.1,(z7.2.2.2.2.2.2.2.2.2.2.1,(z7.2.2.2.2.2.2.2.2.2.2.2.1,(z7.2.2.2.2.2.2.2.2.2.2.2.2.1,(z7.2.2.2.2.2.2.2.2.2.2.2.2.2.1,(z7.2.2.2.2.2.2.2.2.2.2.2.2.2.2.1,()))))))))))))))))
      ((k16 (z7.2.2.2.2.2.2.2.2.2.2.2.2.2.1,(z7.2.2.2.2.2.2.2.2.2.2.2.2.2.2.1,())))))
     ((k16 (z7.2.2.2.2.2.2.2.2.2.2.2.2.2.1,(z7.2.2.2.2.2.2.2.2.2.2.2.2.2.2.1,())))))
    ((again4 ((IntKind.i64.wrap (z3.1+1)),(z7.2.1,(z7.2.2.1,(z7.2.2.2.1,(z7.2.2.2.2.1,(z7.2.2.2.2.2.1,(z7.2.2.2.2.2.2.1,(z7.2.2.2.2.2.2.2.1,(z7.2.2.2.2.2.2.2.2.1,(z7.2.2.2.2.2.2.2.2.2.1,(z7.2.2.2.2.2.2.2.2.2.2.1,(z7.2.2.2.2.2.2.2.2.2.2.2.1,(z7.2.2.2.2.2.2.2.2.2.2.2.2.1,(z7.2.2.2.2.2.2.2.2.2.2.2.2.2.1,())))))))))))))))))
   (0,(z3.2.1,(z3.2.2.1,(z3.2.2.2.1,(z3.2.2.2.2.1,(z3.2.2.2.2.2.1,(z3.2.2.2.2.2.2.1,(z3.2.2.2.2.2.2.2.1,(z3.2.2.2.2.2.2.2.2.1,(z3.2.2.2.2.2.2.2.2.2.1,(z3.2.2.2.2.2.2.2.2.2.2.1,(z3.2.2.2.2.2.2.2.2.2.2.2.1,(z3.2.2.2.2.2.2.2.2.2.2.2.2.1,(z3.2.2.2.2.2.2.2.2.2.2.2.2.2.1,(v6,()))))))))))))))))
   (some ((z3.2.1,(z3.2.2.1,(z3.2.2.2.1,(z3.2.2.2.2.1,(z3.2.2.2.2.2.1,(z3.2.2.2.2.2.2.1,(z3.2.2.2.2.2.2.2.1,(z3.2.2.2.2.2.2.2.2.1,(z3.2.2.2.2.2.2.2.2.2.1,(z3.2.2.2.2.2.2.2.2.2.2.1,(z3.2.2.2.2.2.2.2.2.2.2.2.1,(z3.2.2.2.2.2.2.2.2.2.2.2.2.1,())))))))))))),(z3.2.2.2.2.2.2.2.2.2.2.2.2.2.1,(0,())))))
  (0,(s.1,(s.2.1,(s.2.2.1,(s.2.2.2.1,(s.2.2.2.2.1,(s.2.2.2.2.2.1,(s.2.2.2.2.2.2.1,(s.2.2.2.2.2.2.2.1,(s.2.2.2.2.2.2.2.2.1,(s.2.2.2.2.2.2.2.2.2.1,(s.2.2.2.2.2.2.2.2.2.2.1,(s.2.2.2.2.2.2.2.2.2.2.2.1,([],()))))))))))))))))
 fun k17=>W.call (zlm s.2.2.2.2.2.2.2.2.2.2.1) fun v18=>
 W.cnd (!v18) ((k17 (true,())))
  (W.call (zoe s.2.2.2.2.2.2.2.2.2.2.2.1) fun v19=>(k17 ((!v19),())))
noncomputable def zfy(s:zan)(id:Int):Option (zan×(List zaq)×Int×Unit):=zjd stdW s id
noncomputable def zqo:ES:=⟨(.pair tAState (.pair (.int .i64) .unit)),(.pair (.v tAState) (.pair (.own 38 tAReturn) (.pair (.v (.int .i64)) .unit))),fun x=>zfy x.1 x.2.1⟩
theorem zxj:ECok Tryz.prog 9 (.es zqo)   := es_ok (A:=(.pair tAState (.pair (.int .i64) .unit))) (Q:=(.pair (.v tAState) (.pair (.own 38 tAReturn) (.pair (.v (.int .i64)) .unit)))) (fun W x=>zjd W x.1 x.2.1) [(51,.es zwe),(52,.es ycu),(53,.es ynj),(54,.es zyn),(13,.es yas),(55,.es zqc)] ⟨ybs,ygj,acct_Of_ok,yke,yfk,yar,trivial⟩ [(15,[0],(ofL [(0,true),(1,true),(2,true),(3,false),(4,false),(5,false),(6,true)]))] [(12,⟨[(7,.row 2),(36,.row 3)],[],[.dead,.dead,.own 38 tAReturn,.own 35 tAUnit]⟩),(16,⟨[(7,.row 2),(36,.row 3)],[(0,[.t (.int .i64),.t (.slc tAMember),.t (.slc tAInst),.t (.slc tAAsset),.t (.slc tAAccount),.t (.slc tAChoice),.t (.slc tAGroup),.t (.slc tAGive),.t (.slc tAPos),.t (.slc tAPos),.t (.slc tAFlow),.t (.slc tAHold)])],[.dead,.dead,.own 38 tAReturn,.own 35 tAUnit]⟩),(500024,⟨[(24,.t .bool)],[],[]⟩)] [(5,⟨[(7,.row 2),(31,.t (.int .i64))],[(0,[.t (.int .i64),.t (.slc tAMember),.t (.slc tAInst),.t (.slc tAAsset),.t (.slc tAAccount),.t (.slc tAChoice),.t (.slc tAGroup),.t (.slc tAGive),.t (.slc tAPos),.t (.slc tAPos),.t (.slc tAFlow),.t (.slc tAHold)])],[.dead,.dead,.own 38 tAReturn]⟩),(8,⟨[(7,.row 2),(36,.row 3),(38,.t (.int .i64))],[(0,[.t (.int .i64),.t (.slc tAMember),.t (.slc tAInst),.t (.slc tAAsset),.t (.slc tAAccount),.t (.slc tAChoice),.t (.slc tAGroup),.t (.slc tAGive),.t (.slc tAPos),.t (.slc tAPos),.t (.slc tAFlow),.t (.slc tAHold)])],[.dead,.dead,.own 38 tAReturn,.own 35 tAUnit]⟩)] Tryz.func9 rfl (by decide +kernel) rfl rfl (fun W x=>by kernel_rfl)
noncomputable def zhv(W:Wd)(l:List zac)(id:Int):Option (zac×Bool×Unit):=
 W.loop (fun (z1:Int×Unit) again2=>
 W.cnd (decide (z1.1<(l.length:Int))) (W.idx l z1.1 fun x3=>
  W.cnd (x3.1==id) (some (x3,(true,())))
  ((again2 ((IntKind.i64.wrap (z1.1+1)),()))))
  (some ((0,(0,(0,()))),(false,()))))
 (0,())
noncomputable def zjz(l:List zac)(id:Int):Option (zac×Bool×Unit):=zhv stdW l id
noncomputable def zyl:ES:=⟨(.pair (.slc tAAsset) (.pair (.int .i64) .unit)),(.pair (.v tAAsset) (.pair (.v .bool) .unit)),fun x=>zjz x.1 x.2.1⟩
theorem yjz:ECok Tryz.prog 184 (.es zyl)   := es_ok (A:=(.pair (.slc tAAsset) (.pair (.int .i64) .unit))) (Q:=(.pair (.v tAAsset) (.pair (.v .bool) .unit))) (fun W x=>zhv W x.1 x.2.1) [] trivial [] [] [(2,⟨[(10,.t (.int .i64))],[],[]⟩)] Tryz.func184 rfl (by decide +kernel) rfl rfl (fun W x=>by kernel_rfl)
noncomputable def zex(W:Wd)(p:Int):Option Bool:=
 W.cnd (decide (0≤p)) (some (decide (p≤2147483647)))
 (some false)
noncomputable def zgl(p:Int):Option Bool:=zex stdW p
noncomputable def zqh:ES:=⟨(.pair (.int .i64) .unit),(.v .bool),fun x=>zgl x.1⟩
theorem yds:ECok Tryz.prog 249 (.es zqh)   := es_ok (A:=(.pair (.int .i64) .unit)) (Q:=(.v .bool)) (fun W x=>zex W x.1) [] trivial [] [] [] Tryz.func249 rfl (by decide +kernel) rfl rfl (fun W x=>by kernel_rfl)
noncomputable def zgn(W:Wd)(a:zac):Option Int:=
 W.join (fun (z1:Bool×Unit)=>
 W.cnd z1.1 (some 2)
  (some 0))
 fun k2=>
 W.cnd (decide (a.1<1)) ((k2 (true,())))
  (
  W.cnd (decide (4<a.1)) ((k2 (true,())))
  (W.call (zgl a.2.1) fun v3=>
  W.cnd (!v3) ((k2 (true,())))
   (
   W.cnd (decide (a.2.2.1<0)) ((k2 (true,())))
   ((k2 ((decide (10000<a.2.2.1)),()))))))
noncomputable def zhw(a:zac):Option Int:=zgn stdW a
noncomputable def zuu:ES:=⟨(.pair tAAsset .unit),(.v (.int .i64)),fun x=>zhw x.1⟩
theorem yer:ECok Tryz.prog 185 (.es zuu)   := es_ok (A:=(.pair tAAsset .unit)) (Q:=(.v (.int .i64))) (fun W x=>zgn W x.1) [(249,.es zqh)] ⟨yds,trivial⟩ [] [(500026,⟨[(26,.t .bool)],[],[]⟩)] [] Tryz.func185 rfl (by decide +kernel) rfl rfl (fun W x=>by kernel_rfl)
noncomputable def zmo(W:Wd)(w:zaf):Option Bool:=some (decide (w.1<0))
noncomputable def zbn(w:zaf):Option Bool:=zmo stdW w
noncomputable def zfa:ES:=⟨(.pair tWideWide .unit),(.v .bool),fun x=>zbn x.1⟩
theorem zic:ECok Tryz.prog 196 (.es zfa)   := es_ok (A:=(.pair tWideWide .unit)) (Q:=(.v .bool)) (fun W x=>zmo W x.1) [] trivial [] [] [] Tryz.func196 rfl (by decide +kernel) rfl rfl (fun W x=>by kernel_rfl)
noncomputable def zdm(W:Wd)(w:zaf):Option zhz:=W.call (zbn w) fun v1=>
 W.cnd (!v1) (some ((IntKind.u64.wrap w.1),w.2))
 (W.call (sub64 0 w.2.1 0) fun v2=>W.call (sub64 0 (IntKind.u64.wrap w.1) v2.2.1) fun v3=>some (v3.1,(v2.1,())))
noncomputable def zdi(w:zaf):Option zhz:=zdm stdW w
noncomputable def zmn:ES:=⟨(.pair tWideWide .unit),(.v tWideSize),fun x=>zdi x.1⟩
theorem zvi:ECok Tryz.prog 192 (.es zmn)   := es_ok (A:=(.pair tWideWide .unit)) (Q:=(.v tWideSize)) (fun W x=>zdm W x.1) [(196,.es zfa),(251,.es ynu)] ⟨zic,ypx,trivial⟩ [] [] [] Tryz.func192 rfl (by decide +kernel) rfl rfl (fun W x=>by kernel_rfl)
noncomputable def zdh(W:Wd)(x:Int)(y:Int):Option (Int×Int×Unit):=W.nn 32 (W.nn 32 (W.nn 32 (W.nn 32 (W.nn 32 (some ((IntKind.u64.wrap ((IntKind.u64.wrap ((IntKind.u64.wrap ((Int.fdiv x (2 ^ (Min.min (Int.toNat 32) (Go.IntKind.bits Go.IntKind.u64))))*(Int.fdiv y (2 ^ (Min.min (Int.toNat 32) (Go.IntKind.bits Go.IntKind.u64))))))+(Int.fdiv (IntKind.u64.wrap ((IntKind.u64.wrap ((Int.fdiv x (2 ^ (Min.min (Int.toNat 32) (Go.IntKind.bits Go.IntKind.u64))))*(Go.bits Go.BinOp.and Go.IntKind.u64 y 4294967295)))+(Int.fdiv (IntKind.u64.wrap ((Go.bits Go.BinOp.and Go.IntKind.u64 x 4294967295)*(Go.bits Go.BinOp.and Go.IntKind.u64 y 4294967295))) (2 ^ (Min.min (Int.toNat 32) (Go.IntKind.bits Go.IntKind.u64)))))) (2 ^ (Min.min (Int.toNat 32) (Go.IntKind.bits Go.IntKind.u64))))))+(Int.fdiv (IntKind.u64.wrap ((Go.bits Go.BinOp.and Go.IntKind.u64 (IntKind.u64.wrap ((IntKind.u64.wrap ((Int.fdiv x (2 ^ (Min.min (Int.toNat 32) (Go.IntKind.bits Go.IntKind.u64))))*(Go.bits Go.BinOp.and Go.IntKind.u64 y 4294967295)))+(Int.fdiv (IntKind.u64.wrap ((Go.bits Go.BinOp.and Go.IntKind.u64 x 4294967295)*(Go.bits Go.BinOp.and Go.IntKind.u64 y 4294967295))) (2 ^ (Min.min (Int.toNat 32) (Go.IntKind.bits Go.IntKind.u64)))))) 4294967295)+(IntKind.u64.wrap ((Go.bits Go.BinOp.and Go.IntKind.u64 x 4294967295)*(Int.fdiv y (2 ^ (Min.min (Int.toNat 32) (Go.IntKind.bits Go.IntKind.u64)))))))) (2 ^ (Min.min (Int.toNat 32) (Go.IntKind.bits Go.IntKind.u64)))))),((IntKind.u64.wrap (x*y)),())))))))
noncomputable def zco(x:Int)(y:Int):Option (Int×Int×Unit):=zdh stdW x y
noncomputable def zjn:ES:=⟨(.pair (.int .u64) (.pair (.int .u64) .unit)),(.pair (.v (.int .u64)) (.pair (.v (.int .u64)) .unit)),fun x=>zco x.1 x.2.1⟩
theorem zte:ECok Tryz.prog 193 (.es zjn)   := es_ok (A:=(.pair (.int .u64) (.pair (.int .u64) .unit))) (Q:=(.pair (.v (.int .u64)) (.pair (.v (.int .u64)) .unit))) (fun W x=>zdh W x.1 x.2.1) [] trivial [] [] [] Tryz.func193 rfl (by decide +kernel) rfl rfl (fun W x=>by kernel_rfl)
noncomputable def zez(W:Wd)(s:zhz)(minus:Bool):Option (zaf×Bool×Unit):=
 W.cnd (!minus) (some (((IntKind.i64.wrap s.1),s.2),((decide (s.1<9223372036854775808)),())))
 (W.call (sub64 0 s.2.1 0) fun v1=>W.call (sub64 0 s.1 v1.2.1) fun v2=>
 W.cnd (decide (s.1<9223372036854775808)) (some (((IntKind.i64.wrap v2.1),(v1.1,())),(true,())))
  (
  W.cnd (s.1==9223372036854775808) (some (((IntKind.i64.wrap v2.1),(v1.1,())),((s.2.1==0),())))
  (some (((IntKind.i64.wrap v2.1),(v1.1,())),(false,())))))
noncomputable def zbh(s:zhz)(minus:Bool):Option (zaf×Bool×Unit):=zez stdW s minus
noncomputable def zib:ES:=⟨(.pair tWideSize (.pair .bool .unit)),(.pair (.v tWideWide) (.pair (.v .bool) .unit)),fun x=>zbh x.1 x.2.1⟩
theorem zqj:ECok Tryz.prog 195 (.es zib)   := es_ok (A:=(.pair tWideSize (.pair .bool .unit))) (Q:=(.pair (.v tWideWide) (.pair (.v .bool) .unit))) (fun W x=>zez W x.1 x.2.1) [(251,.es ynu)] ⟨ypx,trivial⟩ [(2,[1],(ofL [(0,true),(1,true),(2,true),(3,true),(4,true),(5,true),(6,true),(7,true),(8,true),(9,false),(10,true)])),(5,[1],(ofL [(0,true),(1,true),(2,true),(3,true),(4,true),(5,true),(6,true),(7,true),(8,true),(9,true),(10,true),(11,true),(12,true),(13,true),(14,true),(15,true),(16,true),(17,false),(18,true)]))] [] [] Tryz.func195 rfl (by decide +kernel) rfl rfl (fun W x=>by kernel_rfl)
noncomputable def zmt(W:Wd)(a:Int)(b:Int):Option zaf:=W.call (zms a) fun v1=>W.call (zms b) fun v2=>W.call (zdi v1) fun v3=>W.call (zdi v2) fun v4=>W.call (zco v3.2.1 v4.2.1) fun v5=>W.both (W.call (zbn v1) fun v6=>W.both (W.call (zbn v2) fun v7=>W.both (W.call (zbh v5 (Go.Vc.notIf true (v6==v7))) fun v8=>some v8.1) (W.call (zbh v5 (Go.Vc.notIf true (v6==v7))) fun v9=>some v9.1)) (W.call (zbn v2) fun v10=>W.call (zbh v5 (Go.Vc.notIf true (v6==v10))) fun v11=>some v11.1)) (W.call (zbn v1) fun v12=>W.call (zbn v2) fun v13=>W.call (zbh v5 (Go.Vc.notIf true (v12==v13))) fun v14=>some v14.1)
noncomputable def zke(a:Int)(b:Int):Option zaf:=zmt stdW a b
noncomputable def yew:ES:=⟨(.pair (.int .i64) (.pair (.int .i64) .unit)),(.v tWideWide),fun x=>zke x.1 x.2.1⟩
theorem ynr:ECok Tryz.prog 131 (.es yew)   := es_ok (A:=(.pair (.int .i64) (.pair (.int .i64) .unit))) (Q:=(.v tWideWide)) (fun W x=>zmt W x.1 x.2.1) [(119,.es zrp),(192,.es zmn),(193,.es zjn),(196,.es zfa),(195,.es zib)] ⟨zvj,zvi,zte,zic,zqj,trivial⟩ [(2,[],(ofL [(0,true),(3,true),(1,false),(2,true),(4,false),(5,true),(6,false),(7,true),(8,true),(9,true),(10,true),(11,true)])),(3,[],(.rd 0 (.rd 1 (.rd 2 (.rd 3 (.rd 5 (.two 4 12 (.two 6 12 (.rd 7 (.two 8 12 (ofL [(9,true),(10,true),(11,true),(12,false),(13,false),(14,true)]) (ofL [(8,false),(9,true),(10,true),(11,true),(13,false),(14,true)]))) (ofL [(6,false),(7,true),(8,false),(9,true),(10,true),(11,true),(13,false),(14,true)])) (ofL [(4,false),(6,false),(7,true),(8,false),(9,true),(10,true),(11,true),(13,false),(14,true)]))))))))] [] [] Tryz.func131 rfl (by decide +kernel) rfl rfl (fun W x=>by kernel_rfl)
noncomputable def zgh(W:Wd)(l:List Int):Option (Int×Int×Unit):=
 W.loop (fun (z1:Int×Int×Unit) again2=>
 W.cnd (decide (z1.2.1<(l.length:Int))) (W.idx l z1.2.1 fun x3=>W.call (zke z1.1 x3) fun v4=>W.call (zor v4) fun v5=>
  W.cnd (v5.2.1 != 0) (some (0,v5.2))
  ((again2 (v5.1,((IntKind.i64.wrap (z1.2.1+1)),())))))
  (some (z1.1,(0,()))))
 (1,(0,()))
noncomputable def zho(l:List Int):Option (Int×Int×Unit):=zgh stdW l
noncomputable def zue:ES:=⟨(.pair (.slc (.int .i64)) .unit),(.pair (.v (.int .i64)) (.pair (.v (.int .i64)) .unit)),fun x=>zho x.1⟩
theorem yem:ECok Tryz.prog 186 (.es zue)   := es_ok (A:=(.pair (.slc (.int .i64)) .unit)) (Q:=(.pair (.v (.int .i64)) (.pair (.v (.int .i64)) .unit))) (fun W x=>zgh W x.1) [(131,.es yew),(132,.es zvl)] ⟨ynr,yac,trivial⟩ [] [] [(3,⟨[(4,.t (.int .i64)),(11,.t (.int .i64))],[],[]⟩)] Tryz.func186 rfl (by decide +kernel) rfl rfl (fun W x=>by kernel_rfl)
noncomputable def zgm(W:Wd)(a:zac)(qty:Int):Option (Int×Int×Unit):=W.call (zhw a) fun v1=>
 W.cnd (v1 != 0) (some (0,(v1,())))
 (W.call (zho (qty::(a.2.1::[]))) fun v2=>some v2)
noncomputable def zhu(a:zac)(qty:Int):Option (Int×Int×Unit):=zgm stdW a qty
noncomputable def zus:ES:=⟨(.pair tAAsset (.pair (.int .i64) .unit)),(.pair (.v (.int .i64)) (.pair (.v (.int .i64)) .unit)),fun x=>zhu x.1 x.2.1⟩
theorem yeq:ECok Tryz.prog 118 (.es zus)   := es_ok (A:=(.pair tAAsset (.pair (.int .i64) .unit))) (Q:=(.pair (.v (.int .i64)) (.pair (.v (.int .i64)) .unit))) (fun W x=>zgm W x.1 x.2.1) [(185,.es zuu),(186,.es zue)] ⟨yer,yem,trivial⟩ [] [] [] Tryz.func118 rfl (by decide +kernel) rfl rfl (fun W x=>by kernel_rfl)
noncomputable def zbk(W:Wd)(as_:List zac)(l:List zac):Option (((List Int)×Int×Unit)×(Unit)):=W.call (znw l) fun v1=>
 W.cnd (!v1) (some (([],(3,())),()))
 (
 W.loop (fun (z2:Int×List (Int)×Unit) again3=>
  W.cnd (decide (z2.1<(l.length:Int))) (W.idx l z2.1 fun x4=>W.call (zjz as_ x4.1) fun v5=>
  W.cnd (!v5.2.1) (some (([],(11,())),()))
   (W.call (zhu v5.1 x4.2.2.1) fun v6=>
   W.cnd (v6.2.1 != 0) (some (([],v6.2),()))
   (W.room (z2.2.1.length+(v6.1::[]).length) 8 ((again3 ((IntKind.i64.wrap (z2.1+1)),((z2.2.1++(v6.1::[])),())))))))
  (some ((z2.2.1,(0,())),())))
  (0,([],())))
noncomputable def zbl(as_:List zac)(l:List zac):Option (((List Int)×Int×Unit)×(Unit)):=zbk stdW as_ l
noncomputable def zdu:LS:=⟨[.v (.slc tAAsset),.v (.slc tAAsset),.fn 118 0],[],[],(.q (.pair (.own 2 (.int .i64)) (.pair (.v (.int .i64)) .unit))),fun x=>zbl x.1 x.2.1⟩
theorem zhq:ECok Tryz.prog 117 (.ls zdu)   := ls_ok (A:=[.v (.slc tAAsset),.v (.slc tAAsset),.fn 118 0]) (B:=[]) (E:=[]) (Q:=(.q (.pair (.own 2 (.int .i64)) (.pair (.v (.int .i64)) .unit)))) (fun W x=>zbk W x.1 x.2.1) [(108,.es ztf),(184,.es zyl),(118,.es zus)] ⟨zwl,yjz,yeq,trivial⟩ [] [] [(5,⟨[(8,.row 1),(20,.t (.int .i64))],[],[.dead,.own 2 (.int .i64)]⟩)] Tryz.func117 rfl (by decide +kernel) rfl rfl rfl rfl rfl (fun W x=>by kernel_rfl)
noncomputable def zgj(W:Wd)(as_:List zac)(l:List zac):Option (Int×Int×Unit):=W.call (zbl as_ l) fun v1=>
 W.cnd (v1.1.2.1 != 0) (some (0,v1.1.2))
 (W.call (zog v1.1.1) fun v2=>some v2)
noncomputable def zhr(as_:List zac)(l:List zac):Option (Int×Int×Unit):=zgj stdW as_ l
noncomputable def zul:ES:=⟨(.pair (.slc tAAsset) (.pair (.slc tAAsset) .unit)),(.pair (.v (.int .i64)) (.pair (.v (.int .i64)) .unit)),fun x=>zhr x.1 x.2.1⟩
theorem yen:ECok Tryz.prog 60 (.es zul)   := es_ok (A:=(.pair (.slc tAAsset) (.pair (.slc tAAsset) .unit))) (Q:=(.pair (.v (.int .i64)) (.pair (.v (.int .i64)) .unit))) (fun W x=>zgj W x.1 x.2.1) [(117,.ls zdu),(61,.es zub)] ⟨zhq,zxb,trivial⟩ [] [] [] Tryz.func60 rfl (by decide +kernel) rfl rfl (fun W x=>by kernel_rfl)
noncomputable def zhe(W:Wd)(as_:List zac)(r:zaq):Option (Int×Int×Unit):=W.call (zhr as_ r.2.2.1) fun v1=>
 W.cnd (v1.2.1 != 0) (some (0,v1.2))
 (W.call (zog (v1.1::(r.2.1::[]))) fun v2=>some v2)
noncomputable def zfe(as_:List zac)(r:zaq):Option (Int×Int×Unit):=zhe stdW as_ r
noncomputable def zne:ES:=⟨(.pair (.slc tAAsset) (.pair tAReturn .unit)),(.pair (.v (.int .i64)) (.pair (.v (.int .i64)) .unit)),fun x=>zfe x.1 x.2.1⟩
theorem zsc:ECok Tryz.prog 11 (.es zne)   := es_ok (A:=(.pair (.slc tAAsset) (.pair tAReturn .unit))) (Q:=(.pair (.v (.int .i64)) (.pair (.v (.int .i64)) .unit))) (fun W x=>zhe W x.1 x.2.1) [(60,.es zul),(61,.es zub)] ⟨yen,zxb,trivial⟩ [] [] [] Tryz.func11 rfl (by decide +kernel) rfl rfl (fun W x=>by kernel_rfl)
noncomputable def zny(W:Wd):Option Bool:=W.call (zfy (0,([],([],([],(((1,(1,(1,([],()))))::[]),([],([],([],([],([],((((1,(0,())),(5,()))::[]),((((1,(0,())),(((1,(0,(4,())))::[]),()))::[]),())))))))))))) 1) fun v1=>
 W.join (fun (z2:Bool×List ((Int×Int×Unit)×Int×List (Int×Int×Int×Unit)×Unit)×Unit)=>
 W.cnd z2.1 (some false)
  (W.idx z2.2.1 0 fun x3=>W.nth z2.2.1 (Int.toNat 0) fun x4=>W.call (zfe ((1,(3,(0,())))::[]) (x4.1,(x4.2.1,(x4.2.2.1,())))) fun v5=>
  W.cnd (v5.1==17) (some (v5.2.1==0))
  (some false)))
 fun k6=>
 W.cnd (v1.2.2.1 != 0) ((k6 (true,(v1.2.1,()))))
  (
  W.cnd ((v1.2.1.length:Int) != 1) ((k6 (true,(v1.2.1,()))))
  ((k6 (((IntKind.i64.wrap ((v1.1.2.2.2.2.2.2.2.2.2.2.1.length:Int)+(v1.1.2.2.2.2.2.2.2.2.2.2.2.1.length:Int))) != 0),(v1.2.1,())))))
noncomputable def zbi:Option Bool:=zny stdW
noncomputable def ztm:ES:=⟨.unit,(.v .bool),fun x=>zbi ⟩
theorem yeh:ECok Tryz.prog 17 (.es ztm)   := es_ok (A:=.unit) (Q:=(.v .bool)) (fun W x=>zny W ) [(9,.es zqo),(11,.es zne)] ⟨zxj,zsc,trivial⟩ [] [(500042,⟨[(4,.row 4),(42,.t .bool)],[],[.dead,.dead,.dead,.dead,.own 38 tAReturn]⟩)] [] Tryz.func17 rfl (by decide +kernel) rfl rfl (fun W x=>by kernel_rfl)
noncomputable def yfq(W:Wd)(u:Int):Option zab:=
 W.loop (fun (z1:Int×List (Int)×Unit) again2=>
 W.cnd (decide (0<z1.1)) (W.nz 2 (W.room (z1.2.1.length+((IntKind.u8.wrap (Int.tmod z1.1 2))::[]).length) 1 (W.nz 2 ((again2 ((IntKind.u64.wrap (Int.tdiv z1.1 2)),((z1.2.1++((IntKind.u8.wrap (Int.tmod z1.1 2))::[])),())))))))
  (some (false,(z1.2.1,()))))
 (u,([],()))
noncomputable def zet(u:Int):Option zab:=yfq stdW u
noncomputable def zlh:ES:=⟨(.pair (.int .u64) .unit),(.v tNovationref01Big),fun x=>zet x.1⟩
theorem znj:ECok Tryz.prog 73 (.es zlh)   := es_ok (A:=(.pair (.int .u64) .unit)) (Q:=(.v tNovationref01Big)) (fun W x=>yfq W x.1) [] trivial [] [] [(2,⟨[(0,.t (.int .u64)),(3,.row 1)],[],[.dead,.own 5 (.int .u8)]⟩)] Tryz.func73 rfl (by decide +kernel) rfl rfl (fun W x=>by kernel_rfl)
noncomputable def zlf(W:Wd)(a:List Int)(b:List Int):Option (List Int):=
 W.loop (fun (z1:Int×Int×List (Int)×Unit) again2=>
 W.join (fun (z3:List (Int)×Unit)=>
  W.join (fun (z4:Int×List (Int)×Unit)=>
  W.join (fun (z5:Int×List (Int)×Unit)=>W.nz 2 (W.room (z5.2.1.length+((Int.tmod z5.1 2)::[]).length) 1 (W.nz 2 ((again2 ((IntKind.u8.wrap (Int.tdiv z5.1 2)),((IntKind.i64.wrap (z1.2.1+1)),((z5.2.1++((Int.tmod z5.1 2)::[])),()))))))))
   fun k6=>
   W.cnd (decide (z1.2.1<(b.length:Int))) (W.idx b z1.2.1 fun x7=>(k6 ((IntKind.u8.wrap (z4.1+x7)),(z4.2.1,()))))
   ((k6 (z4.1,(z4.2.1,())))))
  fun k8=>
  W.cnd (decide (z1.2.1<(a.length:Int))) (W.idx a z1.2.1 fun x9=>(k8 ((IntKind.u8.wrap (z1.1+x9)),(z3.1,()))))
   ((k8 (z1.1,(z3.1,())))))
  fun k10=>
  W.cnd (decide (z1.2.1<(a.length:Int))) ((k10 (z1.2.2.1,())))
  (
  W.cnd (decide (z1.2.1<(b.length:Int))) ((k10 (z1.2.2.1,())))
   (
   W.join (fun (z11:List (Int)×Unit)=>some z11.1)
   fun k12=>
   W.cnd (decide (0<z1.1)) (W.room (z1.2.2.1.length+(z1.1::[]).length) 1 ((k12 ((z1.2.2.1++(z1.1::[])),()))))
    ((k12 (z1.2.2.1,()))))))
 (0,(0,([],())))
noncomputable def zem(a:List Int)(b:List Int):Option (List Int):=zlf stdW a b
noncomputable def zik:ES:=⟨(.pair (.slc (.int .u8)) (.pair (.slc (.int .u8)) .unit)),(.own 5 (.int .u8)),fun x=>zem x.1 x.2.1⟩
theorem zle:ECok Tryz.prog 70 (.es zik)   := es_ok (A:=(.pair (.slc (.int .u8)) (.pair (.slc (.int .u8)) .unit))) (Q:=(.own 5 (.int .u8))) (fun W x=>zlf W x.1 x.2.1) [] trivial [] [(6,⟨[(5,.row 1)],[],[.dead,.own 5 (.int .u8)]⟩),(8,⟨[(5,.row 1),(6,.t (.int .u8))],[],[.dead,.own 5 (.int .u8)]⟩),(10,⟨[(5,.row 1),(6,.t (.int .u8))],[],[.dead,.own 5 (.int .u8)]⟩),(14,⟨[(5,.row 1)],[],[.dead,.own 5 (.int .u8)]⟩)] [(4,⟨[(5,.row 1),(6,.t (.int .u8)),(7,.t (.int .i64))],[],[.dead,.own 5 (.int .u8)]⟩)] Tryz.func70 rfl (by decide +kernel) rfl rfl (fun W x=>by kernel_rfl)
noncomputable def zsy(W:Wd)(n:Int):Option zab:=
 W.cnd (decide (0≤n)) (W.call (zet (IntKind.u64.wrap n)) fun v1=>some (v1.1,(v1.2.1,())))
 (W.call (zet (IntKind.u64.wrap (IntKind.i64.wrap (0 - (IntKind.i64.wrap (n+1)))))) fun v2=>W.call (zem v2.2.1 (1::[])) fun v3=>some (true,(v3,())))
noncomputable def zdc(n:Int):Option zab:=zsy stdW n
noncomputable def zgx:ES:=⟨(.pair (.int .i64) .unit),(.v tNovationref01Big),fun x=>zdc x.1⟩
theorem zhf:ECok Tryz.prog 20 (.es zgx)   := es_ok (A:=(.pair (.int .i64) .unit)) (Q:=(.v tNovationref01Big)) (fun W x=>zsy W x.1) [(73,.es zlh),(70,.es zik)] ⟨znj,zle,trivial⟩ [] [] [] Tryz.func20 rfl (by decide +kernel) rfl rfl (fun W x=>by kernel_rfl)
noncomputable def ybg(W:Wd)(neg:Bool)(b:List Int):Option zab:=
 W.join (fun (z1:Int×Unit)=>
 W.cnd neg (W.bnd z1.1 b.length fun h2=>some ((decide (0<z1.1)),((b.take h2),())))
  (W.bnd z1.1 b.length fun h3=>some (false,((b.take h3),()))))
 fun k4=>
 W.loop (fun (z5:Int×Unit) again6=>
  W.cnd (decide (0<z5.1)) (W.idx b (IntKind.i64.wrap (z5.1 - 1)) fun x7=>
  W.cnd (x7==0) ((again6 ((IntKind.i64.wrap (z5.1 - 1)),())))
   ((k4 z5)))
  ((k4 z5)))
  ((b.length:Int),())
noncomputable def zdt(neg:Bool)(b:List Int):Option zab:=ybg stdW neg b
noncomputable def zgb:ES:=⟨(.pair .bool (.pair (.slc (.int .u8)) .unit)),(.v tNovationref01Big),fun x=>zdt x.1 x.2.1⟩
theorem zgt:ECok Tryz.prog 69 (.es zgb)   := es_ok (A:=(.pair .bool (.pair (.slc (.int .u8)) .unit))) (Q:=(.v tNovationref01Big)) (fun W x=>ybg W x.1 x.2.1) [] trivial [] [(4,⟨[(5,.t (.int .i64))],[],[]⟩)] [(2,⟨[(5,.t (.int .i64))],[],[]⟩)] Tryz.func69 rfl (by decide +kernel) rfl rfl (fun W x=>by kernel_rfl)
noncomputable def ybh(W:Wd)(a:List Int)(b:List Int):Option Bool:=
 W.cnd ((a.length:Int) != (b.length:Int)) (some (decide ((a.length:Int)<(b.length:Int))))
 (
 W.loop (fun (z1:Int×Unit) again2=>
  W.cnd (decide (0<z1.1)) (W.idx a (IntKind.i64.wrap (z1.1 - 1)) fun x3=>W.idx b (IntKind.i64.wrap (z1.1 - 1)) fun x4=>
  W.cnd (x3 != x4) (W.idx a (IntKind.i64.wrap (z1.1 - 1)) fun x5=>W.idx b (IntKind.i64.wrap (z1.1 - 1)) fun x6=>some (decide (x5<x6)))
   ((again2 ((IntKind.i64.wrap (z1.1 - 1)),()))))
  (some false))
  ((a.length:Int),()))
noncomputable def zwc(a:List Int)(b:List Int):Option Bool:=ybh stdW a b
noncomputable def zxv:ES:=⟨(.pair (.slc (.int .u8)) (.pair (.slc (.int .u8)) .unit)),(.v .bool),fun x=>zwc x.1 x.2.1⟩
theorem yig:ECok Tryz.prog 71 (.es zxv)   := es_ok (A:=(.pair (.slc (.int .u8)) (.pair (.slc (.int .u8)) .unit))) (Q:=(.v .bool)) (fun W x=>ybh W x.1 x.2.1) [] trivial [(6,[],(ofL [(0,true),(1,true),(2,true),(3,true),(4,true),(5,true),(6,true),(7,true),(8,true),(9,true),(10,true)])),(7,[],(ofL [(0,true),(1,true),(2,true),(3,true),(4,true),(5,true),(6,true),(7,true),(8,true),(9,true),(10,true),(11,true)]))] [] [(4,⟨[(5,.t (.int .i64))],[],[]⟩)] Tryz.func71 rfl (by decide +kernel) rfl rfl (fun W x=>by kernel_rfl)
noncomputable def zxu(W:Wd)(a:List Int)(b:List Int):Option (List Int):=
 W.loop (fun (z1:Int×Int×List (Int)×Unit) again2=>
 W.cnd (decide (z1.2.1<(a.length:Int))) (
  W.join (fun (z3:Int×List (Int)×Unit)=>W.idx a z1.2.1 fun x4=>
  W.join (fun (z5:Int×List (Int)×Unit)=>W.nz 2 (W.room (z5.2.1.length+((Int.tmod (IntKind.u8.wrap ((IntKind.u8.wrap (x4+2)) - z3.1)) 2)::[]).length) 1 ((again2 (z5.1,((IntKind.i64.wrap (z1.2.1+1)),((z5.2.1++((Int.tmod (IntKind.u8.wrap ((IntKind.u8.wrap (x4+2)) - z3.1)) 2)::[])),())))))))
   fun k6=>
   W.cnd (decide ((IntKind.u8.wrap ((IntKind.u8.wrap (x4+2)) - z3.1))<2)) ((k6 (1,(z3.2.1,()))))
   ((k6 (0,(z3.2.1,())))))
  fun k7=>
  W.cnd (decide (z1.2.1<(b.length:Int))) (W.idx b z1.2.1 fun x8=>(k7 ((IntKind.u8.wrap (z1.1+x8)),(z1.2.2.1,()))))
   ((k7 (z1.1,(z1.2.2.1,())))))
  (some z1.2.2.1))
 (0,(0,([],())))
noncomputable def zlg(a:List Int)(b:List Int):Option (List Int):=zxu stdW a b
noncomputable def zsx:ES:=⟨(.pair (.slc (.int .u8)) (.pair (.slc (.int .u8)) .unit)),(.own 5 (.int .u8)),fun x=>zlg x.1 x.2.1⟩
theorem yeg:ECok Tryz.prog 72 (.es zsx)   := es_ok (A:=(.pair (.slc (.int .u8)) (.pair (.slc (.int .u8)) .unit))) (Q:=(.own 5 (.int .u8))) (fun W x=>zxu W x.1 x.2.1) [] trivial [] [(9,⟨[(5,.row 1),(8,.t (.int .u8))],[],[.dead,.own 5 (.int .u8)]⟩),(13,⟨[(5,.row 1),(6,.t (.int .u8))],[],[.dead,.own 5 (.int .u8)]⟩)] [(4,⟨[(5,.row 1),(6,.t (.int .u8)),(7,.t (.int .i64))],[],[.dead,.own 5 (.int .u8)]⟩)] Tryz.func72 rfl (by decide +kernel) rfl rfl (fun W x=>by kernel_rfl)
noncomputable def zpk(W:Wd)(a:zab)(b:zab):Option zab:=
 W.cnd (Go.Vc.notIf false (a.1==b.1)) (W.call (zem a.2.1 b.2.1) fun v1=>W.call (zdt a.1 v1) fun v2=>some (v2.1,(v2.2.1,())))
 (W.call (zwc a.2.1 b.2.1) fun v3=>
 W.cnd v3 (W.call (zlg b.2.1 a.2.1) fun v4=>W.call (zdt b.1 v4) fun v5=>some (v5.1,(v5.2.1,())))
  (W.call (zlg a.2.1 b.2.1) fun v6=>W.call (zdt a.1 v6) fun v7=>some (v7.1,(v7.2.1,()))))
noncomputable def zbq(a:zab)(b:zab):Option zab:=zpk stdW a b
noncomputable def zfh:ES:=⟨(.pair tNovationref01Big (.pair tNovationref01Big .unit)),(.v tNovationref01Big),fun x=>zbq x.1 x.2.1⟩
theorem zgd:ECok Tryz.prog 19 (.es zfh)   := es_ok (A:=(.pair tNovationref01Big (.pair tNovationref01Big .unit))) (Q:=(.v tNovationref01Big)) (fun W x=>zpk W x.1 x.2.1) [(70,.es zik),(69,.es zgb),(71,.es zxv),(72,.es zsx)] ⟨zle,zgt,yig,yeg,trivial⟩ [(2,[2],(ofL [(0,true),(1,true),(2,true),(3,true),(4,true),(5,true),(6,false),(7,false),(8,false)])),(4,[2],(ofL [(0,true),(1,true),(2,true),(3,true),(4,true),(5,true),(6,false),(7,false),(8,false)])),(5,[2],(ofL [(0,true),(1,true),(2,true),(3,true),(4,true),(5,true),(6,false),(7,false),(8,false)]))] [] [] Tryz.func19 rfl (by decide +kernel) rfl rfl (fun W x=>by kernel_rfl)
noncomputable def yfp(W:Wd)(a:zab):Option zab:=W.call (zdt (!a.1) a.2.1) fun v1=>some (v1.1,(v1.2.1,()))
noncomputable def ylh(a:zab):Option zab:=yfp stdW a
noncomputable def ybl:ES:=⟨(.pair tNovationref01Big .unit),(.v tNovationref01Big),fun x=>ylh x.1⟩
theorem ylg:ECok Tryz.prog 81 (.es ybl)   := es_ok (A:=(.pair tNovationref01Big .unit)) (Q:=(.v tNovationref01Big)) (fun W x=>yfp W x.1) [(69,.es zgb)] ⟨zgt,trivial⟩ [] [] [] Tryz.func81 rfl (by decide +kernel) rfl rfl (fun W x=>by kernel_rfl)
noncomputable def yfo(W:Wd)(a:zab)(b:zab):Option zab:=W.call (ylh (b.1,(b.2.1,()))) fun v1=>W.call (zbq (a.1,(a.2.1,())) (v1.1,(v1.2.1,()))) fun v2=>some (v2.1,(v2.2.1,()))
noncomputable def ybk(a:zab)(b:zab):Option zab:=yfo stdW a b
noncomputable def ybj:ES:=⟨(.pair tNovationref01Big (.pair tNovationref01Big .unit)),(.v tNovationref01Big),fun x=>ybk x.1 x.2.1⟩
theorem ylf:ECok Tryz.prog 74 (.es ybj)   := es_ok (A:=(.pair tNovationref01Big (.pair tNovationref01Big .unit))) (Q:=(.v tNovationref01Big)) (fun W x=>yfo W x.1 x.2.1) [(81,.es ybl),(19,.es zfh)] ⟨ylg,zgd,trivial⟩ [(1,[2],(ofL [(0,true),(1,true),(2,false),(3,false),(4,false)]))] [] [] Tryz.func74 rfl (by decide +kernel) rfl rfl (fun W x=>by kernel_rfl)
noncomputable def zig(W:Wd)(a:zad):Option (List AUnit'):=
 W.cnd (a.2.2.1==1) (W.room ((a.1,(0,()))::[]).length 16 (some ((a.1,(0,()))::[])))
 (
 W.loop (fun (z1:Int×List (Int×Int×Unit)×Unit) again2=>
  W.cnd (decide (z1.1<(a.2.2.2.1.length:Int))) (W.idx a.2.2.2.1 z1.1 fun x3=>W.room (z1.2.1.length+((a.1,(x3,()))::[]).length) 16 ((again2 ((IntKind.i64.wrap (z1.1+1)),((z1.2.1++((a.1,(x3,()))::[])),())))))
  (some z1.2.1))
  (0,([],())))
noncomputable def zqq(a:zad):Option (List AUnit'):=zig stdW a
noncomputable def zsm:ES:=⟨(.pair tAAccount .unit),(.own 35 tAUnit),fun x=>zqq x.1⟩
theorem yec:ECok Tryz.prog 24 (.es zsm)   := es_ok (A:=(.pair tAAccount .unit)) (Q:=(.own 35 tAUnit)) (fun W x=>zig W x.1) [] trivial [(7,[],(ofL [(0,true),(1,true),(2,true),(3,true),(4,true),(5,true),(6,true),(7,true),(8,true),(9,false),(10,false),(11,true)]))] [] [(5,⟨[(3,.row 1),(4,.t (.int .i64))],[],[.dead,.own 35 tAUnit]⟩)] Tryz.func24 rfl (by decide +kernel) rfl rfl (fun W x=>by kernel_rfl)
noncomputable def zpe(W:Wd)(l:List AFlow')(u:AUnit'):Option Int:=
 W.loop (fun (z1:Int×Unit) again2=>
 W.cnd (decide (z1.1<(l.length:Int))) (W.idx l z1.1 fun x3=>
  W.cnd (Go.Vc.notIf false ((x3.1.1==u.1)&&(x3.1.2.1==u.2.1))) (W.idx l z1.1 fun x4=>some x4.2.1)
  ((again2 ((IntKind.i64.wrap (z1.1+1)),()))))
  (some 0))
 (0,())
noncomputable def zng(l:List AFlow')(u:AUnit'):Option Int:=zpe stdW l u
noncomputable def ybd:ES:=⟨(.pair (.slc tAFlow) (.pair tAUnit .unit)),(.v (.int .i64)),fun x=>zng x.1 x.2.1⟩
theorem ylc:ECok Tryz.prog 25 (.es ybd)   := es_ok (A:=(.pair (.slc tAFlow) (.pair tAUnit .unit))) (Q:=(.v (.int .i64))) (fun W x=>zpe W x.1 x.2.1) [] trivial [(4,[],(ofL [(0,true),(1,true),(2,true),(3,true),(4,true),(5,true),(6,true)]))] [] [(2,⟨[(5,.t (.int .i64))],[],[]⟩)] Tryz.func25 rfl (by decide +kernel) rfl rfl (fun W x=>by kernel_rfl)
noncomputable def zkt(W:Wd)(l:List AHold')(u:AUnit'):Option (List zac):=
 W.loop (fun (z1:Int×Unit) again2=>
 W.cnd (decide (z1.1<(l.length:Int))) (W.idx l z1.1 fun x3=>
  W.cnd (Go.Vc.notIf false ((x3.1.1==u.1)&&(x3.1.2.1==u.2.1))) (W.idx l z1.1 fun x4=>some x4.2.1)
  ((again2 ((IntKind.i64.wrap (z1.1+1)),()))))
  (some []))
 (0,())
noncomputable def zjf(l:List AHold')(u:AUnit'):Option (List zac):=zkt stdW l u
noncomputable def zxp:ES:=⟨(.pair (.slc tAHold) (.pair tAUnit .unit)),(.v (.slc tAAsset)),fun x=>zjf x.1 x.2.1⟩
theorem yib:ECok Tryz.prog 27 (.es zxp)   := es_ok (A:=(.pair (.slc tAHold) (.pair tAUnit .unit))) (Q:=(.v (.slc tAAsset))) (fun W x=>zkt W x.1 x.2.1) [] trivial [(4,[],(ofL [(0,true),(1,true),(2,true),(3,true),(4,true),(5,true),(6,true)]))] [] [(2,⟨[(5,.t (.int .i64))],[],[]⟩)] Tryz.func27 rfl (by decide +kernel) rfl rfl (fun W x=>by kernel_rfl)
noncomputable def zkv(W:Wd)(a:List zac)(b:List zac):Option Bool:=
 W.cnd ((a.length:Int) != (b.length:Int)) (some false)
 (
 W.loop (fun (z1:Int×Unit) again2=>
  W.cnd (decide (z1.1<(a.length:Int))) (W.idx a z1.1 fun x3=>W.idx b z1.1 fun x4=>
  W.cnd (Go.Vc.notIf true ((x3.1==x4.1)&&((x3.2.1==x4.2.1)&&(x3.2.2.1==x4.2.2.1)))) (some false)
   ((again2 ((IntKind.i64.wrap (z1.1+1)),()))))
  (some true))
  (0,()))
noncomputable def zpb(a:List zac)(b:List zac):Option Bool:=zkv stdW a b
noncomputable def znf:ES:=⟨(.pair (.slc tAAsset) (.pair (.slc tAAsset) .unit)),(.v .bool),fun x=>zpb x.1 x.2.1⟩
theorem zsh:ECok Tryz.prog 26 (.es znf)   := es_ok (A:=(.pair (.slc tAAsset) (.pair (.slc tAAsset) .unit))) (Q:=(.v .bool)) (fun W x=>zkv W x.1 x.2.1) [] trivial [(6,[],(ofL [(0,true),(1,true),(2,true),(3,true),(4,true),(5,true),(6,true),(7,true),(8,true)]))] [] [(4,⟨[(5,.t (.int .i64))],[],[]⟩)] Tryz.func26 rfl (by decide +kernel) rfl rfl (fun W x=>by kernel_rfl)
noncomputable def zky(W:Wd)(a:AUnit')(b:AUnit'):Option Bool:=
 W.cnd (decide (a.1<b.1)) (some true)
 (
 W.cnd (a.1==b.1) (some (decide (a.2.1<b.2.1)))
  (some false))
noncomputable def zfg(a:AUnit')(b:AUnit'):Option Bool:=zky stdW a b
noncomputable def zga:ES:=⟨(.pair tAUnit (.pair tAUnit .unit)),(.v .bool),fun x=>zfg x.1 x.2.1⟩
theorem zgs:ECok Tryz.prog 114 (.es zga)   := es_ok (A:=(.pair tAUnit (.pair tAUnit .unit))) (Q:=(.v .bool)) (fun W x=>zky W x.1 x.2.1) [] trivial [] [] [] Tryz.func114 rfl (by decide +kernel) rfl rfl (fun W x=>by kernel_rfl)
noncomputable def zsk(W:Wd)(l:List AFlow'):Option Bool:=
 W.loop (fun (z1:Int×Unit) again2=>
 W.cnd (decide (z1.1<(l.length:Int))) (
  W.join (fun (z3:Bool×Unit)=>
  W.cnd z3.1 (some false)
   ((again2 ((IntKind.i64.wrap (z1.1+1)),()))))
  fun k4=>W.idx l z1.1 fun x5=>
  W.cnd (x5.2.1==0) ((k4 (true,())))
   (
   W.cnd (decide (0<z1.1)) (W.idx l (IntKind.i64.wrap (z1.1 - 1)) fun x6=>W.idx l z1.1 fun x7=>W.call (zfg x6.1 x7.1) fun v8=>(k4 ((!v8),())))
   ((k4 (false,())))))
  (some true))
 (0,())
noncomputable def zsl(l:List AFlow'):Option Bool:=zsk stdW l
noncomputable def zwa:ES:=⟨(.pair (.slc tAFlow) .unit),(.v .bool),fun x=>zsl x.1⟩
theorem ybc:ECok Tryz.prog 56 (.es zwa)   := es_ok (A:=(.pair (.slc tAFlow) .unit)) (Q:=(.v .bool)) (fun W x=>zsk W x.1) [(114,.es zga)] ⟨zgs,trivial⟩ [(4,[],(ofL [(0,true),(1,true),(2,true),(3,true),(4,true),(5,true),(6,true),(7,true),(8,true),(9,true),(10,true),(11,true),(12,true),(13,true),(14,true),(15,true),(16,true),(17,true),(18,true),(19,true),(20,true),(21,false),(22,true),(23,true),(24,true)]))] [(500034,⟨[(34,.t .bool)],[],[]⟩)] [(2,⟨[(3,.t (.int .i64))],[],[]⟩)] Tryz.func56 rfl (by decide +kernel) rfl rfl (fun W x=>by kernel_rfl)
noncomputable def zoz(W:Wd)(x:zac):Option Bool:=
 W.cnd (decide (0<x.1)) (
 W.cnd (decide (x.1<5)) (
  W.cnd (decide (0≤x.2.1)) (
  W.cnd (decide (x.2.1<256)) (some (decide (0<x.2.2.1)))
   (some false))
  (some false))
  (some false))
 (some false)
noncomputable def yaz(x:zac):Option Bool:=zoz stdW x
noncomputable def yay:ES:=⟨(.pair tAAsset .unit),(.v .bool),fun x=>yaz x.1⟩
theorem yla:ECok Tryz.prog 182 (.es yay)   := es_ok (A:=(.pair tAAsset .unit)) (Q:=(.v .bool)) (fun W x=>zoz W x.1) [] trivial [] [] [] Tryz.func182 rfl (by decide +kernel) rfl rfl (fun W x=>by kernel_rfl)
noncomputable def zku(W:Wd)(a:zac)(b:zac):Option Bool:=
 W.cnd (decide (a.1<b.1)) (some true)
 (
 W.cnd (a.1==b.1) (some (decide (a.2.1<b.2.1)))
  (some false))
noncomputable def zpa(a:zac)(b:zac):Option Bool:=zku stdW a b
noncomputable def zxq:ES:=⟨(.pair tAAsset (.pair tAAsset .unit)),(.v .bool),fun x=>zpa x.1 x.2.1⟩
theorem yic:ECok Tryz.prog 183 (.es zxq)   := es_ok (A:=(.pair tAAsset (.pair tAAsset .unit))) (Q:=(.v .bool)) (fun W x=>zku W x.1 x.2.1) [] trivial [] [] [] Tryz.func183 rfl (by decide +kernel) rfl rfl (fun W x=>by kernel_rfl)
noncomputable def zsi(W:Wd)(l:List zac):Option Bool:=
 W.loop (fun (z1:Int×Unit) again2=>
 W.cnd (decide (z1.1<(l.length:Int))) (
  W.join (fun (z3:Bool×Unit)=>
  W.cnd z3.1 (some false)
   ((again2 ((IntKind.i64.wrap (z1.1+1)),()))))
  fun k4=>W.idx l z1.1 fun x5=>W.call (yaz x5) fun v6=>
  W.cnd (!v6) (W.both ((k4 (true,()))) ((k4 (true,()))))
   (
   W.cnd (decide (0<z1.1)) (W.idx l (IntKind.i64.wrap (z1.1 - 1)) fun x7=>W.idx l z1.1 fun x8=>W.both (W.call (zpa x7 x8) fun v9=>(k4 ((!v9),()))) (W.call (zpa x7 x8) fun v10=>(k4 ((!v10),()))))
   (W.both ((k4 (false,()))) ((k4 (false,()))))))
  (some (decide ((l.length:Int)≤16))))
 (0,())
noncomputable def zza(l:List zac):Option Bool:=zsi stdW l
noncomputable def zvz:ES:=⟨(.pair (.slc tAAsset) .unit),(.v .bool),fun x=>zza x.1⟩
theorem yba:ECok Tryz.prog 115 (.es zvz)   := es_ok (A:=(.pair (.slc tAAsset) .unit)) (Q:=(.v .bool)) (fun W x=>zsi W x.1) [(182,.es yay),(183,.es zxq)] ⟨yla,yic,trivial⟩ [(4,[],(.rd 0 (.rd 1 (.rd 2 (.rd 3 (.op 4 (.rd 5 (.rd 6 (.rd 7 (.rd 8 (.rd 9 (.rd 10 (.rd 11 (.rd 12 (.rd 13 (.rd 15 (.rd 16 (.rd 17 (.two 14 18 (ofL [(18,false),(19,false),(20,true),(21,true),(22,true)]) (ofL [(14,false),(19,false),(20,true),(21,true),(22,true)]))))))))))))))))))))] [(500032,⟨[(32,.t .bool)],[],[]⟩)] [(2,⟨[(3,.t (.int .i64))],[],[]⟩)] Tryz.func115 rfl (by decide +kernel) rfl rfl (fun W x=>by kernel_rfl)
noncomputable def zsg(W:Wd)(l:List AHold'):Option Bool:=
 W.loop (fun (z1:Int×Unit) again2=>
 W.cnd (decide (z1.1<(l.length:Int))) (
  W.join (fun (z3:Bool×Unit)=>
  W.cnd z3.1 (some false)
   ((again2 ((IntKind.i64.wrap (z1.1+1)),()))))
  fun k4=>W.idx l z1.1 fun x5=>
  W.cnd ((x5.2.1.length:Int)==0) (W.both ((k4 (true,()))) ((k4 (true,()))))
   (W.idx l z1.1 fun x6=>W.call (zza x6.2.1) fun v7=>
   W.cnd (!v7) (W.both ((k4 (true,()))) ((k4 (true,()))))
   (
   W.cnd (decide (0<z1.1)) (W.idx l (IntKind.i64.wrap (z1.1 - 1)) fun x8=>W.idx l z1.1 fun x9=>W.both (W.call (zfg x8.1 x9.1) fun v10=>(k4 ((!v10),()))) (W.call (zfg x8.1 x9.1) fun v11=>(k4 ((!v11),()))))
    (W.both ((k4 (false,()))) ((k4 (false,())))))))
  (some true))
 (0,())
noncomputable def zyz(l:List AHold'):Option Bool:=zsg stdW l
noncomputable def yfl:ES:=⟨(.pair (.slc tAHold) .unit),(.v .bool),fun x=>zyz x.1⟩
theorem yoa:ECok Tryz.prog 57 (.es yfl)   := es_ok (A:=(.pair (.slc tAHold) .unit)) (Q:=(.v .bool)) (fun W x=>zsg W x.1) [(115,.es zvz),(114,.es zga)] ⟨yba,zgs,trivial⟩ [(4,[],(.rd 0 (.rd 1 (.rd 2 (.rd 3 (.rd 4 (.rd 5 (.rd 6 (.rd 7 (.rd 8 (.rd 9 (.rd 10 (.rd 11 (.rd 12 (.op 13 (.rd 14 (.rd 15 (.rd 16 (.rd 17 (.rd 18 (.rd 19 (.rd 20 (.rd 21 (.rd 22 (.rd 23 (.rd 24 (.rd 26 (.rd 27 (.rd 28 (.rd 29 (.two 25 30 (ofL [(30,false),(31,false),(32,true),(33,true),(34,true)]) (ofL [(25,false),(31,false),(32,true),(33,true),(34,true)]))))))))))))))))))))))))))))))))] [(500044,⟨[(44,.t .bool)],[],[]⟩)] [(2,⟨[(3,.t (.int .i64))],[],[]⟩)] Tryz.func57 rfl (by decide +kernel) rfl rfl (fun W x=>by kernel_rfl)
noncomputable def zsf(W:Wd)(s:zan)(u:AUnit'):Option zaq:=W.both (W.call (zjf s.2.2.2.2.2.2.2.2.2.2.2.1 u) fun v1=>
 W.join (fun (z2:Int×Int×Int×List (Int×Int×Int×Unit)×Unit)=>some ((z2.1,(z2.2.1,())),(z2.2.2.1,(z2.2.2.2.1,()))))
  fun k3=>W.call (zng s.2.2.2.2.2.2.2.2.2.2.1 u) fun v4=>
  W.cnd (decide (0<v4)) ((k3 (u.1,(u.2.1,(v4,(v1,()))))))
  ((k3 (u.1,(u.2.1,(0,(v1,()))))))) (W.call (zjf s.2.2.2.2.2.2.2.2.2.2.2.1 u) fun v5=>
 W.join (fun (z6:Int×Int×Int×List (Int×Int×Int×Unit)×Unit)=>some ((z6.1,(z6.2.1,())),(z6.2.2.1,(z6.2.2.2.1,()))))
  fun k7=>W.call (zng s.2.2.2.2.2.2.2.2.2.2.1 u) fun v8=>
  W.cnd (decide (0<v8)) ((k7 (u.1,(u.2.1,(v8,(v5,()))))))
  ((k7 (u.1,(u.2.1,(0,(v5,())))))))
noncomputable def zcg(s:zan)(u:AUnit'):Option zaq:=zsf stdW s u
noncomputable def zvy:ES:=⟨(.pair tAState (.pair tAUnit .unit)),(.v tAReturn),fun x=>zcg x.1 x.2.1⟩
theorem yav:ECok Tryz.prog 14 (.es zvy)   := es_ok (A:=(.pair tAState (.pair tAUnit .unit))) (Q:=(.v tAReturn)) (fun W x=>zsf W x.1 x.2.1) [(27,.es zxp),(25,.es ybd)] ⟨yib,ylc,trivial⟩ [(1,[],(.rd 0 (.rd 1 (.rd 2 (.rd 3 (.two 4 6 (ofL [(5,true),(6,false),(7,false)]) (ofL [(4,false),(5,true),(7,false)])))))))] [(5,⟨[],[(3,[.t (.int .i64),.t (.int .i64),.t (.int .i64),.t (.slc tAAsset)])],[]⟩)] [] Tryz.func14 rfl (by decide +kernel) rfl rfl (fun W x=>by kernel_rfl)
noncomputable def zif(W:Wd)(l:List AFlow'):Option (List AUnit'):=
 W.loop (fun (z1:List (Int×Int×Unit)×Int×Unit) again2=>
 W.cnd (decide (z1.2.1<(l.length:Int))) (
  W.join (fun (z3:List (Int×Int×Unit)×Unit)=>(again2 (z3.1,((IntKind.i64.wrap (z1.2.1+1)),()))))
  fun k4=>W.idx l z1.2.1 fun x5=>
  W.loop (fun (z6:Int×Bool×Int×Unit) again7=>
   W.cnd (decide (z6.2.2.1<(z1.1.length:Int))) (
   W.join (fun (z8:Int×Bool×Unit)=>(again7 (z8.1,(z8.2.1,((IntKind.i64.wrap (z6.2.2.1+1)),())))))
    fun k9=>
    W.join (fun (z10:Bool×Unit)=>W.idx z1.1 z6.2.2.1 fun x11=>W.call (zfg x11 x5.1) fun v12=>
    W.cnd v12 ((k9 ((IntKind.i64.wrap (z6.2.2.1+1)),z10)))
     ((k9 (z6.1,z10))))
    fun k13=>
    W.cnd z6.2.1 ((k13 (true,())))
     (W.idx z1.1 z6.2.2.1 fun x14=>(k13 ((Go.Vc.notIf false ((x14.1==x5.1.1)&&(x14.2.1==x5.1.2.1))),()))))
   (
   W.cnd (!z6.2.1) (W.bnd z6.1 z1.1.length fun h15=>W.room (z1.1.take h15).length 16 (W.room ((z1.1.take h15).length+(x5.1::[]).length) 16 (W.bnd z6.1 z1.1.length fun h16=>W.room (((z1.1.take h15)++(x5.1::[])).length+((z1.1.take z1.1.length).drop h16).length) 16 ((k4 ((((z1.1.take h15)++(x5.1::[]))++((z1.1.take z1.1.length).drop h16)),()))))))
    ((k4 (z1.1,())))))
   (0,(false,(0,()))))
  (some z1.1))
 ([],(0,()))
noncomputable def zqp(l:List AFlow'):Option (List AUnit'):=zif stdW l
noncomputable def zsj:ES:=⟨(.pair (.slc tAFlow) .unit),(.v (.slc tAUnit)),fun x=>zqp x.1⟩
theorem yeb:ECok Tryz.prog 116 (.es zsj)   := es_ok (A:=(.pair (.slc tAFlow) .unit)) (Q:=(.v (.slc tAUnit))) (fun W x=>zif W x.1) [(114,.es zga)] ⟨zgs,trivial⟩ [(11,[],(ofL [(0,true),(1,true),(2,true),(3,true),(4,true),(5,true),(6,true),(7,true),(8,true),(9,true)])),(12,[],(ofL [(0,true),(1,true),(2,true),(3,true),(4,true),(5,false)]))] [(4,⟨[(3,.t (.slc tAUnit))],[],[]⟩),(10,⟨[(6,.t (.int .i64)),(7,.t .bool)],[],[]⟩),(12,⟨[(7,.t .bool)],[],[]⟩)] [(3,⟨[(3,.t (.slc tAUnit)),(4,.t (.int .i64))],[],[]⟩),(9,⟨[(6,.t (.int .i64)),(7,.t .bool),(8,.t (.int .i64))],[],[]⟩)] Tryz.func116 rfl (by decide +kernel) rfl rfl (fun W x=>by kernel_rfl)
noncomputable def zgu(W:Wd)(a:zab)(n:Int):Option Bool:=
 W.join (fun (z1:Bool×List (Int)×Unit)=>some (decide ((z1.2.1.length:Int)<n)))
 fun k2=>
 W.cnd a.1 (W.both (W.call (zet 1) fun v3=>W.call (zbq (a.1,(a.2.1,())) (v3.1,(v3.2.1,()))) fun v4=>(k2 (v4.1,(v4.2.1,())))) (W.call (zet 1) fun v5=>W.call (zbq (a.1,(a.2.1,())) (v5.1,(v5.2.1,()))) fun v6=>(k2 (v6.1,(v6.2.1,())))))
  ((k2 (a.1,(a.2.1,()))))
noncomputable def zni(a:zab)(n:Int):Option Bool:=zgu stdW a n
noncomputable def zqf:ES:=⟨(.pair tNovationref01Big (.pair (.int .i64) .unit)),(.v .bool),fun x=>zni x.1 x.2.1⟩
theorem ybi:ECok Tryz.prog 125 (.es zqf)   := es_ok (A:=(.pair tNovationref01Big (.pair (.int .i64) .unit))) (Q:=(.v .bool)) (fun W x=>zgu W x.1 x.2.1) [(73,.es zlh),(19,.es zfh)] ⟨znj,zgd,trivial⟩ [(2,[0],(.two 0 1 (ofL [(1,false),(2,false),(3,false)]) (ofL [(0,false),(2,false),(3,false)])))] [(3,⟨[],[(0,[.t .bool,.t (.slc (.int .u8))])],[]⟩)] [] Tryz.func125 rfl (by decide +kernel) rfl rfl (fun W x=>by kernel_rfl)
noncomputable def zlk(W:Wd)(a:zab):Option Bool:=W.call (zni (a.1,(a.2.1,())) 64) fun v1=>some v1
noncomputable def zca(a:zab):Option Bool:=zlk stdW a
noncomputable def zil:ES:=⟨(.pair tNovationref01Big .unit),(.v .bool),fun x=>zca x.1⟩
theorem zlj:ECok Tryz.prog 63 (.es zil)   := es_ok (A:=(.pair tNovationref01Big .unit)) (Q:=(.v .bool)) (fun W x=>zlk W x.1) [(125,.es zqf)] ⟨ybi,trivial⟩ [] [] [] Tryz.func63 rfl (by decide +kernel) rfl rfl (fun W x=>by kernel_rfl)
noncomputable def zpj(W:Wd)(a:zab):Option Int:=
 W.loop (fun (z1:Int×Int×Unit) again2=>
 W.cnd (decide (0<z1.2.1)) (
  W.join (fun (z3:Int×Unit)=>(again2 (z3.1,((IntKind.i64.wrap (z1.2.1 - 1)),()))))
  fun k4=>
  W.cnd a.1 (W.idx a.2.1 (IntKind.i64.wrap (z1.2.1 - 1)) fun x5=>(k4 ((IntKind.i64.wrap ((IntKind.i64.wrap (2*z1.1)) - (IntKind.i64.wrap x5))),())))
   (W.idx a.2.1 (IntKind.i64.wrap (z1.2.1 - 1)) fun x6=>(k4 ((IntKind.i64.wrap ((IntKind.i64.wrap (2*z1.1))+(IntKind.i64.wrap x6))),()))))
  (some z1.1))
 (0,((a.2.1.length:Int),()))
noncomputable def zdg(a:zab):Option Int:=zpj stdW a
noncomputable def zli:ES:=⟨(.pair tNovationref01Big .unit),(.v (.int .i64)),fun x=>zdg x.1⟩
theorem znk:ECok Tryz.prog 64 (.es zli)   := es_ok (A:=(.pair tNovationref01Big .unit)) (Q:=(.v (.int .i64))) (fun W x=>zpj W x.1) [] trivial [] [(4,⟨[(3,.t (.int .i64))],[],[]⟩)] [(3,⟨[(3,.t (.int .i64)),(4,.t (.int .i64))],[],[]⟩)] Tryz.func64 rfl (by decide +kernel) rfl rfl (fun W x=>by kernel_rfl)
noncomputable def zpd(W:Wd)(l:List AFlow')(flows:List AFlow'):Option ((List AFlow')×Int×Unit):=W.call (zsl l) fun v1=>
 W.cnd (!v1) (some ([],(3,())))
 (W.room l.length 24 (W.room (l.length+flows.length) 24 (W.call (zqp (l++flows)) fun v2=>
 W.loop (fun (z3:Int×List ((Int×Int×Unit)×Int×Unit)×Unit) again4=>
  W.cnd (decide (z3.1<(v2.length:Int))) (
  W.join (fun (z5:List ((Int×Int×Unit)×Int×Unit)×Unit)=>(again4 ((IntKind.i64.wrap (z3.1+1)),(z5.1,()))))
   fun k6=>
   W.loop (fun (z7:Int×Bool×List (Int)×List ((Int×Int×Unit)×Int×Unit)×Unit) again8=>
   W.cnd (decide (z7.1<((l++flows).length:Int))) (
    W.join (fun (z9:Bool×List (Int)×List ((Int×Int×Unit)×Int×Unit)×Unit)=>(again8 ((IntKind.i64.wrap (z7.1+1)),(z9.1,(z9.2.1,(z9.2.2.1,()))))))
    fun k10=>W.idx (l++flows) z7.1 fun x11=>W.idx v2 z3.1 fun x12=>
    W.cnd (Go.Vc.notIf false ((x11.1.1==x12.1)&&(x11.1.2.1==x12.2.1))) (W.idx (l++flows) z7.1 fun x13=>W.both (W.call (zdc x13.2.1) fun v14=>W.call (zbq (z7.2.1,(z7.2.2.1,())) (v14.1,(v14.2.1,()))) fun v15=>(k10 (v15.1,(v15.2.1,(z7.2.2.2.1,()))))) (W.call (zdc x13.2.1) fun v16=>W.call (zbq (z7.2.1,(z7.2.2.1,())) (v16.1,(v16.2.1,()))) fun v17=>(k10 (v17.1,(v17.2.1,(z7.2.2.2.1,()))))))
     ((k10 (z7.2.1,(z7.2.2.1,(z7.2.2.2.1,()))))))
    (W.call (zca (z7.2.1,(z7.2.2.1,()))) fun v18=>
    W.cnd (!v18) (some ([],(7,())))
    (W.call (zdg (z7.2.1,(z7.2.2.1,()))) fun v19=>
    W.cnd (v19 != 0) (W.idx v2 z3.1 fun x20=>W.call (zdg (z7.2.1,(z7.2.2.1,()))) fun v21=>W.room (z7.2.2.2.1.length+((x20,(v21,()))::[]).length) 24 ((k6 ((z7.2.2.2.1++((x20,(v21,()))::[])),()))))
     ((k6 (z7.2.2.2.1,()))))))
   (0,(false,([],(z3.2.1,())))))
  (some (z3.2.1,(0,()))))
  (0,([],())))))
noncomputable def zfz(l:List AFlow')(flows:List AFlow'):Option ((List AFlow')×Int×Unit):=zpd stdW l flows
noncomputable def ybb:ES:=⟨(.pair (.slc tAFlow) (.pair (.slc tAFlow) .unit)),(.pair (.own 111 tAFlow) (.pair (.v (.int .i64)) .unit)),fun x=>zfz x.1 x.2.1⟩
theorem ylb:ECok Tryz.prog 58 (.es ybb)   := es_ok (A:=(.pair (.slc tAFlow) (.pair (.slc tAFlow) .unit))) (Q:=(.pair (.own 111 tAFlow) (.pair (.v (.int .i64)) .unit))) (fun W x=>zpd W x.1 x.2.1) [(56,.es zwa),(116,.es zsj),(20,.es zgx),(19,.es zfh),(63,.es zil),(64,.es zli)] ⟨ybc,yeb,zhf,zgd,zlj,znk,trivial⟩ [(14,[],(ofL [(0,true),(1,true),(2,true),(3,true),(4,true),(5,true),(6,true),(7,true),(8,true),(9,true)])),(15,[0],(.rd 1 (.rd 2 (.rd 3 (.rd 4 (.rd 5 (.two 0 6 (ofL [(6,false),(7,false),(8,false)]) (ofL [(0,false),(7,false),(8,false)])))))))),(19,[],(ofL [(0,true),(1,true),(2,true),(3,true),(4,true),(5,true),(6,false),(7,true),(8,false),(9,false),(10,true)]))] [(9,⟨[(7,.row 1)],[],[.dead,.own 111 tAFlow]⟩),(13,⟨[(7,.row 1)],[(0,[.t .bool,.t (.slc (.int .u8))])],[.dead,.own 111 tAFlow]⟩)] [(8,⟨[(7,.row 1),(9,.t (.int .i64))],[],[.dead,.own 111 tAFlow]⟩),(12,⟨[(7,.row 1),(11,.t (.int .i64))],[(0,[.t .bool,.t (.slc (.int .u8))])],[.dead,.own 111 tAFlow]⟩)] Tryz.func58 rfl (by decide +kernel) rfl rfl (fun W x=>by kernel_rfl)
noncomputable def zkr(W:Wd)(l:List AHold')(u:AUnit')(all:List zac):Option (List AHold'):=
 W.join (fun (z1:Int×List ((Int×Int×Unit)×List (Int×Int×Int×Unit)×Unit)×Unit)=>
 W.join (fun (z2:List ((Int×Int×Unit)×List (Int×Int×Int×Unit)×Unit)×Unit)=>
  W.join (fun (z3:Int×List ((Int×Int×Unit)×List (Int×Int×Int×Unit)×Unit)×Unit)=>W.bnd z3.1 l.length fun h4=>W.room (z3.2.1.length+((l.take l.length).drop h4).length) 40 (some (z3.2.1++((l.take l.length).drop h4))))
  fun k5=>
  W.join (fun (z6:Bool×List ((Int×Int×Unit)×List (Int×Int×Int×Unit)×Unit)×Unit)=>
   W.cnd z6.1 ((k5 ((IntKind.i64.wrap (z1.1+1)),(z6.2.1,()))))
   ((k5 (z1.1,(z6.2.1,())))))
   fun k7=>
   W.cnd (decide (z1.1<(l.length:Int))) (W.idx l z1.1 fun x8=>(k7 ((Go.Vc.notIf false ((x8.1.1==u.1)&&(x8.1.2.1==u.2.1))),(z2.1,()))))
   ((k7 (false,(z2.1,())))))
  fun k9=>
  W.cnd (decide (0<(all.length:Int))) (W.room (z1.2.1.length+((u,(all,()))::[]).length) 40 ((k9 ((z1.2.1++((u,(all,()))::[])),()))))
  ((k9 (z1.2.1,()))))
 fun k10=>
 W.loop (fun (z11:Int×List ((Int×Int×Unit)×List (Int×Int×Int×Unit)×Unit)×Unit) again12=>
  W.cnd (decide (z11.1<(l.length:Int))) (W.idx l z11.1 fun x13=>W.call (zfg x13.1 u) fun v14=>
  W.cnd v14 (W.idx l z11.1 fun x15=>W.room (z11.2.1.length+((x15.1,(x15.2.1,()))::[]).length) 40 ((again12 ((IntKind.i64.wrap (z11.1+1)),((z11.2.1++((x15.1,(x15.2.1,()))::[])),())))))
   ((k10 (z11.1,(z11.2.1,())))))
  ((k10 (z11.1,(z11.2.1,())))))
  (0,([],()))
noncomputable def zcj(l:List AHold')(u:AUnit')(all:List zac):Option (List AHold'):=zkr stdW l u all
noncomputable def zxn:ES:=⟨(.pair (.slc tAHold) (.pair tAUnit (.pair (.slc tAAsset) .unit))),(.own 123 tAHold),fun x=>zcj x.1 x.2.1 x.2.2.1⟩
theorem yhz:ECok Tryz.prog 59 (.es zxn)   := es_ok (A:=(.pair (.slc tAHold) (.pair tAUnit (.pair (.slc tAAsset) .unit)))) (Q:=(.own 123 tAHold)) (fun W x=>zkr W x.1 x.2.1 x.2.2.1) [(114,.es zga)] ⟨zgs,trivial⟩ [(3,[],(ofL [(0,true),(1,true),(2,true),(3,true),(4,true),(5,true),(6,true),(7,true),(8,true),(9,true),(10,true),(11,false),(12,true)])),(8,[],(ofL [(0,true),(1,true),(2,true),(3,true),(4,true),(5,true),(6,true),(7,true),(8,true),(9,true),(10,true),(11,true),(12,true)]))] [(6,⟨[(7,.row 1),(8,.t (.int .i64))],[],[.dead,.own 123 tAHold]⟩),(8,⟨[(7,.row 1)],[],[.dead,.own 123 tAHold]⟩),(10,⟨[(7,.row 1),(8,.t (.int .i64))],[],[.dead,.own 123 tAHold]⟩),(500052,⟨[(7,.row 1),(52,.t .bool)],[],[.dead,.own 123 tAHold]⟩)] [(3,⟨[(7,.row 1),(8,.t (.int .i64))],[],[.dead,.own 123 tAHold]⟩)] Tryz.func59 rfl (by decide +kernel) rfl rfl (fun W x=>by kernel_rfl)
noncomputable def zkp(W:Wd)(s:zan)(id:Int):Option (zan×(List zaq)×Int×Unit):=
 W.join (fun (z1:Bool×Unit)=>
 W.cnd z1.1 (some ((0,([],([],([],([],([],([],([],([],([],([],([],())))))))))))),([],(3,()))))
  (
  W.loop (fun (z2:Int×Int×List (Int×Int×Int×Int×Unit)×List (Int×Int×Int×Int×List (Int)×Unit)×List (Int×Int×Int×Unit)×List (Int×Int×Int×List (Int)×Unit)×List ((Int×Int×Unit)×(Int×Int×Unit)×Bool×Unit)×List (Int×(Int×Int×Unit)×Int×Int×Int×Unit)×List (Int×(Int×Int×Unit)×(Int×Int×Unit)×(Int×Int×Unit)×Int×Int×Int×Int×Unit)×List ((Int×Int×Unit)×List (Int×Int×Unit)×Unit)×List ((Int×Int×Unit)×List (Int×Int×Unit)×Unit)×List ((Int×Int×Unit)×Int×Unit)×List ((Int×Int×Unit)×List (Int×Int×Int×Unit)×Unit)×List ((Int×Int×Unit)×Int×List (Int×Int×Int×Unit)×Unit)×Unit) again3=>
  W.cnd (decide (z2.1<(z2.2.2.2.2.2.1.length:Int))) (
   W.join (fun (z4:Int×List (Int×Int×Int×Int×Unit)×List (Int×Int×Int×Int×List (Int)×Unit)×List (Int×Int×Int×Unit)×List (Int×Int×Int×List (Int)×Unit)×List ((Int×Int×Unit)×(Int×Int×Unit)×Bool×Unit)×List (Int×(Int×Int×Unit)×Int×Int×Int×Unit)×List (Int×(Int×Int×Unit)×(Int×Int×Unit)×(Int×Int×Unit)×Int×Int×Int×Int×Unit)×List ((Int×Int×Unit)×List (Int×Int×Unit)×Unit)×List ((Int×Int×Unit)×List (Int×Int×Unit)×Unit)×List ((Int×Int×Unit)×Int×Unit)×List ((Int×Int×Unit)×List (Int×Int×Int×Unit)×Unit)×List ((Int×Int×Unit)×Int×List (Int×Int×Int×Unit)×Unit)×Unit)=>(again3 ((IntKind.i64.wrap (z2.1+1)),(z4.1,(z4.2.1,(z4.2.2.1,(z4.2.2.2.1,(z4.2.2.2.2.1,(z4.2.2.2.2.2.1,(z4.2.2.2.2.2.2.1,(z4.2.2.2.2.2.2.2.1,(z4.2.2.2.2.2.2.2.2.1,(z4.2.2.2.2.2.2.2.2.2.1,(z4.2.2.2.2.2.2.2.2.2.2.1,(z4.2.2.2.2.2.2.2.2.2.2.2.1,(z4.2.2.2.2.2.2.2.2.2.2.2.2.1,()))))))))))))))))
   fun k5=>W.idx z2.2.2.2.2.2.1 z2.1 fun x6=>
   W.cnd (x6.2.1 != id) ((k5 (z2.2.1,(z2.2.2.1,(z2.2.2.2.1,(z2.2.2.2.2.1,(z2.2.2.2.2.2.1,(z2.2.2.2.2.2.2.1,(z2.2.2.2.2.2.2.2.1,(z2.2.2.2.2.2.2.2.2.1,(z2.2.2.2.2.2.2.2.2.2.1,(z2.2.2.2.2.2.2.2.2.2.2.1,(z2.2.2.2.2.2.2.2.2.2.2.2.1,(z2.2.2.2.2.2.2.2.2.2.2.2.2.1,(z2.2.2.2.2.2.2.2.2.2.2.2.2.2.1,())))))))))))))))
    (W.idx z2.2.2.2.2.2.1 z2.1 fun x7=>W.call (zqq (x7.1,(x7.2.1,(x7.2.2.1,(x7.2.2.2.1,()))))) fun v8=>
    W.loop (fun (z9:Int×Int×List (Int×Int×Int×Int×Unit)×List (Int×Int×Int×Int×List (Int)×Unit)×List (Int×Int×Int×Unit)×List (Int×Int×Int×List (Int)×Unit)×List ((Int×Int×Unit)×(Int×Int×Unit)×Bool×Unit)×List (Int×(Int×Int×Unit)×Int×Int×Int×Unit)×List (Int×(Int×Int×Unit)×(Int×Int×Unit)×(Int×Int×Unit)×Int×Int×Int×Int×Unit)×List ((Int×Int×Unit)×List (Int×Int×Unit)×Unit)×List ((Int×Int×Unit)×List (Int×Int×Unit)×Unit)×List ((Int×Int×Unit)×Int×Unit)×List ((Int×Int×Unit)×List (Int×Int×Int×Unit)×Unit)×List ((Int×Int×Unit)×Int×List (Int×Int×Int×Unit)×Unit)×List (Int×Int×Unit)×Unit) again10=>
    W.cnd (decide (z9.1<(z9.2.2.2.2.2.2.2.2.2.2.2.2.2.2.1.length:Int))) (
     W.join (fun (z11:Int×List (Int×Int×Int×Int×Unit)×List (Int×Int×Int×Int×List (Int)×Unit)×List (Int×Int×Int×Unit)×List (Int×Int×Int×List (Int)×Unit)×List ((Int×Int×Unit)×(Int×Int×Unit)×Bool×Unit)×List (Int×(Int×Int×Unit)×Int×Int×Int×Unit)×List (Int×(Int×Int×Unit)×(Int×Int×Unit)×(Int×Int×Unit)×Int×Int×Int×Int×Unit)×List ((Int×Int×Unit)×List (Int×Int×Unit)×Unit)×List ((Int×Int×Unit)×List (Int×Int×Unit)×Unit)×List ((Int×Int×Unit)×Int×Unit)×List ((Int×Int×Unit)×List (Int×Int×Int×Unit)×Unit)×List ((Int×Int×Unit)×Int×List (Int×Int×Int×Unit)×Unit)×List (Int×Int×Unit)×Unit)=>(again10 ((IntKind.i64.wrap (z9.1+1)),(z11.1,(z11.2.1,(z11.2.2.1,(z11.2.2.2.1,(z11.2.2.2.2.1,(z11.2.2.2.2.2.1,(z11.2.2.2.2.2.2.1,(z11.2.2.2.2.2.2.2.1,(z11.2.2.2.2.2.2.2.2.1,(z11.2.2.2.2.2.2.2.2.2.1,(z11.2.2.2.2.2.2.2.2.2.2.1,(z11.2.2.2.2.2.2.2.2.2.2.2.1,(z11.2.2.2.2.2.2.2.2.2.2.2.2.1,(z11.2.2.2.2.2.2.2.2.2.2.2.2.2.1,())))))))))))))))))
     fun k12=>W.idx z9.2.2.2.2.2.2.2.2.2.2.2.2.2.2.1 z9.1 fun x13=>W.both (W.nth z9.2.2.2.2.2.2.2.2.2.2.2.2.2.2.1 (Int.toNat z9.1) fun x14=>W.both (W.call (zcg (z9.2.1,(z9.2.2.1,(z9.2.2.2.1,(z9.2.2.2.2.1,(z9.2.2.2.2.2.1,(z9.2.2.2.2.2.2.1,(z9.2.2.2.2.2.2.2.1,(z9.2.2.2.2.2.2.2.2.1,(z9.2.2.2.2.2.2.2.2.2.1,(z9.2.2.2.2.2.2.2.2.2.2.1,(z9.2.2.2.2.2.2.2.2.2.2.2.1,(z9.2.2.2.2.2.2.2.2.2.2.2.2.1,())))))))))))) x14) fun v15=>
      W.join (fun (z16:Bool×List ((Int×Int×Unit)×Int×List (Int×Int×Int×Unit)×Unit)×List (Int×Int×Unit)×Unit)=>
       W.cnd z16.1 (W.room (z16.2.1.length+((v15.1,(v15.2.1,(v15.2.2.1,())))::[]).length) 48 (W.idx z16.2.2.1 z9.1 fun x17=>W.nth z16.2.2.1 (Int.toNat z9.1) fun x18=>W.call (zfz z9.2.2.2.2.2.2.2.2.2.2.2.1 ((x18,((IntKind.i64.wrap (0 - v15.2.1)),()))::[])) fun v19=>W.idx z16.2.2.1 z9.1 fun x20=>W.both (W.nth z16.2.2.1 (Int.toNat z9.1) fun x21=>W.call (zcj z9.2.2.2.2.2.2.2.2.2.2.2.2.1 x21 []) fun v22=>(k12 (z9.2.1,(z9.2.2.1,(z9.2.2.2.1,(z9.2.2.2.2.1,(z9.2.2.2.2.2.1,(z9.2.2.2.2.2.2.1,(z9.2.2.2.2.2.2.2.1,(z9.2.2.2.2.2.2.2.2.1,(z9.2.2.2.2.2.2.2.2.2.1,(z9.2.2.2.2.2.2.2.2.2.2.1,(v19.1,(v22,((z16.2.1++((v15.1,(v15.2.1,(v15.2.2.1,())))::[])),(z16.2.2.1,())))))))))))))))) (W.nth z16.2.2.1 (Int.toNat z9.1) fun x23=>W.call (zcj z9.2.2.2.2.2.2.2.2.2.2.2.2.1 x23 []) fun v24=>(k12 (z9.2.1,(z9.2.2.1,(z9.2.2.2.1,(z9.2.2.2.2.1,(z9.2.2.2.2.2.1,(z9.2.2.2.2.2.2.1,(z9.2.2.2.2.2.2.2.1,(z9.2.2.2.2.2.2.2.2.1,(z9.2.2.2.2.2.2.2.2.2.1,(z9.2.2.2.2.2.2.2.2.2.2.1,(v19.1,(v24,((z16.2.1++((v15.1,(v15.2.1,(v15.2.2.1,())))::[])),(z16.2.2.1,()))))))))))))))))))
       ((k12 (z9.2.1,(z9.2.2.1,(z9.2.2.2.1,(z9.2.2.2.2.1,(z9.2.2.2.2.2.1,(z9.2.2.2.2.2.2.1,(z9.2.2.2.2.2.2.2.1,(z9.2.2.2.2.2.2.2.2.1,(z9.2.2.2.2.2.2.2.2.2.1,(z9.2.2.2.2.2.2.2.2.2.2.1,(z9.2.2.2.2.2.2.2.2.2.2.2.1,(z9.2.2.2.2.2.2.2.2.2.2.2.2.1,(z16.2.1,(z16.2.2.1,())))))))))))))))))
       fun k25=>
       W.cnd (decide (0<v15.2.1)) ((k25 (true,(z9.2.2.2.2.2.2.2.2.2.2.2.2.2.1,(z9.2.2.2.2.2.2.2.2.2.2.2.2.2.2.1,())))))
       ((k25 ((decide (0<(v15.2.2.1.length:Int))),(z9.2.2.2.2.2.2.2.2.2.2.2.2.2.1,(z9.2.2.2.2.2.2.2.2.2.2.2.2.2.2.1,())))))) (W.call (zcg (z9.2.1,(z9.2.2.1,(z9.2.2.2.1,(z9.2.2.2.2.1,(z9.2.2.2.2.2.1,(z9.2.2.2.2.2.2.1,(z9.2.2.2.2.2.2.2.1,(z9.2.2.2.2.2.2.2.2.1,(z9.2.2.2.2.2.2.2.2.2.1,(z9.2.2.2.2.2.2.2.2.2.2.1,(z9.2.2.2.2.2.2.2.2.2.2.2.1,(z9.2.2.2.2.2.2.2.2.2.2.2.2.1,())))))))))))) x14) fun v26=>
      W.join (fun (z27:Bool×List ((Int×Int×Unit)×Int×List (Int×Int×Int×Unit)×Unit)×List (Int×Int×Unit)×Unit)=>
       W.cnd z27.1 (W.room (z27.2.1.length+((v26.1,(v26.2.1,(v26.2.2.1,())))::[]).length) 48 (W.idx z27.2.2.1 z9.1 fun x28=>W.nth z27.2.2.1 (Int.toNat z9.1) fun x29=>W.call (zfz z9.2.2.2.2.2.2.2.2.2.2.2.1 ((x29,((IntKind.i64.wrap (0 - v26.2.1)),()))::[])) fun v30=>W.idx z27.2.2.1 z9.1 fun x31=>W.both (W.nth z27.2.2.1 (Int.toNat z9.1) fun x32=>W.call (zcj z9.2.2.2.2.2.2.2.2.2.2.2.2.1 x32 []) fun v33=>(k12 (z9.2.1,(z9.2.2.1,(z9.2.2.2.1,(z9.2.2.2.2.1,(z9.2.2.2.2.2.1,(z9.2.2.2.2.2.2.1,(z9.2.2.2.2.2.2.2.1,(z9.2.2.2.2.2.2.2.2.1,(z9.2.2.2.2.2.2.2.2.2.1,(z9.2.2.2.2.2.2.2.2.2.2.1,(v30.1,(v33,((z27.2.1++((v26.1,(v26.2.1,(v26.2.2.1,())))::[])),(z27.2.2.1,())))))))))))))))) (W.nth z27.2.2.1 (Int.toNat z9.1) fun x34=>W.call (zcj z9.2.2.2.2.2.2.2.2.2.2.2.2.1 x34 []) fun v35=>(k12 (z9.2.1,(z9.2.2.1,(z9.2.2.2.1,(z9.2.2.2.2.1,(z9.2.2.2.2.2.1,(z9.2.2.2.2.2.2.1,(z9.2.2.2.2.2.2.2.1,(z9.2.2.2.2.2.2.2.2.1,(z9.2.2.2.2.2.2.2.2.2.1,(z9.2.2.2.2.2.2.2.2.2.2.1,(v30.1,(v35,((z27.2.1++((v26.1,(v26.2.1,(v26.2.2.1,())))::[])),(z27.2.2.1,()))))))))))))))))))
       ((k12 (z9.2.1,(z9.2.2.1,(z9.2.2.2.1,(z9.2.2.2.2.1,(z9.2.2.2.2.2.1,(z9.2.2.2.2.2.2.1,(z9.2.2.2.2.2.2.2.1,(z9.2.2.2.2.2.2.2.2.1,(z9.2.2.2.2.2.2.2.2.2.1,(z9.2.2.2.2.2.2.2.2.2.2.1,(z9.2.2.2.2.2.2.2.2.2.2.2.1,(z9.2.2.2.2.2.2.2.2.2.2.2.2.1,(z27.2.1,(z27.2.2.1,())))))))))))))))))
       fun k36=>
       W.cnd (decide (0<v26.2.1)) ((k36 (true,(z9.2.2.2.2.2.2.2.2.2.2.2.2.2.1,(z9.2.2.2.2.2.2.2.2.2.2.2.2.2.2.1,())))))
       ((k36 ((decide (0<(v26.2.2.1.length:Int))),(z9.2.2.2.2.2.2.2.2.2.2.2.2.2.1,(z9.2.2.2.2.2.2.2.2.2.2.2.2.2.2.1,()))))))) (W.nth z9.2.2.2.2.2.2.2.2.2.2.2.2.2.2.1 (Int.toNat z9.1) fun x37=>W.call (zcg (z9.2.1,(z9.2.2.1,(z9.2.2.2.1,(z9.2.2.2.2.1,(z9.2.2.2.2.2.1,(z9.2.2.2.2.2.2.1,(z9.2.2.2.2.2.2.2.1,(z9.2.2.2.2.2.2.2.2.1,(z9.2.2.2.2.2.2.2.2.2.1,(z9.2.2.2.2.2.2.2.2.2.2.1,(z9.2.2.2.2.2.2.2.2.2.2.2.1,(z9.2.2.2.2.2.2.2.2.2.2.2.2.1,())))))))))))) x37) fun v38=>
      W.join (fun (z39:Bool×List ((Int×Int×Unit)×Int×List (Int×Int×Int×Unit)×Unit)×List (Int×Int×Unit)×Unit)=>
      W.cnd z39.1 (W.room (z39.2.1.length+((v38.1,(v38.2.1,(v38.2.2.1,())))::[]).length) 48 (W.idx z39.2.2.1 z9.1 fun x40=>W.nth z39.2.2.1 (Int.toNat z9.1) fun x41=>W.call (zfz z9.2.2.2.2.2.2.2.2.2.2.2.1 ((x41,((IntKind.i64.wrap (0 - v38.2.1)),()))::[])) fun v42=>W.idx z39.2.2.1 z9.1 fun x43=>W.both (W.nth z39.2.2.1 (Int.toNat z9.1) fun x44=>W.call (zcj z9.2.2.2.2.2.2.2.2.2.2.2.2.1 x44 []) fun v45=>(k12 (z9.2.1,(z9.2.2.1,(z9.2.2.2.1,(z9.2.2.2.2.1,(z9.2.2.2.2.2.1,(z9.2.2.2.2.2.2.1,(z9.2.2.2.2.2.2.2.1,(z9.2.2.2.2.2.2.2.2.1,(z9.2.2.2.2.2.2.2.2.2.1,(z9.2.2.2.2.2.2.2.2.2.2.1,(v42.1,(v45,((z39.2.1++((v38.1,(v38.2.1,(v38.2.2.1,())))::[])),(z39.2.2.1,())))))))))))))))) (W.nth z39.2.2.1 (Int.toNat z9.1) fun x46=>W.call (zcj z9.2.2.2.2.2.2.2.2.2.2.2.2.1 x46 []) fun v47=>(k12 (z9.2.1,(z9.2.2.1,(z9.2.2.2.1,(z9.2.2.2.2.1,(z9.2.2.2.2.2.1,(z9.2.2.2.2.2.2.1,(z9.2.2.2.2.2.2.2.1,(z9.2.2.2.2.2.2.2.2.1,(z9.2.2.2.2.2.2.2.2.2.1,(z9.2.2.2.2.2.2.2.2.2.2.1,(v42.1,(v47,((z39.2.1++((v38.1,(v38.2.1,(v38.2.2.1,())))::[])),(z39.2.2.1,()))))))))))))))))))
       ((k12 (z9.2.1,(z9.2.2.1,(z9.2.2.2.1,(z9.2.2.2.2.1,(z9.2.2.2.2.2.1,(z9.2.2.2.2.2.2.1,(z9.2.2.2.2.2.2.2.1,(z9.2.2.2.2.2.2.2.2.1,(z9.2.2.2.2.2.2.2.2.2.1,(z9.2.2.2.2.2.2.2.2.2.2.1,(z9.2.2.2.2.2.2.2.2.2.2.2.1,(z9.2.2.2.2.2.2.2.2.2.2.2.2.1,(z39.2.1,(z39.2.2.1,())))))))))))))))))
      fun k48=>
      W.cnd (decide (0<v38.2.1)) ((k48 (true,(z9.2.2.2.2.2.2.2.2.2.2.2.2.2.1,(z9.2.2.2.2.2.2.2.2.2.2.2.2.2.2.1,())))))
       ((k48 ((decide (0<(v38.2.2.1.length:Int))),(z9.2.2.2.2.2.2.2.2.2.2.2.2.2.1,(z9.2.2.2.2.2.2.2.2.2.2.2.2.2.2.1,())))))))
     ((k5 (z9.2.1,(z9.2.2.1,(z9.2.2.2.1,(z9.2.2.2.2.1,(z9.2.2.2.2.2.1,(z9.2.2.2.2.2.2.1,(z9.2.2.2.2.2.2.2.1,(z9.2.2.2.2.2.2.2.2.1,(z9.2.2.2.2.2.2.2.2.2.1,(z9.2.2.2.2.2.2.2.2.2.2.1,(z9.2.2.2.2.2.2.2.2.2.2.2.1,(z9.2.2.2.2.2.2.2.2.2.2.2.2.1,(z9.2.2.2.2.2.2.2.2.2.2.2.2.2.1,()))))))))))))))))
    (0,(z2.2.1,(z2.2.2.1,(z2.2.2.2.1,(z2.2.2.2.2.1,(z2.2.2.2.2.2.1,(z2.2.2.2.2.2.2.1,(z2.2.2.2.2.2.2.2.1,(z2.2.2.2.2.2.2.2.2.1,(z2.2.2.2.2.2.2.2.2.2.1,(z2.2.2.2.2.2.2.2.2.2.2.1,(z2.2.2.2.2.2.2.2.2.2.2.2.1,(z2.2.2.2.2.2.2.2.2.2.2.2.2.1,(z2.2.2.2.2.2.2.2.2.2.2.2.2.2.1,(v8,())))))))))))))))))
   (some ((z2.2.1,(z2.2.2.1,(z2.2.2.2.1,(z2.2.2.2.2.1,(z2.2.2.2.2.2.1,(z2.2.2.2.2.2.2.1,(z2.2.2.2.2.2.2.2.1,(z2.2.2.2.2.2.2.2.2.1,(z2.2.2.2.2.2.2.2.2.2.1,(z2.2.2.2.2.2.2.2.2.2.2.1,(z2.2.2.2.2.2.2.2.2.2.2.2.1,(z2.2.2.2.2.2.2.2.2.2.2.2.2.1,())))))))))))),(z2.2.2.2.2.2.2.2.2.2.2.2.2.2.1,(0,())))))
  (0,(s.1,(s.2.1,(s.2.2.1,(s.2.2.2.1,(s.2.2.2.2.1,(s.2.2.2.2.2.1,(s.2.2.2.2.2.2.1,(s.2.2.2.2.2.2.2.1,(s.2.2.2.2.2.2.2.2.1,(s.2.2.2.2.2.2.2.2.2.1,(s.2.2.2.2.2.2.2.2.2.2.1,(s.2.2.2.2.2.2.2.2.2.2.2.1,([],()))))))))))))))))
 fun k49=>W.call (zsl s.2.2.2.2.2.2.2.2.2.2.1) fun v50=>
 W.cnd (!v50) ((k49 (true,())))
  (W.call (zyz s.2.2.2.2.2.2.2.2.2.2.2.1) fun v51=>(k49 ((!v51),())))
noncomputable def zow(s:zan)(id:Int):Option (zan×(List zaq)×Int×Unit):=zkp stdW s id
noncomputable def zxl:ES:=⟨(.pair tAState (.pair (.int .i64) .unit)),(.pair (.v tAState) (.pair (.own 38 tAReturn) (.pair (.v (.int .i64)) .unit))),fun x=>zow x.1 x.2.1⟩
theorem yhx:ECok Tryz.prog 10 (.es zxl)   := es_ok (A:=(.pair tAState (.pair (.int .i64) .unit))) (Q:=(.pair (.v tAState) (.pair (.own 38 tAReturn) (.pair (.v (.int .i64)) .unit)))) (fun W x=>zkp W x.1 x.2.1) [(56,.es zwa),(57,.es yfl),(24,.es zsm),(14,.es zvy),(58,.es ybb),(59,.es zxn)] ⟨ybc,yoa,yec,yav,ylb,yhz,trivial⟩ [(12,[],(.rd 0 (.rd 1 (.rd 2 (.rd 3 (.two 4 6 (.two 5 6 (ofL [(6,false),(7,false)]) (ofL [(5,false),(7,false)])) (ofL [(4,false),(5,false),(7,false)]))))))),(15,[],(ofL [(0,true),(1,true),(2,true),(3,true),(4,true),(6,true),(7,true),(8,true),(5,false),(9,true),(10,false),(11,false),(12,true),(13,true),(14,true),(15,true),(16,true)])),(17,[0],(.rd 0 (.rd 2 (.rd 3 (.rd 4 (.two 1 5 (ofL [(5,false),(6,false),(7,true),(8,false)]) (ofL [(1,false),(6,false),(7,true),(8,false)])))))))] [(6,⟨[(7,.row 2)],[(0,[.t (.int .i64),.t (.slc tAMember),.t (.slc tAInst),.t (.slc tAAsset),.t (.slc tAAccount),.t (.slc tAChoice),.t (.slc tAGroup),.t (.slc tAGive),.t (.slc tAPos),.t (.slc tAPos),.t (.slc tAFlow),.t (.slc tAHold)])],[.dead,.dead,.own 38 tAReturn]⟩),(11,⟨[(7,.row 2),(9,.row 3)],[(0,[.t (.int .i64),.t (.slc tAMember),.t (.slc tAInst),.t (.slc tAAsset),.t (.slc tAAccount),.t (.slc tAChoice),.t (.slc tAGroup),.t (.slc tAGive),.t (.slc tAPos),.t (.slc tAPos),.t (.slc tAFlow),.t (.slc tAHold)])],[.dead,.dead,.own 38 tAReturn,.own 35 tAUnit]⟩),(500023,⟨[(23,.t .bool)],[],[]⟩),(500066,⟨[(7,.row 2),(9,.row 3),(66,.t .bool)],[],[.dead,.dead,.own 38 tAReturn,.own 35 tAUnit]⟩)] [(5,⟨[(7,.row 2),(8,.t (.int .i64))],[(0,[.t (.int .i64),.t (.slc tAMember),.t (.slc tAInst),.t (.slc tAAsset),.t (.slc tAAccount),.t (.slc tAChoice),.t (.slc tAGroup),.t (.slc tAGive),.t (.slc tAPos),.t (.slc tAPos),.t (.slc tAFlow),.t (.slc tAHold)])],[.dead,.dead,.own 38 tAReturn]⟩),(10,⟨[(7,.row 2),(9,.row 3),(10,.t (.int .i64))],[(0,[.t (.int .i64),.t (.slc tAMember),.t (.slc tAInst),.t (.slc tAAsset),.t (.slc tAAccount),.t (.slc tAChoice),.t (.slc tAGroup),.t (.slc tAGive),.t (.slc tAPos),.t (.slc tAPos),.t (.slc tAFlow),.t (.slc tAHold)])],[.dead,.dead,.own 38 tAReturn,.own 35 tAUnit]⟩)] Tryz.func10 rfl (by decide +kernel) rfl rfl (fun W x=>by kernel_rfl)
noncomputable def zpi(W:Wd)(a:zab)(b:zab):Option zab:=W.room a.2.1.length 1 (
 W.loop (fun (z1:List (Int)×List (Int)×Int×Unit) again2=>
 W.cnd (decide (z1.2.2.1<(b.2.1.length:Int))) (
  W.join (fun (z3:List (Int)×Unit)=>W.room (0::[]).length 1 (W.room ((0::[]).length+z1.2.1.length) 1 ((again2 (z3.1,(((0::[])++z1.2.1),((IntKind.i64.wrap (z1.2.2.1+1)),())))))))
  fun k4=>W.idx b.2.1 z1.2.2.1 fun x5=>
  W.cnd (x5==1) (W.call (zem z1.1 z1.2.1) fun v6=>(k4 (v6,())))
   ((k4 (z1.1,()))))
  (W.call (zdt (Go.Vc.notIf true (a.1==b.1)) z1.1) fun v7=>some (v7.1,(v7.2.1,()))))
 ([],(a.2.1,(0,()))))
noncomputable def zgc(a:zab)(b:zab):Option zab:=zpi stdW a b
noncomputable def zqr:ES:=⟨(.pair tNovationref01Big (.pair tNovationref01Big .unit)),(.v tNovationref01Big),fun x=>zgc x.1 x.2.1⟩
theorem zxw:ECok Tryz.prog 88 (.es zqr)   := es_ok (A:=(.pair tNovationref01Big (.pair tNovationref01Big .unit))) (Q:=(.v tNovationref01Big)) (fun W x=>zpi W x.1 x.2.1) [(70,.es zik),(69,.es zgb)] ⟨zle,zgt,trivial⟩ [] [(8,⟨[(5,.t (.slc (.int .u8)))],[],[]⟩)] [(4,⟨[(5,.t (.slc (.int .u8))),(6,.t (.slc (.int .u8))),(7,.t (.int .i64))],[],[]⟩)] Tryz.func88 rfl (by decide +kernel) rfl rfl (fun W x=>by kernel_rfl)
noncomputable def zii(W:Wd)(a:zac)(qty:Int):Option zab:=W.call (zdc qty) fun v1=>W.call (zdc a.2.1) fun v2=>W.call (zgc (v1.1,(v1.2.1,())) (v2.1,(v2.2.1,()))) fun v3=>some (v3.1,(v3.2.1,()))
noncomputable def zej(a:zac)(qty:Int):Option zab:=zii stdW a qty
noncomputable def zla:ES:=⟨(.pair tAAsset (.pair (.int .i64) .unit)),(.v tNovationref01Big),fun x=>zej x.1 x.2.1⟩
theorem zqe:ECok Tryz.prog 123 (.es zla)   := es_ok (A:=(.pair tAAsset (.pair (.int .i64) .unit))) (Q:=(.v tNovationref01Big)) (fun W x=>zii W x.1 x.2.1) [(20,.es zgx),(88,.es zqr)] ⟨zhf,zxw,trivial⟩ [(1,[1],(ofL [(0,true),(2,true),(3,true),(1,false),(4,false),(5,false),(6,false)]))] [] [] Tryz.func123 rfl (by decide +kernel) rfl rfl (fun W x=>by kernel_rfl)
noncomputable def yfr(W:Wd)(a:zab)(d:Int):Option (zab×Int×Unit):=
 W.loop (fun (z1:Int×List (Int)×Int×Unit) again2=>
 W.cnd (decide (0<z1.2.2.1)) (W.idx a.2.1 (IntKind.i64.wrap (z1.2.2.1 - 1)) fun x3=>
  W.join (fun (z4:Int×Int×Unit)=>W.room (z4.2.1::[]).length 1 (W.room ((z4.2.1::[]).length+z1.2.1.length) 1 ((again2 (z4.1,(((z4.2.1::[])++z1.2.1),((IntKind.i64.wrap (z1.2.2.1 - 1)),())))))))
  fun k5=>
  W.cnd (decide (d≤(IntKind.u64.wrap ((IntKind.u64.wrap (2*z1.1))+(IntKind.u64.wrap x3))))) ((k5 ((IntKind.u64.wrap ((IntKind.u64.wrap ((IntKind.u64.wrap (2*z1.1))+(IntKind.u64.wrap x3))) - d)),(1,()))))
   ((k5 ((IntKind.u64.wrap ((IntKind.u64.wrap (2*z1.1))+(IntKind.u64.wrap x3))),(0,())))))
  (W.call (zdt a.1 z1.2.1) fun v6=>
  W.join (fun (z7:Int×Bool×List (Int)×Unit)=>some ((z7.2.1,(z7.2.2.1,())),(z7.1,())))
  fun k8=>
  W.join (fun (z9:Bool×Unit)=>
   W.cnd z9.1 (
   W.join (fun (z10:Bool×List (Int)×Unit)=>(k8 ((IntKind.u64.wrap (d - z1.1)),(z10.1,(z10.2.1,())))))
    fun k11=>W.both (W.call (zet 1) fun v12=>W.call (ybk (v6.1,(v6.2.1,())) (v12.1,(v12.2.1,()))) fun v13=>(k11 (v13.1,(v13.2.1,())))) (W.call (zet 1) fun v14=>W.call (ybk (v6.1,(v6.2.1,())) (v14.1,(v14.2.1,()))) fun v15=>(k11 (v15.1,(v15.2.1,())))))
   ((k8 (z1.1,(v6.1,(v6.2.1,()))))))
   fun k16=>
   W.cnd a.1 ((k16 ((decide (0<z1.1)),())))
   ((k16 (false,())))))
 (0,([],((a.2.1.length:Int),())))
noncomputable def zjg(a:zab)(d:Int):Option (zab×Int×Unit):=yfr stdW a d
noncomputable def ybm:ES:=⟨(.pair tNovationref01Big (.pair (.int .u64) .unit)),(.pair (.v tNovationref01Big) (.pair (.v (.int .u64)) .unit)),fun x=>zjg x.1 x.2.1⟩
theorem yli:ECok Tryz.prog 189 (.es ybm)   := es_ok (A:=(.pair tNovationref01Big (.pair (.int .u64) .unit))) (Q:=(.pair (.v tNovationref01Big) (.pair (.v (.int .u64)) .unit))) (fun W x=>yfr W x.1 x.2.1) [(69,.es zgb),(73,.es zlh),(74,.es ybj)] ⟨zgt,znj,ylf,trivial⟩ [(16,[2],(.two 0 1 (ofL [(1,false),(2,false),(3,false)]) (ofL [(0,false),(2,false),(3,false)])))] [(11,⟨[(6,.t (.int .u64)),(9,.t (.int .u8))],[],[]⟩),(17,⟨[],[(2,[.t .bool,.t (.slc (.int .u8))])],[]⟩),(18,⟨[(6,.t (.int .u64))],[(2,[.t .bool,.t (.slc (.int .u8))])],[]⟩),(500051,⟨[(51,.t .bool)],[],[]⟩)] [(4,⟨[(6,.t (.int .u64)),(7,.t (.slc (.int .u8))),(8,.t (.int .i64))],[],[]⟩)] Tryz.func189 rfl (by decide +kernel) rfl rfl (fun W x=>by kernel_rfl)
noncomputable def zxt(W:Wd)(a:zac)(qty:Int):Option zab:=W.both (W.call (zej a qty) fun v1=>W.both (W.call (zdc (IntKind.i64.wrap (10000 - a.2.2.1))) fun v2=>W.both (W.call (zgc (v1.1,(v1.2.1,())) (v2.1,(v2.2.1,()))) fun v3=>W.both (W.call (zjg (v3.1,(v3.2.1,())) 10000) fun v4=>some (v4.1.1,(v4.1.2.1,()))) (W.call (zjg (v3.1,(v3.2.1,())) 10000) fun v5=>some (v5.1.1,(v5.1.2.1,())))) (W.call (zgc (v1.1,(v1.2.1,())) (v2.1,(v2.2.1,()))) fun v6=>W.call (zjg (v6.1,(v6.2.1,())) 10000) fun v7=>some (v7.1.1,(v7.1.2.1,())))) (W.call (zdc (IntKind.i64.wrap (10000 - a.2.2.1))) fun v8=>W.call (zgc (v1.1,(v1.2.1,())) (v8.1,(v8.2.1,()))) fun v9=>W.call (zjg (v9.1,(v9.2.1,())) 10000) fun v10=>some (v10.1.1,(v10.1.2.1,())))) (W.call (zej a qty) fun v11=>W.call (zdc (IntKind.i64.wrap (10000 - a.2.2.1))) fun v12=>W.call (zgc (v11.1,(v11.2.1,())) (v12.1,(v12.2.1,()))) fun v13=>W.call (zjg (v13.1,(v13.2.1,())) 10000) fun v14=>some (v14.1.1,(v14.1.2.1,())))
noncomputable def zld(a:zac)(qty:Int):Option zab:=zxt stdW a qty
noncomputable def zsw:ES:=⟨(.pair tAAsset (.pair (.int .i64) .unit)),(.v tNovationref01Big),fun x=>zld x.1 x.2.1⟩
theorem yef:ECok Tryz.prog 124 (.es zsw)   := es_ok (A:=(.pair tAAsset (.pair (.int .i64) .unit))) (Q:=(.v tNovationref01Big)) (fun W x=>zxt W x.1 x.2.1) [(123,.es zla),(20,.es zgx),(88,.es zqr),(189,.es ybm)] ⟨zqe,zhf,zxw,yli,trivial⟩ [(1,[],(.rd 0 (.rd 1 (.rd 3 (.rd 4 (.rd 5 (.two 2 12 (.two 6 12 (.two 7 12 (.two 8 12 (ofL [(9,true),(10,true),(11,true),(12,false),(13,false),(14,true)]) (ofL [(8,false),(9,true),(10,true),(11,true),(13,false),(14,true)])) (ofL [(7,false),(8,false),(9,true),(10,true),(11,true),(13,false),(14,true)])) (ofL [(6,false),(7,false),(8,false),(9,true),(10,true),(11,true),(13,false),(14,true)])) (ofL [(2,false),(6,false),(7,false),(8,false),(9,true),(10,true),(11,true),(13,false),(14,true)]))))))))] [] [] Tryz.func124 rfl (by decide +kernel) rfl rfl (fun W x=>by kernel_rfl)
noncomputable def zox(W:Wd)(as_:List zac)(l:List zac)(cash:Int)(counted:Bool):Option (Int×Int×Unit):=W.call (zza l) fun v1=>
 W.cnd (!v1) (some (0,(3,())))
 (W.call (zdc cash) fun v2=>
 W.loop (fun (z3:Int×Bool×List (Int)×Unit) again4=>
  W.cnd (decide (z3.1<(l.length:Int))) (
  W.join (fun (z5:Bool×List (Int)×Unit)=>(again4 ((IntKind.i64.wrap (z3.1+1)),(z5.1,(z5.2.1,())))))
   fun k6=>W.idx l z3.1 fun x7=>W.call (zph as_ x7.1) fun v8=>
   W.cnd (!v8.2.1) (some (0,(11,())))
   (W.idx l z3.1 fun x9=>W.both (W.call (zej v8.1 x9.2.2.1) fun v10=>W.call (zca (v10.1,(v10.2.1,()))) fun v11=>
    W.cnd (!v11) (some (0,(7,())))
    (
    W.join (fun (z12:Bool×List (Int)×Unit)=>W.call (zbq (z3.2.1,(z3.2.2.1,())) (z12.1,(z12.2.1,()))) fun v13=>(k6 (v13.1,(v13.2.1,()))))
     fun k14=>
     W.cnd counted (W.idx l z3.1 fun x15=>W.call (zld v8.1 x15.2.2.1) fun v16=>(k14 (v16.1,(v16.2.1,()))))
     ((k14 (v10.1,(v10.2.1,())))))) (W.call (zej v8.1 x9.2.2.1) fun v17=>W.call (zca (v17.1,(v17.2.1,()))) fun v18=>
    W.cnd (!v18) (some (0,(7,())))
    (
    W.join (fun (z19:Bool×List (Int)×Unit)=>W.call (zbq (z3.2.1,(z3.2.2.1,())) (z19.1,(z19.2.1,()))) fun v20=>(k6 (v20.1,(v20.2.1,()))))
     fun k21=>
     W.cnd counted (W.idx l z3.1 fun x22=>W.call (zld v8.1 x22.2.2.1) fun v23=>(k21 (v23.1,(v23.2.1,()))))
     ((k21 (v17.1,(v17.2.1,()))))))))
  (W.call (zca (z3.2.1,(z3.2.2.1,()))) fun v24=>
  W.cnd (!v24) (some (0,(7,())))
   (W.call (zdg (z3.2.1,(z3.2.2.1,()))) fun v25=>some (v25,(0,())))))
  (0,(v2.1,(v2.2.1,()))))
noncomputable def yax(as_:List zac)(l:List zac)(cash:Int)(counted:Bool):Option (Int×Int×Unit):=zox stdW as_ l cash counted
noncomputable def yaw:ES:=⟨(.pair (.slc tAAsset) (.pair (.slc tAAsset) (.pair (.int .i64) (.pair .bool .unit)))),(.pair (.v (.int .i64)) (.pair (.v (.int .i64)) .unit)),fun x=>yax x.1 x.2.1 x.2.2.1 x.2.2.2.1⟩
theorem ykz:ECok Tryz.prog 62 (.es yaw)   := es_ok (A:=(.pair (.slc tAAsset) (.pair (.slc tAAsset) (.pair (.int .i64) (.pair .bool .unit))))) (Q:=(.pair (.v (.int .i64)) (.pair (.v (.int .i64)) .unit))) (fun W x=>zox W x.1 x.2.1 x.2.2.1 x.2.2.2.1) [(115,.es zvz),(20,.es zgx),(122,.es znh),(123,.es zla),(63,.es zil),(124,.es zsw),(19,.es zfh),(64,.es zli)] ⟨yba,zhf,zsv,zqe,zlj,yef,zgd,znk,trivial⟩ [(10,[],(.rd 0 (.rd 1 (.rd 2 (.rd 3 (.rd 4 (.rd 5 (.two 6 7 (ofL [(7,false),(8,false)]) (ofL [(6,false),(8,false)]))))))))),(14,[2],(ofL [(0,true),(1,true),(2,true),(3,true),(4,true),(5,true),(6,false),(7,false)]))] [(6,⟨[],[(0,[.t .bool,.t (.slc (.int .u8))])],[]⟩),(15,⟨[],[(2,[.t .bool,.t (.slc (.int .u8))])],[]⟩)] [(5,⟨[(11,.t (.int .i64))],[(0,[.t .bool,.t (.slc (.int .u8))])],[]⟩)] Tryz.func62 rfl (by decide +kernel) rfl rfl (fun W x=>by kernel_rfl)
noncomputable def zie(W:Wd)(as_:List zac)(r:zaq):Option (Int×Int×Unit):=W.call (yax as_ r.2.2.1 0 false) fun v1=>
 W.cnd (v1.2.1 != 0) (some (0,v1.2))
 (W.both (W.call (zdc v1.1) fun v2=>W.both (W.call (zdc r.2.1) fun v3=>W.both (W.call (zbq (v2.1,(v2.2.1,())) (v3.1,(v3.2.1,()))) fun v4=>W.call (zca (v4.1,(v4.2.1,()))) fun v5=>
   W.cnd (!v5) (some (0,(7,())))
   (W.call (zdg (v4.1,(v4.2.1,()))) fun v6=>some (v6,(0,())))) (W.call (zbq (v2.1,(v2.2.1,())) (v3.1,(v3.2.1,()))) fun v7=>W.call (zca (v7.1,(v7.2.1,()))) fun v8=>
   W.cnd (!v8) (some (0,(7,())))
   (W.call (zdg (v7.1,(v7.2.1,()))) fun v9=>some (v9,(0,()))))) (W.call (zdc r.2.1) fun v10=>W.call (zbq (v2.1,(v2.2.1,())) (v10.1,(v10.2.1,()))) fun v11=>W.call (zca (v11.1,(v11.2.1,()))) fun v12=>
  W.cnd (!v12) (some (0,(7,())))
   (W.call (zdg (v11.1,(v11.2.1,()))) fun v13=>some (v13,(0,()))))) (W.call (zdc v1.1) fun v14=>W.call (zdc r.2.1) fun v15=>W.call (zbq (v14.1,(v14.2.1,())) (v15.1,(v15.2.1,()))) fun v16=>W.call (zca (v16.1,(v16.2.1,()))) fun v17=>
  W.cnd (!v17) (some (0,(7,())))
  (W.call (zdg (v16.1,(v16.2.1,()))) fun v18=>some (v18,(0,())))))
noncomputable def zkn(as_:List zac)(r:zaq):Option (Int×Int×Unit):=zie stdW as_ r
noncomputable def zse:ES:=⟨(.pair (.slc tAAsset) (.pair tAReturn .unit)),(.pair (.v (.int .i64)) (.pair (.v (.int .i64)) .unit)),fun x=>zkn x.1 x.2.1⟩
theorem yea:ECok Tryz.prog 12 (.es zse)   := es_ok (A:=(.pair (.slc tAAsset) (.pair tAReturn .unit))) (Q:=(.pair (.v (.int .i64)) (.pair (.v (.int .i64)) .unit))) (fun W x=>zie W x.1 x.2.1) [(62,.es yaw),(20,.es zgx),(19,.es zfh),(63,.es zil),(64,.es zli)] ⟨ykz,zhf,zgd,zlj,znk,trivial⟩ [(4,[],(.rd 0 (.rd 2 (.rd 3 (.two 1 6 (.two 4 6 (.two 5 6 (ofL [(6,false),(7,false)]) (ofL [(5,false),(7,false)])) (ofL [(4,false),(5,false),(7,false)])) (ofL [(1,false),(4,false),(5,false),(7,false)]))))))] [] [] Tryz.func12 rfl (by decide +kernel) rfl rfl (fun W x=>by kernel_rfl)
noncomputable def zkw(W:Wd)(a:List AFlow')(b:List AFlow'):Option Bool:=
 W.cnd ((a.length:Int) != (b.length:Int)) (some false)
 (
 W.loop (fun (z1:Int×Unit) again2=>
  W.cnd (decide (z1.1<(a.length:Int))) (W.idx a z1.1 fun x3=>W.idx b z1.1 fun x4=>
  W.cnd (Go.Vc.notIf true ((x3.1.1==x4.1.1)&&((x3.1.2.1==x4.1.2.1)&&(x3.2.1==x4.2.1)))) (some false)
   ((again2 ((IntKind.i64.wrap (z1.1+1)),()))))
  (some true))
  (0,()))
noncomputable def zpc(a:List AFlow')(b:List AFlow'):Option Bool:=zkw stdW a b
noncomputable def zxr:ES:=⟨(.pair (.slc tAFlow) (.pair (.slc tAFlow) .unit)),(.v .bool),fun x=>zpc x.1 x.2.1⟩
theorem yid:ECok Tryz.prog 67 (.es zxr)   := es_ok (A:=(.pair (.slc tAFlow) (.pair (.slc tAFlow) .unit))) (Q:=(.v .bool)) (fun W x=>zkw W x.1 x.2.1) [] trivial [(6,[],(ofL [(0,true),(1,true),(2,true),(3,true),(4,true),(5,true),(6,true),(7,true),(8,true)]))] [] [(4,⟨[(5,.t (.int .i64))],[],[]⟩)] Tryz.func67 rfl (by decide +kernel) rfl rfl (fun W x=>by kernel_rfl)
noncomputable def zks(W:Wd)(a:List AHold')(b:List AHold'):Option Bool:=
 W.cnd ((a.length:Int) != (b.length:Int)) (some false)
 (
 W.loop (fun (z1:Int×Unit) again2=>
  W.cnd (decide (z1.1<(a.length:Int))) (
  W.join (fun (z3:Bool×Unit)=>
   W.cnd z3.1 (some false)
   ((again2 ((IntKind.i64.wrap (z1.1+1)),()))))
   fun k4=>W.idx a z1.1 fun x5=>W.idx b z1.1 fun x6=>
   W.cnd (Go.Vc.notIf true ((x5.1.1==x6.1.1)&&(x5.1.2.1==x6.1.2.1))) ((k4 (true,())))
   (W.idx a z1.1 fun x7=>W.idx b z1.1 fun x8=>W.call (zpb x7.2.1 x8.2.1) fun v9=>(k4 ((!v9),()))))
  (some true))
  (0,()))
noncomputable def zoy(a:List AHold')(b:List AHold'):Option Bool:=zks stdW a b
noncomputable def zxo:ES:=⟨(.pair (.slc tAHold) (.pair (.slc tAHold) .unit)),(.v .bool),fun x=>zoy x.1 x.2.1⟩
theorem yia:ECok Tryz.prog 68 (.es zxo)   := es_ok (A:=(.pair (.slc tAHold) (.pair (.slc tAHold) .unit))) (Q:=(.v .bool)) (fun W x=>zks W x.1 x.2.1) [(26,.es znf)] ⟨zsh,trivial⟩ [(6,[],(ofL [(0,true),(1,true),(2,true),(3,true),(4,true),(5,true),(6,true),(7,true),(8,true),(9,true),(10,true),(11,true),(12,true),(13,true),(14,true),(15,true),(16,true),(17,true),(18,true),(19,true),(20,true),(21,true),(22,false),(23,true),(24,true)]))] [(500041,⟨[(41,.t .bool)],[],[]⟩)] [(4,⟨[(5,.t (.int .i64))],[],[]⟩)] Tryz.func68 rfl (by decide +kernel) rfl rfl (fun W x=>by kernel_rfl)
noncomputable def zkq(W:Wd)(a:zan)(b:zan):Option Bool:=W.call (zpc a.2.2.2.2.2.2.2.2.2.2.1 b.2.2.2.2.2.2.2.2.2.2.1) fun v1=>
 W.cnd v1 (W.call (zoy a.2.2.2.2.2.2.2.2.2.2.2.1 b.2.2.2.2.2.2.2.2.2.2.2.1) fun v2=>some v2)
 (some false)
noncomputable def zbv(a:zan)(b:zan):Option Bool:=zkq stdW a b
noncomputable def zxm:ES:=⟨(.pair tAState (.pair tAState .unit)),(.v .bool),fun x=>zbv x.1 x.2.1⟩
theorem yhy:ECok Tryz.prog 15 (.es zxm)   := es_ok (A:=(.pair tAState (.pair tAState .unit))) (Q:=(.v .bool)) (fun W x=>zkq W x.1 x.2.1) [(67,.es zxr),(68,.es zxo)] ⟨yid,yia,trivial⟩ [] [] [] Tryz.func15 rfl (by decide +kernel) rfl rfl (fun W x=>by kernel_rfl)
noncomputable def zko(W:Wd)(a:List zaq)(b:List zaq):Option Bool:=
 W.cnd ((a.length:Int) != (b.length:Int)) (some false)
 (
 W.loop (fun (z1:Int×Unit) again2=>
  W.cnd (decide (z1.1<(a.length:Int))) (
  W.join (fun (z3:Bool×Unit)=>
   W.cnd z3.1 (some false)
   ((again2 ((IntKind.i64.wrap (z1.1+1)),()))))
   fun k4=>W.idx a z1.1 fun x5=>W.idx b z1.1 fun x6=>
   W.cnd (Go.Vc.notIf true ((x5.1.1==x6.1.1)&&(x5.1.2.1==x6.1.2.1))) ((k4 (true,())))
   (W.idx a z1.1 fun x7=>W.idx b z1.1 fun x8=>
   W.cnd (x7.2.1 != x8.2.1) ((k4 (true,())))
    (W.idx a z1.1 fun x9=>W.idx b z1.1 fun x10=>W.call (zpb x9.2.2.1 x10.2.2.1) fun v11=>(k4 ((!v11),())))))
  (some true))
  (0,()))
noncomputable def zar(a:List zaq)(b:List zaq):Option Bool:=zko stdW a b
noncomputable def zxk:ES:=⟨(.pair (.slc tAReturn) (.pair (.slc tAReturn) .unit)),(.v .bool),fun x=>zar x.1 x.2.1⟩
theorem yhw:ECok Tryz.prog 16 (.es zxk)   := es_ok (A:=(.pair (.slc tAReturn) (.pair (.slc tAReturn) .unit))) (Q:=(.v .bool)) (fun W x=>zko W x.1 x.2.1) [(26,.es znf)] ⟨zsh,trivial⟩ [(6,[],(ofL [(0,true),(1,true),(2,true),(3,true),(4,true),(5,true),(6,true),(7,true),(8,true),(9,true),(10,true),(11,true),(12,true),(13,true),(14,true),(15,true),(16,true),(17,true),(18,true),(19,true),(20,true),(21,true),(22,true),(23,true),(24,true),(25,true),(26,true),(27,true),(28,true),(29,true),(30,true),(31,true),(32,true),(33,true),(34,true),(35,false),(36,true),(37,true)]))] [(500054,⟨[(54,.t .bool)],[],[]⟩)] [(4,⟨[(5,.t (.int .i64))],[],[]⟩)] Tryz.func16 rfl (by decide +kernel) rfl rfl (fun W x=>by kernel_rfl)
noncomputable def zeg(W:Wd)(s:zan)(id:Int)(u:AUnit')(r:zaq):Option Bool:=W.call (zto (s.1,(s.2.1,(s.2.2.1,(s.2.2.2.1,(s.2.2.2.2.1,(s.2.2.2.2.2.1,(s.2.2.2.2.2.2.1,(s.2.2.2.2.2.2.2.1,(s.2.2.2.2.2.2.2.2.1,(s.2.2.2.2.2.2.2.2.2.1,(s.2.2.2.2.2.2.2.2.2.2.1,(s.2.2.2.2.2.2.2.2.2.2.2.1,()))))))))))))) fun v1=>W.call (ztq r.2.2.1) fun v2=>W.call (zfy (v1.1,(v1.2.1,(v1.2.2.1,(v1.2.2.2.1,(v1.2.2.2.2.1,(v1.2.2.2.2.2.1,(v1.2.2.2.2.2.2.1,(v1.2.2.2.2.2.2.2.1,(v1.2.2.2.2.2.2.2.2.1,(v1.2.2.2.2.2.2.2.2.2.1,(v1.2.2.2.2.2.2.2.2.2.2.1,(v1.2.2.2.2.2.2.2.2.2.2.2.1,())))))))))))) id) fun v3=>W.call (zow (v1.1,(v1.2.1,(v1.2.2.1,(v1.2.2.2.1,(v1.2.2.2.2.1,(v1.2.2.2.2.2.1,(v1.2.2.2.2.2.2.1,(v1.2.2.2.2.2.2.2.1,(v1.2.2.2.2.2.2.2.2.1,(v1.2.2.2.2.2.2.2.2.2.1,(v1.2.2.2.2.2.2.2.2.2.2.1,(v1.2.2.2.2.2.2.2.2.2.2.2.1,())))))))))))) id) fun v4=>W.call (zfe v1.2.2.2.1 (r.1,(r.2.1,(v2,())))) fun v5=>W.call (zkn v1.2.2.2.1 (r.1,(r.2.1,(v2,())))) fun v6=>W.both (W.call (zff (v1.1,(v1.2.1,(v1.2.2.1,(v1.2.2.2.1,(v1.2.2.2.2.1,(v1.2.2.2.2.2.1,(v1.2.2.2.2.2.2.1,(v1.2.2.2.2.2.2.2.1,(v1.2.2.2.2.2.2.2.2.1,(v1.2.2.2.2.2.2.2.2.2.1,(v1.2.2.2.2.2.2.2.2.2.2.1,(v1.2.2.2.2.2.2.2.2.2.2.2.1,())))))))))))) u) fun v7=>W.both (W.call (zcg (v1.1,(v1.2.1,(v1.2.2.1,(v1.2.2.2.1,(v1.2.2.2.2.1,(v1.2.2.2.2.2.1,(v1.2.2.2.2.2.2.1,(v1.2.2.2.2.2.2.2.1,(v1.2.2.2.2.2.2.2.2.1,(v1.2.2.2.2.2.2.2.2.2.1,(v1.2.2.2.2.2.2.2.2.2.2.1,(v1.2.2.2.2.2.2.2.2.2.2.2.1,())))))))))))) u) fun v8=>W.both (W.call (zbv (v3.1.1,(v3.1.2.1,(v3.1.2.2.1,(v3.1.2.2.2.1,(v3.1.2.2.2.2.1,(v3.1.2.2.2.2.2.1,(v3.1.2.2.2.2.2.2.1,(v3.1.2.2.2.2.2.2.2.1,(v3.1.2.2.2.2.2.2.2.2.1,(v3.1.2.2.2.2.2.2.2.2.2.1,(v3.1.2.2.2.2.2.2.2.2.2.2.1,(v3.1.2.2.2.2.2.2.2.2.2.2.2.1,())))))))))))) (v4.1.1,(v4.1.2.1,(v4.1.2.2.1,(v4.1.2.2.2.1,(v4.1.2.2.2.2.1,(v4.1.2.2.2.2.2.1,(v4.1.2.2.2.2.2.2.1,(v4.1.2.2.2.2.2.2.2.1,(v4.1.2.2.2.2.2.2.2.2.1,(v4.1.2.2.2.2.2.2.2.2.2.1,(v4.1.2.2.2.2.2.2.2.2.2.2.1,(v4.1.2.2.2.2.2.2.2.2.2.2.2.1,()))))))))))))) fun v9=>
  W.cnd v9 (W.call (zar v3.2.1 v4.2.1) fun v10=>
   W.cnd v10 (
   W.cnd (v3.2.2.1==v4.2.2.1) (
    W.cnd (v5.1==v6.1) (
    W.cnd (v5.2.1==v6.2.1) (W.call (zar ((v7.1,(v7.2.1,(v7.2.2.1,())))::[]) ((v8.1,(v8.2.1,(v8.2.2.1,())))::[])) fun v11=>
     W.cnd v11 (W.call (zbi) fun v12=>some v12)
     (some false))
     (some false))
    (some false))
    (some false))
   (some false))
   (some false)) (W.call (zbv (v3.1.1,(v3.1.2.1,(v3.1.2.2.1,(v3.1.2.2.2.1,(v3.1.2.2.2.2.1,(v3.1.2.2.2.2.2.1,(v3.1.2.2.2.2.2.2.1,(v3.1.2.2.2.2.2.2.2.1,(v3.1.2.2.2.2.2.2.2.2.1,(v3.1.2.2.2.2.2.2.2.2.2.1,(v3.1.2.2.2.2.2.2.2.2.2.2.1,(v3.1.2.2.2.2.2.2.2.2.2.2.2.1,())))))))))))) (v4.1.1,(v4.1.2.1,(v4.1.2.2.1,(v4.1.2.2.2.1,(v4.1.2.2.2.2.1,(v4.1.2.2.2.2.2.1,(v4.1.2.2.2.2.2.2.1,(v4.1.2.2.2.2.2.2.2.1,(v4.1.2.2.2.2.2.2.2.2.1,(v4.1.2.2.2.2.2.2.2.2.2.1,(v4.1.2.2.2.2.2.2.2.2.2.2.1,(v4.1.2.2.2.2.2.2.2.2.2.2.2.1,()))))))))))))) fun v13=>
  W.cnd v13 (W.call (zar v3.2.1 v4.2.1) fun v14=>
   W.cnd v14 (
   W.cnd (v3.2.2.1==v4.2.2.1) (
    W.cnd (v5.1==v6.1) (
    W.cnd (v5.2.1==v6.2.1) (W.call (zar ((v7.1,(v7.2.1,(v7.2.2.1,())))::[]) ((v8.1,(v8.2.1,(v8.2.2.1,())))::[])) fun v15=>
     W.cnd v15 (W.call (zbi) fun v16=>some v16)
     (some false))
     (some false))
    (some false))
    (some false))
   (some false))
   (some false))) (W.both (W.both (W.call (zcg (v1.1,(v1.2.1,(v1.2.2.1,(v1.2.2.2.1,(v1.2.2.2.2.1,(v1.2.2.2.2.2.1,(v1.2.2.2.2.2.2.1,(v1.2.2.2.2.2.2.2.1,(v1.2.2.2.2.2.2.2.2.1,(v1.2.2.2.2.2.2.2.2.2.1,(v1.2.2.2.2.2.2.2.2.2.2.1,(v1.2.2.2.2.2.2.2.2.2.2.2.1,())))))))))))) u) fun v17=>W.call (zbv (v3.1.1,(v3.1.2.1,(v3.1.2.2.1,(v3.1.2.2.2.1,(v3.1.2.2.2.2.1,(v3.1.2.2.2.2.2.1,(v3.1.2.2.2.2.2.2.1,(v3.1.2.2.2.2.2.2.2.1,(v3.1.2.2.2.2.2.2.2.2.1,(v3.1.2.2.2.2.2.2.2.2.2.1,(v3.1.2.2.2.2.2.2.2.2.2.2.1,(v3.1.2.2.2.2.2.2.2.2.2.2.2.1,())))))))))))) (v4.1.1,(v4.1.2.1,(v4.1.2.2.1,(v4.1.2.2.2.1,(v4.1.2.2.2.2.1,(v4.1.2.2.2.2.2.1,(v4.1.2.2.2.2.2.2.1,(v4.1.2.2.2.2.2.2.2.1,(v4.1.2.2.2.2.2.2.2.2.1,(v4.1.2.2.2.2.2.2.2.2.2.1,(v4.1.2.2.2.2.2.2.2.2.2.2.1,(v4.1.2.2.2.2.2.2.2.2.2.2.2.1,()))))))))))))) fun v18=>
   W.cnd v18 (W.call (zar v3.2.1 v4.2.1) fun v19=>
   W.cnd v19 (
    W.cnd (v3.2.2.1==v4.2.2.1) (
    W.cnd (v5.1==v6.1) (
     W.cnd (v5.2.1==v6.2.1) (W.call (zar ((v7.1,(v7.2.1,(v7.2.2.1,())))::[]) ((v17.1,(v17.2.1,(v17.2.2.1,())))::[])) fun v20=>
     W.cnd v20 (W.call (zbi) fun v21=>some v21)
      (some false))
     (some false))
     (some false))
    (some false))
    (some false))
   (some false)) (W.call (zcg (v1.1,(v1.2.1,(v1.2.2.1,(v1.2.2.2.1,(v1.2.2.2.2.1,(v1.2.2.2.2.2.1,(v1.2.2.2.2.2.2.1,(v1.2.2.2.2.2.2.2.1,(v1.2.2.2.2.2.2.2.2.1,(v1.2.2.2.2.2.2.2.2.2.1,(v1.2.2.2.2.2.2.2.2.2.2.1,(v1.2.2.2.2.2.2.2.2.2.2.2.1,())))))))))))) u) fun v22=>W.call (zbv (v3.1.1,(v3.1.2.1,(v3.1.2.2.1,(v3.1.2.2.2.1,(v3.1.2.2.2.2.1,(v3.1.2.2.2.2.2.1,(v3.1.2.2.2.2.2.2.1,(v3.1.2.2.2.2.2.2.2.1,(v3.1.2.2.2.2.2.2.2.2.1,(v3.1.2.2.2.2.2.2.2.2.2.1,(v3.1.2.2.2.2.2.2.2.2.2.2.1,(v3.1.2.2.2.2.2.2.2.2.2.2.2.1,())))))))))))) (v4.1.1,(v4.1.2.1,(v4.1.2.2.1,(v4.1.2.2.2.1,(v4.1.2.2.2.2.1,(v4.1.2.2.2.2.2.1,(v4.1.2.2.2.2.2.2.1,(v4.1.2.2.2.2.2.2.2.1,(v4.1.2.2.2.2.2.2.2.2.1,(v4.1.2.2.2.2.2.2.2.2.2.1,(v4.1.2.2.2.2.2.2.2.2.2.2.1,(v4.1.2.2.2.2.2.2.2.2.2.2.2.1,()))))))))))))) fun v23=>
   W.cnd v23 (W.call (zar v3.2.1 v4.2.1) fun v24=>
   W.cnd v24 (
    W.cnd (v3.2.2.1==v4.2.2.1) (
    W.cnd (v5.1==v6.1) (
     W.cnd (v5.2.1==v6.2.1) (W.call (zar ((v7.1,(v7.2.1,(v7.2.2.1,())))::[]) ((v22.1,(v22.2.1,(v22.2.2.1,())))::[])) fun v25=>
     W.cnd v25 (W.call (zbi) fun v26=>some v26)
      (some false))
     (some false))
     (some false))
    (some false))
    (some false))
   (some false))) (W.both (W.call (zcg (v1.1,(v1.2.1,(v1.2.2.1,(v1.2.2.2.1,(v1.2.2.2.2.1,(v1.2.2.2.2.2.1,(v1.2.2.2.2.2.2.1,(v1.2.2.2.2.2.2.2.1,(v1.2.2.2.2.2.2.2.2.1,(v1.2.2.2.2.2.2.2.2.2.1,(v1.2.2.2.2.2.2.2.2.2.2.1,(v1.2.2.2.2.2.2.2.2.2.2.2.1,())))))))))))) u) fun v27=>W.call (zbv (v3.1.1,(v3.1.2.1,(v3.1.2.2.1,(v3.1.2.2.2.1,(v3.1.2.2.2.2.1,(v3.1.2.2.2.2.2.1,(v3.1.2.2.2.2.2.2.1,(v3.1.2.2.2.2.2.2.2.1,(v3.1.2.2.2.2.2.2.2.2.1,(v3.1.2.2.2.2.2.2.2.2.2.1,(v3.1.2.2.2.2.2.2.2.2.2.2.1,(v3.1.2.2.2.2.2.2.2.2.2.2.2.1,())))))))))))) (v4.1.1,(v4.1.2.1,(v4.1.2.2.1,(v4.1.2.2.2.1,(v4.1.2.2.2.2.1,(v4.1.2.2.2.2.2.1,(v4.1.2.2.2.2.2.2.1,(v4.1.2.2.2.2.2.2.2.1,(v4.1.2.2.2.2.2.2.2.2.1,(v4.1.2.2.2.2.2.2.2.2.2.1,(v4.1.2.2.2.2.2.2.2.2.2.2.1,(v4.1.2.2.2.2.2.2.2.2.2.2.2.1,()))))))))))))) fun v28=>
   W.cnd v28 (W.call (zar v3.2.1 v4.2.1) fun v29=>
   W.cnd v29 (
    W.cnd (v3.2.2.1==v4.2.2.1) (
    W.cnd (v5.1==v6.1) (
     W.cnd (v5.2.1==v6.2.1) (W.call (zar ((v7.1,(v7.2.1,(v7.2.2.1,())))::[]) ((v27.1,(v27.2.1,(v27.2.2.1,())))::[])) fun v30=>
     W.cnd v30 (W.call (zbi) fun v31=>some v31)
      (some false))
     (some false))
     (some false))
    (some false))
    (some false))
   (some false)) (W.call (zcg (v1.1,(v1.2.1,(v1.2.2.1,(v1.2.2.2.1,(v1.2.2.2.2.1,(v1.2.2.2.2.2.1,(v1.2.2.2.2.2.2.1,(v1.2.2.2.2.2.2.2.1,(v1.2.2.2.2.2.2.2.2.1,(v1.2.2.2.2.2.2.2.2.2.1,(v1.2.2.2.2.2.2.2.2.2.2.1,(v1.2.2.2.2.2.2.2.2.2.2.2.1,())))))))))))) u) fun v32=>W.call (zbv (v3.1.1,(v3.1.2.1,(v3.1.2.2.1,(v3.1.2.2.2.1,(v3.1.2.2.2.2.1,(v3.1.2.2.2.2.2.1,(v3.1.2.2.2.2.2.2.1,(v3.1.2.2.2.2.2.2.2.1,(v3.1.2.2.2.2.2.2.2.2.1,(v3.1.2.2.2.2.2.2.2.2.2.1,(v3.1.2.2.2.2.2.2.2.2.2.2.1,(v3.1.2.2.2.2.2.2.2.2.2.2.2.1,())))))))))))) (v4.1.1,(v4.1.2.1,(v4.1.2.2.1,(v4.1.2.2.2.1,(v4.1.2.2.2.2.1,(v4.1.2.2.2.2.2.1,(v4.1.2.2.2.2.2.2.1,(v4.1.2.2.2.2.2.2.2.1,(v4.1.2.2.2.2.2.2.2.2.1,(v4.1.2.2.2.2.2.2.2.2.2.1,(v4.1.2.2.2.2.2.2.2.2.2.2.1,(v4.1.2.2.2.2.2.2.2.2.2.2.2.1,()))))))))))))) fun v33=>
   W.cnd v33 (W.call (zar v3.2.1 v4.2.1) fun v34=>
   W.cnd v34 (
    W.cnd (v3.2.2.1==v4.2.2.1) (
    W.cnd (v5.1==v6.1) (
     W.cnd (v5.2.1==v6.2.1) (W.call (zar ((v7.1,(v7.2.1,(v7.2.2.1,())))::[]) ((v32.1,(v32.2.1,(v32.2.2.1,())))::[])) fun v35=>
     W.cnd v35 (W.call (zbi) fun v36=>some v36)
      (some false))
     (some false))
     (some false))
    (some false))
    (some false))
   (some false))))) (W.both (W.both (W.call (zff (v1.1,(v1.2.1,(v1.2.2.1,(v1.2.2.2.1,(v1.2.2.2.2.1,(v1.2.2.2.2.2.1,(v1.2.2.2.2.2.2.1,(v1.2.2.2.2.2.2.2.1,(v1.2.2.2.2.2.2.2.2.1,(v1.2.2.2.2.2.2.2.2.2.1,(v1.2.2.2.2.2.2.2.2.2.2.1,(v1.2.2.2.2.2.2.2.2.2.2.2.1,())))))))))))) u) fun v37=>W.both (W.call (zcg (v1.1,(v1.2.1,(v1.2.2.1,(v1.2.2.2.1,(v1.2.2.2.2.1,(v1.2.2.2.2.2.1,(v1.2.2.2.2.2.2.1,(v1.2.2.2.2.2.2.2.1,(v1.2.2.2.2.2.2.2.2.1,(v1.2.2.2.2.2.2.2.2.2.1,(v1.2.2.2.2.2.2.2.2.2.2.1,(v1.2.2.2.2.2.2.2.2.2.2.2.1,())))))))))))) u) fun v38=>W.call (zbv (v3.1.1,(v3.1.2.1,(v3.1.2.2.1,(v3.1.2.2.2.1,(v3.1.2.2.2.2.1,(v3.1.2.2.2.2.2.1,(v3.1.2.2.2.2.2.2.1,(v3.1.2.2.2.2.2.2.2.1,(v3.1.2.2.2.2.2.2.2.2.1,(v3.1.2.2.2.2.2.2.2.2.2.1,(v3.1.2.2.2.2.2.2.2.2.2.2.1,(v3.1.2.2.2.2.2.2.2.2.2.2.2.1,())))))))))))) (v4.1.1,(v4.1.2.1,(v4.1.2.2.1,(v4.1.2.2.2.1,(v4.1.2.2.2.2.1,(v4.1.2.2.2.2.2.1,(v4.1.2.2.2.2.2.2.1,(v4.1.2.2.2.2.2.2.2.1,(v4.1.2.2.2.2.2.2.2.2.1,(v4.1.2.2.2.2.2.2.2.2.2.1,(v4.1.2.2.2.2.2.2.2.2.2.2.1,(v4.1.2.2.2.2.2.2.2.2.2.2.2.1,()))))))))))))) fun v39=>
   W.cnd v39 (W.call (zar v3.2.1 v4.2.1) fun v40=>
   W.cnd v40 (
    W.cnd (v3.2.2.1==v4.2.2.1) (
    W.cnd (v5.1==v6.1) (
     W.cnd (v5.2.1==v6.2.1) (W.call (zar ((v37.1,(v37.2.1,(v37.2.2.1,())))::[]) ((v38.1,(v38.2.1,(v38.2.2.1,())))::[])) fun v41=>
     W.cnd v41 (W.call (zbi) fun v42=>some v42)
      (some false))
     (some false))
     (some false))
    (some false))
    (some false))
   (some false)) (W.call (zcg (v1.1,(v1.2.1,(v1.2.2.1,(v1.2.2.2.1,(v1.2.2.2.2.1,(v1.2.2.2.2.2.1,(v1.2.2.2.2.2.2.1,(v1.2.2.2.2.2.2.2.1,(v1.2.2.2.2.2.2.2.2.1,(v1.2.2.2.2.2.2.2.2.2.1,(v1.2.2.2.2.2.2.2.2.2.2.1,(v1.2.2.2.2.2.2.2.2.2.2.2.1,())))))))))))) u) fun v43=>W.call (zbv (v3.1.1,(v3.1.2.1,(v3.1.2.2.1,(v3.1.2.2.2.1,(v3.1.2.2.2.2.1,(v3.1.2.2.2.2.2.1,(v3.1.2.2.2.2.2.2.1,(v3.1.2.2.2.2.2.2.2.1,(v3.1.2.2.2.2.2.2.2.2.1,(v3.1.2.2.2.2.2.2.2.2.2.1,(v3.1.2.2.2.2.2.2.2.2.2.2.1,(v3.1.2.2.2.2.2.2.2.2.2.2.2.1,())))))))))))) (v4.1.1,(v4.1.2.1,(v4.1.2.2.1,(v4.1.2.2.2.1,(v4.1.2.2.2.2.1,(v4.1.2.2.2.2.2.1,(v4.1.2.2.2.2.2.2.1,(v4.1.2.2.2.2.2.2.2.1,(v4.1.2.2.2.2.2.2.2.2.1,(v4.1.2.2.2.2.2.2.2.2.2.1,(v4.1.2.2.2.2.2.2.2.2.2.2.1,(v4.1.2.2.2.2.2.2.2.2.2.2.2.1,()))))))))))))) fun v44=>
   W.cnd v44 (W.call (zar v3.2.1 v4.2.1) fun v45=>
   W.cnd v45 (
    W.cnd (v3.2.2.1==v4.2.2.1) (
    W.cnd (v5.1==v6.1) (
     W.cnd (v5.2.1==v6.2.1) (W.call (zar ((v37.1,(v37.2.1,(v37.2.2.1,())))::[]) ((v43.1,(v43.2.1,(v43.2.2.1,())))::[])) fun v46=>
     W.cnd v46 (W.call (zbi) fun v47=>some v47)
      (some false))
     (some false))
     (some false))
    (some false))
    (some false))
   (some false))) (W.call (zff (v1.1,(v1.2.1,(v1.2.2.1,(v1.2.2.2.1,(v1.2.2.2.2.1,(v1.2.2.2.2.2.1,(v1.2.2.2.2.2.2.1,(v1.2.2.2.2.2.2.2.1,(v1.2.2.2.2.2.2.2.2.1,(v1.2.2.2.2.2.2.2.2.2.1,(v1.2.2.2.2.2.2.2.2.2.2.1,(v1.2.2.2.2.2.2.2.2.2.2.2.1,())))))))))))) u) fun v48=>W.call (zcg (v1.1,(v1.2.1,(v1.2.2.1,(v1.2.2.2.1,(v1.2.2.2.2.1,(v1.2.2.2.2.2.1,(v1.2.2.2.2.2.2.1,(v1.2.2.2.2.2.2.2.1,(v1.2.2.2.2.2.2.2.2.1,(v1.2.2.2.2.2.2.2.2.2.1,(v1.2.2.2.2.2.2.2.2.2.2.1,(v1.2.2.2.2.2.2.2.2.2.2.2.1,())))))))))))) u) fun v49=>W.call (zbv (v3.1.1,(v3.1.2.1,(v3.1.2.2.1,(v3.1.2.2.2.1,(v3.1.2.2.2.2.1,(v3.1.2.2.2.2.2.1,(v3.1.2.2.2.2.2.2.1,(v3.1.2.2.2.2.2.2.2.1,(v3.1.2.2.2.2.2.2.2.2.1,(v3.1.2.2.2.2.2.2.2.2.2.1,(v3.1.2.2.2.2.2.2.2.2.2.2.1,(v3.1.2.2.2.2.2.2.2.2.2.2.2.1,())))))))))))) (v4.1.1,(v4.1.2.1,(v4.1.2.2.1,(v4.1.2.2.2.1,(v4.1.2.2.2.2.1,(v4.1.2.2.2.2.2.1,(v4.1.2.2.2.2.2.2.1,(v4.1.2.2.2.2.2.2.2.1,(v4.1.2.2.2.2.2.2.2.2.1,(v4.1.2.2.2.2.2.2.2.2.2.1,(v4.1.2.2.2.2.2.2.2.2.2.2.1,(v4.1.2.2.2.2.2.2.2.2.2.2.2.1,()))))))))))))) fun v50=>
  W.cnd v50 (W.call (zar v3.2.1 v4.2.1) fun v51=>
   W.cnd v51 (
   W.cnd (v3.2.2.1==v4.2.2.1) (
    W.cnd (v5.1==v6.1) (
    W.cnd (v5.2.1==v6.2.1) (W.call (zar ((v48.1,(v48.2.1,(v48.2.2.1,())))::[]) ((v49.1,(v49.2.1,(v49.2.2.1,())))::[])) fun v52=>
     W.cnd v52 (W.call (zbi) fun v53=>some v53)
     (some false))
     (some false))
    (some false))
    (some false))
   (some false))
   (some false))) (W.both (W.call (zff (v1.1,(v1.2.1,(v1.2.2.1,(v1.2.2.2.1,(v1.2.2.2.2.1,(v1.2.2.2.2.2.1,(v1.2.2.2.2.2.2.1,(v1.2.2.2.2.2.2.2.1,(v1.2.2.2.2.2.2.2.2.1,(v1.2.2.2.2.2.2.2.2.2.1,(v1.2.2.2.2.2.2.2.2.2.2.1,(v1.2.2.2.2.2.2.2.2.2.2.2.1,())))))))))))) u) fun v54=>W.both (W.call (zcg (v1.1,(v1.2.1,(v1.2.2.1,(v1.2.2.2.1,(v1.2.2.2.2.1,(v1.2.2.2.2.2.1,(v1.2.2.2.2.2.2.1,(v1.2.2.2.2.2.2.2.1,(v1.2.2.2.2.2.2.2.2.1,(v1.2.2.2.2.2.2.2.2.2.1,(v1.2.2.2.2.2.2.2.2.2.2.1,(v1.2.2.2.2.2.2.2.2.2.2.2.1,())))))))))))) u) fun v55=>W.call (zbv (v3.1.1,(v3.1.2.1,(v3.1.2.2.1,(v3.1.2.2.2.1,(v3.1.2.2.2.2.1,(v3.1.2.2.2.2.2.1,(v3.1.2.2.2.2.2.2.1,(v3.1.2.2.2.2.2.2.2.1,(v3.1.2.2.2.2.2.2.2.2.1,(v3.1.2.2.2.2.2.2.2.2.2.1,(v3.1.2.2.2.2.2.2.2.2.2.2.1,(v3.1.2.2.2.2.2.2.2.2.2.2.2.1,())))))))))))) (v4.1.1,(v4.1.2.1,(v4.1.2.2.1,(v4.1.2.2.2.1,(v4.1.2.2.2.2.1,(v4.1.2.2.2.2.2.1,(v4.1.2.2.2.2.2.2.1,(v4.1.2.2.2.2.2.2.2.1,(v4.1.2.2.2.2.2.2.2.2.1,(v4.1.2.2.2.2.2.2.2.2.2.1,(v4.1.2.2.2.2.2.2.2.2.2.2.1,(v4.1.2.2.2.2.2.2.2.2.2.2.2.1,()))))))))))))) fun v56=>
   W.cnd v56 (W.call (zar v3.2.1 v4.2.1) fun v57=>
   W.cnd v57 (
    W.cnd (v3.2.2.1==v4.2.2.1) (
    W.cnd (v5.1==v6.1) (
     W.cnd (v5.2.1==v6.2.1) (W.call (zar ((v54.1,(v54.2.1,(v54.2.2.1,())))::[]) ((v55.1,(v55.2.1,(v55.2.2.1,())))::[])) fun v58=>
     W.cnd v58 (W.call (zbi) fun v59=>some v59)
      (some false))
     (some false))
     (some false))
    (some false))
    (some false))
   (some false)) (W.call (zcg (v1.1,(v1.2.1,(v1.2.2.1,(v1.2.2.2.1,(v1.2.2.2.2.1,(v1.2.2.2.2.2.1,(v1.2.2.2.2.2.2.1,(v1.2.2.2.2.2.2.2.1,(v1.2.2.2.2.2.2.2.2.1,(v1.2.2.2.2.2.2.2.2.2.1,(v1.2.2.2.2.2.2.2.2.2.2.1,(v1.2.2.2.2.2.2.2.2.2.2.2.1,())))))))))))) u) fun v60=>W.call (zbv (v3.1.1,(v3.1.2.1,(v3.1.2.2.1,(v3.1.2.2.2.1,(v3.1.2.2.2.2.1,(v3.1.2.2.2.2.2.1,(v3.1.2.2.2.2.2.2.1,(v3.1.2.2.2.2.2.2.2.1,(v3.1.2.2.2.2.2.2.2.2.1,(v3.1.2.2.2.2.2.2.2.2.2.1,(v3.1.2.2.2.2.2.2.2.2.2.2.1,(v3.1.2.2.2.2.2.2.2.2.2.2.2.1,())))))))))))) (v4.1.1,(v4.1.2.1,(v4.1.2.2.1,(v4.1.2.2.2.1,(v4.1.2.2.2.2.1,(v4.1.2.2.2.2.2.1,(v4.1.2.2.2.2.2.2.1,(v4.1.2.2.2.2.2.2.2.1,(v4.1.2.2.2.2.2.2.2.2.1,(v4.1.2.2.2.2.2.2.2.2.2.1,(v4.1.2.2.2.2.2.2.2.2.2.2.1,(v4.1.2.2.2.2.2.2.2.2.2.2.2.1,()))))))))))))) fun v61=>
   W.cnd v61 (W.call (zar v3.2.1 v4.2.1) fun v62=>
   W.cnd v62 (
    W.cnd (v3.2.2.1==v4.2.2.1) (
    W.cnd (v5.1==v6.1) (
     W.cnd (v5.2.1==v6.2.1) (W.call (zar ((v54.1,(v54.2.1,(v54.2.2.1,())))::[]) ((v60.1,(v60.2.1,(v60.2.2.1,())))::[])) fun v63=>
     W.cnd v63 (W.call (zbi) fun v64=>some v64)
      (some false))
     (some false))
     (some false))
    (some false))
    (some false))
   (some false))) (W.call (zff (v1.1,(v1.2.1,(v1.2.2.1,(v1.2.2.2.1,(v1.2.2.2.2.1,(v1.2.2.2.2.2.1,(v1.2.2.2.2.2.2.1,(v1.2.2.2.2.2.2.2.1,(v1.2.2.2.2.2.2.2.2.1,(v1.2.2.2.2.2.2.2.2.2.1,(v1.2.2.2.2.2.2.2.2.2.2.1,(v1.2.2.2.2.2.2.2.2.2.2.2.1,())))))))))))) u) fun v65=>W.call (zcg (v1.1,(v1.2.1,(v1.2.2.1,(v1.2.2.2.1,(v1.2.2.2.2.1,(v1.2.2.2.2.2.1,(v1.2.2.2.2.2.2.1,(v1.2.2.2.2.2.2.2.1,(v1.2.2.2.2.2.2.2.2.1,(v1.2.2.2.2.2.2.2.2.2.1,(v1.2.2.2.2.2.2.2.2.2.2.1,(v1.2.2.2.2.2.2.2.2.2.2.2.1,())))))))))))) u) fun v66=>W.call (zbv (v3.1.1,(v3.1.2.1,(v3.1.2.2.1,(v3.1.2.2.2.1,(v3.1.2.2.2.2.1,(v3.1.2.2.2.2.2.1,(v3.1.2.2.2.2.2.2.1,(v3.1.2.2.2.2.2.2.2.1,(v3.1.2.2.2.2.2.2.2.2.1,(v3.1.2.2.2.2.2.2.2.2.2.1,(v3.1.2.2.2.2.2.2.2.2.2.2.1,(v3.1.2.2.2.2.2.2.2.2.2.2.2.1,())))))))))))) (v4.1.1,(v4.1.2.1,(v4.1.2.2.1,(v4.1.2.2.2.1,(v4.1.2.2.2.2.1,(v4.1.2.2.2.2.2.1,(v4.1.2.2.2.2.2.2.1,(v4.1.2.2.2.2.2.2.2.1,(v4.1.2.2.2.2.2.2.2.2.1,(v4.1.2.2.2.2.2.2.2.2.2.1,(v4.1.2.2.2.2.2.2.2.2.2.2.1,(v4.1.2.2.2.2.2.2.2.2.2.2.2.1,()))))))))))))) fun v67=>
  W.cnd v67 (W.call (zar v3.2.1 v4.2.1) fun v68=>
   W.cnd v68 (
   W.cnd (v3.2.2.1==v4.2.2.1) (
    W.cnd (v5.1==v6.1) (
    W.cnd (v5.2.1==v6.2.1) (W.call (zar ((v65.1,(v65.2.1,(v65.2.2.1,())))::[]) ((v66.1,(v66.2.1,(v66.2.2.1,())))::[])) fun v69=>
     W.cnd v69 (W.call (zbi) fun v70=>some v70)
     (some false))
     (some false))
    (some false))
    (some false))
   (some false))
   (some false))))
noncomputable def zhl(s:zan)(id:Int)(u:AUnit')(r:zaq):Option Bool:=zeg stdW s id u r
noncomputable def zwr:ES:=⟨(.pair tAState (.pair (.int .i64) (.pair tAUnit (.pair tAReturn .unit)))),(.v .bool),fun x=>zhl x.1 x.2.1 x.2.2.1 x.2.2.2.1⟩
theorem ztn:ECok Tryz.prog 3 (.es zwr)   := es_ok (A:=(.pair tAState (.pair (.int .i64) (.pair tAUnit (.pair tAReturn .unit))))) (Q:=(.v .bool)) (fun W x=>zeg W x.1 x.2.1 x.2.2.1 x.2.2.2.1) [(7,.es ycm),(8,.es zqx),(9,.es zqo),(10,.es zxl),(11,.es zne),(12,.es zse),(13,.es yas),(14,.es zvy),(15,.es zxm),(16,.es zxk),(17,.es ztm)] ⟨ymh,zyd,zxj,yhx,zsc,yea,yfk,yav,yhy,yhw,yeh,trivial⟩ [(7,[],(.rd 0 (.rd 1 (.rd 3 (.rd 4 (.three 2 6 7 (.three 5 6 7 (.two 6 7 (ofL [(7,false),(8,false),(9,false)]) (ofL [(6,false),(8,false),(9,false)])) (.two 5 7 (ofL [(7,false),(8,false),(9,false)]) (ofL [(5,false),(8,false),(9,false)])) (.two 5 6 (ofL [(6,false),(8,false),(9,false)]) (ofL [(5,false),(8,false),(9,false)]))) (.two 2 7 (.two 5 7 (ofL [(7,false),(8,false),(9,false)]) (ofL [(5,false),(8,false),(9,false)])) (ofL [(2,false),(5,false),(8,false),(9,false)])) (.two 2 6 (.two 5 6 (ofL [(6,false),(8,false),(9,false)]) (ofL [(5,false),(8,false),(9,false)])) (ofL [(2,false),(5,false),(8,false),(9,false)]))))))))] [] [] Tryz.func3 rfl (by decide +kernel) rfl rfl (fun W x=>by kernel_rfl)
end Go.Proofs.YtbpbkmngbhgpfaaGreat

namespace Go.Proofs.YtbpbkmngbhgpfaaGreat
open Go Go.Vc Go.RowKit
theorem r_nat(u:Nat)(hu:u<18446744073709551616):zet (u:Int)=some (bigS false u):=nat_is u hu
theorem r_plus{xs ys:List Int}(hx:Nrm xs)(hy:Nrm ys)(lx:xs.length≤1000)(ly:ys.length≤1000):zem xs ys=some (bitsOf (valB xs+valB ys)):=plus_is hx hy lx ly
theorem r_less{xs ys:List Int}(hx:Nrm xs)(hy:Nrm ys)(lx:xs.length≤1000)(ly:ys.length≤1000):zwc xs ys=some (decide (valB xs<valB ys)):=less_is hx hy lx ly
theorem r_minus{xs ys:List Int}(hx:Nrm xs)(hy:Nrm ys)(lx:xs.length≤1000)(hle:valB ys≤valB xs):zlg xs ys=some (bitsK xs.length (valB xs - valB ys)):=minus_is hx hy lx hle
theorem r_trim{g:Bool}{xs:List Int}(h:bitL xs)(lx:xs.length≤1000):zdt g xs=some (bigS g (valB xs)):=trim_is h lx
end Go.Proofs.YtbpbkmngbhgpfaaGreat

namespace Go.Proofs.YtbpbkmngbhgpfaaGreat
open Go Go.Vc Go.RowKit
theorem ydq{n k K:Nat}(h:n<2 ^ k)(hk:k≤K):(bitsOf n).length≤K:=Nat.le_trans (zur k n h) hk
theorem pw{a b k:Nat}(ha:a<2 ^ k)(hb:b<2 ^ k):a+b<2 ^ (k+1):=by rw[Nat.pow_succ]; omega
theorem zaa{α β:Type}{o:Option α}{a:α}(h:o=some a)(K:α→Option β):stdW.call o K=K a:=by subst h; rfl
theorem yhl{xs:List Int}(h:Nrm xs){k:Nat}(hl:xs.length≤k):valB xs<2 ^ k:=Nat.lt_of_lt_of_le (zvp xs h.bits) (Nat.pow_le_pow_right (by omega) hl)
theorem sum_len{a b:List Int}(ha:Nrm a)(hb:Nrm b){k:Nat}(la:a.length≤k)(lb:b.length≤k):(bitsOf (valB a+valB b)).length≤k+1:=ydq (pw (yhl ha la) (yhl hb lb)) (Nat.le_refl _)
theorem r_add{x y:BigT}(hx:Nb x)(hy:Nb y)(lx:x.2.1.length≤900)(ly:y.2.1.length≤900):zbq x y=some (big (bv x+bv y)):=by
 show zpk stdW x y=_
 have nx:=nb_nrm hx
 have ny:=nb_nrm hy
 unfold zpk
 have eta:∀z:BigT,(some (z.1,(z.2.1,())):Option BigT)=some z:=fun z=>rfl
 by_cases h:x.1=y.1
 ·have e:notIf false (x.1==y.1)=true:=by simp[notIf,h]
  have hs:(bitsOf (valB x.2.1+valB y.2.1)).length≤1000:=Nat.le_trans (sum_len nx ny lx ly) (by omega)
  rw[e]
  show (stdW.call _ _:Option BigT)=_
  rw[zaa (r_plus nx ny (by omega) (by omega)),zaa (r_trim (zol _) hs),eta,add_same h]
 ·have e:notIf false (x.1==y.1)=false:=by simp[notIf,h]
  rw[e]
  show (stdW.call _ _:Option BigT)=_
  rw[zaa (r_less nx ny (by omega) (by omega))]
  by_cases hl:valB x.2.1<valB y.2.1
  ·rw[decide_eq_true hl]
   show (stdW.call _ _:Option BigT)=_
   rw[zaa (r_minus ny nx (by omega) (by omega)),zaa (r_trim (bitL_K _ _) (by rw[len_K]; omega)),eta,add_less ny h hl]
  ·rw[decide_eq_false hl]
   show (stdW.call _ _:Option BigT)=_
   rw[zaa (r_minus nx ny (by omega) (by omega)),zaa (r_trim (bitL_K _ _) (by rw[len_K]; omega)),eta,add_more nx h hl]
end Go.Proofs.YtbpbkmngbhgpfaaGreat

namespace Go.Vc
open Go Go.RowKit
variable {β:Type}
theorem zcp{α S:Type}{l:List α}(hl:l.length≤9223372036854775807){f:Int×S→(Int×S→Option β)→Option β}(Inv:Nat→S→Prop)(g:List α→S→Option β){s0:S}(h0:Inv 0 s0)
  (hend:∀s (again:Int×S→Option β),Inv l.length s→f ((l.length:Int),s) again=g [] s)
  (hstep:∀i (h:i<l.length) s,Inv i s→∀again:Int×S→Option β,(∀s',Inv (i+1) s'→again (((i+1:Nat):Int),s')=g (l.drop (i+1)) s')→f ((i:Int),s) again=g (l[i]::l.drop (i+1)) s):
  stdW.loop f (0,s0)=g l s0:=by
 refine(zev (fun z=>(l.length+1) - z.1.toNat) (fun z=>∃i:Nat,z.1=(i:Int)∧i≤l.length∧Inv i z.2) (fun z=>g (l.drop z.1.toNat) z.2) ⟨0,rfl,by omega,h0⟩ (by show l.length+1 - 0<_; omega) ?_).trans ?_
 ·rintro⟨z,s⟩ ⟨i,hi,hle,hs⟩ again ha
  dsimp only at hi hs
  subst hi
  simp only[Int.toNat_natCast]
  by_cases h:i<l.length
  ·rw[zpy l i h]
   refine hstep i h s hs again fun s' hs'=>?_
   have:=ha (((i+1:Nat):Int),s') ⟨i+1,rfl,by omega,hs'⟩ (by simp only[Int.toNat_natCast]; omega)
   simpa only[Int.toNat_natCast]using this
  ·obtain rfl:i=l.length:=by omega
   rw[List.drop_length]
   exact hend s again hs
 ·simp
theorem cnd_lt{i n:Nat}(h:i<n)(a b:Option β):stdW.cnd (decide ((i:Int)<(n:Int))) a b=a:=by rw[decide_eq_true (by omega)]; rfl
theorem zas{n:Nat}(a b:Option β):stdW.cnd (decide ((n:Int)<(n:Int))) a b=b:=by rw[decide_eq_false (by omega)]; rfl
theorem cnd_y{c:Bool}(h:c=true)(a b:Option β):stdW.cnd c a b=a:=by subst h; rfl
theorem cnd_n{c:Bool}(h:c=false)(a b:Option β):stdW.cnd c a b=b:=by subst h; rfl
theorem idx_w{α:Type}{l:List α}{i:Nat}(h:i<l.length)(K:α→Option β):stdW.idx l (i:Int) K=K l[i]:=idx_eq h K
theorem nth_w{α:Type}{l:List α}{i:Nat}(h:i<l.length)(K:α→Option β):stdW.nth l (Int.toNat (i:Int)) K=K l[i]:=by
 show idxR l _ K=_
 unfold idxR
 rw[Int.toNat_natCast,List.getElem?_eq_getElem h]
theorem room_w{n b:Nat}(h:n≤281474976710656)(h2:n*b≤140737488355328)(K:Option β):stdW.room n b K=K:=yap h h2 K
theorem nn_w{b:Int}(h:0≤b)(K:Option β):stdW.nn b K=K:=nn_eq h K
theorem both_w(a:Option β):stdW.both a a=a:=both_eq a
theorem join_w{X:Type}(k:X→Option β)(f:(X→Option β)→Option β):stdW.join k f=f k:=rfl
theorem bnd_w{i:Int}{n:Nat}(h:0≤i)(h2:i≤n)(K:Nat→Option β):stdW.bnd i n K=K i.toNat:=bnd_eq h h2 K
theorem i64_s(i:Nat)(h:i<9223372036854775807):IntKind.i64.wrap ((i:Int)+1)=((i+1:Nat):Int):=zzk i h
end Go.Vc
namespace Go.Vc
variable {β:Type}
theorem loop_n{S:Type}{N:Nat}(hN:N<9223372036854775807){f:Int×S→(Int×S→Option β)→Option β}(Inv:Nat→S→Prop)(r:Option β){s0:S}(h0:Inv 0 s0)
  (hend:∀s (again:Int×S→Option β),Inv N s→f (((N:Nat):Int),s) again=r)
  (hstep:∀i,i<N→∀s,Inv i s→∀again:Int×S→Option β,(∀s',Inv (i+1) s'→again (((i+1:Nat):Int),s')=r)→f ((i:Int),s) again=r):
  stdW.loop f (0,s0)=r:=by
 refine(zev (fun z=>(N+1) - z.1.toNat) (fun z=>∃i:Nat,z.1=(i:Int)∧i≤N∧Inv i z.2) (fun _=>r) ⟨0,rfl,by omega,h0⟩ (by show N+1 - 0<_; omega) ?_)
 rintro⟨z,s⟩ ⟨i,hi,hle,hs⟩ again ha
 dsimp only at hi hs
 subst hi
 by_cases h:i<N
 ·refine hstep i h s hs again fun s' hs'=>?_
  exact ha (((i+1:Nat):Int),s') ⟨i+1,rfl,by omega,hs'⟩ (by simp only[Int.toNat_natCast]; omega)
 ·obtain rfl:i=N:=by omega
  exact hend s again hs
def sumBy{α:Type}(f:α→Int)(l:List α):Int:=(l.map f).sum
theorem yag{α:Type}(f:α→Int):sumBy f []=0:=rfl
theorem zbu{α:Type}(f:α→Int)(x:α)(l:List α):sumBy f (x::l)=f x+sumBy f l:=by simp[sumBy]
theorem yah{α:Type}(f:α→Int)(a b:List α):sumBy f (a++b)=sumBy f a+sumBy f b:=by simp[sumBy]
theorem ypv{α:Type}{f:α→Int}{B:Int}:∀{l:List α},(∀x∈l,-B≤f x∧f x≤B) → -(B*(l.length:Int))≤sumBy f l∧sumBy f l≤B*(l.length:Int)
 |[],_=>by simp[sumBy]
 |x::l,h=>by
  have h1:=h x (by simp)
  have h2:=ypv (l:=l) fun w hw=>h w (by simp[hw])
  rw[zbu,List.length_cons,Int.natCast_add,Int.mul_add]
  omega
theorem ypd{α:Type}(p:α→Bool)(l:List α)(i:Nat)(h:i<l.length):(l.take (i+1)).filter p=(l.take i).filter p++(if p l[i]=true then [l[i]] else []):=by
 rw[show l.take (i+1)=l.take i++[l[i]] by simp,List.filter_append]
 congr 1
 by_cases hp:p l[i]=true<;>simp[hp]
end Go.Vc


namespace Go.Proofs.YtbpbkmngbhgpfaaGreat
open Go Go.Vc Go.RowKit
def wv(w:zaf):Int:=w.1*18446744073709551616+w.2.1
def wOk(w:zaf):Prop:=(-9223372036854775808≤w.1∧w.1≤9223372036854775807)∧(0≤w.2.1∧w.2.1<18446744073709551616)
def wide(z:Int):zaf:=(z / 18446744073709551616,z % 18446744073709551616,())
def In128(z:Int):Prop := -170141183460469231731687303715884105728≤z∧z<170141183460469231731687303715884105728
instance (z:Int):Decidable (In128 z):=by unfold In128; infer_instance
theorem yhf(z:Int):wv (wide z)=z:=by unfold wide wv; simp only; omega
theorem wv_in(w:zaf)(h:wOk w):In128 (wv w):=by unfold wOk at h; unfold In128 wv; omega
theorem ynq(z:Int)(h:In128 z):wOk (wide z):=by unfold In128 at h; unfold wOk wide; simp only; omega
theorem wide_inj{a b:Int}(h:wide a=wide b):a=b:=by rw[←yhf a,h,yhf]
theorem shr63(n:Int)(h : -9223372036854775808≤n∧n≤9223372036854775807):n.fdiv (2 ^ min (Int.toNat 63) IntKind.i64.bits)=n / 18446744073709551616:=by
 have e:(2:Int) ^ min (Int.toNat 63) IntKind.i64.bits=9223372036854775808:=by decide +kernel
 rw[e,Int.fdiv_eq_ediv_of_nonneg _ (by omega)]; omega
def fit(z:Int):zaf×Int×Unit:=if In128 z then (wide z,0,()) else ((0,0,()),7,())
def I64(n:Int):Prop := -9223372036854775808≤n∧n≤9223372036854775807
theorem yjc{n:Int}(h:I64 n):In128 n:=by unfold I64 at h; unfold In128; omega
theorem r_wOf(n:Int)(h:I64 n):zms n=some (wide n):=by
 show zrq stdW n=_
 unfold zrq
 rw[nn_w (by omega),shr63 n h,IntKind.wrap_u64]; rfl
def totT(V:Int):Int×Int×Int×Unit:=(V / 340282366920938463463374607431768211456,IntKind.i64.wrap (V / 18446744073709551616),V % 18446744073709551616,())
def InTot(V:Int):Prop := -1569275433846670190958947355801916604025588861116008628224≤V∧V<1569275433846670190958947355801916604025588861116008628224
theorem ynn(z:Int):IntKind.u64.wrap (IntKind.i64.wrap z)=z % 18446744073709551616:=by
 rw[IntKind.wrap_u64,IntKind.wrap_i64]; omega
theorem zvd(z:Int):IntKind.i64.wrap (z % 18446744073709551616)=IntKind.i64.wrap z:=by
 rw[IntKind.wrap_i64,IntKind.wrap_i64]; omega
theorem tot_next(V x y:Int)(hV:InTot V)(hx : -9223372036854775808≤x∧x≤9223372036854775807)(hy:0≤y∧y<18446744073709551616):
  ((IntKind.i64.wrap (V / 340282366920938463463374607431768211456+IntKind.i64.wrap (x.fdiv (2 ^ min (Int.toNat 63) IntKind.i64.bits)+IntKind.i64.wrap ((IntKind.u64.wrap (IntKind.i64.wrap (V / 18446744073709551616))+IntKind.u64.wrap x+(V % 18446744073709551616+y+0) / 18446744073709551616) / 18446744073709551616))),
   IntKind.i64.wrap ((IntKind.u64.wrap (IntKind.i64.wrap (V / 18446744073709551616))+IntKind.u64.wrap x+(V % 18446744073709551616+y+0) / 18446744073709551616) % 18446744073709551616),
   (V % 18446744073709551616+y+0) % 18446744073709551616,()):Int×Int×Int×Unit)=totT (V+(x*18446744073709551616+y)):=by
 unfold InTot at hV
 rw[ynn,zvd,shr63 x hx,IntKind.wrap_u64]
 have e1:(V+(x*18446744073709551616+y)) / 18446744073709551616=V / 18446744073709551616+x+(V % 18446744073709551616+y+0) / 18446744073709551616:=by omega
 have e0:(V+(x*18446744073709551616+y)) / 340282366920938463463374607431768211456=(V / 18446744073709551616+x+(V % 18446744073709551616+y+0) / 18446744073709551616) / 18446744073709551616:=by omega
 have e3:V / 340282366920938463463374607431768211456=V / 18446744073709551616 / 18446744073709551616:=by omega
 unfold totT
 rw[e1,e0,e3]
 have hc:0≤(V % 18446744073709551616+y+0) / 18446744073709551616∧(V % 18446744073709551616+y+0) / 18446744073709551616≤1:=by omega
 generalize (V % 18446744073709551616+y+0) / 18446744073709551616=c at*
 have hu : -92233720368547758080000000000000000000≤V / 18446744073709551616∧V / 18446744073709551616<92233720368547758080000000000000000000:=by omega
 generalize V / 18446744073709551616=u at*
 have f1:(V+(x*18446744073709551616+y)) % 18446744073709551616=(V % 18446744073709551616+y+0) % 18446744073709551616:=by omega
 rw[f1]
 have g2:(u % 18446744073709551616+x % 18446744073709551616+c) / 18446744073709551616≤2∧0≤(u % 18446744073709551616+x % 18446744073709551616+c) / 18446744073709551616:=by omega
 have g1:IntKind.i64.wrap ((u % 18446744073709551616+x % 18446744073709551616+c) / 18446744073709551616)=(u % 18446744073709551616+x % 18446744073709551616+c) / 18446744073709551616:=IntWalk.i64_in _ (by omega)
 rw[g1]
 have g3:IntKind.i64.wrap (x / 18446744073709551616+(u % 18446744073709551616+x % 18446744073709551616+c) / 18446744073709551616)=x / 18446744073709551616+(u % 18446744073709551616+x % 18446744073709551616+c) / 18446744073709551616:=IntWalk.i64_in _ (by omega)
 rw[g3]
 have g4:u / 18446744073709551616+(x / 18446744073709551616+(u % 18446744073709551616+x % 18446744073709551616+c) / 18446744073709551616)=(u+x+c) / 18446744073709551616:=by omega
 rw[g4]
 have g5:IntKind.i64.wrap ((u+x+c) / 18446744073709551616)=(u+x+c) / 18446744073709551616:=IntWalk.i64_in _ (by omega)
 rw[g5]
 have g6:IntKind.i64.wrap (u % 18446744073709551616+x % 18446744073709551616+c)=IntKind.i64.wrap (u+x+c):=by rw[IntKind.wrap_i64,IntKind.wrap_i64]; omega
 rw[g6]
theorem yrx{x y c:Int}(hx:0≤x)(hy:0≤y)(hc0:0≤c)(hc:c≤1):add64 x y c=some ((x+y+c) % 18446744073709551616,(x+y+c) / 18446744073709551616,()):=by unfold add64; rw[if_pos ⟨hx,hy,hc0,hc⟩]
theorem zyu{x y b:Int}(hx:0≤x)(hy:0≤y)(hy2:y<18446744073709551616)(hb0:0≤b)(hb:b≤1):sub64 x y b=some ((x - y - b) % 18446744073709551616,if x<y+b then 1 else 0,()):=by unfold sub64; rw[if_pos ⟨hx,hy,hy2,hb0,hb⟩]
theorem r_tadd(V:Int)(x:zaf)(hV:InTot V)(hx:wOk x):zdy x (totT V).1 (totT V).2.1 (totT V).2.2.1=some ((),totT (V+wv x)):=by
 unfold wOk at hx
 show zdl stdW x (V / 340282366920938463463374607431768211456) (IntKind.i64.wrap (V / 18446744073709551616)) (V % 18446744073709551616)=_
 unfold zdl wv
 rw[←tot_next V x.1 x.2.1 hV hx.1 hx.2]
 have hV':=hV
 unfold InTot at hV'
 rw[zaa (yrx (by omega) (by omega) (by omega) (by omega)),zaa (yrx (by rw[IntKind.wrap_u64]; omega) (by rw[IntKind.wrap_u64]; omega) (by show 0≤(V % 18446744073709551616+x.2.1+0) / 18446744073709551616; omega) (by show (V % 18446744073709551616+x.2.1+0) / 18446744073709551616≤1; omega)),nn_w (by omega)]
theorem tot_fits(V:Int)(hV:InTot V):(V / 340282366920938463463374607431768211456==(IntKind.i64.wrap (V / 18446744073709551616)).fdiv (2 ^ min (Int.toNat 63) IntKind.i64.bits))=decide (In128 V):=by
 have hr : -9223372036854775808≤IntKind.i64.wrap (V / 18446744073709551616)∧IntKind.i64.wrap (V / 18446744073709551616)≤9223372036854775807:=by
  rw[IntKind.wrap_i64]; omega
 rw[shr63 _ hr]
 unfold InTot at hV
 by_cases h:In128 V
 ·rw[decide_eq_true h]
  unfold In128 at h
  rw[IntWalk.i64_in _ (by omega)]
  first|(simp; done)|(simp; omega)|skip
 ·rw[decide_eq_false h]
  unfold In128 at h
  rw[IntKind.wrap_i64]
  simp; omega
theorem r_ranged(w:zaf)(ok:Bool):zgz w ok=some (if ok=true then (w,0,()) else ((0,0,()),7,())):=by
 show zfr stdW w ok=_
 unfold zfr
 cases ok<;>rfl
theorem r_tdone(V:Int)(hV:InTot V):zdk (totT V).1 (totT V).2.1 (totT V).2.2.1=some (fit V,totT V):=by
 show zdd stdW _ _ _=_
 unfold zdd
 rw[nn_w (by omega),zaa (r_ranged _ _)]
 have:=tot_fits V hV
 show some ((if (V / 340282366920938463463374607431768211456==(IntKind.i64.wrap (V / 18446744073709551616)).fdiv (2 ^ min (Int.toNat 63) IntKind.i64.bits))=true then _ else _),_)=_
 rw[this]
 unfold fit
 by_cases h:In128 V
 ·rw[if_pos (decide_eq_true h),if_pos h]
  have e:IntKind.i64.wrap (V / 18446744073709551616)=V / 18446744073709551616:=by unfold In128 at h; exact IntWalk.i64_in _ (by omega)
  show some (((IntKind.i64.wrap (V / 18446744073709551616),V % 18446744073709551616,()),0,()),_)=_
  rw[e]; rfl
 ·rw[decide_eq_false h,if_neg (by simp),if_neg h]
def sumW(l:List zaf):Int:=(l.map wv).sum
theorem sumW_in:∀(l:List zaf),(∀w∈l,wOk w) → -(170141183460469231731687303715884105728*(l.length:Int))≤sumW l∧sumW l≤170141183460469231731687303715884105728*(l.length:Int)
 |[],_=>by simp[sumW]
 |x::l,h=>by
  have h1:=wv_in x (h x (by simp))
  have h2:=sumW_in l fun w hw=>h w (by simp[hw])
  unfold In128 at h1
  simp only[sumW,List.map_cons,List.sum_cons,List.length_cons]at h2 ⊢
  omega
theorem ypt(l:List zaf)(h:∀w∈l,wOk w)(hl:l.length<9223372036854775807):InTot (sumW l):=by
 have:=sumW_in l h
 unfold InTot; omega
theorem sumW_app(a b:List zaf):sumW (a++b)=sumW a+sumW b:=by unfold sumW; simp
theorem sumW_one(a:zaf):sumW [a]=wv a:=by unfold sumW; simp
theorem sumW_take(l:List zaf)(i:Nat)(h:i<l.length):sumW (l.take (i+1))=sumW (l.take i)+wv l[i]:=by
 rw[show l.take (i+1)=l.take i++[l[i]] by simp,sumW_app,sumW_one]
theorem r_wAdd(l:List zaf)(h:∀w∈l,wOk w)(hl:l.length<9223372036854775807):zos l=some (fit (sumW l)):=by
 show zmv stdW l=_
 unfold zmv
 refine zcp (l:=l) (by omega) (fun i s=>s=totT (sumW (l.take i))) (fun _ _=>some (fit (sumW l))) (by simp[sumW]; rfl) ?_ ?_
 ·rintro _ again rfl
  rw[List.take_length,zas,zaa (r_tdone _ (ypt l h hl))]
 ·rintro i hi _ rfl again ha
  rw[cnd_lt hi,idx_w hi,zaa (r_tadd _ _ (ypt _ (fun w hw=>h w (List.mem_of_mem_take hw)) (by rw[List.length_take]; omega)) (h _ (List.getElem_mem hi)))]
  dsimp only
  rw[i64_s i (by omega)]
  exact ha _ (by rw[sumW_take l i hi])
end Go.Proofs.YtbpbkmngbhgpfaaGreat

namespace Go.Proofs.YtbpbkmngbhgpfaaGreat
open Go Go.Vc Go.RowKit
theorem r_of{n:Int}(h:I64 n):zdc n=some (big n):=by
 show zsy stdW n=_
 unfold I64 at h
 unfold zsy
 by_cases h0:0≤n
 ·rw[cnd_y (decide_eq_true h0),u64_id n (by omega)]
  obtain⟨m,rfl⟩:=Int.eq_ofNat_of_zero_le h0
  rw[zaa (r_nat m (by omega)),bigS_f]
 ·rw[cnd_n (decide_eq_false h0),of_neg (by omega) (by omega)]
  obtain⟨m,hm⟩:=Int.eq_ofNat_of_zero_le (show 0 ≤ -(n+1) by omega)
  rw[hm,zaa (r_nat m (by omega))]
  have hl:(bitsOf m).length≤1000:=ydq (show m<2 ^ 64 by omega) (by omega)
  show stdW.call (zem (bitsOf m) [1]) _=_
  rw[zaa (r_plus (yir m) nrm1 hl (by simp)),of_negB (by omega) (by omega) hm.symm]
  rfl
theorem ztj{z:Int}(h : -170141183460469231731687303715884105728≤z∧z≤170141183460469231731687303715884105728):(big z).2.1.length≤200:=by
 refine len_big z ?_
 have:(2:Nat) ^ 200=1606938044258990275541962092341162602522202993782792835301376:=by decide
 omega
end Go.Proofs.YtbpbkmngbhgpfaaGreat

namespace Go.Proofs.YtbpbkmngbhgpfaaGreat
open Go Go.Vc Go.RowKit
theorem ykm(xs:List Int)(i:Nat)(h:i≤xs.length):valB (xs.drop i)≤valB xs:=by
 have h1:=zvo xs i h
 have h2:valB (xs.drop i)≤2 ^ i*valB (xs.drop i):=Nat.le_mul_of_pos_left _ (Nat.two_pow_pos i)
 omega
theorem r_int{z:Int}(h:I64 z):zdg (big z)=some z:=by
 unfold I64 at h
 show zpj stdW (big z)=_
 unfold zpj
 have hb:bitL (big z).2.1:=zol _
 have hv:valB (big z).2.1=z.natAbs:=zha _
 have hl:(big z).2.1.length≤64:=zur 64 _ (by omega)
 have hs:(big z).1=decide (z<0):=rfl
 generalize (big z).1=sg at*
 generalize (big z).2.1=xs at*
 refine(zev (fun z=>z.2.1.toNat) (fun y=>∃i:Nat,i≤xs.length∧y=((if z<0 then -((valB (xs.drop i):Nat):Int) else ((valB (xs.drop i):Nat):Int)),((i:Int),()))) (fun _=>some z) ⟨xs.length,Nat.le_refl _,by simp[valB]⟩ (by show ((xs.length:Nat):Int).toNat<_; omega) ?_)
 rintro _ ⟨i,hi,rfl⟩ again ha
 show stdW.cnd (decide ((0:Int)<((i:Nat):Int))) _ _=_
 by_cases h0:i=0
 ·subst h0
  rw[cnd_n (c:=decide ((0:Int)<((0:Nat):Int))) rfl,List.drop_zero,hv]
  congr 1; split<;>omega
 ·have hm:i - 1<xs.length:=by omega
  rw[cnd_y (decide_eq_true (by omega)),join_w,zfq i (by omega) (by rw[zay]; omega)]
  have hd:xs.drop (i - 1)=xs[i - 1]::xs.drop i:=by rw[List.drop_eq_getElem_cons hm,show i - 1+1=i by omega]
  have hbit:=hb _ (List.getElem_mem hm)
  have hle:=ykm xs (i - 1) (by omega)
  rw[hv,hd,valB]at hle
  have hx0:0≤xs[i - 1]∧xs[i - 1]≤1:=by rcases hbit with e|e<;>rw[e]<;>omega
  have next:∀n:Int,n=(if z<0 then -((valB (xs.drop (i - 1)):Nat):Int) else ((valB (xs.drop (i - 1)):Nat):Int))→again (n,(((i - 1:Nat):Int),()))=some z:=fun n hn=>ha _ ⟨i - 1,by omega,by rw[hn]⟩ (by show ((i - 1:Nat):Int).toNat<((i:Nat):Int).toNat; omega)
  rw[hd,valB]at next
  by_cases hz:z<0
  ·rw[hs,cnd_y (decide_eq_true hz),idx_w hm]
   refine next _ ?_
   rw[if_pos hz,if_pos hz,IntWalk.i64_in xs[i - 1] (by omega),IntWalk.i64_in (2 * -((valB (xs.drop i):Nat):Int)) (by omega),IntWalk.i64_in _ (by omega)]
   omega
  ·rw[hs,cnd_n (decide_eq_false hz),idx_w hm]
   refine next _ ?_
   rw[if_neg hz,if_neg hz,IntWalk.i64_in xs[i - 1] (by omega),IntWalk.i64_in (2*((valB (xs.drop i):Nat):Int)) (by omega),IntWalk.i64_in _ (by omega)]
   omega
def sml(z:Int):Prop := -170141183460469231731687303715884105728≤z∧z≤170141183460469231731687303715884105728
instance (z:Int):Decidable (I64 z):=by unfold I64; infer_instance
theorem yqy(n:Nat):(bitsOf n).length<64↔n<9223372036854775808:=by
 constructor
 ·intro h
  have:=yhl (yir n) (k:=63) (by omega)
  rw[zha]at this; simpa using this
 ·intro h
  have:=zur 63 n (by simpa using h)
  omega
theorem r_fits{z:Int}(h:sml z):zca (big z)=some (decide (I64 z)):=by
 unfold sml at h
 have hw:zni ((big z).1,((big z).2.1,())) 64=some (decide (I64 z)):=by
  show zgu stdW (big z) 64=_
  unfold zgu
  rw[join_w]
  by_cases hz:z<0
  ·have hs:(big z).1=true:=decide_eq_true hz
   have e1:zet 1=some (big 1):=r_nat 1 (by omega)
   have e2:zbq ((big z).1,((big z).2.1,())) ((big 1).1,((big 1).2.1,()))=some (big (z+1)):=by
    have:=r_add (nb_big z) (nb_big 1) (Nat.le_trans (ztj h) (by decide)) (Nat.le_trans (ztj (by omega)) (by decide))
    rw[bv_big,bv_big]at this; exact this
   have e3:(decide (((big (z+1)).2.1.length:Int)<64))=decide (I64 z):=by
    refine decide_eq_decide.2 ?_
    have:=yqy (z+1).natAbs
    show (((bitsOf (z+1).natAbs).length:Int)<64)↔_
    unfold I64; omega
   rw[cnd_y hs,both_w,zaa e1,zaa e2]
   show some (decide _)=_
   rw[e3]
  ·have hs:(big z).1=false:=decide_eq_false hz
   rw[cnd_n hs]
   show some (decide (((bitsOf z.natAbs).length:Int)<64))=_
   congr 1
   refine decide_eq_decide.2 ?_
   have:=yqy z.natAbs
   unfold I64; omega
 show zlk stdW (big z)=_
 unfold zlk
 rw[zaa hw]
def fits64(z:Int):Int×Int×Unit:=if I64 z then (z,0,()) else (0,7,())
theorem nif_t(c:Bool):notIf true c=!c:=by cases c<;>rfl
theorem nif_f(c:Bool):notIf false c=c:=by cases c<;>rfl
theorem r_wInt{z:Int}(h:In128 z):zor (wide z)=some (fits64 z):=by
 show zmu stdW (wide z)=_
 unfold zmu
 have hw:IntKind.i64.wrap (wide z).2.1=IntKind.i64.wrap z:=zvd z
 have hI:I64 (IntKind.i64.wrap z):=by unfold I64; rw[IntKind.wrap_i64]; omega
 rw[hw,zaa (r_wOf _ hI),nif_t]
 unfold fits64
 by_cases hz:I64 z
 ·have e:IntKind.i64.wrap z=z:=by unfold I64 at hz; exact IntWalk.i64_in _ (by omega)
  rw[if_pos hz,e,cnd_n (by simp)]
 ·rw[if_neg hz,cnd_y ?_]
  rw[Bool.not_eq_true']
  cases hc:((wide (IntKind.i64.wrap z)).1==(wide z).1&&(wide (IntKind.i64.wrap z)).2.1==(wide z).2.1) with
  |false=>rfl
  |true=>
   simp only[Bool.and_eq_true,beq_iff_eq]at hc
   have:wide (IntKind.i64.wrap z)=wide z:=Prod.ext hc.1 (Prod.ext hc.2 rfl)
   exact absurd (wide_inj this▸hI) hz
theorem r_narrow0{z:Int}(h:In128 z):zju (wide z) 0=some (fits64 z):=by
 show zhn stdW (wide z) 0=_
 unfold zhn
 rw[cnd_n (by decide),zaa (r_wInt h)]
theorem sum_in{l:List Int}(h:∀x∈l,I64 x) : -(9223372036854775808*(l.length:Int))≤l.sum∧l.sum≤9223372036854775808*(l.length:Int):=by
 have:=ypv (f:=fun x:Int=>x) (B:=9223372036854775808) (l:=l) (fun x hx=>by have:=h x hx; unfold I64 at this; omega)
 simpa[sumBy]using this
theorem sumW_wide(l:List Int):sumW (l.map wide)=l.sum:=by
 unfold sumW
 rw[List.map_map]
 have:(wv ∘ wide)=id:=funext yhf
 rw[this,List.map_id]
theorem wides_ok{l:List Int}(h:∀x∈l,I64 x):∀w∈l.map wide,wOk w:=by
 intro w hw
 obtain⟨x,hx,rfl⟩:=List.mem_map.1 hw
 exact ynq _ (yjc (h x hx))
theorem sum128{l:List Int}(h:∀x∈l,I64 x)(hl:l.length≤1000000):In128 l.sum:=by
 have:=sum_in h; unfold In128; omega
theorem r_wSum{l:List Int}(h:∀x∈l,I64 x)(hl:l.length≤1000000):zos (l.map wide)=some (wide l.sum,0,()):=by
 rw[r_wAdd _ (wides_ok h) (by rw[List.length_map]; omega),sumW_wide]
 unfold fit; rw[if_pos (sum128 h hl)]
theorem r_fSum{l:List Int}(h:∀x∈l,I64 x)(hl:l.length≤1000000):zog l=some (fits64 l.sum):=by
 show zud stdW l=_
 unfold zud
 rw[nn_w (by omega),room_w (by simp; omega) (by simp; omega)]
 refine loop_n (N:=l.length) (by omega) (fun i s=>s=((l.take i).map wide,())) (some (fits64 l.sum)) rfl ?_ ?_
 ·rintro _ again rfl
  rw[zas,List.take_length,zaa (r_wSum h hl),zaa (r_narrow0 (sum128 h hl))]
 ·rintro i hi _ rfl again ha
  rw[cnd_lt hi,idx_w hi,zaa (r_wOf _ (h _ (List.getElem_mem hi))),i64_s i (by omega),room_w (by simp; omega) (by simp; omega)]
  refine ha _ ?_
  rw[List.take_succ_eq_append_getElem hi,List.map_append]; rfl
end Go.Proofs.YtbpbkmngbhgpfaaGreat
