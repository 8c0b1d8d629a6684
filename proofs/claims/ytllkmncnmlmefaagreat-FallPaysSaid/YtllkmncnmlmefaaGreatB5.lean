import Derived.Test.YtllkmncnmlmefaaGreatB4
namespace Go.Proofs.YtllkmncnmlmefaaGreat
open Go Go.Vc Go.RowKit
open Lot
set_option maxRecDepth 100000
set_option synthInstance.maxSize 100000
set_option synthInstance.maxHeartbeats 0
set_option maxHeartbeats 8000000
@[reducible] def tAUnit : DT := (.pair (.int .i64) (.pair (.int .i64) .unit))
abbrev AUnit' := Int × Int × Unit
@[reducible] def tAPos : DT := (.pair tAUnit (.pair (.slc tAUnit) .unit))
abbrev APos' := AUnit' × (List AUnit') × Unit
@[reducible] def tALot : DT := (.pair (.int .i64) (.pair (.int .i64) (.pair (.int .i64) .unit)))
abbrev ALot' := Int × Int × Int × Unit
abbrev AAsset' := ALot'
@[reducible] def tAFlow : DT := (.pair tAUnit (.pair (.int .i64) .unit))
abbrev AFlow' := AUnit' × Int × Unit
@[reducible] def tAMember : DT := (.pair (.int .i64) (.pair (.int .i64) (.pair (.int .i64) (.pair (.int .i64) .unit))))
abbrev AMember' := Int × Int × Int × Int × Unit
@[reducible] def tAInst : DT := (.pair (.int .i64) (.pair (.int .i64) (.pair (.int .i64) (.pair (.int .i64) (.pair (.slc (.int .i64)) .unit)))))
abbrev AInst' := Int × Int × Int × Int × (List Int) × Unit
@[reducible] def tAAccount : DT := (.pair (.int .i64) (.pair (.int .i64) (.pair (.int .i64) (.pair (.slc (.int .i64)) .unit))))
abbrev AAccount' := Int × Int × Int × (List Int) × Unit
@[reducible] def tAChoice : DT := (.pair tAUnit (.pair tAUnit (.pair .bool .unit)))
abbrev AChoice' := AUnit' × AUnit' × Bool × Unit
@[reducible] def tAGroup : DT := (.pair (.int .i64) (.pair tAUnit (.pair (.int .i64) (.pair (.int .i64) (.pair (.int .i64) .unit)))))
abbrev AGroup' := Int × AUnit' × Int × Int × Int × Unit
@[reducible] def tAGive : DT := (.pair (.int .i64) (.pair tAUnit (.pair tAUnit (.pair tAUnit (.pair (.int .i64) (.pair (.int .i64) (.pair (.int .i64) (.pair (.int .i64) .unit))))))))
abbrev AGive' := Int × AUnit' × AUnit' × AUnit' × Int × Int × Int × Int × Unit
@[reducible] def tAHold : DT := (.pair tAUnit (.pair (.slc tALot) .unit))
abbrev AHold' := AUnit' × (List ALot') × Unit
@[reducible] def tAState : DT := (.pair (.int .i64) (.pair (.slc tAMember) (.pair (.slc tAInst) (.pair (.slc tALot) (.pair (.slc tAAccount) (.pair (.slc tAChoice) (.pair (.slc tAGroup) (.pair (.slc tAGive) (.pair (.slc tAPos) (.pair (.slc tAPos) (.pair (.slc tAFlow) (.pair (.slc tAHold) .unit))))))))))))
abbrev AState' := Int × (List AMember') × (List AInst') × (List ALot') × (List AAccount') × (List AChoice') × (List AGroup') × (List AGive') × (List APos') × (List APos') × (List AFlow') × (List AHold') × Unit
@[reducible] def tWideWide : DT := (.pair (.int .i64) (.pair (.int .u64) .unit))
abbrev WideWide' := Int × Int × Unit
@[reducible] def tWideSize : DT := (.pair (.int .u64) (.pair (.int .u64) .unit))
abbrev WideSize' := Int × Int × Unit
@[reducible] def tNovationref01Big : DT := (.pair .bool (.pair (.slc (.int .u8)) .unit))
abbrev Novationref01Big' := Bool × (List Int) × Unit
@[reducible] def tADebit : DT := (.pair tAUnit (.pair tAUnit (.pair (.int .i64) .unit)))
abbrev ADebit' := AUnit' × AUnit' × Int × Unit
def law25_ShortW (W : Wd) (a : AAccount') : Option AAccount' := 
 W.join (fun (z1 : Int × Int × Int × List (Int) × Unit) => some z1)
  fun k2 => 
  W.cnd (decide (20 < (a.2.2.2.1.length : Int))) (W.bnd 20 a.2.2.2.1.length fun h3 => (k2 (a.1, (a.2.1, (a.2.2.1, ((a.2.2.2.1.take h3), ()))))))
   ((k2 a))
abbrev law25_Short := law25_ShortW stdW
def ref12_IsW (W : Wd) (a : ALot') : Option Bool := 
 W.cnd (decide (0 < a.1)) (
  W.cnd (decide (a.1 < 5)) (
   W.cnd (decide (0 ≤ a.2.1)) (
    W.cnd (decide (a.2.1 < 2147483648)) (
     W.cnd (decide (0 ≤ a.2.2.1)) (some (decide (a.2.2.1 < 10001)))
      (some false))
     (some false))
    (some false))
   (some false))
  (some false)
abbrev ref12_Is := ref12_IsW stdW
def ref12_FindW (W : Wd) (l : List ALot') (id : Int) : Option (ALot' × Bool × Unit) := 
 W.loop (fun (z1 : Int × Unit) again2 => 
  W.cnd (decide (z1.1 < (l.length : Int))) (W.idx l z1.1 fun x3 => 
   W.cnd (x3.1 == id) (W.idx l z1.1 fun x4 => some (x4, (true, ())))
    ((again2 ((IntKind.i64.wrap (z1.1 + 1)), ()))))
   (some ((0, (0, (0, ()))), (false, ()))))
  (0, ())
abbrev ref12_Find := ref12_FindW stdW
def ref12_PutW (W : Wd) (l : List ALot') (a : ALot') : Option ((List ALot') × Int × Unit) := W.call (ref12_IsW W a) fun v1 => 
 W.cnd (!v1) (some ([], (2, ())))
  (W.call (ref12_FindW W l a.1) fun v2 => 
  W.cnd v2.2.1 (some ([], (12, ())))
   (
   W.join (fun (z3 : Int × Unit) => W.bnd z3.1 l.length fun h4 => W.room (l.take h4).length 24 (W.room ((l.take h4).length + (a :: []).length) 24 (W.bnd z3.1 l.length fun h5 => W.room (((l.take h4) ++ (a :: [])).length + ((l.take l.length).drop h5).length) 24 (some ((((l.take h4) ++ (a :: [])) ++ ((l.take l.length).drop h5)), (0, ()))))))
    fun k6 => 
    W.loop (fun (z7 : Int × Unit) again8 => 
     W.cnd (decide (z7.1 < (l.length : Int))) (W.idx l z7.1 fun x9 => 
      W.cnd (decide (x9.1 < a.1)) ((again8 ((IntKind.i64.wrap (z7.1 + 1)), ())))
       ((k6 z7)))
      ((k6 z7)))
     (0, ())))
abbrev ref12_Put := ref12_PutW stdW
def ref12_TableW (W : Wd) (l : List ALot') : Option (List ALot') := 
 W.join (fun (z1 : List (Int × Int × Int × Unit) × Unit) => some z1.1)
  fun k2 => 
  W.loop (fun (z3 : List (Int × Int × Int × Unit) × Int × Unit) again4 => 
   W.cnd (decide (z3.2.1 < (l.length : Int))) (
    W.cnd (decide (z3.2.1 < 8)) (
     W.join (fun (z5 : List (Int × Int × Int × Unit) × Unit) => (again4 (z5.1, ((IntKind.i64.wrap (z3.2.1 + 1)), ()))))
      fun k6 => W.idx l z3.2.1 fun x7 => W.call (ref12_PutW W z3.1 x7) fun v8 => 
      W.cnd (v8.2.1 == 0) ((k6 (v8.1, ())))
       ((k6 (z3.1, ()))))
     ((k2 (z3.1, ()))))
    ((k2 (z3.1, ()))))
   ([], (0, ()))
abbrev ref12_Table := ref12_TableW stdW
def ref15_IsW (W : Wd) (a : AAccount') : Option Bool := 
 W.join (fun (z1 : Bool × Unit) => 
  W.cnd z1.1 (some false)
   (
   W.join (fun (z2 : Bool × Unit) => 
    W.cnd z2.1 (some false)
     (
     W.loop (fun (z3 : Int × Unit) again4 => 
      W.cnd (decide (z3.1 < (a.2.2.2.1.length : Int))) (
       W.join (fun (z5 : Bool × Unit) => 
        W.cnd z5.1 (some false)
         ((again4 ((IntKind.i64.wrap (z3.1 + 1)), ()))))
        fun k6 => W.idx a.2.2.2.1 z3.1 fun x7 => 
        W.cnd (decide (x7 < 1)) ((k6 (true, ())))
         (W.idx a.2.2.2.1 z3.1 fun x8 => 
         W.cnd (decide (16 < x8)) ((k6 (true, ())))
          (
          W.cnd (decide (0 < z3.1)) (W.idx a.2.2.2.1 z3.1 fun x9 => W.idx a.2.2.2.1 (IntKind.i64.wrap (z3.1 - 1)) fun x10 => (k6 ((decide (x9 ≤ x10)), ())))
           ((k6 (false, ()))))))
       (some true))
      (0, ())))
    fun k11 => 
    W.cnd (a.2.2.1 == 1) (
     W.cnd (decide (0 < (a.2.2.2.1.length : Int))) ((k11 (true, ())))
      (
      W.cnd (a.2.2.1 == 4) ((k11 ((decide (1 < (a.2.2.2.1.length : Int))), ())))
       ((k11 (false, ())))))
     (
     W.cnd (a.2.2.1 == 4) ((k11 ((decide (1 < (a.2.2.2.1.length : Int))), ())))
      ((k11 (false, ()))))))
  fun k12 => 
  W.cnd (decide (a.1 < 1)) ((k12 (true, ())))
   (
   W.cnd (decide (16 < a.1)) ((k12 (true, ())))
    (
    W.cnd (decide (a.2.1 < 1)) ((k12 (true, ())))
     (
     W.cnd (decide (8 < a.2.1)) ((k12 (true, ())))
      (
      W.cnd (decide (a.2.2.1 < 1)) ((k12 (true, ())))
       ((k12 ((decide (4 < a.2.2.1)), ())))))))
abbrev ref15_Is := ref15_IsW stdW
def ref15_FindW (W : Wd) (l : List AAccount') (id : Int) : Option (AAccount' × Bool × Unit) := 
 W.loop (fun (z1 : Int × Unit) again2 => 
  W.cnd (decide (z1.1 < (l.length : Int))) (W.idx l z1.1 fun x3 => 
   W.cnd (x3.1 == id) (W.idx l z1.1 fun x4 => some (x4, (true, ())))
    ((again2 ((IntKind.i64.wrap (z1.1 + 1)), ()))))
   (some ((0, (0, (0, ([], ())))), (false, ()))))
  (0, ())
abbrev ref15_Find := ref15_FindW stdW
def ref15_PutW (W : Wd) (l : List AAccount') (a : AAccount') : Option ((List AAccount') × Int × Unit) := W.call (ref15_IsW W a) fun v1 => 
 W.cnd (!v1) (some ([], (2, ())))
  (W.call (ref15_FindW W l a.1) fun v2 => 
  W.cnd v2.2.1 (some ([], (12, ())))
   (
   W.join (fun (z3 : Int × Unit) => W.bnd z3.1 l.length fun h4 => W.room (l.take h4).length 48 (W.room ((l.take h4).length + (a :: []).length) 48 (W.bnd z3.1 l.length fun h5 => W.room (((l.take h4) ++ (a :: [])).length + ((l.take l.length).drop h5).length) 48 (some ((((l.take h4) ++ (a :: [])) ++ ((l.take l.length).drop h5)), (0, ()))))))
    fun k6 => 
    W.loop (fun (z7 : Int × Unit) again8 => 
     W.cnd (decide (z7.1 < (l.length : Int))) (W.idx l z7.1 fun x9 => 
      W.cnd (decide (x9.1 < a.1)) ((again8 ((IntKind.i64.wrap (z7.1 + 1)), ())))
       ((k6 z7)))
      ((k6 z7)))
     (0, ())))
abbrev ref15_Put := ref15_PutW stdW
def ref15_TableW (W : Wd) (l : List AAccount') : Option (List AAccount') := 
 W.join (fun (z1 : List (Int × Int × Int × List (Int) × Unit) × Unit) => some z1.1)
  fun k2 => 
  W.loop (fun (z3 : List (Int × Int × Int × List (Int) × Unit) × Int × Unit) again4 => 
   W.cnd (decide (z3.2.1 < (l.length : Int))) (
    W.cnd (decide (z3.2.1 < 20)) (
     W.join (fun (z5 : List (Int × Int × Int × List (Int) × Unit) × Unit) => (again4 (z5.1, ((IntKind.i64.wrap (z3.2.1 + 1)), ()))))
      fun k6 => W.idx l z3.2.1 fun x7 => W.call (ref15_PutW W z3.1 x7) fun v8 => 
      W.cnd (v8.2.1 == 0) ((k6 (v8.1, ())))
       ((k6 (z3.1, ()))))
     ((k2 (z3.1, ()))))
    ((k2 (z3.1, ()))))
   ([], (0, ()))
abbrev ref15_Table := ref15_TableW stdW
def law17_FewW (W : Wd) (l : List AFlow') : Option (List AFlow') := 
 W.cnd (decide (20 < (l.length : Int))) (W.bnd 20 l.length fun h1 => some (l.take h1))
  (some l)
abbrev law17_Few := law17_FewW stdW
def law18_FewW (W : Wd) (l : List ALot') : Option (List ALot') := 
 W.cnd (decide (20 < (l.length : Int))) (W.bnd 20 l.length fun h1 => some (l.take h1))
  (some l)
abbrev law18_Few := law18_FewW stdW
def law26_FewW (W : Wd) (l : List AHold') : Option (List AHold') := 
 W.join (fun (z1 : List ((Int × Int × Unit) × List (Int × Int × Int × Unit) × Unit) × Unit) => some z1.1)
  fun k2 => 
  W.loop (fun (z3 : Int × List ((Int × Int × Unit) × List (Int × Int × Int × Unit) × Unit) × Unit) again4 => 
   W.cnd (decide (z3.1 < (l.length : Int))) (
    W.cnd (decide (z3.1 < 10)) (W.idx l z3.1 fun x5 => W.idx l z3.1 fun x6 => W.call (law18_FewW W x6.2.1) fun v7 => W.room (z3.2.1.length + ((x5.1, (v7, ())) :: []).length) 40 ((again4 ((IntKind.i64.wrap (z3.1 + 1)), ((z3.2.1 ++ ((x5.1, (v7, ())) :: [])), ())))))
     ((k2 z3.2)))
    ((k2 z3.2)))
   (0, ([], ()))
abbrev law26_Few := law26_FewW stdW
def law31_FewW (W : Wd) (s : AState') : Option AState' := 
 W.join (fun (z1 : List (Int × Int × Int × List (Int) × Unit) × Unit) => W.call (ref12_TableW W s.2.2.2.1) fun v2 => W.call (ref15_TableW W z1.1) fun v3 => W.call (law17_FewW W s.2.2.2.2.2.2.2.2.2.2.1) fun v4 => W.call (law26_FewW W s.2.2.2.2.2.2.2.2.2.2.2.1) fun v5 => some (0, ([], ([], (v2, (v3, ([], ([], ([], ([], ([], (v4, (v5, ())))))))))))))
  fun k6 => 
  W.loop (fun (z7 : Int × List (Int × Int × Int × List (Int) × Unit) × Unit) again8 => 
   W.cnd (decide (z7.1 < (s.2.2.2.2.1.length : Int))) (
    W.cnd (decide (z7.1 < 20)) (W.idx s.2.2.2.2.1 z7.1 fun x9 => W.call (law25_ShortW W x9) fun v10 => W.room (z7.2.1.length + (v10 :: []).length) 48 ((again8 ((IntKind.i64.wrap (z7.1 + 1)), ((z7.2.1 ++ (v10 :: [])), ())))))
     ((k6 z7.2)))
    ((k6 z7.2)))
   (0, ([], ()))
abbrev law31_Few := law31_FewW stdW
def purse_GetW (W : Wd) (l : List AFlow') (u : AUnit') : Option Int := 
 W.loop (fun (z1 : Int × Unit) again2 => 
  W.cnd (decide (z1.1 < (l.length : Int))) (W.idx l z1.1 fun x3 => 
   W.cnd (Go.Vc.notIf false ((x3.1.1 == u.1) && (x3.1.2.1 == u.2.1))) (some x3.2.1)
    ((again2 ((IntKind.i64.wrap (z1.1 + 1)), ()))))
   (some 0))
  (0, ())
abbrev purse_Get := purse_GetW stdW
def wide_OfW (W : Wd) (n : Int) : Option WideWide' := W.nn 63 (some ((Int.fdiv n (2 ^ (Min.min (Int.toNat 63) (Go.IntKind.bits Go.IntKind.i64)))), ((IntKind.u64.wrap n), ())))
abbrev wide_Of := wide_OfW stdW
def wide_total_addW (W : Wd) (t0 : Int) (t1 : Int) (t2 : Int) (w : WideWide') : Option (Unit × (Int × Int × Int × Unit)) := W.call (add64 t2 w.2.1 0) fun v1 => W.call (add64 (IntKind.u64.wrap t1) (IntKind.u64.wrap w.1) v1.2.1) fun v2 => W.nn 63 (some ((), ((IntKind.i64.wrap (t0 + (IntKind.i64.wrap ((Int.fdiv w.1 (2 ^ (Min.min (Int.toNat 63) (Go.IntKind.bits Go.IntKind.i64)))) + (IntKind.i64.wrap v2.2.1))))), ((IntKind.i64.wrap v2.1), (v1.1, ())))))
abbrev wide_total_add := wide_total_addW stdW
def wide_rangedW (W : Wd) (w : WideWide') (ok : Bool) : Option (WideWide' × Int × Unit) := 
 W.cnd (!ok) (some ((0, (0, ())), (7, ())))
  (some (w, (0, ())))
abbrev wide_ranged := wide_rangedW stdW
def wide_total_doneW (W : Wd) (t0 : Int) (t1 : Int) (t2 : Int) : Option ((WideWide' × Int × Unit) × (Int × Int × Int × Unit)) := W.nn 63 (W.call (wide_rangedW W (t1, (t2, ())) (t0 == (Int.fdiv t1 (2 ^ (Min.min (Int.toNat 63) (Go.IntKind.bits Go.IntKind.i64)))))) fun v1 => some (v1, (t0, (t1, (t2, ())))))
abbrev wide_total_done := wide_total_doneW stdW
def wide_SubW (W : Wd) (a : WideWide') (b : WideWide') : Option (WideWide' × Int × Unit) := W.call (wide_total_addW W 0 0 0 a) fun v1 => W.call (wide_total_addW W v1.2.1 v1.2.2.1 v1.2.2.2.1 ((Go.bits Go.BinOp.xor Go.IntKind.i64 (if true = true then (-1) else (if true = true then ((2 ^ ((Go.IntKind.bits Go.IntKind.i64) - 1)) - 1) else ((2 ^ (Go.IntKind.bits Go.IntKind.i64)) - 1))) b.1), ((Go.bits Go.BinOp.xor Go.IntKind.u64 (if false = true then (-1) else (if false = true then ((2 ^ ((Go.IntKind.bits Go.IntKind.u64) - 1)) - 1) else ((2 ^ (Go.IntKind.bits Go.IntKind.u64)) - 1))) b.2.1), ()))) fun v2 => W.call (wide_OfW W 1) fun v3 => W.call (wide_total_addW W v2.2.1 v2.2.2.1 v2.2.2.2.1 v3) fun v4 => W.call (wide_total_doneW W v4.2.1 v4.2.2.1 v4.2.2.2.1) fun v5 => some v5.1
abbrev wide_Sub := wide_SubW stdW
def wide_IntW (W : Wd) (w : WideWide') : Option (Int × Int × Unit) := W.call (wide_OfW W (IntKind.i64.wrap w.2.1)) fun v1 => 
 W.cnd (Go.Vc.notIf true ((v1.1 == w.1) && (v1.2.1 == w.2.1))) (some (0, (7, ())))
  (some ((IntKind.i64.wrap w.2.1), (0, ())))
abbrev wide_Int := wide_IntW stdW
def fix_narrowW (W : Wd) (w : WideWide') (e : Int) : Option (Int × Int × Unit) := 
 W.cnd (e != 0) (some (0, (e, ())))
  (W.call (wide_IntW W w) fun v1 => some v1)
abbrev fix_narrow := fix_narrowW stdW
def fix_SubW (W : Wd) (a : Int) (b : Int) : Option (Int × Int × Unit) := W.call (wide_OfW W a) fun v1 => W.call (wide_OfW W b) fun v2 => W.call (wide_SubW W v1 v2) fun v3 => W.call (fix_narrowW W v3.1 v3.2.1) fun v4 => some v4
abbrev fix_Sub := fix_SubW stdW
def fix_AbsW (W : Wd) (a : Int) : Option (Int × Int × Unit) := 
 W.cnd (decide (a < 0)) (W.call (fix_SubW W 0 a) fun v1 => some v1)
  (some (a, (0, ())))
abbrev fix_Abs := fix_AbsW stdW
def fall_OwesW (W : Wd) (s : AState') (u : AUnit') : Option (Int × Int × Unit) := W.call (purse_GetW W s.2.2.2.2.2.2.2.2.2.2.1 u) fun v1 => W.call (fix_AbsW W (if v1 < 0 then v1 else 0)) fun v2 => some v2
abbrev fall_Owes := fall_OwesW stdW
def ref17_GetW (W : Wd) (l : List AFlow') (u : AUnit') : Option Int := 
 W.loop (fun (z1 : Int × Unit) again2 => 
  W.cnd (decide (z1.1 < (l.length : Int))) (W.idx l z1.1 fun x3 => 
   W.cnd (Go.Vc.notIf false ((x3.1.1 == u.1) && (x3.1.2.1 == u.2.1))) (W.idx l z1.1 fun x4 => some x4.2.1)
    ((again2 ((IntKind.i64.wrap (z1.1 + 1)), ()))))
   (some 0))
  (0, ())
abbrev ref17_Get := ref17_GetW stdW
def ref31_OwesW (W : Wd) (s : AState') (u : AUnit') : Option (Int × Int × Unit) := W.call (ref17_GetW W s.2.2.2.2.2.2.2.2.2.2.1 u) fun v1 => 
 W.cnd (v1 == (-9223372036854775808)) (some (0, (7, ())))
  (
  W.cnd (decide (v1 < 0)) (some ((IntKind.i64.wrap (0 - v1)), (0, ())))
   (some (0, (0, ()))))
abbrev ref31_Owes := ref31_OwesW stdW
def slices_Cloneapi_Lot_api_LotW (W : Wd) (s : List ALot') : Option (List ALot') := W.nilq (List.isEmpty s) fun g1 => 
 W.cnd (Go.Vc.notIf false g1) (some [])
  (W.room ((0 : Nat) + s.length) 24 (some ([] ++ s)))
abbrev slices_Cloneapi_Lot_api_Lot := slices_Cloneapi_Lot_api_LotW stdW
def hold_LotsW (W : Wd) (l : List AHold') (u : AUnit') : Option (List ALot') := 
 W.loop (fun (z1 : Int × Unit) again2 => 
  W.cnd (decide (z1.1 < (l.length : Int))) (W.idx l z1.1 fun x3 => 
   W.cnd (Go.Vc.notIf false ((x3.1.1 == u.1) && (x3.1.2.1 == u.2.1))) (W.call (slices_Cloneapi_Lot_api_LotW W x3.2.1) fun v4 => some v4)
    ((again2 ((IntKind.i64.wrap (z1.1 + 1)), ()))))
   (some []))
  (0, ())
abbrev hold_Lots := hold_LotsW stdW
def lots_rightW (W : Wd) (x : ALot') : Option Bool := 
 W.cnd (decide (1 ≤ x.1)) (
  W.cnd (decide (x.1 ≤ 4)) (
   W.cnd (decide (0 ≤ x.2.1)) (
    W.cnd (decide (x.2.1 ≤ 255)) (some (decide (0 < x.2.2.1)))
     (some false))
    (some false))
   (some false))
  (some false)
abbrev lots_right := lots_rightW stdW
def cmp_isNaNW (W : Wd) (x : Int) : Option Bool := some (x != x)
abbrev cmp_isNaN := cmp_isNaNW stdW
def cmp_CompareW (W : Wd) (x : Int) (y : Int) : Option Int := W.call (cmp_isNaNW W x) fun v1 => W.call (cmp_isNaNW W y) fun v2 => 
 W.cnd v1 (
  W.cnd v2 (some 0)
   (some (-1)))
  (
  W.cnd v2 (some 1)
   (
   W.cnd (decide (x < y)) (some (-1))
    (
    W.cnd (decide (y < x)) (some 1)
     (some 0))))
abbrev cmp_Compare := cmp_CompareW stdW
def cmp_OrW (W : Wd) (vals : List Int) : Option Int := 
 W.loop (fun (z1 : Int × Unit) again2 => 
  W.cnd (decide (z1.1 < (vals.length : Int))) (W.idx vals z1.1 fun x3 => 
   W.cnd (x3 != 0) (some x3)
    ((again2 ((IntKind.i64.wrap (z1.1 + 1)), ()))))
   (some 0))
  (0, ())
abbrev cmp_Or := cmp_OrW stdW
def lots_orderW (W : Wd) (a : ALot') (b : ALot') : Option Int := W.call (cmp_CompareW W a.1 b.1) fun v1 => W.call (cmp_CompareW W a.2.1 b.2.1) fun v2 => W.call (cmp_OrW W (v1 :: (v2 :: []))) fun v3 => some v3
abbrev lots_order := lots_orderW stdW
def lots_IsW (W : Wd) (l : List ALot') : Option Bool := 
 W.loop (fun (z1 : Int × Unit) again2 => 
  W.cnd (decide (z1.1 < (l.length : Int))) (W.idx l z1.1 fun x3 => 
   W.join (fun (z4 : Bool × Unit) => 
    W.cnd z4.1 (some false)
     ((again2 ((IntKind.i64.wrap (z1.1 + 1)), ()))))
    fun k5 => W.call (lots_rightW W x3) fun v6 => 
    W.cnd (!v6) (W.both ((k5 (true, ()))) ((k5 (true, ()))))
     (
     W.cnd (decide (0 < z1.1)) (W.idx l (IntKind.i64.wrap (z1.1 - 1)) fun x7 => W.both (W.call (lots_orderW W x7 x3) fun v8 => (k5 ((decide (0 ≤ v8)), ()))) (W.call (lots_orderW W x7 x3) fun v9 => (k5 ((decide (0 ≤ v9)), ()))))
      (W.both ((k5 (false, ()))) ((k5 (false, ()))))))
   (some (decide ((l.length : Int) ≤ 16))))
  (0, ())
abbrev lots_Is := lots_IsW stdW
def asset_FindW (W : Wd) (l : List ALot') (id : Int) : Option (ALot' × Bool × Unit) := 
 W.loop (fun (z1 : Int × Unit) again2 => 
  W.cnd (decide (z1.1 < (l.length : Int))) (W.idx l z1.1 fun x3 => 
   W.cnd (x3.1 == id) (some (x3, (true, ())))
    ((again2 ((IntKind.i64.wrap (z1.1 + 1)), ()))))
   (some ((0, (0, (0, ()))), (false, ()))))
  (0, ())
abbrev asset_Find := asset_FindW stdW
def asset_pricedW (W : Wd) (p : Int) : Option Bool := 
 W.cnd (decide (0 ≤ p)) (some (decide (p ≤ 2147483647)))
  (some false)
abbrev asset_priced := asset_pricedW stdW
def asset_CheckW (W : Wd) (a : ALot') : Option Int := 
 W.join (fun (z1 : Bool × Unit) => 
  W.cnd z1.1 (some 2)
   (some 0))
  fun k2 => 
  W.cnd (decide (a.1 < 1)) ((k2 (true, ())))
   (
   W.cnd (decide (4 < a.1)) ((k2 (true, ())))
    (W.call (asset_pricedW W a.2.1) fun v3 => 
    W.cnd (!v3) ((k2 (true, ())))
     (
     W.cnd (decide (a.2.2.1 < 0)) ((k2 (true, ())))
      ((k2 ((decide (10000 < a.2.2.1)), ()))))))
abbrev asset_Check := asset_CheckW stdW
def wide_Wide_belowW (W : Wd) (w : WideWide') : Option Bool := some (decide (w.1 < 0))
abbrev wide_Wide_below := wide_Wide_belowW stdW
def wide_Wide_sizeW (W : Wd) (w : WideWide') : Option WideSize' := W.call (wide_Wide_belowW W w) fun v1 => 
 W.cnd (!v1) (some ((IntKind.u64.wrap w.1), w.2))
  (W.call (sub64 0 w.2.1 0) fun v2 => W.call (sub64 0 (IntKind.u64.wrap w.1) v2.2.1) fun v3 => some (v3.1, (v2.1, ())))
abbrev wide_Wide_size := wide_Wide_sizeW stdW
def math_bits_Mul64W (W : Wd) (x : Int) (y : Int) : Option (Int × Int × Unit) := W.nn 32 (W.nn 32 (W.nn 32 (W.nn 32 (W.nn 32 (some ((IntKind.u64.wrap ((IntKind.u64.wrap ((IntKind.u64.wrap ((Int.fdiv x (2 ^ (Min.min (Int.toNat 32) (Go.IntKind.bits Go.IntKind.u64)))) * (Int.fdiv y (2 ^ (Min.min (Int.toNat 32) (Go.IntKind.bits Go.IntKind.u64)))))) + (Int.fdiv (IntKind.u64.wrap ((IntKind.u64.wrap ((Int.fdiv x (2 ^ (Min.min (Int.toNat 32) (Go.IntKind.bits Go.IntKind.u64)))) * (Go.bits Go.BinOp.and Go.IntKind.u64 y 4294967295))) + (Int.fdiv (IntKind.u64.wrap ((Go.bits Go.BinOp.and Go.IntKind.u64 x 4294967295) * (Go.bits Go.BinOp.and Go.IntKind.u64 y 4294967295))) (2 ^ (Min.min (Int.toNat 32) (Go.IntKind.bits Go.IntKind.u64)))))) (2 ^ (Min.min (Int.toNat 32) (Go.IntKind.bits Go.IntKind.u64)))))) + (Int.fdiv (IntKind.u64.wrap ((Go.bits Go.BinOp.and Go.IntKind.u64 (IntKind.u64.wrap ((IntKind.u64.wrap ((Int.fdiv x (2 ^ (Min.min (Int.toNat 32) (Go.IntKind.bits Go.IntKind.u64)))) * (Go.bits Go.BinOp.and Go.IntKind.u64 y 4294967295))) + (Int.fdiv (IntKind.u64.wrap ((Go.bits Go.BinOp.and Go.IntKind.u64 x 4294967295) * (Go.bits Go.BinOp.and Go.IntKind.u64 y 4294967295))) (2 ^ (Min.min (Int.toNat 32) (Go.IntKind.bits Go.IntKind.u64)))))) 4294967295) + (IntKind.u64.wrap ((Go.bits Go.BinOp.and Go.IntKind.u64 x 4294967295) * (Int.fdiv y (2 ^ (Min.min (Int.toNat 32) (Go.IntKind.bits Go.IntKind.u64)))))))) (2 ^ (Min.min (Int.toNat 32) (Go.IntKind.bits Go.IntKind.u64)))))), ((IntKind.u64.wrap (x * y)), ())))))))
abbrev math_bits_Mul64 := math_bits_Mul64W stdW
def wide_size_signedW (W : Wd) (s : WideSize') (minus : Bool) : Option (WideWide' × Bool × Unit) := 
 W.cnd (!minus) (some (((IntKind.i64.wrap s.1), s.2), ((decide (s.1 < 9223372036854775808)), ())))
  (W.call (sub64 0 s.2.1 0) fun v1 => W.call (sub64 0 s.1 v1.2.1) fun v2 => 
  W.cnd (decide (s.1 < 9223372036854775808)) (some (((IntKind.i64.wrap v2.1), (v1.1, ())), (true, ())))
   (
   W.cnd (s.1 == 9223372036854775808) (some (((IntKind.i64.wrap v2.1), (v1.1, ())), ((s.2.1 == 0), ())))
    (some (((IntKind.i64.wrap v2.1), (v1.1, ())), (false, ())))))
abbrev wide_size_signed := wide_size_signedW stdW
def wide_MulW (W : Wd) (a : Int) (b : Int) : Option WideWide' := W.call (wide_OfW W a) fun v1 => W.call (wide_OfW W b) fun v2 => W.call (wide_Wide_sizeW W v1) fun v3 => W.call (wide_Wide_sizeW W v2) fun v4 => W.call (math_bits_Mul64W W v3.2.1 v4.2.1) fun v5 => W.both (W.call (wide_Wide_belowW W v1) fun v6 => W.both (W.call (wide_Wide_belowW W v2) fun v7 => W.both (W.call (wide_size_signedW W v5 (Go.Vc.notIf true (v6 == v7))) fun v8 => some v8.1) (W.call (wide_size_signedW W v5 (Go.Vc.notIf true (v6 == v7))) fun v9 => some v9.1)) (W.call (wide_Wide_belowW W v2) fun v10 => W.call (wide_size_signedW W v5 (Go.Vc.notIf true (v6 == v10))) fun v11 => some v11.1)) (W.call (wide_Wide_belowW W v1) fun v12 => W.call (wide_Wide_belowW W v2) fun v13 => W.call (wide_size_signedW W v5 (Go.Vc.notIf true (v12 == v13))) fun v14 => some v14.1)
abbrev wide_Mul := wide_MulW stdW
def fix_ProductW (W : Wd) (l : List Int) : Option (Int × Int × Unit) := 
 W.loop (fun (z1 : Int × Int × Unit) again2 => 
  W.cnd (decide (z1.2.1 < (l.length : Int))) (W.idx l z1.2.1 fun x3 => W.call (wide_MulW W z1.1 x3) fun v4 => W.call (wide_IntW W v4) fun v5 => 
   W.cnd (v5.2.1 != 0) (some (0, v5.2))
    ((again2 (v5.1, ((IntKind.i64.wrap (z1.2.1 + 1)), ())))))
   (some (z1.1, (0, ()))))
  (1, (0, ()))
abbrev fix_Product := fix_ProductW stdW
def asset_WorthW (W : Wd) (a : ALot') (qty : Int) : Option (Int × Int × Unit) := W.call (asset_CheckW W a) fun v1 => 
 W.cnd (v1 != 0) (some (0, (v1, ())))
  (W.call (fix_ProductW W (qty :: (a.2.1 :: []))) fun v2 => some v2)
abbrev asset_Worth := asset_WorthW stdW
def cover_values_asset_WorthW (W : Wd) (as_ : List ALot') (l : List ALot') : Option (((List Int) × Int × Unit) × Unit) := W.call (lots_IsW W l) fun v1 => 
 W.cnd (!v1) (some (([], (3, ())), ()))
  (
  W.loop (fun (z2 : Int × List (Int) × Unit) again3 => 
   W.cnd (decide (z2.1 < (l.length : Int))) (W.idx l z2.1 fun x4 => W.call (asset_FindW W as_ x4.1) fun v5 => 
    W.cnd (!v5.2.1) (some (([], (11, ())), ()))
     (W.call (asset_WorthW W v5.1 x4.2.2.1) fun v6 => 
     W.cnd (v6.2.1 != 0) (some (([], v6.2), ()))
      (W.room (z2.2.1.length + (v6.1 :: []).length) 8 ((again3 ((IntKind.i64.wrap (z2.1 + 1)), ((z2.2.1 ++ (v6.1 :: [])), ())))))))
    (some ((z2.2.1, (0, ())), ())))
   (0, ([], ())))
abbrev cover_values_asset_Worth := cover_values_asset_WorthW stdW
def wide_AddW (W : Wd) (l : List WideWide') : Option (WideWide' × Int × Unit) := 
 W.loop (fun (z1 : Int × Int × Int × Int × Unit) again2 => 
  W.cnd (decide (z1.1 < (l.length : Int))) (W.idx l z1.1 fun x3 => W.call (wide_total_addW W z1.2.1 z1.2.2.1 z1.2.2.2.1 x3) fun v4 => (again2 ((IntKind.i64.wrap (z1.1 + 1)), v4.2)))
   (W.call (wide_total_doneW W z1.2.1 z1.2.2.1 z1.2.2.2.1) fun v5 => some v5.1))
  (0, (0, (0, (0, ()))))
abbrev wide_Add := wide_AddW stdW
def fix_SumW (W : Wd) (l : List Int) : Option (Int × Int × Unit) := W.nn (l.length : Int) (W.room (Int.toNat (l.length : Int)) 16 (
 W.loop (fun (z1 : Int × List (Int × Int × Unit) × Unit) again2 => 
  W.cnd (decide (z1.1 < (l.length : Int))) (W.idx l z1.1 fun x3 => W.call (wide_OfW W x3) fun v4 => W.room (z1.2.1.length + (v4 :: []).length) 16 ((again2 ((IntKind.i64.wrap (z1.1 + 1)), ((z1.2.1 ++ (v4 :: [])), ())))))
   (W.call (wide_AddW W z1.2.1) fun v5 => W.call (fix_narrowW W v5.1 v5.2.1) fun v6 => some v6))
  (0, ([], ()))))
abbrev fix_Sum := fix_SumW stdW
def cover_WorthW (W : Wd) (as_ : List ALot') (l : List ALot') : Option (Int × Int × Unit) := W.call (cover_values_asset_WorthW W as_ l) fun v1 => 
 W.cnd (v1.1.2.1 != 0) (some (0, v1.1.2))
  (W.call (fix_SumW W v1.1.1) fun v2 => some v2)
abbrev cover_Worth := cover_WorthW stdW
def fall_RoomW (W : Wd) (s : AState') (u : AUnit') : Option (Int × Int × Unit) := W.call (hold_LotsW W s.2.2.2.2.2.2.2.2.2.2.2.1 u) fun v1 => W.call (cover_WorthW W s.2.2.2.1 v1) fun v2 => 
 W.cnd (v2.2.1 != 0) (some (0, v2.2))
  (W.call (purse_GetW W s.2.2.2.2.2.2.2.2.2.2.1 u) fun v3 => W.call (fix_SumW W (v2.1 :: (v3 :: []))) fun v4 => some ((if v4.1 > 0 then v4.1 else 0), v4.2))
abbrev fall_Room := fall_RoomW stdW
def ref26_LotsW (W : Wd) (l : List AHold') (u : AUnit') : Option (List ALot') := 
 W.loop (fun (z1 : Int × Unit) again2 => 
  W.cnd (decide (z1.1 < (l.length : Int))) (W.idx l z1.1 fun x3 => 
   W.cnd (Go.Vc.notIf false ((x3.1.1 == u.1) && (x3.1.2.1 == u.2.1))) (W.idx l z1.1 fun x4 => some x4.2.1)
    ((again2 ((IntKind.i64.wrap (z1.1 + 1)), ()))))
   (some []))
  (0, ())
abbrev ref26_Lots := ref26_LotsW stdW
def ref18_oneW (W : Wd) (x : ALot') : Option Bool := 
 W.cnd (decide (0 < x.1)) (
  W.cnd (decide (x.1 < 5)) (
   W.cnd (decide (0 ≤ x.2.1)) (
    W.cnd (decide (x.2.1 < 256)) (some (decide (0 < x.2.2.1)))
     (some false))
    (some false))
   (some false))
  (some false)
abbrev ref18_one := ref18_oneW stdW
def ref18_lessW (W : Wd) (a : ALot') (b : ALot') : Option Bool := 
 W.cnd (decide (a.1 < b.1)) (some true)
  (
  W.cnd (a.1 == b.1) (some (decide (a.2.1 < b.2.1)))
   (some false))
abbrev ref18_less := ref18_lessW stdW
def ref18_IsW (W : Wd) (l : List ALot') : Option Bool := 
 W.loop (fun (z1 : Int × Unit) again2 => 
  W.cnd (decide (z1.1 < (l.length : Int))) (
   W.join (fun (z3 : Bool × Unit) => 
    W.cnd z3.1 (some false)
     ((again2 ((IntKind.i64.wrap (z1.1 + 1)), ()))))
    fun k4 => W.idx l z1.1 fun x5 => W.call (ref18_oneW W x5) fun v6 => 
    W.cnd (!v6) (W.both ((k4 (true, ()))) ((k4 (true, ()))))
     (
     W.cnd (decide (0 < z1.1)) (W.idx l (IntKind.i64.wrap (z1.1 - 1)) fun x7 => W.idx l z1.1 fun x8 => W.both (W.call (ref18_lessW W x7 x8) fun v9 => (k4 ((!v9), ()))) (W.call (ref18_lessW W x7 x8) fun v10 => (k4 ((!v10), ()))))
      (W.both ((k4 (false, ()))) ((k4 (false, ()))))))
   (some (decide ((l.length : Int) ≤ 16))))
  (0, ())
abbrev ref18_Is := ref18_IsW stdW
def ref01_NatW (W : Wd) (u : Int) : Option Novationref01Big' := 
 W.loop (fun (z1 : Int × List (Int) × Unit) again2 => 
  W.cnd (decide (0 < z1.1)) (W.nz 2 (W.room (z1.2.1.length + ((IntKind.u8.wrap (Int.tmod z1.1 2)) :: []).length) 1 (W.nz 2 ((again2 ((IntKind.u64.wrap (Int.tdiv z1.1 2)), ((z1.2.1 ++ ((IntKind.u8.wrap (Int.tmod z1.1 2)) :: [])), ())))))))
   (some (false, z1.2)))
  (u, ([], ()))
abbrev ref01_Nat := ref01_NatW stdW
def ref01_plusW (W : Wd) (a : List Int) (b : List Int) : Option (List Int) := 
 W.loop (fun (z1 : Int × Int × List (Int) × Unit) again2 => 
  W.join (fun (z3 : List (Int) × Unit) => 
   W.join (fun (z4 : Int × List (Int) × Unit) => 
    W.join (fun (z5 : Int × List (Int) × Unit) => W.nz 2 (W.room (z5.2.1.length + ((Int.tmod z5.1 2) :: []).length) 1 (W.nz 2 ((again2 ((IntKind.u8.wrap (Int.tdiv z5.1 2)), ((IntKind.i64.wrap (z1.2.1 + 1)), ((z5.2.1 ++ ((Int.tmod z5.1 2) :: [])), ()))))))))
     fun k6 => 
     W.cnd (decide (z1.2.1 < (b.length : Int))) (W.idx b z1.2.1 fun x7 => (k6 ((IntKind.u8.wrap (z4.1 + x7)), z4.2)))
      ((k6 z4)))
    fun k8 => 
    W.cnd (decide (z1.2.1 < (a.length : Int))) (W.idx a z1.2.1 fun x9 => (k8 ((IntKind.u8.wrap (z1.1 + x9)), z3)))
     ((k8 (z1.1, z3))))
   fun k10 => 
   W.cnd (decide (z1.2.1 < (a.length : Int))) ((k10 z1.2.2))
    (
    W.cnd (decide (z1.2.1 < (b.length : Int))) ((k10 z1.2.2))
     (
     W.join (fun (z11 : List (Int) × Unit) => some z11.1)
      fun k12 => 
      W.cnd (decide (0 < z1.1)) (W.room (z1.2.2.1.length + (z1.1 :: []).length) 1 ((k12 ((z1.2.2.1 ++ (z1.1 :: [])), ()))))
       ((k12 z1.2.2)))))
  (0, (0, ([], ())))
abbrev ref01_plus := ref01_plusW stdW
def ref01_OfW (W : Wd) (n : Int) : Option Novationref01Big' := 
 W.cnd (decide (0 ≤ n)) (W.call (ref01_NatW W (IntKind.u64.wrap n)) fun v1 => some v1)
  (W.call (ref01_NatW W (IntKind.u64.wrap (IntKind.i64.wrap (0 - (IntKind.i64.wrap (n + 1)))))) fun v2 => W.call (ref01_plusW W v2.2.1 (1 :: [])) fun v3 => some (true, (v3, ())))
abbrev ref01_Of := ref01_OfW stdW
def ref01_trimW (W : Wd) (neg : Bool) (b : List Int) : Option Novationref01Big' := 
 W.join (fun (z1 : Int × Unit) => 
  W.cnd neg (W.bnd z1.1 b.length fun h2 => some ((decide (0 < z1.1)), ((b.take h2), ())))
   (W.bnd z1.1 b.length fun h3 => some (false, ((b.take h3), ()))))
  fun k4 => 
  W.loop (fun (z5 : Int × Unit) again6 => 
   W.cnd (decide (0 < z5.1)) (W.idx b (IntKind.i64.wrap (z5.1 - 1)) fun x7 => 
    W.cnd (x7 == 0) ((again6 ((IntKind.i64.wrap (z5.1 - 1)), ())))
     ((k4 z5)))
    ((k4 z5)))
   ((b.length : Int), ())
abbrev ref01_trim := ref01_trimW stdW
def ref01_MulW (W : Wd) (a : Novationref01Big') (b : Novationref01Big') : Option Novationref01Big' := W.room a.2.1.length 1 (
 W.loop (fun (z1 : List (Int) × List (Int) × Int × Unit) again2 => 
  W.cnd (decide (z1.2.2.1 < (b.2.1.length : Int))) (
   W.join (fun (z3 : List (Int) × Unit) => W.room (0 :: []).length 1 (W.room ((0 :: []).length + z1.2.1.length) 1 ((again2 (z3.1, (((0 :: []) ++ z1.2.1), ((IntKind.i64.wrap (z1.2.2.1 + 1)), ())))))))
    fun k4 => W.idx b.2.1 z1.2.2.1 fun x5 => 
    W.cnd (x5 == 1) (W.call (ref01_plusW W z1.1 z1.2.1) fun v6 => (k4 (v6, ())))
     ((k4 (z1.1, ()))))
   (W.call (ref01_trimW W (Go.Vc.notIf true (a.1 == b.1)) z1.1) fun v7 => some v7))
  ([], (a.2.1, (0, ()))))
abbrev ref01_Mul := ref01_MulW stdW
def ref12_WorthW (W : Wd) (a : ALot') (qty : Int) : Option Novationref01Big' := W.call (ref01_OfW W qty) fun v1 => W.call (ref01_OfW W a.2.1) fun v2 => W.call (ref01_MulW W v1 v2) fun v3 => some v3
abbrev ref12_Worth := ref12_WorthW stdW
def ref01_lessW (W : Wd) (a : List Int) (b : List Int) : Option Bool := 
 W.cnd ((a.length : Int) != (b.length : Int)) (some (decide ((a.length : Int) < (b.length : Int))))
  (
  W.loop (fun (z1 : Int × Unit) again2 => 
   W.cnd (decide (0 < z1.1)) (W.idx a (IntKind.i64.wrap (z1.1 - 1)) fun x3 => W.idx b (IntKind.i64.wrap (z1.1 - 1)) fun x4 => 
    W.cnd (x3 != x4) (W.idx a (IntKind.i64.wrap (z1.1 - 1)) fun x5 => W.idx b (IntKind.i64.wrap (z1.1 - 1)) fun x6 => some (decide (x5 < x6)))
     ((again2 ((IntKind.i64.wrap (z1.1 - 1)), ()))))
    (some false))
   ((a.length : Int), ()))
abbrev ref01_less := ref01_lessW stdW
def ref01_minusW (W : Wd) (a : List Int) (b : List Int) : Option (List Int) := 
 W.loop (fun (z1 : Int × Int × List (Int) × Unit) again2 => 
  W.cnd (decide (z1.2.1 < (a.length : Int))) (
   W.join (fun (z3 : Int × List (Int) × Unit) => W.idx a z1.2.1 fun x4 => 
    W.join (fun (z5 : Int × List (Int) × Unit) => W.nz 2 (W.room (z5.2.1.length + ((Int.tmod (IntKind.u8.wrap ((IntKind.u8.wrap (x4 + 2)) - z3.1)) 2) :: []).length) 1 ((again2 (z5.1, ((IntKind.i64.wrap (z1.2.1 + 1)), ((z5.2.1 ++ ((Int.tmod (IntKind.u8.wrap ((IntKind.u8.wrap (x4 + 2)) - z3.1)) 2) :: [])), ())))))))
     fun k6 => 
     W.cnd (decide ((IntKind.u8.wrap ((IntKind.u8.wrap (x4 + 2)) - z3.1)) < 2)) ((k6 (1, z3.2)))
      ((k6 (0, z3.2))))
    fun k7 => 
    W.cnd (decide (z1.2.1 < (b.length : Int))) (W.idx b z1.2.1 fun x8 => (k7 ((IntKind.u8.wrap (z1.1 + x8)), z1.2.2)))
     ((k7 (z1.1, z1.2.2))))
   (some z1.2.2.1))
  (0, (0, ([], ())))
abbrev ref01_minus := ref01_minusW stdW
def ref01_AddW (W : Wd) (a : Novationref01Big') (b : Novationref01Big') : Option Novationref01Big' := 
 W.cnd (Go.Vc.notIf false (a.1 == b.1)) (W.call (ref01_plusW W a.2.1 b.2.1) fun v1 => W.call (ref01_trimW W a.1 v1) fun v2 => some v2)
  (W.call (ref01_lessW W a.2.1 b.2.1) fun v3 => 
  W.cnd v3 (W.call (ref01_minusW W b.2.1 a.2.1) fun v4 => W.call (ref01_trimW W b.1 v4) fun v5 => some v5)
   (W.call (ref01_minusW W a.2.1 b.2.1) fun v6 => W.call (ref01_trimW W a.1 v6) fun v7 => some v7))
abbrev ref01_Add := ref01_AddW stdW
def ref01_WithinW (W : Wd) (a : Novationref01Big') (n : Int) : Option Bool := 
 W.join (fun (z1 : Bool × List (Int) × Unit) => some (decide ((z1.2.1.length : Int) < n)))
  fun k2 => 
  W.cnd a.1 (W.both (W.call (ref01_NatW W 1) fun v3 => W.call (ref01_AddW W a v3) fun v4 => (k2 v4)) (W.call (ref01_NatW W 1) fun v5 => W.call (ref01_AddW W a v5) fun v6 => (k2 v6)))
   ((k2 a))
abbrev ref01_Within := ref01_WithinW stdW
def ref01_FitsW (W : Wd) (a : Novationref01Big') : Option Bool := W.call (ref01_WithinW W a 64) fun v1 => some v1
abbrev ref01_Fits := ref01_FitsW stdW
def ref01_NegW (W : Wd) (a : Novationref01Big') : Option Novationref01Big' := W.call (ref01_trimW W (!a.1) a.2.1) fun v1 => some v1
abbrev ref01_Neg := ref01_NegW stdW
def ref01_SubW (W : Wd) (a : Novationref01Big') (b : Novationref01Big') : Option Novationref01Big' := W.call (ref01_NegW W b) fun v1 => W.call (ref01_AddW W a v1) fun v2 => some v2
abbrev ref01_Sub := ref01_SubW stdW
def ref01_DivW (W : Wd) (a : Novationref01Big') (d : Int) : Option (Novationref01Big' × Int × Unit) := 
 W.loop (fun (z1 : Int × List (Int) × Int × Unit) again2 => 
  W.cnd (decide (0 < z1.2.2.1)) (W.idx a.2.1 (IntKind.i64.wrap (z1.2.2.1 - 1)) fun x3 => 
   W.join (fun (z4 : Int × Int × Unit) => W.room (z4.2.1 :: []).length 1 (W.room ((z4.2.1 :: []).length + z1.2.1.length) 1 ((again2 (z4.1, (((z4.2.1 :: []) ++ z1.2.1), ((IntKind.i64.wrap (z1.2.2.1 - 1)), ())))))))
    fun k5 => 
    W.cnd (decide (d ≤ (IntKind.u64.wrap ((IntKind.u64.wrap (2 * z1.1)) + (IntKind.u64.wrap x3))))) ((k5 ((IntKind.u64.wrap ((IntKind.u64.wrap ((IntKind.u64.wrap (2 * z1.1)) + (IntKind.u64.wrap x3))) - d)), (1, ()))))
     ((k5 ((IntKind.u64.wrap ((IntKind.u64.wrap (2 * z1.1)) + (IntKind.u64.wrap x3))), (0, ())))))
   (W.call (ref01_trimW W a.1 z1.2.1) fun v6 => 
   W.join (fun (z7 : Int × Bool × List (Int) × Unit) => some (z7.2, (z7.1, ())))
    fun k8 => 
    W.join (fun (z9 : Bool × Unit) => 
     W.cnd z9.1 (
      W.join (fun (z10 : Bool × List (Int) × Unit) => (k8 ((IntKind.u64.wrap (d - z1.1)), z10)))
       fun k11 => W.both (W.call (ref01_NatW W 1) fun v12 => W.call (ref01_SubW W v6 v12) fun v13 => (k11 v13)) (W.call (ref01_NatW W 1) fun v14 => W.call (ref01_SubW W v6 v14) fun v15 => (k11 v15)))
      ((k8 (z1.1, v6))))
     fun k16 => 
     W.cnd a.1 ((k16 ((decide (0 < z1.1)), ())))
      ((k16 (false, ())))))
  (0, ([], ((a.2.1.length : Int), ())))
abbrev ref01_Div := ref01_DivW stdW
def ref12_CountW (W : Wd) (a : ALot') (qty : Int) : Option Novationref01Big' := W.both (W.call (ref12_WorthW W a qty) fun v1 => W.both (W.call (ref01_OfW W (IntKind.i64.wrap (10000 - a.2.2.1))) fun v2 => W.both (W.call (ref01_MulW W v1 v2) fun v3 => W.both (W.call (ref01_DivW W v3 10000) fun v4 => some v4.1) (W.call (ref01_DivW W v3 10000) fun v5 => some v5.1)) (W.call (ref01_MulW W v1 v2) fun v6 => W.call (ref01_DivW W v6 10000) fun v7 => some v7.1)) (W.call (ref01_OfW W (IntKind.i64.wrap (10000 - a.2.2.1))) fun v8 => W.call (ref01_MulW W v1 v8) fun v9 => W.call (ref01_DivW W v9 10000) fun v10 => some v10.1)) (W.call (ref12_WorthW W a qty) fun v11 => W.call (ref01_OfW W (IntKind.i64.wrap (10000 - a.2.2.1))) fun v12 => W.call (ref01_MulW W v11 v12) fun v13 => W.call (ref01_DivW W v13 10000) fun v14 => some v14.1)
def ref01_IntW (W : Wd) (a : Novationref01Big') : Option Int := 
 W.loop (fun (z1 : Int × Int × Unit) again2 => 
  W.cnd (decide (0 < z1.2.1)) (
   W.join (fun (z3 : Int × Unit) => (again2 (z3.1, ((IntKind.i64.wrap (z1.2.1 - 1)), ()))))
    fun k4 => 
    W.cnd a.1 (W.idx a.2.1 (IntKind.i64.wrap (z1.2.1 - 1)) fun x5 => (k4 ((IntKind.i64.wrap ((IntKind.i64.wrap (2 * z1.1)) - (IntKind.i64.wrap x5))), ())))
     (W.idx a.2.1 (IntKind.i64.wrap (z1.2.1 - 1)) fun x6 => (k4 ((IntKind.i64.wrap ((IntKind.i64.wrap (2 * z1.1)) + (IntKind.i64.wrap x6))), ()))))
   (some z1.1))
  (0, ((a.2.1.length : Int), ()))
abbrev ref01_Int := ref01_IntW stdW
def ref27_SumW (W : Wd) (as_ : List ALot') (l : List ALot') (cash : Int) (counted : Bool) : Option (Int × Int × Unit) := W.call (ref18_IsW W l) fun v1 => 
 W.cnd (!v1) (some (0, (3, ())))
  (W.call (ref01_OfW W cash) fun v2 => 
  W.loop (fun (z3 : Int × Bool × List (Int) × Unit) again4 => 
   W.cnd (decide (z3.1 < (l.length : Int))) (
    W.join (fun (z5 : Bool × List (Int) × Unit) => (again4 ((IntKind.i64.wrap (z3.1 + 1)), z5)))
     fun k6 => W.idx l z3.1 fun x7 => W.call (ref12_FindW W as_ x7.1) fun v8 => 
     W.cnd (!v8.2.1) (some (0, (11, ())))
      (W.idx l z3.1 fun x9 => W.both (W.call (ref12_WorthW W v8.1 x9.2.2.1) fun v10 => W.call (ref01_FitsW W v10) fun v11 => 
       W.cnd (!v11) (some (0, (7, ())))
        (
        W.join (fun (z12 : Bool × List (Int) × Unit) => W.call (ref01_AddW W z3.2 z12) fun v13 => (k6 v13))
         fun k14 => 
         W.cnd counted (W.idx l z3.1 fun x15 => W.call (ref12_CountW W v8.1 x15.2.2.1) fun v16 => (k14 v16))
          ((k14 v10)))) (W.call (ref12_WorthW W v8.1 x9.2.2.1) fun v17 => W.call (ref01_FitsW W v17) fun v18 => 
       W.cnd (!v18) (some (0, (7, ())))
        (
        W.join (fun (z19 : Bool × List (Int) × Unit) => W.call (ref01_AddW W z3.2 z19) fun v20 => (k6 v20))
         fun k21 => 
         W.cnd counted (W.idx l z3.1 fun x22 => W.call (ref12_CountW W v8.1 x22.2.2.1) fun v23 => (k21 v23))
          ((k21 v17))))))
    (W.call (ref01_FitsW W z3.2) fun v24 => 
    W.cnd (!v24) (some (0, (7, ())))
     (W.call (ref01_IntW W z3.2) fun v25 => some (v25, (0, ())))))
   (0, v2))
abbrev ref27_Sum := ref27_SumW stdW
def ref31_RoomW (W : Wd) (s : AState') (u : AUnit') : Option (Int × Int × Unit) := W.call (ref26_LotsW W s.2.2.2.2.2.2.2.2.2.2.2.1 u) fun v1 => W.call (ref27_SumW W s.2.2.2.1 v1 0 false) fun v2 => 
 W.cnd (v2.2.1 != 0) (some (0, v2.2))
  (W.both (W.call (ref01_OfW W v2.1) fun v3 => W.both (W.call (ref17_GetW W s.2.2.2.2.2.2.2.2.2.2.1 u) fun v4 => W.both (W.call (ref01_OfW W v4) fun v5 => W.both (W.call (ref01_AddW W v3 v5) fun v6 => W.call (ref01_FitsW W v6) fun v7 => 
      W.cnd (!v7) (some (0, (7, ())))
       (
       W.cnd v6.1 (some (0, (0, ())))
        (W.call (ref01_IntW W v6) fun v8 => some (v8, (0, ()))))) (W.call (ref01_AddW W v3 v5) fun v9 => W.call (ref01_FitsW W v9) fun v10 => 
      W.cnd (!v10) (some (0, (7, ())))
       (
       W.cnd v9.1 (some (0, (0, ())))
        (W.call (ref01_IntW W v9) fun v11 => some (v11, (0, ())))))) (W.call (ref01_OfW W v4) fun v12 => W.call (ref01_AddW W v3 v12) fun v13 => W.call (ref01_FitsW W v13) fun v14 => 
     W.cnd (!v14) (some (0, (7, ())))
      (
      W.cnd v13.1 (some (0, (0, ())))
       (W.call (ref01_IntW W v13) fun v15 => some (v15, (0, ())))))) (W.call (ref17_GetW W s.2.2.2.2.2.2.2.2.2.2.1 u) fun v16 => W.call (ref01_OfW W v16) fun v17 => W.call (ref01_AddW W v3 v17) fun v18 => W.call (ref01_FitsW W v18) fun v19 => 
    W.cnd (!v19) (some (0, (7, ())))
     (
     W.cnd v18.1 (some (0, (0, ())))
      (W.call (ref01_IntW W v18) fun v20 => some (v20, (0, ())))))) (W.call (ref01_OfW W v2.1) fun v21 => W.call (ref17_GetW W s.2.2.2.2.2.2.2.2.2.2.1 u) fun v22 => W.call (ref01_OfW W v22) fun v23 => W.call (ref01_AddW W v21 v23) fun v24 => W.call (ref01_FitsW W v24) fun v25 => 
   W.cnd (!v25) (some (0, (7, ())))
    (
    W.cnd v24.1 (some (0, (0, ())))
     (W.call (ref01_IntW W v24) fun v26 => some (v26, (0, ()))))))
abbrev ref31_Room := ref31_RoomW stdW
def acct_LessW (W : Wd) (a : AUnit') (b : AUnit') : Option Bool := 
 W.cnd (a.1 != b.1) (some (decide (a.1 < b.1)))
  (some (decide (a.2.1 < b.2.1)))
abbrev acct_Less := acct_LessW stdW
def purse_IsW (W : Wd) (l : List AFlow') : Option Bool := 
 W.loop (fun (z1 : Int × Unit) again2 => 
  W.cnd (decide (z1.1 < (l.length : Int))) (W.idx l z1.1 fun x3 => 
   W.join (fun (z4 : Bool × Unit) => 
    W.cnd z4.1 (some false)
     ((again2 ((IntKind.i64.wrap (z1.1 + 1)), ()))))
    fun k5 => 
    W.cnd (x3.2.1 == 0) ((k5 (true, ())))
     (
     W.cnd (decide (0 < z1.1)) (W.idx l (IntKind.i64.wrap (z1.1 - 1)) fun x6 => W.call (acct_LessW W x6.1 x3.1) fun v7 => (k5 ((!v7), ())))
      ((k5 (false, ())))))
   (some true))
  (0, ())
abbrev purse_Is := purse_IsW stdW
def hold_IsW (W : Wd) (l : List AHold') : Option Bool := 
 W.loop (fun (z1 : Int × Unit) again2 => 
  W.cnd (decide (z1.1 < (l.length : Int))) (W.idx l z1.1 fun x3 => 
   W.join (fun (z4 : Bool × Unit) => 
    W.cnd z4.1 (some false)
     ((again2 ((IntKind.i64.wrap (z1.1 + 1)), ()))))
    fun k5 => 
    W.cnd ((x3.2.1.length : Int) == 0) (W.both ((k5 (true, ()))) ((k5 (true, ()))))
     (W.call (lots_IsW W x3.2.1) fun v6 => 
     W.cnd (!v6) (W.both ((k5 (true, ()))) ((k5 (true, ()))))
      (
      W.cnd (decide (0 < z1.1)) (W.idx l (IntKind.i64.wrap (z1.1 - 1)) fun x7 => W.both (W.call (acct_LessW W x7.1 x3.1) fun v8 => (k5 ((!v8), ()))) (W.call (acct_LessW W x7.1 x3.1) fun v9 => (k5 ((!v9), ()))))
       (W.both ((k5 (false, ()))) ((k5 (false, ())))))))
   (some true))
  (0, ())
abbrev hold_Is := hold_IsW stdW
def fall_TreasuryW (W : Wd) : Option AUnit' := some (0, (1, ()))
abbrev fall_Treasury := fall_TreasuryW stdW
def math_bits_Len64W (W : Wd) (x : Int) : Option Int := 
 W.join (fun (z1 : Int × Int × Unit) => 
  W.join (fun (z2 : Int × Int × Unit) => 
   W.join (fun (z3 : Int × Int × Unit) => W.sidx (ByteArray.mk (Array.mk (0 :: (1 :: (2 :: (2 :: (3 :: (3 :: (3 :: (3 :: (4 :: (4 :: (4 :: (4 :: (4 :: (4 :: (4 :: (4 :: (5 :: (5 :: (5 :: (5 :: (5 :: (5 :: (5 :: (5 :: (5 :: (5 :: (5 :: (5 :: (5 :: (5 :: (5 :: (5 :: (6 :: (6 :: (6 :: (6 :: (6 :: (6 :: (6 :: (6 :: (6 :: (6 :: (6 :: (6 :: (6 :: (6 :: (6 :: (6 :: (6 :: (6 :: (6 :: (6 :: (6 :: (6 :: (6 :: (6 :: (6 :: (6 :: (6 :: (6 :: (6 :: (6 :: (6 :: (6 :: (7 :: (7 :: (7 :: (7 :: (7 :: (7 :: (7 :: (7 :: (7 :: (7 :: (7 :: (7 :: (7 :: (7 :: (7 :: (7 :: (7 :: (7 :: (7 :: (7 :: (7 :: (7 :: (7 :: (7 :: (7 :: (7 :: (7 :: (7 :: (7 :: (7 :: (7 :: (7 :: (7 :: (7 :: (7 :: (7 :: (7 :: (7 :: (7 :: (7 :: (7 :: (7 :: (7 :: (7 :: (7 :: (7 :: (7 :: (7 :: (7 :: (7 :: (7 :: (7 :: (7 :: (7 :: (7 :: (7 :: (7 :: (7 :: (7 :: (7 :: (7 :: (7 :: (7 :: (7 :: (8 :: (8 :: (8 :: (8 :: (8 :: (8 :: (8 :: (8 :: (8 :: (8 :: (8 :: (8 :: (8 :: (8 :: (8 :: (8 :: (8 :: (8 :: (8 :: (8 :: (8 :: (8 :: (8 :: (8 :: (8 :: (8 :: (8 :: (8 :: (8 :: (8 :: (8 :: (8 :: (8 :: (8 :: (8 :: (8 :: (8 :: (8 :: (8 :: (8 :: (8 :: (8 :: (8 :: (8 :: (8 :: (8 :: (8 :: (8 :: (8 :: (8 :: (8 :: (8 :: (8 :: (8 :: (8 :: (8 :: (8 :: (8 :: (8 :: (8 :: (8 :: (8 :: (8 :: (8 :: (8 :: (8 :: (8 :: (8 :: (8 :: (8 :: (8 :: (8 :: (8 :: (8 :: (8 :: (8 :: (8 :: (8 :: (8 :: (8 :: (8 :: (8 :: (8 :: (8 :: (8 :: (8 :: (8 :: (8 :: (8 :: (8 :: (8 :: (8 :: (8 :: (8 :: (8 :: (8 :: (8 :: (8 :: (8 :: (8 :: (8 :: (8 :: (8 :: (8 :: (8 :: (8 :: (8 :: (8 :: (8 :: (8 :: (8 :: (8 :: (8 :: (8 :: (8 :: (8 :: (8 :: (8 :: (8 :: (8 :: (8 :: (8 :: (8 :: (8 :: (8 :: (8 :: (8 :: (8 :: [])))))))))))))))))))))))))))))))))))))))))))))))))))))))))))))))))))))))))))))))))))))))))))))))))))))))))))))))))))))))))))))))))))))))))))))))))))))))))))))))))))))))))))))))))))))))))))))))))))))))))))))))))))))))))))))))))))))))))))))))))))))))))))))))))) (IntKind.u8.wrap z3.1) fun x4 => some (IntKind.i64.wrap (z3.2.1 + (IntKind.i64.wrap x4))))
    fun k5 => 
    W.cnd (decide (256 ≤ z2.1)) (W.nn 8 ((k5 ((Int.fdiv z2.1 (2 ^ (Min.min (Int.toNat 8) (Go.IntKind.bits Go.IntKind.u64)))), ((IntKind.i64.wrap (z2.2.1 + 8)), ())))))
     ((k5 z2)))
   fun k6 => 
   W.cnd (decide (65536 ≤ z1.1)) (W.nn 16 ((k6 ((Int.fdiv z1.1 (2 ^ (Min.min (Int.toNat 16) (Go.IntKind.bits Go.IntKind.u64)))), ((IntKind.i64.wrap (z1.2.1 + 16)), ())))))
    ((k6 z1)))
  fun k7 => 
  W.cnd (decide (4294967296 ≤ x)) (W.nn 32 ((k7 ((Int.fdiv x (2 ^ (Min.min (Int.toNat 32) (Go.IntKind.bits Go.IntKind.u64)))), (32, ())))))
   ((k7 (x, (0, ()))))
def math_bits_LeadingZeros64W (W : Wd) (x : Int) : Option Int := W.call (math_bits_Len64W W x) fun v1 => some (IntKind.i64.wrap (64 - v1))
def math_bits_Div64W (W : Wd) (hi : Int) (lo : Int) (y : Int) : Option (Int × Int × Unit) := 
 W.cnd (y == 0) (none)
  (
  W.cnd (decide (y ≤ hi)) (none)
   (
   W.cnd (hi == 0) (W.nz y (W.nz y (some ((IntKind.u64.wrap (Int.tdiv lo y)), ((Int.tmod lo y), ())))))
    (W.call (math_bits_LeadingZeros64W W y) fun v1 => W.nn (IntKind.u64.wrap v1) (W.nn 32 (W.nn (IntKind.u64.wrap v1) (W.nn (IntKind.u64.wrap (64 - (IntKind.u64.wrap v1))) (W.nn (IntKind.u64.wrap v1) (W.nn 32 (W.nz (Int.fdiv (IntKind.u64.wrap (y * (2 ^ (Min.min (Int.toNat (IntKind.u64.wrap v1)) (Go.IntKind.bits Go.IntKind.u64))))) (2 ^ (Min.min (Int.toNat 32) (Go.IntKind.bits Go.IntKind.u64)))) (
    W.join (fun (z2 : Int × Unit) => W.nz (Int.fdiv (IntKind.u64.wrap (y * (2 ^ (Min.min (Int.toNat (IntKind.u64.wrap v1)) (Go.IntKind.bits Go.IntKind.u64))))) (2 ^ (Min.min (Int.toNat 32) (Go.IntKind.bits Go.IntKind.u64)))) (
     W.join (fun (z3 : Int × Unit) => W.nn (IntKind.u64.wrap v1) (some ((IntKind.u64.wrap ((IntKind.u64.wrap (z2.1 * 4294967296)) + z3.1)), ((Int.fdiv (IntKind.u64.wrap ((IntKind.u64.wrap ((IntKind.u64.wrap ((IntKind.u64.wrap ((IntKind.u64.wrap ((IntKind.u64.wrap ((Go.bits Go.BinOp.or Go.IntKind.u64 (IntKind.u64.wrap (hi * (2 ^ (Min.min (Int.toNat (IntKind.u64.wrap v1)) (Go.IntKind.bits Go.IntKind.u64))))) (Int.fdiv lo (2 ^ (Min.min (Int.toNat (IntKind.u64.wrap (64 - (IntKind.u64.wrap v1)))) (Go.IntKind.bits Go.IntKind.u64))))) * 4294967296)) + (Int.fdiv (IntKind.u64.wrap (lo * (2 ^ (Min.min (Int.toNat (IntKind.u64.wrap v1)) (Go.IntKind.bits Go.IntKind.u64))))) (2 ^ (Min.min (Int.toNat 32) (Go.IntKind.bits Go.IntKind.u64)))))) - (IntKind.u64.wrap (z2.1 * (IntKind.u64.wrap (y * (2 ^ (Min.min (Int.toNat (IntKind.u64.wrap v1)) (Go.IntKind.bits Go.IntKind.u64))))))))) * 4294967296)) + (Go.bits Go.BinOp.and Go.IntKind.u64 (IntKind.u64.wrap (lo * (2 ^ (Min.min (Int.toNat (IntKind.u64.wrap v1)) (Go.IntKind.bits Go.IntKind.u64))))) 4294967295))) - (IntKind.u64.wrap (z3.1 * (IntKind.u64.wrap (y * (2 ^ (Min.min (Int.toNat (IntKind.u64.wrap v1)) (Go.IntKind.bits Go.IntKind.u64))))))))) (2 ^ (Min.min (Int.toNat (IntKind.u64.wrap v1)) (Go.IntKind.bits Go.IntKind.u64)))), ()))))
      fun k4 => 
      W.loop (fun (z5 : Int × Int × Unit) again6 => 
       W.join (fun (z7 : Unit) => 
        W.cnd (decide (4294967296 ≤ (IntKind.u64.wrap (z5.1 + (Int.fdiv (IntKind.u64.wrap (y * (2 ^ (Min.min (Int.toNat (IntKind.u64.wrap v1)) (Go.IntKind.bits Go.IntKind.u64))))) (2 ^ (Min.min (Int.toNat 32) (Go.IntKind.bits Go.IntKind.u64)))))))) ((k4 ((IntKind.u64.wrap (z5.2.1 - 1)), ())))
         ((again6 ((IntKind.u64.wrap (z5.1 + (Int.fdiv (IntKind.u64.wrap (y * (2 ^ (Min.min (Int.toNat (IntKind.u64.wrap v1)) (Go.IntKind.bits Go.IntKind.u64))))) (2 ^ (Min.min (Int.toNat 32) (Go.IntKind.bits Go.IntKind.u64)))))), ((IntKind.u64.wrap (z5.2.1 - 1)), ())))))
        fun k8 => 
        W.cnd (decide (4294967296 ≤ z5.2.1)) ((k8 ()))
         (
         W.cnd (decide ((IntKind.u64.wrap ((IntKind.u64.wrap (4294967296 * z5.1)) + (Go.bits Go.BinOp.and Go.IntKind.u64 (IntKind.u64.wrap (lo * (2 ^ (Min.min (Int.toNat (IntKind.u64.wrap v1)) (Go.IntKind.bits Go.IntKind.u64))))) 4294967295))) < (IntKind.u64.wrap (z5.2.1 * (Go.bits Go.BinOp.and Go.IntKind.u64 (IntKind.u64.wrap (y * (2 ^ (Min.min (Int.toNat (IntKind.u64.wrap v1)) (Go.IntKind.bits Go.IntKind.u64))))) 4294967295))))) ((k8 ()))
          ((k4 z5.2))))
       ((IntKind.u64.wrap ((IntKind.u64.wrap ((IntKind.u64.wrap ((IntKind.u64.wrap ((Go.bits Go.BinOp.or Go.IntKind.u64 (IntKind.u64.wrap (hi * (2 ^ (Min.min (Int.toNat (IntKind.u64.wrap v1)) (Go.IntKind.bits Go.IntKind.u64))))) (Int.fdiv lo (2 ^ (Min.min (Int.toNat (IntKind.u64.wrap (64 - (IntKind.u64.wrap v1)))) (Go.IntKind.bits Go.IntKind.u64))))) * 4294967296)) + (Int.fdiv (IntKind.u64.wrap (lo * (2 ^ (Min.min (Int.toNat (IntKind.u64.wrap v1)) (Go.IntKind.bits Go.IntKind.u64))))) (2 ^ (Min.min (Int.toNat 32) (Go.IntKind.bits Go.IntKind.u64)))))) - (IntKind.u64.wrap (z2.1 * (IntKind.u64.wrap (y * (2 ^ (Min.min (Int.toNat (IntKind.u64.wrap v1)) (Go.IntKind.bits Go.IntKind.u64))))))))) - (IntKind.u64.wrap ((IntKind.u64.wrap (Int.tdiv (IntKind.u64.wrap ((IntKind.u64.wrap ((IntKind.u64.wrap ((Go.bits Go.BinOp.or Go.IntKind.u64 (IntKind.u64.wrap (hi * (2 ^ (Min.min (Int.toNat (IntKind.u64.wrap v1)) (Go.IntKind.bits Go.IntKind.u64))))) (Int.fdiv lo (2 ^ (Min.min (Int.toNat (IntKind.u64.wrap (64 - (IntKind.u64.wrap v1)))) (Go.IntKind.bits Go.IntKind.u64))))) * 4294967296)) + (Int.fdiv (IntKind.u64.wrap (lo * (2 ^ (Min.min (Int.toNat (IntKind.u64.wrap v1)) (Go.IntKind.bits Go.IntKind.u64))))) (2 ^ (Min.min (Int.toNat 32) (Go.IntKind.bits Go.IntKind.u64)))))) - (IntKind.u64.wrap (z2.1 * (IntKind.u64.wrap (y * (2 ^ (Min.min (Int.toNat (IntKind.u64.wrap v1)) (Go.IntKind.bits Go.IntKind.u64))))))))) (Int.fdiv (IntKind.u64.wrap (y * (2 ^ (Min.min (Int.toNat (IntKind.u64.wrap v1)) (Go.IntKind.bits Go.IntKind.u64))))) (2 ^ (Min.min (Int.toNat 32) (Go.IntKind.bits Go.IntKind.u64)))))) * (Int.fdiv (IntKind.u64.wrap (y * (2 ^ (Min.min (Int.toNat (IntKind.u64.wrap v1)) (Go.IntKind.bits Go.IntKind.u64))))) (2 ^ (Min.min (Int.toNat 32) (Go.IntKind.bits Go.IntKind.u64)))))))), ((IntKind.u64.wrap (Int.tdiv (IntKind.u64.wrap ((IntKind.u64.wrap ((IntKind.u64.wrap ((Go.bits Go.BinOp.or Go.IntKind.u64 (IntKind.u64.wrap (hi * (2 ^ (Min.min (Int.toNat (IntKind.u64.wrap v1)) (Go.IntKind.bits Go.IntKind.u64))))) (Int.fdiv lo (2 ^ (Min.min (Int.toNat (IntKind.u64.wrap (64 - (IntKind.u64.wrap v1)))) (Go.IntKind.bits Go.IntKind.u64))))) * 4294967296)) + (Int.fdiv (IntKind.u64.wrap (lo * (2 ^ (Min.min (Int.toNat (IntKind.u64.wrap v1)) (Go.IntKind.bits Go.IntKind.u64))))) (2 ^ (Min.min (Int.toNat 32) (Go.IntKind.bits Go.IntKind.u64)))))) - (IntKind.u64.wrap (z2.1 * (IntKind.u64.wrap (y * (2 ^ (Min.min (Int.toNat (IntKind.u64.wrap v1)) (Go.IntKind.bits Go.IntKind.u64))))))))) (Int.fdiv (IntKind.u64.wrap (y * (2 ^ (Min.min (Int.toNat (IntKind.u64.wrap v1)) (Go.IntKind.bits Go.IntKind.u64))))) (2 ^ (Min.min (Int.toNat 32) (Go.IntKind.bits Go.IntKind.u64)))))), ()))))
     fun k9 => 
     W.loop (fun (z10 : Int × Int × Unit) again11 => 
      W.join (fun (z12 : Unit) => 
       W.cnd (decide (4294967296 ≤ (IntKind.u64.wrap (z10.2.1 + (Int.fdiv (IntKind.u64.wrap (y * (2 ^ (Min.min (Int.toNat (IntKind.u64.wrap v1)) (Go.IntKind.bits Go.IntKind.u64))))) (2 ^ (Min.min (Int.toNat 32) (Go.IntKind.bits Go.IntKind.u64)))))))) ((k9 ((IntKind.u64.wrap (z10.1 - 1)), ())))
        ((again11 ((IntKind.u64.wrap (z10.1 - 1)), ((IntKind.u64.wrap (z10.2.1 + (Int.fdiv (IntKind.u64.wrap (y * (2 ^ (Min.min (Int.toNat (IntKind.u64.wrap v1)) (Go.IntKind.bits Go.IntKind.u64))))) (2 ^ (Min.min (Int.toNat 32) (Go.IntKind.bits Go.IntKind.u64)))))), ())))))
       fun k13 => 
       W.cnd (decide (4294967296 ≤ z10.1)) ((k13 ()))
        (
        W.cnd (decide ((IntKind.u64.wrap ((IntKind.u64.wrap (4294967296 * z10.2.1)) + (Int.fdiv (IntKind.u64.wrap (lo * (2 ^ (Min.min (Int.toNat (IntKind.u64.wrap v1)) (Go.IntKind.bits Go.IntKind.u64))))) (2 ^ (Min.min (Int.toNat 32) (Go.IntKind.bits Go.IntKind.u64)))))) < (IntKind.u64.wrap (z10.1 * (Go.bits Go.BinOp.and Go.IntKind.u64 (IntKind.u64.wrap (y * (2 ^ (Min.min (Int.toNat (IntKind.u64.wrap v1)) (Go.IntKind.bits Go.IntKind.u64))))) 4294967295))))) ((k13 ()))
         ((k9 (z10.1, ())))))
      ((IntKind.u64.wrap (Int.tdiv (Go.bits Go.BinOp.or Go.IntKind.u64 (IntKind.u64.wrap (hi * (2 ^ (Min.min (Int.toNat (IntKind.u64.wrap v1)) (Go.IntKind.bits Go.IntKind.u64))))) (Int.fdiv lo (2 ^ (Min.min (Int.toNat (IntKind.u64.wrap (64 - (IntKind.u64.wrap v1)))) (Go.IntKind.bits Go.IntKind.u64))))) (Int.fdiv (IntKind.u64.wrap (y * (2 ^ (Min.min (Int.toNat (IntKind.u64.wrap v1)) (Go.IntKind.bits Go.IntKind.u64))))) (2 ^ (Min.min (Int.toNat 32) (Go.IntKind.bits Go.IntKind.u64)))))), ((IntKind.u64.wrap ((Go.bits Go.BinOp.or Go.IntKind.u64 (IntKind.u64.wrap (hi * (2 ^ (Min.min (Int.toNat (IntKind.u64.wrap v1)) (Go.IntKind.bits Go.IntKind.u64))))) (Int.fdiv lo (2 ^ (Min.min (Int.toNat (IntKind.u64.wrap (64 - (IntKind.u64.wrap v1)))) (Go.IntKind.bits Go.IntKind.u64))))) - (IntKind.u64.wrap ((IntKind.u64.wrap (Int.tdiv (Go.bits Go.BinOp.or Go.IntKind.u64 (IntKind.u64.wrap (hi * (2 ^ (Min.min (Int.toNat (IntKind.u64.wrap v1)) (Go.IntKind.bits Go.IntKind.u64))))) (Int.fdiv lo (2 ^ (Min.min (Int.toNat (IntKind.u64.wrap (64 - (IntKind.u64.wrap v1)))) (Go.IntKind.bits Go.IntKind.u64))))) (Int.fdiv (IntKind.u64.wrap (y * (2 ^ (Min.min (Int.toNat (IntKind.u64.wrap v1)) (Go.IntKind.bits Go.IntKind.u64))))) (2 ^ (Min.min (Int.toNat 32) (Go.IntKind.bits Go.IntKind.u64)))))) * (Int.fdiv (IntKind.u64.wrap (y * (2 ^ (Min.min (Int.toNat (IntKind.u64.wrap v1)) (Go.IntKind.bits Go.IntKind.u64))))) (2 ^ (Min.min (Int.toNat 32) (Go.IntKind.bits Go.IntKind.u64)))))))), ()))))))))))))
abbrev math_bits_Div64 := math_bits_Div64W stdW
def wide_DivW (W : Wd) (w : WideWide') (d : Int) : Option (WideWide' × Int × Int × Unit) := 
 W.cnd (d == 0) (some ((0, (0, ())), (0, (8, ()))))
  (
  W.cnd (decide (d < 0)) (some ((0, (0, ())), (0, (2, ()))))
   (W.call (wide_Wide_sizeW W w) fun v1 => W.nz (IntKind.u64.wrap d) (W.nz (IntKind.u64.wrap d) (W.call (math_bits_Div64W W (Int.tmod v1.1 (IntKind.u64.wrap d)) v1.2.1 (IntKind.u64.wrap d)) fun v2 => 
   W.join (fun (z3 : Int × Int × Int × Unit) => W.both (W.call (wide_Wide_belowW W w) fun v4 => W.both (W.call (wide_size_signedW W z3.2 v4) fun v5 => some (v5.1, ((IntKind.i64.wrap z3.1), (0, ())))) (W.call (wide_size_signedW W z3.2 v4) fun v6 => some (v6.1, ((IntKind.i64.wrap z3.1), (0, ()))))) (W.call (wide_Wide_belowW W w) fun v7 => W.call (wide_size_signedW W z3.2 v7) fun v8 => some (v8.1, ((IntKind.i64.wrap z3.1), (0, ())))))
    fun k9 => 
    W.join (fun (z10 : Bool × Unit) => 
     W.cnd z10.1 (W.call (add64 v2.1 1 0) fun v11 => (k9 ((IntKind.u64.wrap ((IntKind.u64.wrap d) - v2.2.1)), ((IntKind.u64.wrap ((IntKind.u64.wrap (Int.tdiv v1.1 (IntKind.u64.wrap d))) + v11.2.1)), (v11.1, ())))))
      ((k9 (v2.2.1, ((IntKind.u64.wrap (Int.tdiv v1.1 (IntKind.u64.wrap d))), (v2.1, ()))))))
     fun k12 => W.call (wide_Wide_belowW W w) fun v13 => 
     W.cnd v13 ((k12 ((decide (0 < v2.2.1)), ())))
      ((k12 (false, ())))))))
abbrev wide_Div := wide_DivW stdW
def fix_UpW (W : Wd) (a : Int) (n : Int) (d : Int) : Option (Int × Int × Unit) := W.call (wide_MulW W a n) fun v1 => W.call (wide_DivW W v1 d) fun v2 => 
 W.join (fun (z3 : Int × Int × Int × Unit) => W.call (fix_narrowW W z3.2 z3.1) fun v4 => some v4)
  fun k5 => 
  W.join (fun (z6 : Bool × Unit) => 
   W.cnd z6.1 (W.both (W.call (wide_OfW W 1) fun v7 => W.call (wide_AddW W (v2.1 :: (v7 :: []))) fun v8 => (k5 (v8.2.1, v8.1))) (W.call (wide_OfW W 1) fun v9 => W.call (wide_AddW W (v2.1 :: (v9 :: []))) fun v10 => (k5 (v10.2.1, v10.1))))
    ((k5 (v2.2.2.1, v2.1))))
   fun k11 => 
   W.cnd (v2.2.2.1 == 0) ((k11 ((decide (0 < v2.2.1)), ())))
    ((k11 (false, ())))
abbrev fix_Up := fix_UpW stdW
def asset_SellW (W : Wd) (a : ALot') (amount : Int) : Option (Int × Int × Unit) := W.call (asset_CheckW W a) fun v1 => 
 W.cnd (v1 != 0) (some (0, (v1, ())))
  (
  W.cnd (decide (amount ≤ 0)) (some (0, (0, ())))
   (W.call (fix_UpW W amount 1 a.2.1) fun v2 => some v2))
abbrev asset_Sell := asset_SellW stdW
def lots_checkedW (W : Wd) (l : List ALot') (lot : ALot') : Option Int := W.call (lots_IsW W l) fun v1 => 
 W.cnd (!v1) (some 3)
  (W.call (lots_rightW W lot) fun v2 => 
  W.cnd (!v2) (some 2)
   (some 0))
abbrev lots_checked := lots_checkedW stdW
def slices_BinarySearchFuncapi_Lot_api_Lot_api_Lot_lots_orderW (W : Wd) (x : List ALot') (target : ALot') : Option ((Int × Bool × Unit) × Unit) := 
 W.loop (fun (z1 : Int × Int × Unit) again2 => 
  W.cnd (decide (z1.1 < z1.2.1)) (W.nn 1 (W.idx x (IntKind.i64.wrap (Int.fdiv (IntKind.u64.wrap (IntKind.i64.wrap (z1.1 + z1.2.1))) (2 ^ (Min.min (Int.toNat 1) (Go.IntKind.bits Go.IntKind.u64))))) fun x3 => W.call (lots_orderW W x3 target) fun v4 => 
   W.cnd (decide (v4 < 0)) ((again2 ((IntKind.i64.wrap ((IntKind.i64.wrap (Int.fdiv (IntKind.u64.wrap (IntKind.i64.wrap (z1.1 + z1.2.1))) (2 ^ (Min.min (Int.toNat 1) (Go.IntKind.bits Go.IntKind.u64))))) + 1)), z1.2)))
    ((again2 (z1.1, ((IntKind.i64.wrap (Int.fdiv (IntKind.u64.wrap (IntKind.i64.wrap (z1.1 + z1.2.1))) (2 ^ (Min.min (Int.toNat 1) (Go.IntKind.bits Go.IntKind.u64))))), ()))))))
   (
   W.cnd (decide (z1.1 < (x.length : Int))) (W.idx x z1.1 fun x5 => W.call (lots_orderW W x5 target) fun v6 => some ((z1.1, ((v6 == 0), ())), ()))
    (some ((z1.1, (false, ())), ()))))
  (0, ((x.length : Int), ()))
abbrev slices_BinarySearchFuncapi_Lot_api_Lot_api_Lot_lots_order := slices_BinarySearchFuncapi_Lot_api_Lot_api_Lot_lots_orderW stdW
def lots_TakeW (W : Wd) (l : List ALot') (lot : ALot') : Option ((List ALot') × Int × Unit) := W.call (lots_checkedW W l lot) fun v1 => 
 W.cnd (v1 != 0) (some ([], (v1, ())))
  (W.call (slices_BinarySearchFuncapi_Lot_api_Lot_api_Lot_lots_orderW W l lot) fun v2 => 
  W.join (fun (z3 : Bool × Unit) => 
   W.cnd z3.1 (some ([], (23, ())))
    (W.call (slices_Cloneapi_Lot_api_LotW W l) fun v4 => W.idx v4 v2.1.1 fun x5 => W.nth v4 (Int.toNat v2.1.1) fun x6 => W.idx v4 v2.1.1 fun x7 => W.nth v4 (Int.toNat v2.1.1) fun x8 => 
    W.join (fun (z9 : List (Int × Int × Int × Unit) × Unit) => some (z9.1, (0, ())))
     fun k10 => W.idx (List.set v4 (Int.toNat v2.1.1) (x8.1, (x8.2.1, ((IntKind.i64.wrap (x6.2.2.1 - lot.2.2.1)), ())))) v2.1.1 fun x11 => W.nth (List.set v4 (Int.toNat v2.1.1) (x8.1, (x8.2.1, ((IntKind.i64.wrap (x6.2.2.1 - lot.2.2.1)), ())))) (Int.toNat v2.1.1) fun x12 => 
     W.cnd (x12.2.2.1 == 0) (W.call (lotdelete (List.set v4 (Int.toNat v2.1.1) (x8.1, (x8.2.1, ((IntKind.i64.wrap (x6.2.2.1 - lot.2.2.1)), ())))) v2.1.1 (IntKind.i64.wrap (v2.1.1 + 1))) fun v13 => (k10 v13))
      ((k10 ((List.set v4 (Int.toNat v2.1.1) (x8.1, (x8.2.1, ((IntKind.i64.wrap (x6.2.2.1 - lot.2.2.1)), ())))), ())))))
   fun k14 => 
   W.cnd (!v2.1.2.1) ((k14 (true, ())))
    (W.idx l v2.1.1 fun x15 => (k14 ((decide (x15.2.2.1 < lot.2.2.1)), ()))))
abbrev lots_Take := lots_TakeW stdW
def hold_setW (W : Wd) (l : List AHold') (u : AUnit') (all : List ALot') : Option (List AHold') := W.both (W.call (slices_Cloneapi_Lot_api_LotW W all) fun v1 => 
  W.loop (fun (z2 : Bool × Int × Int × Int × List (Int × Int × Int × Unit) × List ((Int × Int × Unit) × List (Int × Int × Int × Unit) × Unit) × Unit) again3 => 
   W.cnd (decide (z2.2.1 < (l.length : Int))) (
    W.join (fun (z4 : Bool × List ((Int × Int × Unit) × List (Int × Int × Int × Unit) × Unit) × Unit) => (again3 (z4.1, ((IntKind.i64.wrap (z2.2.1 + 1)), (z2.2.2.1, (z2.2.2.2.1, (z2.2.2.2.2.1, z4.2)))))))
     fun k5 => W.idx l z2.2.1 fun x6 => 
     W.join (fun (z7 : Bool × List ((Int × Int × Unit) × List (Int × Int × Int × Unit) × Unit) × Unit) => 
      W.cnd (Go.Vc.notIf true ((x6.1.1 == u.1) && (x6.1.2.1 == u.2.1))) (W.call (slices_Cloneapi_Lot_api_LotW W x6.2.1) fun v8 => W.room (z7.2.1.length + ((x6.1, (v8, ())) :: []).length) 40 ((k5 (z7.1, ((z7.2.1 ++ ((x6.1, (v8, ())) :: [])), ())))))
       (
       W.cnd (!z7.1) (W.room (z7.2.1.length + (((z2.2.2.1, (z2.2.2.2.1, ())), (z2.2.2.2.2.1, ())) :: []).length) 40 ((k5 (true, ((z7.2.1 ++ (((z2.2.2.1, (z2.2.2.2.1, ())), (z2.2.2.2.2.1, ())) :: [])), ())))))
        ((k5 z7))))
      fun k9 => 
      W.join (fun (z10 : Bool × List ((Int × Int × Unit) × List (Int × Int × Int × Unit) × Unit) × Unit) => 
       W.cnd z10.1 (W.room (z10.2.1.length + (((z2.2.2.1, (z2.2.2.2.1, ())), (z2.2.2.2.2.1, ())) :: []).length) 40 ((k9 (true, ((z10.2.1 ++ (((z2.2.2.1, (z2.2.2.2.1, ())), (z2.2.2.2.2.1, ())) :: [])), ())))))
        ((k9 (z2.1, z10.2))))
       fun k11 => 
       W.cnd (!z2.1) (W.call (acct_LessW W u x6.1) fun v12 => (k11 (v12, z2.2.2.2.2.2)))
        ((k11 (false, z2.2.2.2.2.2))))
    (
    W.join (fun (z13 : List ((Int × Int × Unit) × List (Int × Int × Int × Unit) × Unit) × Unit) => some z13.1)
     fun k14 => 
     W.cnd (!z2.1) (W.room (z2.2.2.2.2.2.1.length + (((z2.2.2.1, (z2.2.2.2.1, ())), (z2.2.2.2.2.1, ())) :: []).length) 40 ((k14 ((z2.2.2.2.2.2.1 ++ (((z2.2.2.1, (z2.2.2.2.1, ())), (z2.2.2.2.2.1, ())) :: [])), ()))))
      ((k14 z2.2.2.2.2.2))))
   (((all.length : Int) == 0), (0, (u.1, (u.2.1, (v1, ([], ()))))))) (W.call (slices_Cloneapi_Lot_api_LotW W all) fun v15 => 
  W.loop (fun (z16 : Bool × Int × Int × Int × List (Int × Int × Int × Unit) × List ((Int × Int × Unit) × List (Int × Int × Int × Unit) × Unit) × Unit) again17 => 
   W.cnd (decide (z16.2.1 < (l.length : Int))) (
    W.join (fun (z18 : Bool × List ((Int × Int × Unit) × List (Int × Int × Int × Unit) × Unit) × Unit) => (again17 (z18.1, ((IntKind.i64.wrap (z16.2.1 + 1)), (z16.2.2.1, (z16.2.2.2.1, (z16.2.2.2.2.1, z18.2)))))))
     fun k19 => W.idx l z16.2.1 fun x20 => 
     W.join (fun (z21 : Bool × List ((Int × Int × Unit) × List (Int × Int × Int × Unit) × Unit) × Unit) => 
      W.cnd (Go.Vc.notIf true ((x20.1.1 == u.1) && (x20.1.2.1 == u.2.1))) (W.call (slices_Cloneapi_Lot_api_LotW W x20.2.1) fun v22 => W.room (z21.2.1.length + ((x20.1, (v22, ())) :: []).length) 40 ((k19 (z21.1, ((z21.2.1 ++ ((x20.1, (v22, ())) :: [])), ())))))
       (
       W.cnd (!z21.1) (W.room (z21.2.1.length + (((z16.2.2.1, (z16.2.2.2.1, ())), (z16.2.2.2.2.1, ())) :: []).length) 40 ((k19 (true, ((z21.2.1 ++ (((z16.2.2.1, (z16.2.2.2.1, ())), (z16.2.2.2.2.1, ())) :: [])), ())))))
        ((k19 z21))))
      fun k23 => 
      W.join (fun (z24 : Bool × List ((Int × Int × Unit) × List (Int × Int × Int × Unit) × Unit) × Unit) => 
       W.cnd z24.1 (W.room (z24.2.1.length + (((z16.2.2.1, (z16.2.2.2.1, ())), (z16.2.2.2.2.1, ())) :: []).length) 40 ((k23 (true, ((z24.2.1 ++ (((z16.2.2.1, (z16.2.2.2.1, ())), (z16.2.2.2.2.1, ())) :: [])), ())))))
        ((k23 (z16.1, z24.2))))
       fun k25 => 
       W.cnd (!z16.1) (W.call (acct_LessW W u x20.1) fun v26 => (k25 (v26, z16.2.2.2.2.2)))
        ((k25 (false, z16.2.2.2.2.2))))
    (
    W.join (fun (z27 : List ((Int × Int × Unit) × List (Int × Int × Int × Unit) × Unit) × Unit) => some z27.1)
     fun k28 => 
     W.cnd (!z16.1) (W.room (z16.2.2.2.2.2.1.length + (((z16.2.2.1, (z16.2.2.2.1, ())), (z16.2.2.2.2.1, ())) :: []).length) 40 ((k28 ((z16.2.2.2.2.2.1 ++ (((z16.2.2.1, (z16.2.2.2.1, ())), (z16.2.2.2.2.1, ())) :: [])), ()))))
      ((k28 z16.2.2.2.2.2))))
   (((all.length : Int) == 0), (0, (u.1, (u.2.1, (v15, ([], ())))))))
abbrev hold_set := hold_setW stdW
def hold_turnedW (W : Wd) (l : List AHold') (u : AUnit') (now : List ALot') (e : Int) : Option ((List AHold') × Int × Unit) := W.call (hold_IsW W l) fun v1 => 
 W.cnd (!v1) (some ([], (3, ())))
  (
  W.cnd (e != 0) (some ([], (e, ())))
   (W.call (hold_setW W l u now) fun v2 => some (v2, (0, ()))))
abbrev hold_turned := hold_turnedW stdW
def hold_TakeW (W : Wd) (l : List AHold') (u : AUnit') (lot : ALot') : Option ((List AHold') × Int × Unit) := W.call (hold_LotsW W l u) fun v1 => W.call (lots_TakeW W v1 lot) fun v2 => W.call (hold_turnedW W l u v2.1 v2.2.1) fun v3 => some v3
abbrev hold_Take := hold_TakeW stdW
def lots_PutW (W : Wd) (l : List ALot') (lot : ALot') : Option ((List ALot') × Int × Unit) := W.call (lots_checkedW W l lot) fun v1 => 
 W.cnd (v1 != 0) (some ([], (v1, ())))
  (W.call (slices_BinarySearchFuncapi_Lot_api_Lot_api_Lot_lots_orderW W l lot) fun v2 => 
  W.cnd (!v2.1.2.1) (
   W.cnd (decide (16 ≤ (l.length : Int))) (some ([], (25, ())))
    (W.both (W.call (slices_Cloneapi_Lot_api_LotW W l) fun v3 => W.call (lotinsert v3 v2.1.1 (lot :: [])) fun v4 => some (v4.1, (0, ()))) (W.call (slices_Cloneapi_Lot_api_LotW W l) fun v5 => W.call (lotinsert v5 v2.1.1 (lot :: [])) fun v6 => some (v6.1, (0, ())))))
   (W.idx l v2.1.1 fun x7 => W.call (fix_SumW W (x7.2.2.1 :: (lot.2.2.1 :: []))) fun v8 => 
   W.cnd (v8.2.1 != 0) (some ([], v8.2))
    (W.call (slices_Cloneapi_Lot_api_LotW W l) fun v9 => W.idx v9 v2.1.1 fun x10 => W.nth v9 (Int.toNat v2.1.1) fun x11 => some ((List.set v9 (Int.toNat v2.1.1) (x11.1, (x11.2.1, (v8.1, ())))), (0, ())))))
abbrev lots_Put := lots_PutW stdW
def hold_PutW (W : Wd) (l : List AHold') (u : AUnit') (lot : ALot') : Option ((List AHold') × Int × Unit) := W.call (hold_LotsW W l u) fun v1 => W.call (lots_PutW W v1 lot) fun v2 => W.call (hold_turnedW W l u v2.1 v2.2.1) fun v3 => some v3
abbrev hold_Put := hold_PutW stdW
def hold_PassW (W : Wd) (l : List AHold') (from_ : AUnit') (to_ : AUnit') (lot : ALot') (tag : Int) : Option ((List AHold') × Int × Unit) := W.call (hold_IsW W l) fun v1 => 
 W.cnd (!v1) (some ([], (3, ())))
  (
  W.cnd (Go.Vc.notIf false ((from_.1 == to_.1) && (from_.2.1 == to_.2.1))) (some ([], (24, ())))
   (W.call (hold_TakeW W l from_ lot) fun v2 => 
   W.cnd (v2.2.1 != 0) (some ([], v2.2))
    (W.call (hold_PutW W v2.1 to_ (lot.1, (tag, lot.2.2))) fun v3 => some v3)))
abbrev hold_Pass := hold_PassW stdW
def slices_Concatapi_Flow_api_FlowW (W : Wd) (slices : List (List AFlow')) : Option (List AFlow') := 
 W.loop (fun (z1 : Int × Int × Unit) again2 => 
  W.cnd (decide (z1.2.1 < (slices.length : Int))) (W.idx slices z1.2.1 fun x3 => 
   W.cnd (decide ((IntKind.i64.wrap (z1.1 + (x3.length : Int))) < 0)) (none)
    ((again2 ((IntKind.i64.wrap (z1.1 + (x3.length : Int))), ((IntKind.i64.wrap (z1.2.1 + 1)), ())))))
   (W.call (growO [] z1.1) fun v4 => 
   W.loop (fun (z5 : Int × List ((Int × Int × Unit) × Int × Unit) × Unit) again6 => 
    W.cnd (decide (z5.1 < (slices.length : Int))) (W.idx slices z5.1 fun x7 => W.room (z5.2.1.length + x7.length) 24 ((again6 ((IntKind.i64.wrap (z5.1 + 1)), ((z5.2.1 ++ x7), ())))))
     (some z5.2.1))
    (0, v4)))
  (0, (0, ()))
abbrev slices_Concatapi_Flow_api_Flow := slices_Concatapi_Flow_api_FlowW stdW
def purse_namedW (W : Wd) (l : List AFlow') : Option (List AUnit') := 
 W.loop (fun (z1 : Int × List (Int × Int × Unit) × Unit) again2 => 
  W.cnd (decide (z1.1 < (l.length : Int))) (W.idx l z1.1 fun x3 => (again2 ((IntKind.i64.wrap (z1.1 + 1)), ((Go.Vc.addU z1.2.1 x3.1), ()))))
   (
   W.loop (fun (z4 : (List (Int × Int × Unit) × List (Int × Int × Unit) × Unit) × List (Int × Int × Unit) × Unit) again5 => 
    W.join (fun (z6 : Bool × (List (Int × Int × Unit) × List (Int × Int × Unit) × Unit) × List (Int × Int × Unit) × Unit) => 
     W.cnd z6.1 (W.idx z6.2.1.2.1 ((z6.2.1.2.1.length : Int) - 1) fun x7 => W.room (z6.2.2.1.length + (x7 :: []).length) 16 ((again5 (z6.2.1, ((z6.2.2.1 ++ (x7 :: [])), ())))))
      (W.call (unitsort z6.2.2.1) fun v8 => some v8))
     fun k9 => 
     W.pick (Go.Vc.restU z4.1.1 z4.1.2.1) (fun c10 => (k9 (true, ((z4.1.1, ((z4.1.2.1 ++ (c10 :: [])), ())), z4.2))))
      ((k9 (false, z4))))
    ((z1.2.1, ([], ())), ([], ()))))
  (0, ([], ()))
abbrev purse_named := purse_namedW stdW
def purse_amountsW (W : Wd) (l : List AFlow') (u : AUnit') : Option (List Int) := 
 W.loop (fun (z1 : Int × List (Int) × Unit) again2 => 
  W.cnd (decide (z1.1 < (l.length : Int))) (
   W.join (fun (z3 : List (Int) × Unit) => (again2 ((IntKind.i64.wrap (z1.1 + 1)), z3)))
    fun k4 => W.idx l z1.1 fun x5 => 
    W.cnd (Go.Vc.notIf false ((x5.1.1 == u.1) && (x5.1.2.1 == u.2.1))) (W.room (z1.2.1.length + (x5.2.1 :: []).length) 8 ((k4 ((z1.2.1 ++ (x5.2.1 :: [])), ()))))
     ((k4 z1.2)))
   (some z1.2.1))
  (0, ([], ()))
abbrev purse_amounts := purse_amountsW stdW
def purse_PayW (W : Wd) (l : List AFlow') (flows : List AFlow') : Option ((List AFlow') × Int × Unit) := W.call (purse_IsW W l) fun v1 => 
 W.cnd (!v1) (some ([], (3, ())))
  (W.call (slices_Concatapi_Flow_api_FlowW W (l :: (flows :: []))) fun v2 => W.call (purse_namedW W v2) fun v3 => 
  W.loop (fun (z4 : Int × List ((Int × Int × Unit) × Int × Unit) × List (Int × Int × Unit) × List ((Int × Int × Unit) × Int × Unit) × Unit) again5 => 
   W.cnd (decide (z4.1 < (v3.length : Int))) (
    W.join (fun (z6 : List ((Int × Int × Unit) × Int × Unit) × List (Int × Int × Unit) × List ((Int × Int × Unit) × Int × Unit) × Unit) => (again5 ((IntKind.i64.wrap (z4.1 + 1)), z6)))
     fun k7 => W.idx z4.2.2.1 z4.1 fun x8 => W.nth z4.2.2.1 (Int.toNat z4.1) fun x9 => W.call (purse_amountsW W z4.2.1 x9) fun v10 => W.call (fix_SumW W v10) fun v11 => 
     W.cnd (v11.2.1 != 0) (some ([], v11.2))
      (
      W.cnd (v11.1 != 0) (W.room (z4.2.2.2.1.length + ((x9, (v11.1, ())) :: []).length) 24 ((k7 (z4.2.1, (z4.2.2.1, ((z4.2.2.2.1 ++ ((x9, (v11.1, ())) :: [])), ()))))))
       ((k7 z4.2))))
    (some (z4.2.2.2.1, (0, ()))))
   (0, (v2, (v3, ([], ())))))
abbrev purse_Pay := purse_PayW stdW
def purse_MoveW (W : Wd) (l : List AFlow') (from_ : AUnit') (to_ : AUnit') (amount : Int) : Option ((List AFlow') × Int × Unit) := W.call (fix_SubW W 0 amount) fun v1 => 
 W.join (fun (z2 : Bool × Unit) => 
  W.cnd z2.1 (some ([], v1.2))
   (W.call (purse_PayW W l ((from_, (v1.1, ())) :: ((to_, (amount, ())) :: []))) fun v3 => some v3))
  fun k4 => 
  W.cnd (v1.2.1 != 0) (W.call (purse_IsW W l) fun v5 => (k4 (v5, ())))
   ((k4 (false, ())))
abbrev purse_Move := purse_MoveW stdW
def fall_soldW (W : Wd) (s : AState') (u : AUnit') (x : ALot') (missing : Int) : Option (AState' × Int × Unit) := W.call (asset_FindW W s.2.2.2.1 x.1) fun v1 => 
 W.cnd (!v1.2.1) (some ((0, ([], ([], ([], ([], ([], ([], ([], ([], ([], ([], ([], ())))))))))))), (11, ())))
  (
  W.cnd (v1.1.2.1 == 0) (some (s, (0, ())))
   (W.call (asset_SellW W v1.1 missing) fun v2 => 
   W.cnd (v2.2.1 != 0) (some ((0, ([], ([], ([], ([], ([], ([], ([], ([], ([], ([], ([], ())))))))))))), v2.2))
    (W.call (asset_WorthW W v1.1 (if x.2.2.1 < v2.1 then x.2.2.1 else v2.1)) fun v3 => 
    W.join (fun (z4 : Int × Int × List (Int × Int × Int × Int × Unit) × List (Int × Int × Int × Int × List (Int) × Unit) × List (Int × Int × Int × Unit) × List (Int × Int × Int × List (Int) × Unit) × List ((Int × Int × Unit) × (Int × Int × Unit) × Bool × Unit) × List (Int × (Int × Int × Unit) × Int × Int × Int × Unit) × List (Int × (Int × Int × Unit) × (Int × Int × Unit) × (Int × Int × Unit) × Int × Int × Int × Int × Unit) × List ((Int × Int × Unit) × List (Int × Int × Unit) × Unit) × List ((Int × Int × Unit) × List (Int × Int × Unit) × Unit) × List ((Int × Int × Unit) × Int × Unit) × List ((Int × Int × Unit) × List (Int × Int × Int × Unit) × Unit) × Unit) => 
     W.join (fun (z5 : Int × Int × List (Int × Int × Int × Int × Unit) × List (Int × Int × Int × Int × List (Int) × Unit) × List (Int × Int × Int × Unit) × List (Int × Int × Int × List (Int) × Unit) × List ((Int × Int × Unit) × (Int × Int × Unit) × Bool × Unit) × List (Int × (Int × Int × Unit) × Int × Int × Int × Unit) × List (Int × (Int × Int × Unit) × (Int × Int × Unit) × (Int × Int × Unit) × Int × Int × Int × Int × Unit) × List ((Int × Int × Unit) × List (Int × Int × Unit) × Unit) × List ((Int × Int × Unit) × List (Int × Int × Unit) × Unit) × List ((Int × Int × Unit) × Int × Unit) × List ((Int × Int × Unit) × List (Int × Int × Int × Unit) × Unit) × Unit) => 
      W.cnd (z5.1 != 0) (some ((0, ([], ([], ([], ([], ([], ([], ([], ([], ([], ([], ([], ())))))))))))), (z5.1, ())))
       (some (z5.2, (0, ()))))
      fun k6 => 
      W.cnd (z4.1 == 0) (W.both (W.call (fall_TreasuryW W) fun v7 => W.call (purse_MoveW W z4.2.2.2.2.2.2.2.2.2.2.2.1 v7 u v3.1) fun v8 => (k6 (v8.2.1, (z4.2.1, (z4.2.2.1, (z4.2.2.2.1, (z4.2.2.2.2.1, (z4.2.2.2.2.2.1, (z4.2.2.2.2.2.2.1, (z4.2.2.2.2.2.2.2.1, (z4.2.2.2.2.2.2.2.2.1, (z4.2.2.2.2.2.2.2.2.2.1, (z4.2.2.2.2.2.2.2.2.2.2.1, (v8.1, z4.2.2.2.2.2.2.2.2.2.2.2.2)))))))))))))) (W.call (fall_TreasuryW W) fun v9 => W.call (purse_MoveW W z4.2.2.2.2.2.2.2.2.2.2.2.1 v9 u v3.1) fun v10 => (k6 (v10.2.1, (z4.2.1, (z4.2.2.1, (z4.2.2.2.1, (z4.2.2.2.2.1, (z4.2.2.2.2.2.1, (z4.2.2.2.2.2.2.1, (z4.2.2.2.2.2.2.2.1, (z4.2.2.2.2.2.2.2.2.1, (z4.2.2.2.2.2.2.2.2.2.1, (z4.2.2.2.2.2.2.2.2.2.2.1, (v10.1, z4.2.2.2.2.2.2.2.2.2.2.2.2)))))))))))))))
       ((k6 z4)))
     fun k11 => 
     W.cnd (v3.2.1 == 0) (W.both (W.call (fall_TreasuryW W) fun v12 => W.call (hold_PassW W s.2.2.2.2.2.2.2.2.2.2.2.1 u v12 (x.1, (x.2.1, ((if x.2.2.1 < v2.1 then x.2.2.1 else v2.1), ()))) 0) fun v13 => (k11 (v13.2.1, (s.1, (s.2.1, (s.2.2.1, (s.2.2.2.1, (s.2.2.2.2.1, (s.2.2.2.2.2.1, (s.2.2.2.2.2.2.1, (s.2.2.2.2.2.2.2.1, (s.2.2.2.2.2.2.2.2.1, (s.2.2.2.2.2.2.2.2.2.1, (s.2.2.2.2.2.2.2.2.2.2.1, (v13.1, ()))))))))))))))) (W.call (fall_TreasuryW W) fun v14 => W.call (hold_PassW W s.2.2.2.2.2.2.2.2.2.2.2.1 u v14 (x.1, (x.2.1, ((if x.2.2.1 < v2.1 then x.2.2.1 else v2.1), ()))) 0) fun v15 => (k11 (v15.2.1, (s.1, (s.2.1, (s.2.2.1, (s.2.2.2.1, (s.2.2.2.2.1, (s.2.2.2.2.2.1, (s.2.2.2.2.2.2.1, (s.2.2.2.2.2.2.2.1, (s.2.2.2.2.2.2.2.2.1, (s.2.2.2.2.2.2.2.2.2.1, (s.2.2.2.2.2.2.2.2.2.2.1, (v15.1, ()))))))))))))))))
      ((k11 (v3.2.1, s))))))
abbrev fall_sold := fall_soldW stdW
def fall_SellW (W : Wd) (s : AState') (u : AUnit') (cash : Int) : Option (AState' × Int × Unit) := 
 W.join (fun (z1 : Bool × Unit) => 
  W.cnd z1.1 (some ((0, ([], ([], ([], ([], ([], ([], ([], ([], ([], ([], ([], ())))))))))))), (3, ())))
   (W.call (fall_TreasuryW W) fun v2 => 
   W.cnd (Go.Vc.notIf false ((u.1 == v2.1) && (u.2.1 == v2.2.1))) (some ((0, ([], ([], ([], ([], ([], ([], ([], ([], ([], ([], ([], ())))))))))))), (2, ())))
    (W.call (hold_LotsW W s.2.2.2.2.2.2.2.2.2.2.2.1 u) fun v3 => 
    W.loop (fun (z4 : Int × Int × List (Int × Int × Int × Int × Unit) × List (Int × Int × Int × Int × List (Int) × Unit) × List (Int × Int × Int × Unit) × List (Int × Int × Int × List (Int) × Unit) × List ((Int × Int × Unit) × (Int × Int × Unit) × Bool × Unit) × List (Int × (Int × Int × Unit) × Int × Int × Int × Unit) × List (Int × (Int × Int × Unit) × (Int × Int × Unit) × (Int × Int × Unit) × Int × Int × Int × Int × Unit) × List ((Int × Int × Unit) × List (Int × Int × Unit) × Unit) × List ((Int × Int × Unit) × List (Int × Int × Unit) × Unit) × List ((Int × Int × Unit) × Int × Unit) × List ((Int × Int × Unit) × List (Int × Int × Int × Unit) × Unit) × List (Int × Int × Int × Unit) × Unit) again5 => 
     W.cnd (decide (z4.1 < (v3.length : Int))) (W.idx z4.2.2.2.2.2.2.2.2.2.2.2.2.2.1 z4.1 fun x6 => W.nth z4.2.2.2.2.2.2.2.2.2.2.2.2.2.1 (Int.toNat z4.1) fun x7 => W.call (purse_GetW W z4.2.2.2.2.2.2.2.2.2.2.2.1 u) fun v8 => W.call (fix_SubW W cash v8) fun v9 => 
      W.join (fun (z10 : Int × Int × List (Int × Int × Int × Int × Unit) × List (Int × Int × Int × Int × List (Int) × Unit) × List (Int × Int × Int × Unit) × List (Int × Int × Int × List (Int) × Unit) × List ((Int × Int × Unit) × (Int × Int × Unit) × Bool × Unit) × List (Int × (Int × Int × Unit) × Int × Int × Int × Unit) × List (Int × (Int × Int × Unit) × (Int × Int × Unit) × (Int × Int × Unit) × Int × Int × Int × Int × Unit) × List ((Int × Int × Unit) × List (Int × Int × Unit) × Unit) × List ((Int × Int × Unit) × List (Int × Int × Unit) × Unit) × List ((Int × Int × Unit) × Int × Unit) × List ((Int × Int × Unit) × List (Int × Int × Int × Unit) × Unit) × List (Int × Int × Int × Unit) × Unit) => 
       W.cnd (z10.1 != 0) (some ((0, ([], ([], ([], ([], ([], ([], ([], ([], ([], ([], ([], ())))))))))))), (z10.1, ())))
        ((again5 ((IntKind.i64.wrap (z4.1 + 1)), z10.2))))
       fun k11 => 
       W.join (fun (z12 : Bool × List (Int × Int × Int × Unit) × Unit) => 
        W.cnd z12.1 (W.call (fall_soldW W (z4.2.1, (z4.2.2.1, (z4.2.2.2.1, (z4.2.2.2.2.1, (z4.2.2.2.2.2.1, (z4.2.2.2.2.2.2.1, (z4.2.2.2.2.2.2.2.1, (z4.2.2.2.2.2.2.2.2.1, (z4.2.2.2.2.2.2.2.2.2.1, (z4.2.2.2.2.2.2.2.2.2.2.1, (z4.2.2.2.2.2.2.2.2.2.2.2.1, (z4.2.2.2.2.2.2.2.2.2.2.2.2.1, ())))))))))))) u x7 v9.1) fun v13 => (k11 (v13.2.1, (v13.1.1, (v13.1.2.1, (v13.1.2.2.1, (v13.1.2.2.2.1, (v13.1.2.2.2.2.1, (v13.1.2.2.2.2.2.1, (v13.1.2.2.2.2.2.2.1, (v13.1.2.2.2.2.2.2.2.1, (v13.1.2.2.2.2.2.2.2.2.1, (v13.1.2.2.2.2.2.2.2.2.2.1, (v13.1.2.2.2.2.2.2.2.2.2.2.1, (v13.1.2.2.2.2.2.2.2.2.2.2.2.1, z12.2)))))))))))))))
         ((k11 (v9.2.1, (z4.2.1, (z4.2.2.1, (z4.2.2.2.1, (z4.2.2.2.2.1, (z4.2.2.2.2.2.1, (z4.2.2.2.2.2.2.1, (z4.2.2.2.2.2.2.2.1, (z4.2.2.2.2.2.2.2.2.1, (z4.2.2.2.2.2.2.2.2.2.1, (z4.2.2.2.2.2.2.2.2.2.2.1, (z4.2.2.2.2.2.2.2.2.2.2.2.1, (z4.2.2.2.2.2.2.2.2.2.2.2.2.1, z12.2))))))))))))))))
        fun k14 => 
        W.cnd (v9.2.1 == 0) ((k14 ((decide (0 < v9.1)), z4.2.2.2.2.2.2.2.2.2.2.2.2.2)))
         ((k14 (false, z4.2.2.2.2.2.2.2.2.2.2.2.2.2))))
      (some ((z4.2.1, (z4.2.2.1, (z4.2.2.2.1, (z4.2.2.2.2.1, (z4.2.2.2.2.2.1, (z4.2.2.2.2.2.2.1, (z4.2.2.2.2.2.2.2.1, (z4.2.2.2.2.2.2.2.2.1, (z4.2.2.2.2.2.2.2.2.2.1, (z4.2.2.2.2.2.2.2.2.2.2.1, (z4.2.2.2.2.2.2.2.2.2.2.2.1, (z4.2.2.2.2.2.2.2.2.2.2.2.2.1, ())))))))))))), (0, ()))))
     (0, (s.1, (s.2.1, (s.2.2.1, (s.2.2.2.1, (s.2.2.2.2.1, (s.2.2.2.2.2.1, (s.2.2.2.2.2.2.1, (s.2.2.2.2.2.2.2.1, (s.2.2.2.2.2.2.2.2.1, (s.2.2.2.2.2.2.2.2.2.1, (s.2.2.2.2.2.2.2.2.2.2.1, (s.2.2.2.2.2.2.2.2.2.2.2.1, (v3, ())))))))))))))))))
  fun k15 => W.call (purse_IsW W s.2.2.2.2.2.2.2.2.2.2.1) fun v16 => 
  W.cnd (!v16) ((k15 (true, ())))
   (W.call (hold_IsW W s.2.2.2.2.2.2.2.2.2.2.2.1) fun v17 => (k15 ((!v17), ())))
abbrev fall_Sell := fall_SellW stdW
def ref15_LessW (W : Wd) (a : AUnit') (b : AUnit') : Option Bool := 
 W.cnd (decide (a.1 < b.1)) (some true)
  (
  W.cnd (a.1 == b.1) (some (decide (a.2.1 < b.2.1)))
   (some false))
abbrev ref15_Less := ref15_LessW stdW
def ref17_IsW (W : Wd) (l : List AFlow') : Option Bool := 
 W.loop (fun (z1 : Int × Unit) again2 => 
  W.cnd (decide (z1.1 < (l.length : Int))) (
   W.join (fun (z3 : Bool × Unit) => 
    W.cnd z3.1 (some false)
     ((again2 ((IntKind.i64.wrap (z1.1 + 1)), ()))))
    fun k4 => W.idx l z1.1 fun x5 => 
    W.cnd (x5.2.1 == 0) ((k4 (true, ())))
     (
     W.cnd (decide (0 < z1.1)) (W.idx l (IntKind.i64.wrap (z1.1 - 1)) fun x6 => W.idx l z1.1 fun x7 => W.call (ref15_LessW W x6.1 x7.1) fun v8 => (k4 ((!v8), ())))
      ((k4 (false, ())))))
   (some true))
  (0, ())
abbrev ref17_Is := ref17_IsW stdW
def ref26_IsW (W : Wd) (l : List AHold') : Option Bool := 
 W.loop (fun (z1 : Int × Unit) again2 => 
  W.cnd (decide (z1.1 < (l.length : Int))) (
   W.join (fun (z3 : Bool × Unit) => 
    W.cnd z3.1 (some false)
     ((again2 ((IntKind.i64.wrap (z1.1 + 1)), ()))))
    fun k4 => W.idx l z1.1 fun x5 => 
    W.cnd ((x5.2.1.length : Int) == 0) (W.both ((k4 (true, ()))) ((k4 (true, ()))))
     (W.idx l z1.1 fun x6 => W.call (ref18_IsW W x6.2.1) fun v7 => 
     W.cnd (!v7) (W.both ((k4 (true, ()))) ((k4 (true, ()))))
      (
      W.cnd (decide (0 < z1.1)) (W.idx l (IntKind.i64.wrap (z1.1 - 1)) fun x8 => W.idx l z1.1 fun x9 => W.both (W.call (ref15_LessW W x8.1 x9.1) fun v10 => (k4 ((!v10), ()))) (W.call (ref15_LessW W x8.1 x9.1) fun v11 => (k4 ((!v11), ()))))
       (W.both ((k4 (false, ()))) ((k4 (false, ())))))))
   (some true))
  (0, ())
abbrev ref26_Is := ref26_IsW stdW
def ref02_UpW (W : Wd) (a : Novationref01Big') (d : Int) : Option Novationref01Big' := W.call (ref01_DivW W a d) fun v1 => 
 W.cnd (decide (0 < v1.2.1)) (W.call (ref01_NatW W 1) fun v2 => W.call (ref01_AddW W v1.1 v2) fun v3 => some v3)
  (some v1.1)
abbrev ref02_Up := ref02_UpW stdW
def ref12_SellW (W : Wd) (a : ALot') (amount : Int) : Option Novationref01Big' := W.call (ref01_OfW W amount) fun v1 => W.call (ref02_UpW W v1 (IntKind.u64.wrap a.2.1)) fun v2 => some v2
abbrev ref12_Sell := ref12_SellW stdW
def ref01_CmpW (W : Wd) (a : Novationref01Big') (b : Novationref01Big') : Option Int := W.call (ref01_SubW W a b) fun v1 => 
 W.cnd ((v1.2.1.length : Int) == 0) (some 0)
  (
  W.cnd v1.1 (some (-1))
   (some 1))
abbrev ref01_Cmp := ref01_CmpW stdW
def ref18_GetW (W : Wd) (l : List ALot') (asset : Int) (tag : Int) : Option Int := 
 W.loop (fun (z1 : Int × Unit) again2 => 
  W.cnd (decide (z1.1 < (l.length : Int))) (
   W.join (fun (z3 : Bool × Unit) => 
    W.cnd z3.1 (W.idx l z1.1 fun x4 => some x4.2.2.1)
     ((again2 ((IntKind.i64.wrap (z1.1 + 1)), ()))))
    fun k5 => W.idx l z1.1 fun x6 => 
    W.cnd (x6.1 == asset) (W.idx l z1.1 fun x7 => (k5 ((x7.2.1 == tag), ())))
     ((k5 (false, ()))))
   (some 0))
  (0, ())
abbrev ref18_Get := ref18_GetW stdW
def ref18_setW (W : Wd) (l : List ALot') (x : ALot') : Option (List ALot') := 
 W.loop (fun (z1 : Bool × Int × List (Int × Int × Int × Unit) × Unit) again2 => 
  W.cnd (decide (z1.2.1 < (l.length : Int))) (
   W.join (fun (z3 : Bool × List (Int × Int × Int × Unit) × Unit) => (again2 (z3.1, ((IntKind.i64.wrap (z1.2.1 + 1)), z3.2))))
    fun k4 => 
    W.join (fun (z5 : Bool × List (Int × Int × Int × Unit) × Unit) => 
     W.join (fun (z6 : Bool × List (Int × Int × Int × Unit) × Unit) => 
      W.cnd z6.1 (W.idx l z1.2.1 fun x7 => W.room (z6.2.1.length + (x7 :: []).length) 24 ((k4 (z5.1, ((z6.2.1 ++ (x7 :: [])), ())))))
       ((k4 (z5.1, z6.2))))
      fun k8 => W.idx l z1.2.1 fun x9 => 
      W.cnd (x9.1 != x.1) ((k8 (true, z5.2)))
       (W.idx l z1.2.1 fun x10 => (k8 ((x10.2.1 != x.2.1), z5.2))))
     fun k11 => 
     W.join (fun (z12 : Bool × List (Int × Int × Int × Unit) × Unit) => 
      W.cnd z12.1 (W.room (z12.2.1.length + (x :: []).length) 24 ((k11 (true, ((z12.2.1 ++ (x :: [])), ())))))
       ((k11 (z1.1, z12.2))))
      fun k13 => 
      W.cnd (!z1.1) (W.idx l z1.2.1 fun x14 => W.call (ref18_lessW W x14 x) fun v15 => (k13 ((!v15), z1.2.2)))
       ((k13 (false, z1.2.2))))
   (
   W.join (fun (z16 : List (Int × Int × Int × Unit) × Unit) => some z16.1)
    fun k17 => 
    W.cnd (!z1.1) (W.room (z1.2.2.1.length + (x :: []).length) 24 ((k17 ((z1.2.2.1 ++ (x :: [])), ()))))
     ((k17 z1.2.2))))
  ((x.2.2.1 == 0), (0, ([], ())))
abbrev ref18_set := ref18_setW stdW
def ref18_TakeW (W : Wd) (l : List ALot') (x : ALot') : Option ((List ALot') × Int × Unit) := W.call (ref18_IsW W l) fun v1 => 
 W.cnd (!v1) (some ([], (3, ())))
  (W.call (ref18_oneW W x) fun v2 => 
  W.cnd (!v2) (some ([], (2, ())))
   (W.call (ref18_GetW W l x.1 x.2.1) fun v3 => 
   W.cnd (decide (v3 < x.2.2.1)) (some ([], (23, ())))
    (W.call (ref18_setW W l (x.1, (x.2.1, ((IntKind.i64.wrap (v3 - x.2.2.1)), ())))) fun v4 => some (v4, (0, ())))))
abbrev ref18_Take := ref18_TakeW stdW
def ref26_WithW (W : Wd) (l : List AHold') (u : AUnit') (all : List ALot') : Option (List AHold') := 
 W.join (fun (z1 : Int × List ((Int × Int × Unit) × List (Int × Int × Int × Unit) × Unit) × Unit) => 
  W.join (fun (z2 : List ((Int × Int × Unit) × List (Int × Int × Int × Unit) × Unit) × Unit) => 
   W.join (fun (z3 : Int × List ((Int × Int × Unit) × List (Int × Int × Int × Unit) × Unit) × Unit) => W.bnd z3.1 l.length fun h4 => W.room (z3.2.1.length + ((l.take l.length).drop h4).length) 40 (some (z3.2.1 ++ ((l.take l.length).drop h4))))
    fun k5 => 
    W.join (fun (z6 : Bool × List ((Int × Int × Unit) × List (Int × Int × Int × Unit) × Unit) × Unit) => 
     W.cnd z6.1 ((k5 ((IntKind.i64.wrap (z1.1 + 1)), z6.2)))
      ((k5 (z1.1, z6.2))))
     fun k7 => 
     W.cnd (decide (z1.1 < (l.length : Int))) (W.idx l z1.1 fun x8 => (k7 ((Go.Vc.notIf false ((x8.1.1 == u.1) && (x8.1.2.1 == u.2.1))), z2)))
      ((k7 (false, z2))))
   fun k9 => 
   W.cnd (decide (0 < (all.length : Int))) (W.room (z1.2.1.length + ((u, (all, ())) :: []).length) 40 ((k9 ((z1.2.1 ++ ((u, (all, ())) :: [])), ()))))
    ((k9 z1.2)))
  fun k10 => 
  W.loop (fun (z11 : Int × List ((Int × Int × Unit) × List (Int × Int × Int × Unit) × Unit) × Unit) again12 => 
   W.cnd (decide (z11.1 < (l.length : Int))) (W.idx l z11.1 fun x13 => W.call (ref15_LessW W x13.1 u) fun v14 => 
    W.cnd v14 (W.idx l z11.1 fun x15 => W.room (z11.2.1.length + (x15 :: []).length) 40 ((again12 ((IntKind.i64.wrap (z11.1 + 1)), ((z11.2.1 ++ (x15 :: [])), ())))))
     ((k10 z11)))
    ((k10 z11)))
   (0, ([], ()))
abbrev ref26_With := ref26_WithW stdW
def ref26_TakeW (W : Wd) (l : List AHold') (u : AUnit') (x : ALot') : Option ((List AHold') × Int × Unit) := W.call (ref26_IsW W l) fun v1 => 
 W.cnd (!v1) (some ([], (3, ())))
  (W.call (ref26_LotsW W l u) fun v2 => W.call (ref18_TakeW W v2 x) fun v3 => 
  W.cnd (v3.2.1 != 0) (some ([], v3.2))
   (W.call (ref26_WithW W l u v3.1) fun v4 => some (v4, (0, ()))))
abbrev ref26_Take := ref26_TakeW stdW
def ref18_PutW (W : Wd) (l : List ALot') (x : ALot') : Option ((List ALot') × Int × Unit) := W.call (ref18_IsW W l) fun v1 => 
 W.cnd (!v1) (some ([], (3, ())))
  (W.call (ref18_oneW W x) fun v2 => 
  W.cnd (!v2) (some ([], (2, ())))
   (W.call (ref18_GetW W l x.1 x.2.1) fun v3 => W.both (W.call (ref01_OfW W v3) fun v4 => W.both (W.call (ref01_OfW W x.2.2.1) fun v5 => W.both (W.call (ref01_AddW W v4 v5) fun v6 => W.call (ref01_FitsW W v6) fun v7 => 
      W.cnd (!v7) (some ([], (7, ())))
       (
       W.join (fun (z8 : Bool × Unit) => 
        W.cnd z8.1 (some ([], (25, ())))
         (W.call (ref01_IntW W v6) fun v9 => W.call (ref18_setW W l (x.1, (x.2.1, (v9, ())))) fun v10 => some (v10, (0, ()))))
        fun k11 => 
        W.cnd (v3 == 0) ((k11 (((l.length : Int) == 16), ())))
         ((k11 (false, ()))))) (W.call (ref01_AddW W v4 v5) fun v12 => W.call (ref01_FitsW W v12) fun v13 => 
      W.cnd (!v13) (some ([], (7, ())))
       (
       W.join (fun (z14 : Bool × Unit) => 
        W.cnd z14.1 (some ([], (25, ())))
         (W.call (ref01_IntW W v12) fun v15 => W.call (ref18_setW W l (x.1, (x.2.1, (v15, ())))) fun v16 => some (v16, (0, ()))))
        fun k17 => 
        W.cnd (v3 == 0) ((k17 (((l.length : Int) == 16), ())))
         ((k17 (false, ())))))) (W.call (ref01_OfW W x.2.2.1) fun v18 => W.call (ref01_AddW W v4 v18) fun v19 => W.call (ref01_FitsW W v19) fun v20 => 
     W.cnd (!v20) (some ([], (7, ())))
      (
      W.join (fun (z21 : Bool × Unit) => 
       W.cnd z21.1 (some ([], (25, ())))
        (W.call (ref01_IntW W v19) fun v22 => W.call (ref18_setW W l (x.1, (x.2.1, (v22, ())))) fun v23 => some (v23, (0, ()))))
       fun k24 => 
       W.cnd (v3 == 0) ((k24 (((l.length : Int) == 16), ())))
        ((k24 (false, ())))))) (W.call (ref01_OfW W v3) fun v25 => W.call (ref01_OfW W x.2.2.1) fun v26 => W.call (ref01_AddW W v25 v26) fun v27 => W.call (ref01_FitsW W v27) fun v28 => 
    W.cnd (!v28) (some ([], (7, ())))
     (
     W.join (fun (z29 : Bool × Unit) => 
      W.cnd z29.1 (some ([], (25, ())))
       (W.call (ref01_IntW W v27) fun v30 => W.call (ref18_setW W l (x.1, (x.2.1, (v30, ())))) fun v31 => some (v31, (0, ()))))
      fun k32 => 
      W.cnd (v3 == 0) ((k32 (((l.length : Int) == 16), ())))
       ((k32 (false, ())))))))
abbrev ref18_Put := ref18_PutW stdW
def ref26_PutW (W : Wd) (l : List AHold') (u : AUnit') (x : ALot') : Option ((List AHold') × Int × Unit) := W.call (ref26_IsW W l) fun v1 => 
 W.cnd (!v1) (some ([], (3, ())))
  (W.call (ref26_LotsW W l u) fun v2 => W.call (ref18_PutW W v2 x) fun v3 => 
  W.cnd (v3.2.1 != 0) (some ([], v3.2))
   (W.call (ref26_WithW W l u v3.1) fun v4 => some (v4, (0, ()))))
abbrev ref26_Put := ref26_PutW stdW
def ref26_PassW (W : Wd) (l : List AHold') (from_ : AUnit') (to_ : AUnit') (x : ALot') (tag : Int) : Option ((List AHold') × Int × Unit) := W.call (ref26_IsW W l) fun v1 => 
 W.cnd (!v1) (some ([], (3, ())))
  (
  W.cnd (Go.Vc.notIf false ((from_.1 == to_.1) && (from_.2.1 == to_.2.1))) (some ([], (24, ())))
   (W.call (ref26_TakeW W l from_ x) fun v2 => 
   W.cnd (v2.2.1 != 0) (some ([], v2.2))
    (W.call (ref26_PutW W v2.1 to_ (x.1, (tag, x.2.2))) fun v3 => some v3)))
abbrev ref26_Pass := ref26_PassW stdW
def ref17_UnitsW (W : Wd) (l : List AFlow') : Option (List AUnit') := 
 W.loop (fun (z1 : List (Int × Int × Unit) × Int × Unit) again2 => 
  W.cnd (decide (z1.2.1 < (l.length : Int))) (
   W.join (fun (z3 : List (Int × Int × Unit) × Unit) => (again2 (z3.1, ((IntKind.i64.wrap (z1.2.1 + 1)), ()))))
    fun k4 => W.idx l z1.2.1 fun x5 => 
    W.loop (fun (z6 : Int × Bool × Int × Unit) again7 => 
     W.cnd (decide (z6.2.2.1 < (z1.1.length : Int))) (
      W.join (fun (z8 : Int × Bool × Unit) => (again7 (z8.1, (z8.2.1, ((IntKind.i64.wrap (z6.2.2.1 + 1)), ())))))
       fun k9 => 
       W.join (fun (z10 : Bool × Unit) => W.idx z1.1 z6.2.2.1 fun x11 => W.call (ref15_LessW W x11 x5.1) fun v12 => 
        W.cnd v12 ((k9 ((IntKind.i64.wrap (z6.2.2.1 + 1)), z10)))
         ((k9 (z6.1, z10))))
        fun k13 => 
        W.cnd z6.2.1 ((k13 (true, ())))
         (W.idx z1.1 z6.2.2.1 fun x14 => (k13 ((Go.Vc.notIf false ((x14.1 == x5.1.1) && (x14.2.1 == x5.1.2.1))), ()))))
      (
      W.cnd (!z6.2.1) (W.bnd z6.1 z1.1.length fun h15 => W.room (z1.1.take h15).length 16 (W.room ((z1.1.take h15).length + (x5.1 :: []).length) 16 (W.bnd z6.1 z1.1.length fun h16 => W.room (((z1.1.take h15) ++ (x5.1 :: [])).length + ((z1.1.take z1.1.length).drop h16).length) 16 ((k4 ((((z1.1.take h15) ++ (x5.1 :: [])) ++ ((z1.1.take z1.1.length).drop h16)), ()))))))
       ((k4 (z1.1, ())))))
     (0, (false, (0, ()))))
   (some z1.1))
  ([], (0, ()))
abbrev ref17_Units := ref17_UnitsW stdW
def ref17_PayW (W : Wd) (l : List AFlow') (flows : List AFlow') : Option ((List AFlow') × Int × Unit) := W.call (ref17_IsW W l) fun v1 => 
 W.cnd (!v1) (some ([], (3, ())))
  (W.room l.length 24 (W.room (l.length + flows.length) 24 (W.call (ref17_UnitsW W (l ++ flows)) fun v2 => 
  W.loop (fun (z3 : Int × List ((Int × Int × Unit) × Int × Unit) × Unit) again4 => 
   W.cnd (decide (z3.1 < (v2.length : Int))) (
    W.join (fun (z5 : List ((Int × Int × Unit) × Int × Unit) × Unit) => (again4 ((IntKind.i64.wrap (z3.1 + 1)), z5)))
     fun k6 => 
     W.loop (fun (z7 : Int × Bool × List (Int) × List ((Int × Int × Unit) × Int × Unit) × Unit) again8 => 
      W.cnd (decide (z7.1 < ((l ++ flows).length : Int))) (
       W.join (fun (z9 : Bool × List (Int) × List ((Int × Int × Unit) × Int × Unit) × Unit) => (again8 ((IntKind.i64.wrap (z7.1 + 1)), z9)))
        fun k10 => W.idx (l ++ flows) z7.1 fun x11 => W.idx v2 z3.1 fun x12 => 
        W.cnd (Go.Vc.notIf false ((x11.1.1 == x12.1) && (x11.1.2.1 == x12.2.1))) (W.idx (l ++ flows) z7.1 fun x13 => W.both (W.call (ref01_OfW W x13.2.1) fun v14 => W.call (ref01_AddW W (z7.2.1, (z7.2.2.1, ())) v14) fun v15 => (k10 (v15.1, (v15.2.1, z7.2.2.2)))) (W.call (ref01_OfW W x13.2.1) fun v16 => W.call (ref01_AddW W (z7.2.1, (z7.2.2.1, ())) v16) fun v17 => (k10 (v17.1, (v17.2.1, z7.2.2.2)))))
         ((k10 z7.2)))
       (W.call (ref01_FitsW W (z7.2.1, (z7.2.2.1, ()))) fun v18 => 
       W.cnd (!v18) (some ([], (7, ())))
        (W.call (ref01_IntW W (z7.2.1, (z7.2.2.1, ()))) fun v19 => 
        W.cnd (v19 != 0) (W.idx v2 z3.1 fun x20 => W.call (ref01_IntW W (z7.2.1, (z7.2.2.1, ()))) fun v21 => W.room (z7.2.2.2.1.length + ((x20, (v21, ())) :: []).length) 24 ((k6 ((z7.2.2.2.1 ++ ((x20, (v21, ())) :: [])), ()))))
         ((k6 z7.2.2.2)))))
      (0, (false, ([], z3.2))))
    (some (z3.2.1, (0, ()))))
   (0, ([], ())))))
abbrev ref17_Pay := ref17_PayW stdW
def ref31_MoveW (W : Wd) (s : AState') (from_ : AUnit') (to_ : AUnit') (amount : Int) : Option (AState' × Int × Unit) := W.call (ref17_PayW W s.2.2.2.2.2.2.2.2.2.2.1 ((from_, ((IntKind.i64.wrap (0 - amount)), ())) :: ((to_, (amount, ())) :: []))) fun v1 => 
 W.cnd (v1.2.1 != 0) (some ((0, ([], ([], ([], ([], ([], ([], ([], ([], ([], ([], ([], ())))))))))))), v1.2))
  (some ((s.1, (s.2.1, (s.2.2.1, (s.2.2.2.1, (s.2.2.2.2.1, (s.2.2.2.2.2.1, (s.2.2.2.2.2.2.1, (s.2.2.2.2.2.2.2.1, (s.2.2.2.2.2.2.2.2.1, (s.2.2.2.2.2.2.2.2.2.1, (v1.1, s.2.2.2.2.2.2.2.2.2.2.2))))))))))), (0, ())))
abbrev ref31_Move := ref31_MoveW stdW
def ref31_SellW (W : Wd) (s : AState') (u : AUnit') (cash : Int) : Option (AState' × Int × Unit) := 
 W.join (fun (z1 : Bool × Unit) => 
  W.cnd z1.1 (some ((0, ([], ([], ([], ([], ([], ([], ([], ([], ([], ([], ([], ())))))))))))), (3, ())))
   (
   W.cnd (Go.Vc.notIf false ((u.1 == 0) && (u.2.1 == 1))) (some ((0, ([], ([], ([], ([], ([], ([], ([], ([], ([], ([], ([], ())))))))))))), (2, ())))
    (W.call (ref26_LotsW W s.2.2.2.2.2.2.2.2.2.2.2.1 u) fun v2 => 
    W.loop (fun (z3 : Int × Int × List (Int × Int × Int × Int × Unit) × List (Int × Int × Int × Int × List (Int) × Unit) × List (Int × Int × Int × Unit) × List (Int × Int × Int × List (Int) × Unit) × List ((Int × Int × Unit) × (Int × Int × Unit) × Bool × Unit) × List (Int × (Int × Int × Unit) × Int × Int × Int × Unit) × List (Int × (Int × Int × Unit) × (Int × Int × Unit) × (Int × Int × Unit) × Int × Int × Int × Int × Unit) × List ((Int × Int × Unit) × List (Int × Int × Unit) × Unit) × List ((Int × Int × Unit) × List (Int × Int × Unit) × Unit) × List ((Int × Int × Unit) × Int × Unit) × List ((Int × Int × Unit) × List (Int × Int × Int × Unit) × Unit) × Unit) again4 => 
     W.cnd (decide (z3.1 < (v2.length : Int))) (
      W.join (fun (z5 : Int × List (Int × Int × Int × Int × Unit) × List (Int × Int × Int × Int × List (Int) × Unit) × List (Int × Int × Int × Unit) × List (Int × Int × Int × List (Int) × Unit) × List ((Int × Int × Unit) × (Int × Int × Unit) × Bool × Unit) × List (Int × (Int × Int × Unit) × Int × Int × Int × Unit) × List (Int × (Int × Int × Unit) × (Int × Int × Unit) × (Int × Int × Unit) × Int × Int × Int × Int × Unit) × List ((Int × Int × Unit) × List (Int × Int × Unit) × Unit) × List ((Int × Int × Unit) × List (Int × Int × Unit) × Unit) × List ((Int × Int × Unit) × Int × Unit) × List ((Int × Int × Unit) × List (Int × Int × Int × Unit) × Unit) × Unit) => (again4 ((IntKind.i64.wrap (z3.1 + 1)), z5)))
       fun k6 => W.both (W.call (ref01_OfW W cash) fun v7 => W.both (W.call (ref17_GetW W z3.2.2.2.2.2.2.2.2.2.2.2.1 u) fun v8 => W.both (W.call (ref01_OfW W v8) fun v9 => W.both (W.call (ref01_SubW W v7 v9) fun v10 => W.call (ref01_FitsW W v10) fun v11 => 
           W.cnd (!v11) (some ((0, ([], ([], ([], ([], ([], ([], ([], ([], ([], ([], ([], ())))))))))))), (7, ())))
            (W.call (ref01_IntW W v10) fun v12 => 
            W.cnd (decide (v12 ≤ 0)) ((k6 z3.2))
             (W.idx v2 z3.1 fun x13 => W.both (W.call (ref12_FindW W z3.2.2.2.2.1 x13.1) fun v14 => 
              W.cnd (!v14.2.1) (some ((0, ([], ([], ([], ([], ([], ([], ([], ([], ([], ([], ([], ())))))))))))), (11, ())))
               (
               W.cnd (v14.1.2.1 == 0) ((k6 z3.2))
                (W.idx v2 z3.1 fun x15 => W.both (W.call (ref01_IntW W v10) fun v16 => W.both (W.call (ref12_SellW W v14.1 v16) fun v17 => 
                  W.join (fun (z18 : Int × Int × Int × Unit) => W.call (ref12_WorthW W v14.1 z18.2.2.1) fun v19 => W.call (ref01_FitsW W v19) fun v20 => 
                   W.cnd (!v20) (some ((0, ([], ([], ([], ([], ([], ([], ([], ([], ([], ([], ([], ())))))))))))), (7, ())))
                    (W.call (ref26_PassW W z3.2.2.2.2.2.2.2.2.2.2.2.2.1 u (0, (1, ())) z18 0) fun v21 => 
                    W.cnd (v21.2.1 != 0) (some ((0, ([], ([], ([], ([], ([], ([], ([], ([], ([], ([], ([], ())))))))))))), v21.2))
                     (W.both (W.call (ref01_IntW W v19) fun v22 => W.both (W.call (ref31_MoveW W (z3.2.1, (z3.2.2.1, (z3.2.2.2.1, (z3.2.2.2.2.1, (z3.2.2.2.2.2.1, (z3.2.2.2.2.2.2.1, (z3.2.2.2.2.2.2.2.1, (z3.2.2.2.2.2.2.2.2.1, (z3.2.2.2.2.2.2.2.2.2.1, (z3.2.2.2.2.2.2.2.2.2.2.1, (z3.2.2.2.2.2.2.2.2.2.2.2.1, (v21.1, ())))))))))))) (0, (1, ())) u v22) fun v23 => 
                       W.cnd (v23.2.1 != 0) (some ((0, ([], ([], ([], ([], ([], ([], ([], ([], ([], ([], ([], ())))))))))))), v23.2))
                        ((k6 v23.1))) (W.call (ref31_MoveW W (z3.2.1, (z3.2.2.1, (z3.2.2.2.1, (z3.2.2.2.2.1, (z3.2.2.2.2.2.1, (z3.2.2.2.2.2.2.1, (z3.2.2.2.2.2.2.2.1, (z3.2.2.2.2.2.2.2.2.1, (z3.2.2.2.2.2.2.2.2.2.1, (z3.2.2.2.2.2.2.2.2.2.2.1, (z3.2.2.2.2.2.2.2.2.2.2.2.1, (v21.1, ())))))))))))) (0, (1, ())) u v22) fun v24 => 
                       W.cnd (v24.2.1 != 0) (some ((0, ([], ([], ([], ([], ([], ([], ([], ([], ([], ([], ([], ())))))))))))), v24.2))
                        ((k6 v24.1)))) (W.call (ref01_IntW W v19) fun v25 => W.call (ref31_MoveW W (z3.2.1, (z3.2.2.1, (z3.2.2.2.1, (z3.2.2.2.2.1, (z3.2.2.2.2.2.1, (z3.2.2.2.2.2.2.1, (z3.2.2.2.2.2.2.2.1, (z3.2.2.2.2.2.2.2.2.1, (z3.2.2.2.2.2.2.2.2.2.1, (z3.2.2.2.2.2.2.2.2.2.2.1, (z3.2.2.2.2.2.2.2.2.2.2.2.1, (v21.1, ())))))))))))) (0, (1, ())) u v25) fun v26 => 
                      W.cnd (v26.2.1 != 0) (some ((0, ([], ([], ([], ([], ([], ([], ([], ([], ([], ([], ([], ())))))))))))), v26.2))
                       ((k6 v26.1))))))
                   fun k27 => W.call (ref01_OfW W x15.2.2.1) fun v28 => W.call (ref01_CmpW W v17 v28) fun v29 => 
                   W.cnd (decide (v29 < 0)) (W.call (ref01_IntW W v17) fun v30 => (k27 (x15.1, (x15.2.1, (v30, ())))))
                    ((k27 x15))) (W.call (ref12_SellW W v14.1 v16) fun v31 => 
                  W.join (fun (z32 : Int × Int × Int × Unit) => W.call (ref12_WorthW W v14.1 z32.2.2.1) fun v33 => W.call (ref01_FitsW W v33) fun v34 => 
                   W.cnd (!v34) (some ((0, ([], ([], ([], ([], ([], ([], ([], ([], ([], ([], ([], ())))))))))))), (7, ())))
                    (W.call (ref26_PassW W z3.2.2.2.2.2.2.2.2.2.2.2.2.1 u (0, (1, ())) z32 0) fun v35 => 
                    W.cnd (v35.2.1 != 0) (some ((0, ([], ([], ([], ([], ([], ([], ([], ([], ([], ([], ([], ())))))))))))), v35.2))
                     (W.both (W.call (ref01_IntW W v33) fun v36 => W.both (W.call (ref31_MoveW W (z3.2.1, (z3.2.2.1, (z3.2.2.2.1, (z3.2.2.2.2.1, (z3.2.2.2.2.2.1, (z3.2.2.2.2.2.2.1, (z3.2.2.2.2.2.2.2.1, (z3.2.2.2.2.2.2.2.2.1, (z3.2.2.2.2.2.2.2.2.2.1, (z3.2.2.2.2.2.2.2.2.2.2.1, (z3.2.2.2.2.2.2.2.2.2.2.2.1, (v35.1, ())))))))))))) (0, (1, ())) u v36) fun v37 => 
                       W.cnd (v37.2.1 != 0) (some ((0, ([], ([], ([], ([], ([], ([], ([], ([], ([], ([], ([], ())))))))))))), v37.2))
                        ((k6 v37.1))) (W.call (ref31_MoveW W (z3.2.1, (z3.2.2.1, (z3.2.2.2.1, (z3.2.2.2.2.1, (z3.2.2.2.2.2.1, (z3.2.2.2.2.2.2.1, (z3.2.2.2.2.2.2.2.1, (z3.2.2.2.2.2.2.2.2.1, (z3.2.2.2.2.2.2.2.2.2.1, (z3.2.2.2.2.2.2.2.2.2.2.1, (z3.2.2.2.2.2.2.2.2.2.2.2.1, (v35.1, ())))))))))))) (0, (1, ())) u v36) fun v38 => 
                       W.cnd (v38.2.1 != 0) (some ((0, ([], ([], ([], ([], ([], ([], ([], ([], ([], ([], ([], ())))))))))))), v38.2))
                        ((k6 v38.1)))) (W.call (ref01_IntW W v33) fun v39 => W.call (ref31_MoveW W (z3.2.1, (z3.2.2.1, (z3.2.2.2.1, (z3.2.2.2.2.1, (z3.2.2.2.2.2.1, (z3.2.2.2.2.2.2.1, (z3.2.2.2.2.2.2.2.1, (z3.2.2.2.2.2.2.2.2.1, (z3.2.2.2.2.2.2.2.2.2.1, (z3.2.2.2.2.2.2.2.2.2.2.1, (z3.2.2.2.2.2.2.2.2.2.2.2.1, (v35.1, ())))))))))))) (0, (1, ())) u v39) fun v40 => 
                      W.cnd (v40.2.1 != 0) (some ((0, ([], ([], ([], ([], ([], ([], ([], ([], ([], ([], ([], ())))))))))))), v40.2))
                       ((k6 v40.1))))))
                   fun k41 => W.call (ref01_OfW W x15.2.2.1) fun v42 => W.call (ref01_CmpW W v31 v42) fun v43 => 
                   W.cnd (decide (v43 < 0)) (W.call (ref01_IntW W v31) fun v44 => (k41 (x15.1, (x15.2.1, (v44, ())))))
                    ((k41 x15)))) (W.call (ref01_IntW W v10) fun v45 => W.call (ref12_SellW W v14.1 v45) fun v46 => 
                 W.join (fun (z47 : Int × Int × Int × Unit) => W.call (ref12_WorthW W v14.1 z47.2.2.1) fun v48 => W.call (ref01_FitsW W v48) fun v49 => 
                  W.cnd (!v49) (some ((0, ([], ([], ([], ([], ([], ([], ([], ([], ([], ([], ([], ())))))))))))), (7, ())))
                   (W.call (ref26_PassW W z3.2.2.2.2.2.2.2.2.2.2.2.2.1 u (0, (1, ())) z47 0) fun v50 => 
                   W.cnd (v50.2.1 != 0) (some ((0, ([], ([], ([], ([], ([], ([], ([], ([], ([], ([], ([], ())))))))))))), v50.2))
                    (W.both (W.call (ref01_IntW W v48) fun v51 => W.both (W.call (ref31_MoveW W (z3.2.1, (z3.2.2.1, (z3.2.2.2.1, (z3.2.2.2.2.1, (z3.2.2.2.2.2.1, (z3.2.2.2.2.2.2.1, (z3.2.2.2.2.2.2.2.1, (z3.2.2.2.2.2.2.2.2.1, (z3.2.2.2.2.2.2.2.2.2.1, (z3.2.2.2.2.2.2.2.2.2.2.1, (z3.2.2.2.2.2.2.2.2.2.2.2.1, (v50.1, ())))))))))))) (0, (1, ())) u v51) fun v52 => 
                      W.cnd (v52.2.1 != 0) (some ((0, ([], ([], ([], ([], ([], ([], ([], ([], ([], ([], ([], ())))))))))))), v52.2))
                       ((k6 v52.1))) (W.call (ref31_MoveW W (z3.2.1, (z3.2.2.1, (z3.2.2.2.1, (z3.2.2.2.2.1, (z3.2.2.2.2.2.1, (z3.2.2.2.2.2.2.1, (z3.2.2.2.2.2.2.2.1, (z3.2.2.2.2.2.2.2.2.1, (z3.2.2.2.2.2.2.2.2.2.1, (z3.2.2.2.2.2.2.2.2.2.2.1, (z3.2.2.2.2.2.2.2.2.2.2.2.1, (v50.1, ())))))))))))) (0, (1, ())) u v51) fun v53 => 
                      W.cnd (v53.2.1 != 0) (some ((0, ([], ([], ([], ([], ([], ([], ([], ([], ([], ([], ([], ())))))))))))), v53.2))
                       ((k6 v53.1)))) (W.call (ref01_IntW W v48) fun v54 => W.call (ref31_MoveW W (z3.2.1, (z3.2.2.1, (z3.2.2.2.1, (z3.2.2.2.2.1, (z3.2.2.2.2.2.1, (z3.2.2.2.2.2.2.1, (z3.2.2.2.2.2.2.2.1, (z3.2.2.2.2.2.2.2.2.1, (z3.2.2.2.2.2.2.2.2.2.1, (z3.2.2.2.2.2.2.2.2.2.2.1, (z3.2.2.2.2.2.2.2.2.2.2.2.1, (v50.1, ())))))))))))) (0, (1, ())) u v54) fun v55 => 
                     W.cnd (v55.2.1 != 0) (some ((0, ([], ([], ([], ([], ([], ([], ([], ([], ([], ([], ([], ())))))))))))), v55.2))
                      ((k6 v55.1))))))
                  fun k56 => W.call (ref01_OfW W x15.2.2.1) fun v57 => W.call (ref01_CmpW W v46 v57) fun v58 => 
                  W.cnd (decide (v58 < 0)) (W.call (ref01_IntW W v46) fun v59 => (k56 (x15.1, (x15.2.1, (v59, ())))))
                   ((k56 x15)))))) (W.call (ref12_FindW W z3.2.2.2.2.1 x13.1) fun v60 => 
              W.cnd (!v60.2.1) (some ((0, ([], ([], ([], ([], ([], ([], ([], ([], ([], ([], ([], ())))))))))))), (11, ())))
               (
               W.cnd (v60.1.2.1 == 0) ((k6 z3.2))
                (W.idx v2 z3.1 fun x61 => W.both (W.call (ref01_IntW W v10) fun v62 => W.both (W.call (ref12_SellW W v60.1 v62) fun v63 => 
                  W.join (fun (z64 : Int × Int × Int × Unit) => W.call (ref12_WorthW W v60.1 z64.2.2.1) fun v65 => W.call (ref01_FitsW W v65) fun v66 => 
                   W.cnd (!v66) (some ((0, ([], ([], ([], ([], ([], ([], ([], ([], ([], ([], ([], ())))))))))))), (7, ())))
                    (W.call (ref26_PassW W z3.2.2.2.2.2.2.2.2.2.2.2.2.1 u (0, (1, ())) z64 0) fun v67 => 
                    W.cnd (v67.2.1 != 0) (some ((0, ([], ([], ([], ([], ([], ([], ([], ([], ([], ([], ([], ())))))))))))), v67.2))
                     (W.both (W.call (ref01_IntW W v65) fun v68 => W.both (W.call (ref31_MoveW W (z3.2.1, (z3.2.2.1, (z3.2.2.2.1, (z3.2.2.2.2.1, (z3.2.2.2.2.2.1, (z3.2.2.2.2.2.2.1, (z3.2.2.2.2.2.2.2.1, (z3.2.2.2.2.2.2.2.2.1, (z3.2.2.2.2.2.2.2.2.2.1, (z3.2.2.2.2.2.2.2.2.2.2.1, (z3.2.2.2.2.2.2.2.2.2.2.2.1, (v67.1, ())))))))))))) (0, (1, ())) u v68) fun v69 => 
                       W.cnd (v69.2.1 != 0) (some ((0, ([], ([], ([], ([], ([], ([], ([], ([], ([], ([], ([], ())))))))))))), v69.2))
                        ((k6 v69.1))) (W.call (ref31_MoveW W (z3.2.1, (z3.2.2.1, (z3.2.2.2.1, (z3.2.2.2.2.1, (z3.2.2.2.2.2.1, (z3.2.2.2.2.2.2.1, (z3.2.2.2.2.2.2.2.1, (z3.2.2.2.2.2.2.2.2.1, (z3.2.2.2.2.2.2.2.2.2.1, (z3.2.2.2.2.2.2.2.2.2.2.1, (z3.2.2.2.2.2.2.2.2.2.2.2.1, (v67.1, ())))))))))))) (0, (1, ())) u v68) fun v70 => 
                       W.cnd (v70.2.1 != 0) (some ((0, ([], ([], ([], ([], ([], ([], ([], ([], ([], ([], ([], ())))))))))))), v70.2))
                        ((k6 v70.1)))) (W.call (ref01_IntW W v65) fun v71 => W.call (ref31_MoveW W (z3.2.1, (z3.2.2.1, (z3.2.2.2.1, (z3.2.2.2.2.1, (z3.2.2.2.2.2.1, (z3.2.2.2.2.2.2.1, (z3.2.2.2.2.2.2.2.1, (z3.2.2.2.2.2.2.2.2.1, (z3.2.2.2.2.2.2.2.2.2.1, (z3.2.2.2.2.2.2.2.2.2.2.1, (z3.2.2.2.2.2.2.2.2.2.2.2.1, (v67.1, ())))))))))))) (0, (1, ())) u v71) fun v72 => 
                      W.cnd (v72.2.1 != 0) (some ((0, ([], ([], ([], ([], ([], ([], ([], ([], ([], ([], ([], ())))))))))))), v72.2))
                       ((k6 v72.1))))))
                   fun k73 => W.call (ref01_OfW W x61.2.2.1) fun v74 => W.call (ref01_CmpW W v63 v74) fun v75 => 
                   W.cnd (decide (v75 < 0)) (W.call (ref01_IntW W v63) fun v76 => (k73 (x61.1, (x61.2.1, (v76, ())))))
                    ((k73 x61))) (W.call (ref12_SellW W v60.1 v62) fun v77 => 
                  W.join (fun (z78 : Int × Int × Int × Unit) => W.call (ref12_WorthW W v60.1 z78.2.2.1) fun v79 => W.call (ref01_FitsW W v79) fun v80 => 
                   W.cnd (!v80) (some ((0, ([], ([], ([], ([], ([], ([], ([], ([], ([], ([], ([], ())))))))))))), (7, ())))
                    (W.call (ref26_PassW W z3.2.2.2.2.2.2.2.2.2.2.2.2.1 u (0, (1, ())) z78 0) fun v81 => 
                    W.cnd (v81.2.1 != 0) (some ((0, ([], ([], ([], ([], ([], ([], ([], ([], ([], ([], ([], ())))))))))))), v81.2))
                     (W.both (W.call (ref01_IntW W v79) fun v82 => W.both (W.call (ref31_MoveW W (z3.2.1, (z3.2.2.1, (z3.2.2.2.1, (z3.2.2.2.2.1, (z3.2.2.2.2.2.1, (z3.2.2.2.2.2.2.1, (z3.2.2.2.2.2.2.2.1, (z3.2.2.2.2.2.2.2.2.1, (z3.2.2.2.2.2.2.2.2.2.1, (z3.2.2.2.2.2.2.2.2.2.2.1, (z3.2.2.2.2.2.2.2.2.2.2.2.1, (v81.1, ())))))))))))) (0, (1, ())) u v82) fun v83 => 
                       W.cnd (v83.2.1 != 0) (some ((0, ([], ([], ([], ([], ([], ([], ([], ([], ([], ([], ([], ())))))))))))), v83.2))
                        ((k6 v83.1))) (W.call (ref31_MoveW W (z3.2.1, (z3.2.2.1, (z3.2.2.2.1, (z3.2.2.2.2.1, (z3.2.2.2.2.2.1, (z3.2.2.2.2.2.2.1, (z3.2.2.2.2.2.2.2.1, (z3.2.2.2.2.2.2.2.2.1, (z3.2.2.2.2.2.2.2.2.2.1, (z3.2.2.2.2.2.2.2.2.2.2.1, (z3.2.2.2.2.2.2.2.2.2.2.2.1, (v81.1, ())))))))))))) (0, (1, ())) u v82) fun v84 => 
                       W.cnd (v84.2.1 != 0) (some ((0, ([], ([], ([], ([], ([], ([], ([], ([], ([], ([], ([], ())))))))))))), v84.2))
                        ((k6 v84.1)))) (W.call (ref01_IntW W v79) fun v85 => W.call (ref31_MoveW W (z3.2.1, (z3.2.2.1, (z3.2.2.2.1, (z3.2.2.2.2.1, (z3.2.2.2.2.2.1, (z3.2.2.2.2.2.2.1, (z3.2.2.2.2.2.2.2.1, (z3.2.2.2.2.2.2.2.2.1, (z3.2.2.2.2.2.2.2.2.2.1, (z3.2.2.2.2.2.2.2.2.2.2.1, (z3.2.2.2.2.2.2.2.2.2.2.2.1, (v81.1, ())))))))))))) (0, (1, ())) u v85) fun v86 => 
                      W.cnd (v86.2.1 != 0) (some ((0, ([], ([], ([], ([], ([], ([], ([], ([], ([], ([], ([], ())))))))))))), v86.2))
                       ((k6 v86.1))))))
                   fun k87 => W.call (ref01_OfW W x61.2.2.1) fun v88 => W.call (ref01_CmpW W v77 v88) fun v89 => 
                   W.cnd (decide (v89 < 0)) (W.call (ref01_IntW W v77) fun v90 => (k87 (x61.1, (x61.2.1, (v90, ())))))
                    ((k87 x61)))) (W.call (ref01_IntW W v10) fun v91 => W.call (ref12_SellW W v60.1 v91) fun v92 => 
                 W.join (fun (z93 : Int × Int × Int × Unit) => W.call (ref12_WorthW W v60.1 z93.2.2.1) fun v94 => W.call (ref01_FitsW W v94) fun v95 => 
                  W.cnd (!v95) (some ((0, ([], ([], ([], ([], ([], ([], ([], ([], ([], ([], ([], ())))))))))))), (7, ())))
                   (W.call (ref26_PassW W z3.2.2.2.2.2.2.2.2.2.2.2.2.1 u (0, (1, ())) z93 0) fun v96 => 
                   W.cnd (v96.2.1 != 0) (some ((0, ([], ([], ([], ([], ([], ([], ([], ([], ([], ([], ([], ())))))))))))), v96.2))
                    (W.both (W.call (ref01_IntW W v94) fun v97 => W.both (W.call (ref31_MoveW W (z3.2.1, (z3.2.2.1, (z3.2.2.2.1, (z3.2.2.2.2.1, (z3.2.2.2.2.2.1, (z3.2.2.2.2.2.2.1, (z3.2.2.2.2.2.2.2.1, (z3.2.2.2.2.2.2.2.2.1, (z3.2.2.2.2.2.2.2.2.2.1, (z3.2.2.2.2.2.2.2.2.2.2.1, (z3.2.2.2.2.2.2.2.2.2.2.2.1, (v96.1, ())))))))))))) (0, (1, ())) u v97) fun v98 => 
                      W.cnd (v98.2.1 != 0) (some ((0, ([], ([], ([], ([], ([], ([], ([], ([], ([], ([], ([], ())))))))))))), v98.2))
                       ((k6 v98.1))) (W.call (ref31_MoveW W (z3.2.1, (z3.2.2.1, (z3.2.2.2.1, (z3.2.2.2.2.1, (z3.2.2.2.2.2.1, (z3.2.2.2.2.2.2.1, (z3.2.2.2.2.2.2.2.1, (z3.2.2.2.2.2.2.2.2.1, (z3.2.2.2.2.2.2.2.2.2.1, (z3.2.2.2.2.2.2.2.2.2.2.1, (z3.2.2.2.2.2.2.2.2.2.2.2.1, (v96.1, ())))))))))))) (0, (1, ())) u v97) fun v99 => 
                      W.cnd (v99.2.1 != 0) (some ((0, ([], ([], ([], ([], ([], ([], ([], ([], ([], ([], ([], ())))))))))))), v99.2))
                       ((k6 v99.1)))) (W.call (ref01_IntW W v94) fun v100 => W.call (ref31_MoveW W (z3.2.1, (z3.2.2.1, (z3.2.2.2.1, (z3.2.2.2.2.1, (z3.2.2.2.2.2.1, (z3.2.2.2.2.2.2.1, (z3.2.2.2.2.2.2.2.1, (z3.2.2.2.2.2.2.2.2.1, (z3.2.2.2.2.2.2.2.2.2.1, (z3.2.2.2.2.2.2.2.2.2.2.1, (z3.2.2.2.2.2.2.2.2.2.2.2.1, (v96.1, ())))))))))))) (0, (1, ())) u v100) fun v101 => 
                     W.cnd (v101.2.1 != 0) (some ((0, ([], ([], ([], ([], ([], ([], ([], ([], ([], ([], ([], ())))))))))))), v101.2))
                      ((k6 v101.1))))))
                  fun k102 => W.call (ref01_OfW W x61.2.2.1) fun v103 => W.call (ref01_CmpW W v92 v103) fun v104 => 
                  W.cnd (decide (v104 < 0)) (W.call (ref01_IntW W v92) fun v105 => (k102 (x61.1, (x61.2.1, (v105, ())))))
                   ((k102 x61))))))))) (W.call (ref01_SubW W v7 v9) fun v106 => W.call (ref01_FitsW W v106) fun v107 => 
           W.cnd (!v107) (some ((0, ([], ([], ([], ([], ([], ([], ([], ([], ([], ([], ([], ())))))))))))), (7, ())))
            (W.call (ref01_IntW W v106) fun v108 => 
            W.cnd (decide (v108 ≤ 0)) ((k6 z3.2))
             (W.idx v2 z3.1 fun x109 => W.both (W.call (ref12_FindW W z3.2.2.2.2.1 x109.1) fun v110 => 
              W.cnd (!v110.2.1) (some ((0, ([], ([], ([], ([], ([], ([], ([], ([], ([], ([], ([], ())))))))))))), (11, ())))
               (
               W.cnd (v110.1.2.1 == 0) ((k6 z3.2))
                (W.idx v2 z3.1 fun x111 => W.both (W.call (ref01_IntW W v106) fun v112 => W.both (W.call (ref12_SellW W v110.1 v112) fun v113 => 
                  W.join (fun (z114 : Int × Int × Int × Unit) => W.call (ref12_WorthW W v110.1 z114.2.2.1) fun v115 => W.call (ref01_FitsW W v115) fun v116 => 
                   W.cnd (!v116) (some ((0, ([], ([], ([], ([], ([], ([], ([], ([], ([], ([], ([], ())))))))))))), (7, ())))
                    (W.call (ref26_PassW W z3.2.2.2.2.2.2.2.2.2.2.2.2.1 u (0, (1, ())) z114 0) fun v117 => 
                    W.cnd (v117.2.1 != 0) (some ((0, ([], ([], ([], ([], ([], ([], ([], ([], ([], ([], ([], ())))))))))))), v117.2))
                     (W.both (W.call (ref01_IntW W v115) fun v118 => W.both (W.call (ref31_MoveW W (z3.2.1, (z3.2.2.1, (z3.2.2.2.1, (z3.2.2.2.2.1, (z3.2.2.2.2.2.1, (z3.2.2.2.2.2.2.1, (z3.2.2.2.2.2.2.2.1, (z3.2.2.2.2.2.2.2.2.1, (z3.2.2.2.2.2.2.2.2.2.1, (z3.2.2.2.2.2.2.2.2.2.2.1, (z3.2.2.2.2.2.2.2.2.2.2.2.1, (v117.1, ())))))))))))) (0, (1, ())) u v118) fun v119 => 
                       W.cnd (v119.2.1 != 0) (some ((0, ([], ([], ([], ([], ([], ([], ([], ([], ([], ([], ([], ())))))))))))), v119.2))
                        ((k6 v119.1))) (W.call (ref31_MoveW W (z3.2.1, (z3.2.2.1, (z3.2.2.2.1, (z3.2.2.2.2.1, (z3.2.2.2.2.2.1, (z3.2.2.2.2.2.2.1, (z3.2.2.2.2.2.2.2.1, (z3.2.2.2.2.2.2.2.2.1, (z3.2.2.2.2.2.2.2.2.2.1, (z3.2.2.2.2.2.2.2.2.2.2.1, (z3.2.2.2.2.2.2.2.2.2.2.2.1, (v117.1, ())))))))))))) (0, (1, ())) u v118) fun v120 => 
                       W.cnd (v120.2.1 != 0) (some ((0, ([], ([], ([], ([], ([], ([], ([], ([], ([], ([], ([], ())))))))))))), v120.2))
                        ((k6 v120.1)))) (W.call (ref01_IntW W v115) fun v121 => W.call (ref31_MoveW W (z3.2.1, (z3.2.2.1, (z3.2.2.2.1, (z3.2.2.2.2.1, (z3.2.2.2.2.2.1, (z3.2.2.2.2.2.2.1, (z3.2.2.2.2.2.2.2.1, (z3.2.2.2.2.2.2.2.2.1, (z3.2.2.2.2.2.2.2.2.2.1, (z3.2.2.2.2.2.2.2.2.2.2.1, (z3.2.2.2.2.2.2.2.2.2.2.2.1, (v117.1, ())))))))))))) (0, (1, ())) u v121) fun v122 => 
                      W.cnd (v122.2.1 != 0) (some ((0, ([], ([], ([], ([], ([], ([], ([], ([], ([], ([], ([], ())))))))))))), v122.2))
                       ((k6 v122.1))))))
                   fun k123 => W.call (ref01_OfW W x111.2.2.1) fun v124 => W.call (ref01_CmpW W v113 v124) fun v125 => 
                   W.cnd (decide (v125 < 0)) (W.call (ref01_IntW W v113) fun v126 => (k123 (x111.1, (x111.2.1, (v126, ())))))
                    ((k123 x111))) (W.call (ref12_SellW W v110.1 v112) fun v127 => 
                  W.join (fun (z128 : Int × Int × Int × Unit) => W.call (ref12_WorthW W v110.1 z128.2.2.1) fun v129 => W.call (ref01_FitsW W v129) fun v130 => 
                   W.cnd (!v130) (some ((0, ([], ([], ([], ([], ([], ([], ([], ([], ([], ([], ([], ())))))))))))), (7, ())))
                    (W.call (ref26_PassW W z3.2.2.2.2.2.2.2.2.2.2.2.2.1 u (0, (1, ())) z128 0) fun v131 => 
                    W.cnd (v131.2.1 != 0) (some ((0, ([], ([], ([], ([], ([], ([], ([], ([], ([], ([], ([], ())))))))))))), v131.2))
                     (W.both (W.call (ref01_IntW W v129) fun v132 => W.both (W.call (ref31_MoveW W (z3.2.1, (z3.2.2.1, (z3.2.2.2.1, (z3.2.2.2.2.1, (z3.2.2.2.2.2.1, (z3.2.2.2.2.2.2.1, (z3.2.2.2.2.2.2.2.1, (z3.2.2.2.2.2.2.2.2.1, (z3.2.2.2.2.2.2.2.2.2.1, (z3.2.2.2.2.2.2.2.2.2.2.1, (z3.2.2.2.2.2.2.2.2.2.2.2.1, (v131.1, ())))))))))))) (0, (1, ())) u v132) fun v133 => 
                       W.cnd (v133.2.1 != 0) (some ((0, ([], ([], ([], ([], ([], ([], ([], ([], ([], ([], ([], ())))))))))))), v133.2))
                        ((k6 v133.1))) (W.call (ref31_MoveW W (z3.2.1, (z3.2.2.1, (z3.2.2.2.1, (z3.2.2.2.2.1, (z3.2.2.2.2.2.1, (z3.2.2.2.2.2.2.1, (z3.2.2.2.2.2.2.2.1, (z3.2.2.2.2.2.2.2.2.1, (z3.2.2.2.2.2.2.2.2.2.1, (z3.2.2.2.2.2.2.2.2.2.2.1, (z3.2.2.2.2.2.2.2.2.2.2.2.1, (v131.1, ())))))))))))) (0, (1, ())) u v132) fun v134 => 
                       W.cnd (v134.2.1 != 0) (some ((0, ([], ([], ([], ([], ([], ([], ([], ([], ([], ([], ([], ())))))))))))), v134.2))
                        ((k6 v134.1)))) (W.call (ref01_IntW W v129) fun v135 => W.call (ref31_MoveW W (z3.2.1, (z3.2.2.1, (z3.2.2.2.1, (z3.2.2.2.2.1, (z3.2.2.2.2.2.1, (z3.2.2.2.2.2.2.1, (z3.2.2.2.2.2.2.2.1, (z3.2.2.2.2.2.2.2.2.1, (z3.2.2.2.2.2.2.2.2.2.1, (z3.2.2.2.2.2.2.2.2.2.2.1, (z3.2.2.2.2.2.2.2.2.2.2.2.1, (v131.1, ())))))))))))) (0, (1, ())) u v135) fun v136 => 
                      W.cnd (v136.2.1 != 0) (some ((0, ([], ([], ([], ([], ([], ([], ([], ([], ([], ([], ([], ())))))))))))), v136.2))
                       ((k6 v136.1))))))
                   fun k137 => W.call (ref01_OfW W x111.2.2.1) fun v138 => W.call (ref01_CmpW W v127 v138) fun v139 => 
                   W.cnd (decide (v139 < 0)) (W.call (ref01_IntW W v127) fun v140 => (k137 (x111.1, (x111.2.1, (v140, ())))))
                    ((k137 x111)))) (W.call (ref01_IntW W v106) fun v141 => W.call (ref12_SellW W v110.1 v141) fun v142 => 
                 W.join (fun (z143 : Int × Int × Int × Unit) => W.call (ref12_WorthW W v110.1 z143.2.2.1) fun v144 => W.call (ref01_FitsW W v144) fun v145 => 
                  W.cnd (!v145) (some ((0, ([], ([], ([], ([], ([], ([], ([], ([], ([], ([], ([], ())))))))))))), (7, ())))
                   (W.call (ref26_PassW W z3.2.2.2.2.2.2.2.2.2.2.2.2.1 u (0, (1, ())) z143 0) fun v146 => 
                   W.cnd (v146.2.1 != 0) (some ((0, ([], ([], ([], ([], ([], ([], ([], ([], ([], ([], ([], ())))))))))))), v146.2))
                    (W.both (W.call (ref01_IntW W v144) fun v147 => W.both (W.call (ref31_MoveW W (z3.2.1, (z3.2.2.1, (z3.2.2.2.1, (z3.2.2.2.2.1, (z3.2.2.2.2.2.1, (z3.2.2.2.2.2.2.1, (z3.2.2.2.2.2.2.2.1, (z3.2.2.2.2.2.2.2.2.1, (z3.2.2.2.2.2.2.2.2.2.1, (z3.2.2.2.2.2.2.2.2.2.2.1, (z3.2.2.2.2.2.2.2.2.2.2.2.1, (v146.1, ())))))))))))) (0, (1, ())) u v147) fun v148 => 
                      W.cnd (v148.2.1 != 0) (some ((0, ([], ([], ([], ([], ([], ([], ([], ([], ([], ([], ([], ())))))))))))), v148.2))
                       ((k6 v148.1))) (W.call (ref31_MoveW W (z3.2.1, (z3.2.2.1, (z3.2.2.2.1, (z3.2.2.2.2.1, (z3.2.2.2.2.2.1, (z3.2.2.2.2.2.2.1, (z3.2.2.2.2.2.2.2.1, (z3.2.2.2.2.2.2.2.2.1, (z3.2.2.2.2.2.2.2.2.2.1, (z3.2.2.2.2.2.2.2.2.2.2.1, (z3.2.2.2.2.2.2.2.2.2.2.2.1, (v146.1, ())))))))))))) (0, (1, ())) u v147) fun v149 => 
                      W.cnd (v149.2.1 != 0) (some ((0, ([], ([], ([], ([], ([], ([], ([], ([], ([], ([], ([], ())))))))))))), v149.2))
                       ((k6 v149.1)))) (W.call (ref01_IntW W v144) fun v150 => W.call (ref31_MoveW W (z3.2.1, (z3.2.2.1, (z3.2.2.2.1, (z3.2.2.2.2.1, (z3.2.2.2.2.2.1, (z3.2.2.2.2.2.2.1, (z3.2.2.2.2.2.2.2.1, (z3.2.2.2.2.2.2.2.2.1, (z3.2.2.2.2.2.2.2.2.2.1, (z3.2.2.2.2.2.2.2.2.2.2.1, (z3.2.2.2.2.2.2.2.2.2.2.2.1, (v146.1, ())))))))))))) (0, (1, ())) u v150) fun v151 => 
                     W.cnd (v151.2.1 != 0) (some ((0, ([], ([], ([], ([], ([], ([], ([], ([], ([], ([], ([], ())))))))))))), v151.2))
                      ((k6 v151.1))))))
                  fun k152 => W.call (ref01_OfW W x111.2.2.1) fun v153 => W.call (ref01_CmpW W v142 v153) fun v154 => 
                  W.cnd (decide (v154 < 0)) (W.call (ref01_IntW W v142) fun v155 => (k152 (x111.1, (x111.2.1, (v155, ())))))
                   ((k152 x111)))))) (W.call (ref12_FindW W z3.2.2.2.2.1 x109.1) fun v156 => 
              W.cnd (!v156.2.1) (some ((0, ([], ([], ([], ([], ([], ([], ([], ([], ([], ([], ([], ())))))))))))), (11, ())))
               (
               W.cnd (v156.1.2.1 == 0) ((k6 z3.2))
                (W.idx v2 z3.1 fun x157 => W.both (W.call (ref01_IntW W v106) fun v158 => W.both (W.call (ref12_SellW W v156.1 v158) fun v159 => 
                  W.join (fun (z160 : Int × Int × Int × Unit) => W.call (ref12_WorthW W v156.1 z160.2.2.1) fun v161 => W.call (ref01_FitsW W v161) fun v162 => 
                   W.cnd (!v162) (some ((0, ([], ([], ([], ([], ([], ([], ([], ([], ([], ([], ([], ())))))))))))), (7, ())))
                    (W.call (ref26_PassW W z3.2.2.2.2.2.2.2.2.2.2.2.2.1 u (0, (1, ())) z160 0) fun v163 => 
                    W.cnd (v163.2.1 != 0) (some ((0, ([], ([], ([], ([], ([], ([], ([], ([], ([], ([], ([], ())))))))))))), v163.2))
                     (W.both (W.call (ref01_IntW W v161) fun v164 => W.both (W.call (ref31_MoveW W (z3.2.1, (z3.2.2.1, (z3.2.2.2.1, (z3.2.2.2.2.1, (z3.2.2.2.2.2.1, (z3.2.2.2.2.2.2.1, (z3.2.2.2.2.2.2.2.1, (z3.2.2.2.2.2.2.2.2.1, (z3.2.2.2.2.2.2.2.2.2.1, (z3.2.2.2.2.2.2.2.2.2.2.1, (z3.2.2.2.2.2.2.2.2.2.2.2.1, (v163.1, ())))))))))))) (0, (1, ())) u v164) fun v165 => 
                       W.cnd (v165.2.1 != 0) (some ((0, ([], ([], ([], ([], ([], ([], ([], ([], ([], ([], ([], ())))))))))))), v165.2))
                        ((k6 v165.1))) (W.call (ref31_MoveW W (z3.2.1, (z3.2.2.1, (z3.2.2.2.1, (z3.2.2.2.2.1, (z3.2.2.2.2.2.1, (z3.2.2.2.2.2.2.1, (z3.2.2.2.2.2.2.2.1, (z3.2.2.2.2.2.2.2.2.1, (z3.2.2.2.2.2.2.2.2.2.1, (z3.2.2.2.2.2.2.2.2.2.2.1, (z3.2.2.2.2.2.2.2.2.2.2.2.1, (v163.1, ())))))))))))) (0, (1, ())) u v164) fun v166 => 
                       W.cnd (v166.2.1 != 0) (some ((0, ([], ([], ([], ([], ([], ([], ([], ([], ([], ([], ([], ())))))))))))), v166.2))
                        ((k6 v166.1)))) (W.call (ref01_IntW W v161) fun v167 => W.call (ref31_MoveW W (z3.2.1, (z3.2.2.1, (z3.2.2.2.1, (z3.2.2.2.2.1, (z3.2.2.2.2.2.1, (z3.2.2.2.2.2.2.1, (z3.2.2.2.2.2.2.2.1, (z3.2.2.2.2.2.2.2.2.1, (z3.2.2.2.2.2.2.2.2.2.1, (z3.2.2.2.2.2.2.2.2.2.2.1, (z3.2.2.2.2.2.2.2.2.2.2.2.1, (v163.1, ())))))))))))) (0, (1, ())) u v167) fun v168 => 
                      W.cnd (v168.2.1 != 0) (some ((0, ([], ([], ([], ([], ([], ([], ([], ([], ([], ([], ([], ())))))))))))), v168.2))
                       ((k6 v168.1))))))
                   fun k169 => W.call (ref01_OfW W x157.2.2.1) fun v170 => W.call (ref01_CmpW W v159 v170) fun v171 => 
                   W.cnd (decide (v171 < 0)) (W.call (ref01_IntW W v159) fun v172 => (k169 (x157.1, (x157.2.1, (v172, ())))))
                    ((k169 x157))) (W.call (ref12_SellW W v156.1 v158) fun v173 => 
                  W.join (fun (z174 : Int × Int × Int × Unit) => W.call (ref12_WorthW W v156.1 z174.2.2.1) fun v175 => W.call (ref01_FitsW W v175) fun v176 => 
                   W.cnd (!v176) (some ((0, ([], ([], ([], ([], ([], ([], ([], ([], ([], ([], ([], ())))))))))))), (7, ())))
                    (W.call (ref26_PassW W z3.2.2.2.2.2.2.2.2.2.2.2.2.1 u (0, (1, ())) z174 0) fun v177 => 
                    W.cnd (v177.2.1 != 0) (some ((0, ([], ([], ([], ([], ([], ([], ([], ([], ([], ([], ([], ())))))))))))), v177.2))
                     (W.both (W.call (ref01_IntW W v175) fun v178 => W.both (W.call (ref31_MoveW W (z3.2.1, (z3.2.2.1, (z3.2.2.2.1, (z3.2.2.2.2.1, (z3.2.2.2.2.2.1, (z3.2.2.2.2.2.2.1, (z3.2.2.2.2.2.2.2.1, (z3.2.2.2.2.2.2.2.2.1, (z3.2.2.2.2.2.2.2.2.2.1, (z3.2.2.2.2.2.2.2.2.2.2.1, (z3.2.2.2.2.2.2.2.2.2.2.2.1, (v177.1, ())))))))))))) (0, (1, ())) u v178) fun v179 => 
                       W.cnd (v179.2.1 != 0) (some ((0, ([], ([], ([], ([], ([], ([], ([], ([], ([], ([], ([], ())))))))))))), v179.2))
                        ((k6 v179.1))) (W.call (ref31_MoveW W (z3.2.1, (z3.2.2.1, (z3.2.2.2.1, (z3.2.2.2.2.1, (z3.2.2.2.2.2.1, (z3.2.2.2.2.2.2.1, (z3.2.2.2.2.2.2.2.1, (z3.2.2.2.2.2.2.2.2.1, (z3.2.2.2.2.2.2.2.2.2.1, (z3.2.2.2.2.2.2.2.2.2.2.1, (z3.2.2.2.2.2.2.2.2.2.2.2.1, (v177.1, ())))))))))))) (0, (1, ())) u v178) fun v180 => 
                       W.cnd (v180.2.1 != 0) (some ((0, ([], ([], ([], ([], ([], ([], ([], ([], ([], ([], ([], ())))))))))))), v180.2))
                        ((k6 v180.1)))) (W.call (ref01_IntW W v175) fun v181 => W.call (ref31_MoveW W (z3.2.1, (z3.2.2.1, (z3.2.2.2.1, (z3.2.2.2.2.1, (z3.2.2.2.2.2.1, (z3.2.2.2.2.2.2.1, (z3.2.2.2.2.2.2.2.1, (z3.2.2.2.2.2.2.2.2.1, (z3.2.2.2.2.2.2.2.2.2.1, (z3.2.2.2.2.2.2.2.2.2.2.1, (z3.2.2.2.2.2.2.2.2.2.2.2.1, (v177.1, ())))))))))))) (0, (1, ())) u v181) fun v182 => 
                      W.cnd (v182.2.1 != 0) (some ((0, ([], ([], ([], ([], ([], ([], ([], ([], ([], ([], ([], ())))))))))))), v182.2))
                       ((k6 v182.1))))))
                   fun k183 => W.call (ref01_OfW W x157.2.2.1) fun v184 => W.call (ref01_CmpW W v173 v184) fun v185 => 
                   W.cnd (decide (v185 < 0)) (W.call (ref01_IntW W v173) fun v186 => (k183 (x157.1, (x157.2.1, (v186, ())))))
                    ((k183 x157)))) (W.call (ref01_IntW W v106) fun v187 => W.call (ref12_SellW W v156.1 v187) fun v188 => 
                 W.join (fun (z189 : Int × Int × Int × Unit) => W.call (ref12_WorthW W v156.1 z189.2.2.1) fun v190 => W.call (ref01_FitsW W v190) fun v191 => 
                  W.cnd (!v191) (some ((0, ([], ([], ([], ([], ([], ([], ([], ([], ([], ([], ([], ())))))))))))), (7, ())))
                   (W.call (ref26_PassW W z3.2.2.2.2.2.2.2.2.2.2.2.2.1 u (0, (1, ())) z189 0) fun v192 => 
                   W.cnd (v192.2.1 != 0) (some ((0, ([], ([], ([], ([], ([], ([], ([], ([], ([], ([], ([], ())))))))))))), v192.2))
                    (W.both (W.call (ref01_IntW W v190) fun v193 => W.both (W.call (ref31_MoveW W (z3.2.1, (z3.2.2.1, (z3.2.2.2.1, (z3.2.2.2.2.1, (z3.2.2.2.2.2.1, (z3.2.2.2.2.2.2.1, (z3.2.2.2.2.2.2.2.1, (z3.2.2.2.2.2.2.2.2.1, (z3.2.2.2.2.2.2.2.2.2.1, (z3.2.2.2.2.2.2.2.2.2.2.1, (z3.2.2.2.2.2.2.2.2.2.2.2.1, (v192.1, ())))))))))))) (0, (1, ())) u v193) fun v194 => 
                      W.cnd (v194.2.1 != 0) (some ((0, ([], ([], ([], ([], ([], ([], ([], ([], ([], ([], ([], ())))))))))))), v194.2))
                       ((k6 v194.1))) (W.call (ref31_MoveW W (z3.2.1, (z3.2.2.1, (z3.2.2.2.1, (z3.2.2.2.2.1, (z3.2.2.2.2.2.1, (z3.2.2.2.2.2.2.1, (z3.2.2.2.2.2.2.2.1, (z3.2.2.2.2.2.2.2.2.1, (z3.2.2.2.2.2.2.2.2.2.1, (z3.2.2.2.2.2.2.2.2.2.2.1, (z3.2.2.2.2.2.2.2.2.2.2.2.1, (v192.1, ())))))))))))) (0, (1, ())) u v193) fun v195 => 
                      W.cnd (v195.2.1 != 0) (some ((0, ([], ([], ([], ([], ([], ([], ([], ([], ([], ([], ([], ())))))))))))), v195.2))
                       ((k6 v195.1)))) (W.call (ref01_IntW W v190) fun v196 => W.call (ref31_MoveW W (z3.2.1, (z3.2.2.1, (z3.2.2.2.1, (z3.2.2.2.2.1, (z3.2.2.2.2.2.1, (z3.2.2.2.2.2.2.1, (z3.2.2.2.2.2.2.2.1, (z3.2.2.2.2.2.2.2.2.1, (z3.2.2.2.2.2.2.2.2.2.1, (z3.2.2.2.2.2.2.2.2.2.2.1, (z3.2.2.2.2.2.2.2.2.2.2.2.1, (v192.1, ())))))))))))) (0, (1, ())) u v196) fun v197 => 
                     W.cnd (v197.2.1 != 0) (some ((0, ([], ([], ([], ([], ([], ([], ([], ([], ([], ([], ([], ())))))))))))), v197.2))
                      ((k6 v197.1))))))
                  fun k198 => W.call (ref01_OfW W x157.2.2.1) fun v199 => W.call (ref01_CmpW W v188 v199) fun v200 => 
                  W.cnd (decide (v200 < 0)) (W.call (ref01_IntW W v188) fun v201 => (k198 (x157.1, (x157.2.1, (v201, ())))))
                   ((k198 x157)))))))))) (W.call (ref01_OfW W v8) fun v202 => W.call (ref01_SubW W v7 v202) fun v203 => W.call (ref01_FitsW W v203) fun v204 => 
          W.cnd (!v204) (some ((0, ([], ([], ([], ([], ([], ([], ([], ([], ([], ([], ([], ())))))))))))), (7, ())))
           (W.call (ref01_IntW W v203) fun v205 => 
           W.cnd (decide (v205 ≤ 0)) ((k6 z3.2))
            (W.idx v2 z3.1 fun x206 => W.both (W.call (ref12_FindW W z3.2.2.2.2.1 x206.1) fun v207 => 
             W.cnd (!v207.2.1) (some ((0, ([], ([], ([], ([], ([], ([], ([], ([], ([], ([], ([], ())))))))))))), (11, ())))
              (
              W.cnd (v207.1.2.1 == 0) ((k6 z3.2))
               (W.idx v2 z3.1 fun x208 => W.both (W.call (ref01_IntW W v203) fun v209 => W.both (W.call (ref12_SellW W v207.1 v209) fun v210 => 
                 W.join (fun (z211 : Int × Int × Int × Unit) => W.call (ref12_WorthW W v207.1 z211.2.2.1) fun v212 => W.call (ref01_FitsW W v212) fun v213 => 
                  W.cnd (!v213) (some ((0, ([], ([], ([], ([], ([], ([], ([], ([], ([], ([], ([], ())))))))))))), (7, ())))
                   (W.call (ref26_PassW W z3.2.2.2.2.2.2.2.2.2.2.2.2.1 u (0, (1, ())) z211 0) fun v214 => 
                   W.cnd (v214.2.1 != 0) (some ((0, ([], ([], ([], ([], ([], ([], ([], ([], ([], ([], ([], ())))))))))))), v214.2))
                    (W.both (W.call (ref01_IntW W v212) fun v215 => W.both (W.call (ref31_MoveW W (z3.2.1, (z3.2.2.1, (z3.2.2.2.1, (z3.2.2.2.2.1, (z3.2.2.2.2.2.1, (z3.2.2.2.2.2.2.1, (z3.2.2.2.2.2.2.2.1, (z3.2.2.2.2.2.2.2.2.1, (z3.2.2.2.2.2.2.2.2.2.1, (z3.2.2.2.2.2.2.2.2.2.2.1, (z3.2.2.2.2.2.2.2.2.2.2.2.1, (v214.1, ())))))))))))) (0, (1, ())) u v215) fun v216 => 
                      W.cnd (v216.2.1 != 0) (some ((0, ([], ([], ([], ([], ([], ([], ([], ([], ([], ([], ([], ())))))))))))), v216.2))
                       ((k6 v216.1))) (W.call (ref31_MoveW W (z3.2.1, (z3.2.2.1, (z3.2.2.2.1, (z3.2.2.2.2.1, (z3.2.2.2.2.2.1, (z3.2.2.2.2.2.2.1, (z3.2.2.2.2.2.2.2.1, (z3.2.2.2.2.2.2.2.2.1, (z3.2.2.2.2.2.2.2.2.2.1, (z3.2.2.2.2.2.2.2.2.2.2.1, (z3.2.2.2.2.2.2.2.2.2.2.2.1, (v214.1, ())))))))))))) (0, (1, ())) u v215) fun v217 => 
                      W.cnd (v217.2.1 != 0) (some ((0, ([], ([], ([], ([], ([], ([], ([], ([], ([], ([], ([], ())))))))))))), v217.2))
                       ((k6 v217.1)))) (W.call (ref01_IntW W v212) fun v218 => W.call (ref31_MoveW W (z3.2.1, (z3.2.2.1, (z3.2.2.2.1, (z3.2.2.2.2.1, (z3.2.2.2.2.2.1, (z3.2.2.2.2.2.2.1, (z3.2.2.2.2.2.2.2.1, (z3.2.2.2.2.2.2.2.2.1, (z3.2.2.2.2.2.2.2.2.2.1, (z3.2.2.2.2.2.2.2.2.2.2.1, (z3.2.2.2.2.2.2.2.2.2.2.2.1, (v214.1, ())))))))))))) (0, (1, ())) u v218) fun v219 => 
                     W.cnd (v219.2.1 != 0) (some ((0, ([], ([], ([], ([], ([], ([], ([], ([], ([], ([], ([], ())))))))))))), v219.2))
                      ((k6 v219.1))))))
                  fun k220 => W.call (ref01_OfW W x208.2.2.1) fun v221 => W.call (ref01_CmpW W v210 v221) fun v222 => 
                  W.cnd (decide (v222 < 0)) (W.call (ref01_IntW W v210) fun v223 => (k220 (x208.1, (x208.2.1, (v223, ())))))
                   ((k220 x208))) (W.call (ref12_SellW W v207.1 v209) fun v224 => 
                 W.join (fun (z225 : Int × Int × Int × Unit) => W.call (ref12_WorthW W v207.1 z225.2.2.1) fun v226 => W.call (ref01_FitsW W v226) fun v227 => 
                  W.cnd (!v227) (some ((0, ([], ([], ([], ([], ([], ([], ([], ([], ([], ([], ([], ())))))))))))), (7, ())))
                   (W.call (ref26_PassW W z3.2.2.2.2.2.2.2.2.2.2.2.2.1 u (0, (1, ())) z225 0) fun v228 => 
                   W.cnd (v228.2.1 != 0) (some ((0, ([], ([], ([], ([], ([], ([], ([], ([], ([], ([], ([], ())))))))))))), v228.2))
                    (W.both (W.call (ref01_IntW W v226) fun v229 => W.both (W.call (ref31_MoveW W (z3.2.1, (z3.2.2.1, (z3.2.2.2.1, (z3.2.2.2.2.1, (z3.2.2.2.2.2.1, (z3.2.2.2.2.2.2.1, (z3.2.2.2.2.2.2.2.1, (z3.2.2.2.2.2.2.2.2.1, (z3.2.2.2.2.2.2.2.2.2.1, (z3.2.2.2.2.2.2.2.2.2.2.1, (z3.2.2.2.2.2.2.2.2.2.2.2.1, (v228.1, ())))))))))))) (0, (1, ())) u v229) fun v230 => 
                      W.cnd (v230.2.1 != 0) (some ((0, ([], ([], ([], ([], ([], ([], ([], ([], ([], ([], ([], ())))))))))))), v230.2))
                       ((k6 v230.1))) (W.call (ref31_MoveW W (z3.2.1, (z3.2.2.1, (z3.2.2.2.1, (z3.2.2.2.2.1, (z3.2.2.2.2.2.1, (z3.2.2.2.2.2.2.1, (z3.2.2.2.2.2.2.2.1, (z3.2.2.2.2.2.2.2.2.1, (z3.2.2.2.2.2.2.2.2.2.1, (z3.2.2.2.2.2.2.2.2.2.2.1, (z3.2.2.2.2.2.2.2.2.2.2.2.1, (v228.1, ())))))))))))) (0, (1, ())) u v229) fun v231 => 
                      W.cnd (v231.2.1 != 0) (some ((0, ([], ([], ([], ([], ([], ([], ([], ([], ([], ([], ([], ())))))))))))), v231.2))
                       ((k6 v231.1)))) (W.call (ref01_IntW W v226) fun v232 => W.call (ref31_MoveW W (z3.2.1, (z3.2.2.1, (z3.2.2.2.1, (z3.2.2.2.2.1, (z3.2.2.2.2.2.1, (z3.2.2.2.2.2.2.1, (z3.2.2.2.2.2.2.2.1, (z3.2.2.2.2.2.2.2.2.1, (z3.2.2.2.2.2.2.2.2.2.1, (z3.2.2.2.2.2.2.2.2.2.2.1, (z3.2.2.2.2.2.2.2.2.2.2.2.1, (v228.1, ())))))))))))) (0, (1, ())) u v232) fun v233 => 
                     W.cnd (v233.2.1 != 0) (some ((0, ([], ([], ([], ([], ([], ([], ([], ([], ([], ([], ([], ())))))))))))), v233.2))
                      ((k6 v233.1))))))
                  fun k234 => W.call (ref01_OfW W x208.2.2.1) fun v235 => W.call (ref01_CmpW W v224 v235) fun v236 => 
                  W.cnd (decide (v236 < 0)) (W.call (ref01_IntW W v224) fun v237 => (k234 (x208.1, (x208.2.1, (v237, ())))))
                   ((k234 x208)))) (W.call (ref01_IntW W v203) fun v238 => W.call (ref12_SellW W v207.1 v238) fun v239 => 
                W.join (fun (z240 : Int × Int × Int × Unit) => W.call (ref12_WorthW W v207.1 z240.2.2.1) fun v241 => W.call (ref01_FitsW W v241) fun v242 => 
                 W.cnd (!v242) (some ((0, ([], ([], ([], ([], ([], ([], ([], ([], ([], ([], ([], ())))))))))))), (7, ())))
                  (W.call (ref26_PassW W z3.2.2.2.2.2.2.2.2.2.2.2.2.1 u (0, (1, ())) z240 0) fun v243 => 
                  W.cnd (v243.2.1 != 0) (some ((0, ([], ([], ([], ([], ([], ([], ([], ([], ([], ([], ([], ())))))))))))), v243.2))
                   (W.both (W.call (ref01_IntW W v241) fun v244 => W.both (W.call (ref31_MoveW W (z3.2.1, (z3.2.2.1, (z3.2.2.2.1, (z3.2.2.2.2.1, (z3.2.2.2.2.2.1, (z3.2.2.2.2.2.2.1, (z3.2.2.2.2.2.2.2.1, (z3.2.2.2.2.2.2.2.2.1, (z3.2.2.2.2.2.2.2.2.2.1, (z3.2.2.2.2.2.2.2.2.2.2.1, (z3.2.2.2.2.2.2.2.2.2.2.2.1, (v243.1, ())))))))))))) (0, (1, ())) u v244) fun v245 => 
                     W.cnd (v245.2.1 != 0) (some ((0, ([], ([], ([], ([], ([], ([], ([], ([], ([], ([], ([], ())))))))))))), v245.2))
                      ((k6 v245.1))) (W.call (ref31_MoveW W (z3.2.1, (z3.2.2.1, (z3.2.2.2.1, (z3.2.2.2.2.1, (z3.2.2.2.2.2.1, (z3.2.2.2.2.2.2.1, (z3.2.2.2.2.2.2.2.1, (z3.2.2.2.2.2.2.2.2.1, (z3.2.2.2.2.2.2.2.2.2.1, (z3.2.2.2.2.2.2.2.2.2.2.1, (z3.2.2.2.2.2.2.2.2.2.2.2.1, (v243.1, ())))))))))))) (0, (1, ())) u v244) fun v246 => 
                     W.cnd (v246.2.1 != 0) (some ((0, ([], ([], ([], ([], ([], ([], ([], ([], ([], ([], ([], ())))))))))))), v246.2))
                      ((k6 v246.1)))) (W.call (ref01_IntW W v241) fun v247 => W.call (ref31_MoveW W (z3.2.1, (z3.2.2.1, (z3.2.2.2.1, (z3.2.2.2.2.1, (z3.2.2.2.2.2.1, (z3.2.2.2.2.2.2.1, (z3.2.2.2.2.2.2.2.1, (z3.2.2.2.2.2.2.2.2.1, (z3.2.2.2.2.2.2.2.2.2.1, (z3.2.2.2.2.2.2.2.2.2.2.1, (z3.2.2.2.2.2.2.2.2.2.2.2.1, (v243.1, ())))))))))))) (0, (1, ())) u v247) fun v248 => 
                    W.cnd (v248.2.1 != 0) (some ((0, ([], ([], ([], ([], ([], ([], ([], ([], ([], ([], ([], ())))))))))))), v248.2))
                     ((k6 v248.1))))))
                 fun k249 => W.call (ref01_OfW W x208.2.2.1) fun v250 => W.call (ref01_CmpW W v239 v250) fun v251 => 
                 W.cnd (decide (v251 < 0)) (W.call (ref01_IntW W v239) fun v252 => (k249 (x208.1, (x208.2.1, (v252, ())))))
                  ((k249 x208)))))) (W.call (ref12_FindW W z3.2.2.2.2.1 x206.1) fun v253 => 
             W.cnd (!v253.2.1) (some ((0, ([], ([], ([], ([], ([], ([], ([], ([], ([], ([], ([], ())))))))))))), (11, ())))
              (
              W.cnd (v253.1.2.1 == 0) ((k6 z3.2))
               (W.idx v2 z3.1 fun x254 => W.both (W.call (ref01_IntW W v203) fun v255 => W.both (W.call (ref12_SellW W v253.1 v255) fun v256 => 
                 W.join (fun (z257 : Int × Int × Int × Unit) => W.call (ref12_WorthW W v253.1 z257.2.2.1) fun v258 => W.call (ref01_FitsW W v258) fun v259 => 
                  W.cnd (!v259) (some ((0, ([], ([], ([], ([], ([], ([], ([], ([], ([], ([], ([], ())))))))))))), (7, ())))
                   (W.call (ref26_PassW W z3.2.2.2.2.2.2.2.2.2.2.2.2.1 u (0, (1, ())) z257 0) fun v260 => 
                   W.cnd (v260.2.1 != 0) (some ((0, ([], ([], ([], ([], ([], ([], ([], ([], ([], ([], ([], ())))))))))))), v260.2))
                    (W.both (W.call (ref01_IntW W v258) fun v261 => W.both (W.call (ref31_MoveW W (z3.2.1, (z3.2.2.1, (z3.2.2.2.1, (z3.2.2.2.2.1, (z3.2.2.2.2.2.1, (z3.2.2.2.2.2.2.1, (z3.2.2.2.2.2.2.2.1, (z3.2.2.2.2.2.2.2.2.1, (z3.2.2.2.2.2.2.2.2.2.1, (z3.2.2.2.2.2.2.2.2.2.2.1, (z3.2.2.2.2.2.2.2.2.2.2.2.1, (v260.1, ())))))))))))) (0, (1, ())) u v261) fun v262 => 
                      W.cnd (v262.2.1 != 0) (some ((0, ([], ([], ([], ([], ([], ([], ([], ([], ([], ([], ([], ())))))))))))), v262.2))
                       ((k6 v262.1))) (W.call (ref31_MoveW W (z3.2.1, (z3.2.2.1, (z3.2.2.2.1, (z3.2.2.2.2.1, (z3.2.2.2.2.2.1, (z3.2.2.2.2.2.2.1, (z3.2.2.2.2.2.2.2.1, (z3.2.2.2.2.2.2.2.2.1, (z3.2.2.2.2.2.2.2.2.2.1, (z3.2.2.2.2.2.2.2.2.2.2.1, (z3.2.2.2.2.2.2.2.2.2.2.2.1, (v260.1, ())))))))))))) (0, (1, ())) u v261) fun v263 => 
                      W.cnd (v263.2.1 != 0) (some ((0, ([], ([], ([], ([], ([], ([], ([], ([], ([], ([], ([], ())))))))))))), v263.2))
                       ((k6 v263.1)))) (W.call (ref01_IntW W v258) fun v264 => W.call (ref31_MoveW W (z3.2.1, (z3.2.2.1, (z3.2.2.2.1, (z3.2.2.2.2.1, (z3.2.2.2.2.2.1, (z3.2.2.2.2.2.2.1, (z3.2.2.2.2.2.2.2.1, (z3.2.2.2.2.2.2.2.2.1, (z3.2.2.2.2.2.2.2.2.2.1, (z3.2.2.2.2.2.2.2.2.2.2.1, (z3.2.2.2.2.2.2.2.2.2.2.2.1, (v260.1, ())))))))))))) (0, (1, ())) u v264) fun v265 => 
                     W.cnd (v265.2.1 != 0) (some ((0, ([], ([], ([], ([], ([], ([], ([], ([], ([], ([], ([], ())))))))))))), v265.2))
                      ((k6 v265.1))))))
                  fun k266 => W.call (ref01_OfW W x254.2.2.1) fun v267 => W.call (ref01_CmpW W v256 v267) fun v268 => 
                  W.cnd (decide (v268 < 0)) (W.call (ref01_IntW W v256) fun v269 => (k266 (x254.1, (x254.2.1, (v269, ())))))
                   ((k266 x254))) (W.call (ref12_SellW W v253.1 v255) fun v270 => 
                 W.join (fun (z271 : Int × Int × Int × Unit) => W.call (ref12_WorthW W v253.1 z271.2.2.1) fun v272 => W.call (ref01_FitsW W v272) fun v273 => 
                  W.cnd (!v273) (some ((0, ([], ([], ([], ([], ([], ([], ([], ([], ([], ([], ([], ())))))))))))), (7, ())))
                   (W.call (ref26_PassW W z3.2.2.2.2.2.2.2.2.2.2.2.2.1 u (0, (1, ())) z271 0) fun v274 => 
                   W.cnd (v274.2.1 != 0) (some ((0, ([], ([], ([], ([], ([], ([], ([], ([], ([], ([], ([], ())))))))))))), v274.2))
                    (W.both (W.call (ref01_IntW W v272) fun v275 => W.both (W.call (ref31_MoveW W (z3.2.1, (z3.2.2.1, (z3.2.2.2.1, (z3.2.2.2.2.1, (z3.2.2.2.2.2.1, (z3.2.2.2.2.2.2.1, (z3.2.2.2.2.2.2.2.1, (z3.2.2.2.2.2.2.2.2.1, (z3.2.2.2.2.2.2.2.2.2.1, (z3.2.2.2.2.2.2.2.2.2.2.1, (z3.2.2.2.2.2.2.2.2.2.2.2.1, (v274.1, ())))))))))))) (0, (1, ())) u v275) fun v276 => 
                      W.cnd (v276.2.1 != 0) (some ((0, ([], ([], ([], ([], ([], ([], ([], ([], ([], ([], ([], ())))))))))))), v276.2))
                       ((k6 v276.1))) (W.call (ref31_MoveW W (z3.2.1, (z3.2.2.1, (z3.2.2.2.1, (z3.2.2.2.2.1, (z3.2.2.2.2.2.1, (z3.2.2.2.2.2.2.1, (z3.2.2.2.2.2.2.2.1, (z3.2.2.2.2.2.2.2.2.1, (z3.2.2.2.2.2.2.2.2.2.1, (z3.2.2.2.2.2.2.2.2.2.2.1, (z3.2.2.2.2.2.2.2.2.2.2.2.1, (v274.1, ())))))))))))) (0, (1, ())) u v275) fun v277 => 
                      W.cnd (v277.2.1 != 0) (some ((0, ([], ([], ([], ([], ([], ([], ([], ([], ([], ([], ([], ())))))))))))), v277.2))
                       ((k6 v277.1)))) (W.call (ref01_IntW W v272) fun v278 => W.call (ref31_MoveW W (z3.2.1, (z3.2.2.1, (z3.2.2.2.1, (z3.2.2.2.2.1, (z3.2.2.2.2.2.1, (z3.2.2.2.2.2.2.1, (z3.2.2.2.2.2.2.2.1, (z3.2.2.2.2.2.2.2.2.1, (z3.2.2.2.2.2.2.2.2.2.1, (z3.2.2.2.2.2.2.2.2.2.2.1, (z3.2.2.2.2.2.2.2.2.2.2.2.1, (v274.1, ())))))))))))) (0, (1, ())) u v278) fun v279 => 
                     W.cnd (v279.2.1 != 0) (some ((0, ([], ([], ([], ([], ([], ([], ([], ([], ([], ([], ([], ())))))))))))), v279.2))
                      ((k6 v279.1))))))
                  fun k280 => W.call (ref01_OfW W x254.2.2.1) fun v281 => W.call (ref01_CmpW W v270 v281) fun v282 => 
                  W.cnd (decide (v282 < 0)) (W.call (ref01_IntW W v270) fun v283 => (k280 (x254.1, (x254.2.1, (v283, ())))))
                   ((k280 x254)))) (W.call (ref01_IntW W v203) fun v284 => W.call (ref12_SellW W v253.1 v284) fun v285 => 
                W.join (fun (z286 : Int × Int × Int × Unit) => W.call (ref12_WorthW W v253.1 z286.2.2.1) fun v287 => W.call (ref01_FitsW W v287) fun v288 => 
                 W.cnd (!v288) (some ((0, ([], ([], ([], ([], ([], ([], ([], ([], ([], ([], ([], ())))))))))))), (7, ())))
                  (W.call (ref26_PassW W z3.2.2.2.2.2.2.2.2.2.2.2.2.1 u (0, (1, ())) z286 0) fun v289 => 
                  W.cnd (v289.2.1 != 0) (some ((0, ([], ([], ([], ([], ([], ([], ([], ([], ([], ([], ([], ())))))))))))), v289.2))
                   (W.both (W.call (ref01_IntW W v287) fun v290 => W.both (W.call (ref31_MoveW W (z3.2.1, (z3.2.2.1, (z3.2.2.2.1, (z3.2.2.2.2.1, (z3.2.2.2.2.2.1, (z3.2.2.2.2.2.2.1, (z3.2.2.2.2.2.2.2.1, (z3.2.2.2.2.2.2.2.2.1, (z3.2.2.2.2.2.2.2.2.2.1, (z3.2.2.2.2.2.2.2.2.2.2.1, (z3.2.2.2.2.2.2.2.2.2.2.2.1, (v289.1, ())))))))))))) (0, (1, ())) u v290) fun v291 => 
                     W.cnd (v291.2.1 != 0) (some ((0, ([], ([], ([], ([], ([], ([], ([], ([], ([], ([], ([], ())))))))))))), v291.2))
                      ((k6 v291.1))) (W.call (ref31_MoveW W (z3.2.1, (z3.2.2.1, (z3.2.2.2.1, (z3.2.2.2.2.1, (z3.2.2.2.2.2.1, (z3.2.2.2.2.2.2.1, (z3.2.2.2.2.2.2.2.1, (z3.2.2.2.2.2.2.2.2.1, (z3.2.2.2.2.2.2.2.2.2.1, (z3.2.2.2.2.2.2.2.2.2.2.1, (z3.2.2.2.2.2.2.2.2.2.2.2.1, (v289.1, ())))))))))))) (0, (1, ())) u v290) fun v292 => 
                     W.cnd (v292.2.1 != 0) (some ((0, ([], ([], ([], ([], ([], ([], ([], ([], ([], ([], ([], ())))))))))))), v292.2))
                      ((k6 v292.1)))) (W.call (ref01_IntW W v287) fun v293 => W.call (ref31_MoveW W (z3.2.1, (z3.2.2.1, (z3.2.2.2.1, (z3.2.2.2.2.1, (z3.2.2.2.2.2.1, (z3.2.2.2.2.2.2.1, (z3.2.2.2.2.2.2.2.1, (z3.2.2.2.2.2.2.2.2.1, (z3.2.2.2.2.2.2.2.2.2.1, (z3.2.2.2.2.2.2.2.2.2.2.1, (z3.2.2.2.2.2.2.2.2.2.2.2.1, (v289.1, ())))))))))))) (0, (1, ())) u v293) fun v294 => 
                    W.cnd (v294.2.1 != 0) (some ((0, ([], ([], ([], ([], ([], ([], ([], ([], ([], ([], ([], ())))))))))))), v294.2))
                     ((k6 v294.1))))))
                 fun k295 => W.call (ref01_OfW W x254.2.2.1) fun v296 => W.call (ref01_CmpW W v285 v296) fun v297 => 
                 W.cnd (decide (v297 < 0)) (W.call (ref01_IntW W v285) fun v298 => (k295 (x254.1, (x254.2.1, (v298, ())))))
                  ((k295 x254)))))))))) (W.call (ref17_GetW W z3.2.2.2.2.2.2.2.2.2.2.2.1 u) fun v299 => W.call (ref01_OfW W v299) fun v300 => W.call (ref01_SubW W v7 v300) fun v301 => W.call (ref01_FitsW W v301) fun v302 => 
         W.cnd (!v302) (some ((0, ([], ([], ([], ([], ([], ([], ([], ([], ([], ([], ([], ())))))))))))), (7, ())))
          (W.call (ref01_IntW W v301) fun v303 => 
          W.cnd (decide (v303 ≤ 0)) ((k6 z3.2))
           (W.idx v2 z3.1 fun x304 => W.both (W.call (ref12_FindW W z3.2.2.2.2.1 x304.1) fun v305 => 
            W.cnd (!v305.2.1) (some ((0, ([], ([], ([], ([], ([], ([], ([], ([], ([], ([], ([], ())))))))))))), (11, ())))
             (
             W.cnd (v305.1.2.1 == 0) ((k6 z3.2))
              (W.idx v2 z3.1 fun x306 => W.both (W.call (ref01_IntW W v301) fun v307 => W.both (W.call (ref12_SellW W v305.1 v307) fun v308 => 
                W.join (fun (z309 : Int × Int × Int × Unit) => W.call (ref12_WorthW W v305.1 z309.2.2.1) fun v310 => W.call (ref01_FitsW W v310) fun v311 => 
                 W.cnd (!v311) (some ((0, ([], ([], ([], ([], ([], ([], ([], ([], ([], ([], ([], ())))))))))))), (7, ())))
                  (W.call (ref26_PassW W z3.2.2.2.2.2.2.2.2.2.2.2.2.1 u (0, (1, ())) z309 0) fun v312 => 
                  W.cnd (v312.2.1 != 0) (some ((0, ([], ([], ([], ([], ([], ([], ([], ([], ([], ([], ([], ())))))))))))), v312.2))
                   (W.both (W.call (ref01_IntW W v310) fun v313 => W.both (W.call (ref31_MoveW W (z3.2.1, (z3.2.2.1, (z3.2.2.2.1, (z3.2.2.2.2.1, (z3.2.2.2.2.2.1, (z3.2.2.2.2.2.2.1, (z3.2.2.2.2.2.2.2.1, (z3.2.2.2.2.2.2.2.2.1, (z3.2.2.2.2.2.2.2.2.2.1, (z3.2.2.2.2.2.2.2.2.2.2.1, (z3.2.2.2.2.2.2.2.2.2.2.2.1, (v312.1, ())))))))))))) (0, (1, ())) u v313) fun v314 => 
                     W.cnd (v314.2.1 != 0) (some ((0, ([], ([], ([], ([], ([], ([], ([], ([], ([], ([], ([], ())))))))))))), v314.2))
                      ((k6 v314.1))) (W.call (ref31_MoveW W (z3.2.1, (z3.2.2.1, (z3.2.2.2.1, (z3.2.2.2.2.1, (z3.2.2.2.2.2.1, (z3.2.2.2.2.2.2.1, (z3.2.2.2.2.2.2.2.1, (z3.2.2.2.2.2.2.2.2.1, (z3.2.2.2.2.2.2.2.2.2.1, (z3.2.2.2.2.2.2.2.2.2.2.1, (z3.2.2.2.2.2.2.2.2.2.2.2.1, (v312.1, ())))))))))))) (0, (1, ())) u v313) fun v315 => 
                     W.cnd (v315.2.1 != 0) (some ((0, ([], ([], ([], ([], ([], ([], ([], ([], ([], ([], ([], ())))))))))))), v315.2))
                      ((k6 v315.1)))) (W.call (ref01_IntW W v310) fun v316 => W.call (ref31_MoveW W (z3.2.1, (z3.2.2.1, (z3.2.2.2.1, (z3.2.2.2.2.1, (z3.2.2.2.2.2.1, (z3.2.2.2.2.2.2.1, (z3.2.2.2.2.2.2.2.1, (z3.2.2.2.2.2.2.2.2.1, (z3.2.2.2.2.2.2.2.2.2.1, (z3.2.2.2.2.2.2.2.2.2.2.1, (z3.2.2.2.2.2.2.2.2.2.2.2.1, (v312.1, ())))))))))))) (0, (1, ())) u v316) fun v317 => 
                    W.cnd (v317.2.1 != 0) (some ((0, ([], ([], ([], ([], ([], ([], ([], ([], ([], ([], ([], ())))))))))))), v317.2))
                     ((k6 v317.1))))))
                 fun k318 => W.call (ref01_OfW W x306.2.2.1) fun v319 => W.call (ref01_CmpW W v308 v319) fun v320 => 
                 W.cnd (decide (v320 < 0)) (W.call (ref01_IntW W v308) fun v321 => (k318 (x306.1, (x306.2.1, (v321, ())))))
                  ((k318 x306))) (W.call (ref12_SellW W v305.1 v307) fun v322 => 
                W.join (fun (z323 : Int × Int × Int × Unit) => W.call (ref12_WorthW W v305.1 z323.2.2.1) fun v324 => W.call (ref01_FitsW W v324) fun v325 => 
                 W.cnd (!v325) (some ((0, ([], ([], ([], ([], ([], ([], ([], ([], ([], ([], ([], ())))))))))))), (7, ())))
                  (W.call (ref26_PassW W z3.2.2.2.2.2.2.2.2.2.2.2.2.1 u (0, (1, ())) z323 0) fun v326 => 
                  W.cnd (v326.2.1 != 0) (some ((0, ([], ([], ([], ([], ([], ([], ([], ([], ([], ([], ([], ())))))))))))), v326.2))
                   (W.both (W.call (ref01_IntW W v324) fun v327 => W.both (W.call (ref31_MoveW W (z3.2.1, (z3.2.2.1, (z3.2.2.2.1, (z3.2.2.2.2.1, (z3.2.2.2.2.2.1, (z3.2.2.2.2.2.2.1, (z3.2.2.2.2.2.2.2.1, (z3.2.2.2.2.2.2.2.2.1, (z3.2.2.2.2.2.2.2.2.2.1, (z3.2.2.2.2.2.2.2.2.2.2.1, (z3.2.2.2.2.2.2.2.2.2.2.2.1, (v326.1, ())))))))))))) (0, (1, ())) u v327) fun v328 => 
                     W.cnd (v328.2.1 != 0) (some ((0, ([], ([], ([], ([], ([], ([], ([], ([], ([], ([], ([], ())))))))))))), v328.2))
                      ((k6 v328.1))) (W.call (ref31_MoveW W (z3.2.1, (z3.2.2.1, (z3.2.2.2.1, (z3.2.2.2.2.1, (z3.2.2.2.2.2.1, (z3.2.2.2.2.2.2.1, (z3.2.2.2.2.2.2.2.1, (z3.2.2.2.2.2.2.2.2.1, (z3.2.2.2.2.2.2.2.2.2.1, (z3.2.2.2.2.2.2.2.2.2.2.1, (z3.2.2.2.2.2.2.2.2.2.2.2.1, (v326.1, ())))))))))))) (0, (1, ())) u v327) fun v329 => 
                     W.cnd (v329.2.1 != 0) (some ((0, ([], ([], ([], ([], ([], ([], ([], ([], ([], ([], ([], ())))))))))))), v329.2))
                      ((k6 v329.1)))) (W.call (ref01_IntW W v324) fun v330 => W.call (ref31_MoveW W (z3.2.1, (z3.2.2.1, (z3.2.2.2.1, (z3.2.2.2.2.1, (z3.2.2.2.2.2.1, (z3.2.2.2.2.2.2.1, (z3.2.2.2.2.2.2.2.1, (z3.2.2.2.2.2.2.2.2.1, (z3.2.2.2.2.2.2.2.2.2.1, (z3.2.2.2.2.2.2.2.2.2.2.1, (z3.2.2.2.2.2.2.2.2.2.2.2.1, (v326.1, ())))))))))))) (0, (1, ())) u v330) fun v331 => 
                    W.cnd (v331.2.1 != 0) (some ((0, ([], ([], ([], ([], ([], ([], ([], ([], ([], ([], ([], ())))))))))))), v331.2))
                     ((k6 v331.1))))))
                 fun k332 => W.call (ref01_OfW W x306.2.2.1) fun v333 => W.call (ref01_CmpW W v322 v333) fun v334 => 
                 W.cnd (decide (v334 < 0)) (W.call (ref01_IntW W v322) fun v335 => (k332 (x306.1, (x306.2.1, (v335, ())))))
                  ((k332 x306)))) (W.call (ref01_IntW W v301) fun v336 => W.call (ref12_SellW W v305.1 v336) fun v337 => 
               W.join (fun (z338 : Int × Int × Int × Unit) => W.call (ref12_WorthW W v305.1 z338.2.2.1) fun v339 => W.call (ref01_FitsW W v339) fun v340 => 
                W.cnd (!v340) (some ((0, ([], ([], ([], ([], ([], ([], ([], ([], ([], ([], ([], ())))))))))))), (7, ())))
                 (W.call (ref26_PassW W z3.2.2.2.2.2.2.2.2.2.2.2.2.1 u (0, (1, ())) z338 0) fun v341 => 
                 W.cnd (v341.2.1 != 0) (some ((0, ([], ([], ([], ([], ([], ([], ([], ([], ([], ([], ([], ())))))))))))), v341.2))
                  (W.both (W.call (ref01_IntW W v339) fun v342 => W.both (W.call (ref31_MoveW W (z3.2.1, (z3.2.2.1, (z3.2.2.2.1, (z3.2.2.2.2.1, (z3.2.2.2.2.2.1, (z3.2.2.2.2.2.2.1, (z3.2.2.2.2.2.2.2.1, (z3.2.2.2.2.2.2.2.2.1, (z3.2.2.2.2.2.2.2.2.2.1, (z3.2.2.2.2.2.2.2.2.2.2.1, (z3.2.2.2.2.2.2.2.2.2.2.2.1, (v341.1, ())))))))))))) (0, (1, ())) u v342) fun v343 => 
                    W.cnd (v343.2.1 != 0) (some ((0, ([], ([], ([], ([], ([], ([], ([], ([], ([], ([], ([], ())))))))))))), v343.2))
                     ((k6 v343.1))) (W.call (ref31_MoveW W (z3.2.1, (z3.2.2.1, (z3.2.2.2.1, (z3.2.2.2.2.1, (z3.2.2.2.2.2.1, (z3.2.2.2.2.2.2.1, (z3.2.2.2.2.2.2.2.1, (z3.2.2.2.2.2.2.2.2.1, (z3.2.2.2.2.2.2.2.2.2.1, (z3.2.2.2.2.2.2.2.2.2.2.1, (z3.2.2.2.2.2.2.2.2.2.2.2.1, (v341.1, ())))))))))))) (0, (1, ())) u v342) fun v344 => 
                    W.cnd (v344.2.1 != 0) (some ((0, ([], ([], ([], ([], ([], ([], ([], ([], ([], ([], ([], ())))))))))))), v344.2))
                     ((k6 v344.1)))) (W.call (ref01_IntW W v339) fun v345 => W.call (ref31_MoveW W (z3.2.1, (z3.2.2.1, (z3.2.2.2.1, (z3.2.2.2.2.1, (z3.2.2.2.2.2.1, (z3.2.2.2.2.2.2.1, (z3.2.2.2.2.2.2.2.1, (z3.2.2.2.2.2.2.2.2.1, (z3.2.2.2.2.2.2.2.2.2.1, (z3.2.2.2.2.2.2.2.2.2.2.1, (z3.2.2.2.2.2.2.2.2.2.2.2.1, (v341.1, ())))))))))))) (0, (1, ())) u v345) fun v346 => 
                   W.cnd (v346.2.1 != 0) (some ((0, ([], ([], ([], ([], ([], ([], ([], ([], ([], ([], ([], ())))))))))))), v346.2))
                    ((k6 v346.1))))))
                fun k347 => W.call (ref01_OfW W x306.2.2.1) fun v348 => W.call (ref01_CmpW W v337 v348) fun v349 => 
                W.cnd (decide (v349 < 0)) (W.call (ref01_IntW W v337) fun v350 => (k347 (x306.1, (x306.2.1, (v350, ())))))
                 ((k347 x306)))))) (W.call (ref12_FindW W z3.2.2.2.2.1 x304.1) fun v351 => 
            W.cnd (!v351.2.1) (some ((0, ([], ([], ([], ([], ([], ([], ([], ([], ([], ([], ([], ())))))))))))), (11, ())))
             (
             W.cnd (v351.1.2.1 == 0) ((k6 z3.2))
              (W.idx v2 z3.1 fun x352 => W.both (W.call (ref01_IntW W v301) fun v353 => W.both (W.call (ref12_SellW W v351.1 v353) fun v354 => 
                W.join (fun (z355 : Int × Int × Int × Unit) => W.call (ref12_WorthW W v351.1 z355.2.2.1) fun v356 => W.call (ref01_FitsW W v356) fun v357 => 
                 W.cnd (!v357) (some ((0, ([], ([], ([], ([], ([], ([], ([], ([], ([], ([], ([], ())))))))))))), (7, ())))
                  (W.call (ref26_PassW W z3.2.2.2.2.2.2.2.2.2.2.2.2.1 u (0, (1, ())) z355 0) fun v358 => 
                  W.cnd (v358.2.1 != 0) (some ((0, ([], ([], ([], ([], ([], ([], ([], ([], ([], ([], ([], ())))))))))))), v358.2))
                   (W.both (W.call (ref01_IntW W v356) fun v359 => W.both (W.call (ref31_MoveW W (z3.2.1, (z3.2.2.1, (z3.2.2.2.1, (z3.2.2.2.2.1, (z3.2.2.2.2.2.1, (z3.2.2.2.2.2.2.1, (z3.2.2.2.2.2.2.2.1, (z3.2.2.2.2.2.2.2.2.1, (z3.2.2.2.2.2.2.2.2.2.1, (z3.2.2.2.2.2.2.2.2.2.2.1, (z3.2.2.2.2.2.2.2.2.2.2.2.1, (v358.1, ())))))))))))) (0, (1, ())) u v359) fun v360 => 
                     W.cnd (v360.2.1 != 0) (some ((0, ([], ([], ([], ([], ([], ([], ([], ([], ([], ([], ([], ())))))))))))), v360.2))
                      ((k6 v360.1))) (W.call (ref31_MoveW W (z3.2.1, (z3.2.2.1, (z3.2.2.2.1, (z3.2.2.2.2.1, (z3.2.2.2.2.2.1, (z3.2.2.2.2.2.2.1, (z3.2.2.2.2.2.2.2.1, (z3.2.2.2.2.2.2.2.2.1, (z3.2.2.2.2.2.2.2.2.2.1, (z3.2.2.2.2.2.2.2.2.2.2.1, (z3.2.2.2.2.2.2.2.2.2.2.2.1, (v358.1, ())))))))))))) (0, (1, ())) u v359) fun v361 => 
                     W.cnd (v361.2.1 != 0) (some ((0, ([], ([], ([], ([], ([], ([], ([], ([], ([], ([], ([], ())))))))))))), v361.2))
                      ((k6 v361.1)))) (W.call (ref01_IntW W v356) fun v362 => W.call (ref31_MoveW W (z3.2.1, (z3.2.2.1, (z3.2.2.2.1, (z3.2.2.2.2.1, (z3.2.2.2.2.2.1, (z3.2.2.2.2.2.2.1, (z3.2.2.2.2.2.2.2.1, (z3.2.2.2.2.2.2.2.2.1, (z3.2.2.2.2.2.2.2.2.2.1, (z3.2.2.2.2.2.2.2.2.2.2.1, (z3.2.2.2.2.2.2.2.2.2.2.2.1, (v358.1, ())))))))))))) (0, (1, ())) u v362) fun v363 => 
                    W.cnd (v363.2.1 != 0) (some ((0, ([], ([], ([], ([], ([], ([], ([], ([], ([], ([], ([], ())))))))))))), v363.2))
                     ((k6 v363.1))))))
                 fun k364 => W.call (ref01_OfW W x352.2.2.1) fun v365 => W.call (ref01_CmpW W v354 v365) fun v366 => 
                 W.cnd (decide (v366 < 0)) (W.call (ref01_IntW W v354) fun v367 => (k364 (x352.1, (x352.2.1, (v367, ())))))
                  ((k364 x352))) (W.call (ref12_SellW W v351.1 v353) fun v368 => 
                W.join (fun (z369 : Int × Int × Int × Unit) => W.call (ref12_WorthW W v351.1 z369.2.2.1) fun v370 => W.call (ref01_FitsW W v370) fun v371 => 
                 W.cnd (!v371) (some ((0, ([], ([], ([], ([], ([], ([], ([], ([], ([], ([], ([], ())))))))))))), (7, ())))
                  (W.call (ref26_PassW W z3.2.2.2.2.2.2.2.2.2.2.2.2.1 u (0, (1, ())) z369 0) fun v372 => 
                  W.cnd (v372.2.1 != 0) (some ((0, ([], ([], ([], ([], ([], ([], ([], ([], ([], ([], ([], ())))))))))))), v372.2))
                   (W.both (W.call (ref01_IntW W v370) fun v373 => W.both (W.call (ref31_MoveW W (z3.2.1, (z3.2.2.1, (z3.2.2.2.1, (z3.2.2.2.2.1, (z3.2.2.2.2.2.1, (z3.2.2.2.2.2.2.1, (z3.2.2.2.2.2.2.2.1, (z3.2.2.2.2.2.2.2.2.1, (z3.2.2.2.2.2.2.2.2.2.1, (z3.2.2.2.2.2.2.2.2.2.2.1, (z3.2.2.2.2.2.2.2.2.2.2.2.1, (v372.1, ())))))))))))) (0, (1, ())) u v373) fun v374 => 
                     W.cnd (v374.2.1 != 0) (some ((0, ([], ([], ([], ([], ([], ([], ([], ([], ([], ([], ([], ())))))))))))), v374.2))
                      ((k6 v374.1))) (W.call (ref31_MoveW W (z3.2.1, (z3.2.2.1, (z3.2.2.2.1, (z3.2.2.2.2.1, (z3.2.2.2.2.2.1, (z3.2.2.2.2.2.2.1, (z3.2.2.2.2.2.2.2.1, (z3.2.2.2.2.2.2.2.2.1, (z3.2.2.2.2.2.2.2.2.2.1, (z3.2.2.2.2.2.2.2.2.2.2.1, (z3.2.2.2.2.2.2.2.2.2.2.2.1, (v372.1, ())))))))))))) (0, (1, ())) u v373) fun v375 => 
                     W.cnd (v375.2.1 != 0) (some ((0, ([], ([], ([], ([], ([], ([], ([], ([], ([], ([], ([], ())))))))))))), v375.2))
                      ((k6 v375.1)))) (W.call (ref01_IntW W v370) fun v376 => W.call (ref31_MoveW W (z3.2.1, (z3.2.2.1, (z3.2.2.2.1, (z3.2.2.2.2.1, (z3.2.2.2.2.2.1, (z3.2.2.2.2.2.2.1, (z3.2.2.2.2.2.2.2.1, (z3.2.2.2.2.2.2.2.2.1, (z3.2.2.2.2.2.2.2.2.2.1, (z3.2.2.2.2.2.2.2.2.2.2.1, (z3.2.2.2.2.2.2.2.2.2.2.2.1, (v372.1, ())))))))))))) (0, (1, ())) u v376) fun v377 => 
                    W.cnd (v377.2.1 != 0) (some ((0, ([], ([], ([], ([], ([], ([], ([], ([], ([], ([], ([], ())))))))))))), v377.2))
                     ((k6 v377.1))))))
                 fun k378 => W.call (ref01_OfW W x352.2.2.1) fun v379 => W.call (ref01_CmpW W v368 v379) fun v380 => 
                 W.cnd (decide (v380 < 0)) (W.call (ref01_IntW W v368) fun v381 => (k378 (x352.1, (x352.2.1, (v381, ())))))
                  ((k378 x352)))) (W.call (ref01_IntW W v301) fun v382 => W.call (ref12_SellW W v351.1 v382) fun v383 => 
               W.join (fun (z384 : Int × Int × Int × Unit) => W.call (ref12_WorthW W v351.1 z384.2.2.1) fun v385 => W.call (ref01_FitsW W v385) fun v386 => 
                W.cnd (!v386) (some ((0, ([], ([], ([], ([], ([], ([], ([], ([], ([], ([], ([], ())))))))))))), (7, ())))
                 (W.call (ref26_PassW W z3.2.2.2.2.2.2.2.2.2.2.2.2.1 u (0, (1, ())) z384 0) fun v387 => 
                 W.cnd (v387.2.1 != 0) (some ((0, ([], ([], ([], ([], ([], ([], ([], ([], ([], ([], ([], ())))))))))))), v387.2))
                  (W.both (W.call (ref01_IntW W v385) fun v388 => W.both (W.call (ref31_MoveW W (z3.2.1, (z3.2.2.1, (z3.2.2.2.1, (z3.2.2.2.2.1, (z3.2.2.2.2.2.1, (z3.2.2.2.2.2.2.1, (z3.2.2.2.2.2.2.2.1, (z3.2.2.2.2.2.2.2.2.1, (z3.2.2.2.2.2.2.2.2.2.1, (z3.2.2.2.2.2.2.2.2.2.2.1, (z3.2.2.2.2.2.2.2.2.2.2.2.1, (v387.1, ())))))))))))) (0, (1, ())) u v388) fun v389 => 
                    W.cnd (v389.2.1 != 0) (some ((0, ([], ([], ([], ([], ([], ([], ([], ([], ([], ([], ([], ())))))))))))), v389.2))
                     ((k6 v389.1))) (W.call (ref31_MoveW W (z3.2.1, (z3.2.2.1, (z3.2.2.2.1, (z3.2.2.2.2.1, (z3.2.2.2.2.2.1, (z3.2.2.2.2.2.2.1, (z3.2.2.2.2.2.2.2.1, (z3.2.2.2.2.2.2.2.2.1, (z3.2.2.2.2.2.2.2.2.2.1, (z3.2.2.2.2.2.2.2.2.2.2.1, (z3.2.2.2.2.2.2.2.2.2.2.2.1, (v387.1, ())))))))))))) (0, (1, ())) u v388) fun v390 => 
                    W.cnd (v390.2.1 != 0) (some ((0, ([], ([], ([], ([], ([], ([], ([], ([], ([], ([], ([], ())))))))))))), v390.2))
                     ((k6 v390.1)))) (W.call (ref01_IntW W v385) fun v391 => W.call (ref31_MoveW W (z3.2.1, (z3.2.2.1, (z3.2.2.2.1, (z3.2.2.2.2.1, (z3.2.2.2.2.2.1, (z3.2.2.2.2.2.2.1, (z3.2.2.2.2.2.2.2.1, (z3.2.2.2.2.2.2.2.2.1, (z3.2.2.2.2.2.2.2.2.2.1, (z3.2.2.2.2.2.2.2.2.2.2.1, (z3.2.2.2.2.2.2.2.2.2.2.2.1, (v387.1, ())))))))))))) (0, (1, ())) u v391) fun v392 => 
                   W.cnd (v392.2.1 != 0) (some ((0, ([], ([], ([], ([], ([], ([], ([], ([], ([], ([], ([], ())))))))))))), v392.2))
                    ((k6 v392.1))))))
                fun k393 => W.call (ref01_OfW W x352.2.2.1) fun v394 => W.call (ref01_CmpW W v383 v394) fun v395 => 
                W.cnd (decide (v395 < 0)) (W.call (ref01_IntW W v383) fun v396 => (k393 (x352.1, (x352.2.1, (v396, ())))))
                 ((k393 x352)))))))))) (W.call (ref01_OfW W cash) fun v397 => W.call (ref17_GetW W z3.2.2.2.2.2.2.2.2.2.2.2.1 u) fun v398 => W.call (ref01_OfW W v398) fun v399 => W.call (ref01_SubW W v397 v399) fun v400 => W.call (ref01_FitsW W v400) fun v401 => 
        W.cnd (!v401) (some ((0, ([], ([], ([], ([], ([], ([], ([], ([], ([], ([], ([], ())))))))))))), (7, ())))
         (W.call (ref01_IntW W v400) fun v402 => 
         W.cnd (decide (v402 ≤ 0)) ((k6 z3.2))
          (W.idx v2 z3.1 fun x403 => W.both (W.call (ref12_FindW W z3.2.2.2.2.1 x403.1) fun v404 => 
           W.cnd (!v404.2.1) (some ((0, ([], ([], ([], ([], ([], ([], ([], ([], ([], ([], ([], ())))))))))))), (11, ())))
            (
            W.cnd (v404.1.2.1 == 0) ((k6 z3.2))
             (W.idx v2 z3.1 fun x405 => W.both (W.call (ref01_IntW W v400) fun v406 => W.both (W.call (ref12_SellW W v404.1 v406) fun v407 => 
               W.join (fun (z408 : Int × Int × Int × Unit) => W.call (ref12_WorthW W v404.1 z408.2.2.1) fun v409 => W.call (ref01_FitsW W v409) fun v410 => 
                W.cnd (!v410) (some ((0, ([], ([], ([], ([], ([], ([], ([], ([], ([], ([], ([], ())))))))))))), (7, ())))
                 (W.call (ref26_PassW W z3.2.2.2.2.2.2.2.2.2.2.2.2.1 u (0, (1, ())) z408 0) fun v411 => 
                 W.cnd (v411.2.1 != 0) (some ((0, ([], ([], ([], ([], ([], ([], ([], ([], ([], ([], ([], ())))))))))))), v411.2))
                  (W.both (W.call (ref01_IntW W v409) fun v412 => W.both (W.call (ref31_MoveW W (z3.2.1, (z3.2.2.1, (z3.2.2.2.1, (z3.2.2.2.2.1, (z3.2.2.2.2.2.1, (z3.2.2.2.2.2.2.1, (z3.2.2.2.2.2.2.2.1, (z3.2.2.2.2.2.2.2.2.1, (z3.2.2.2.2.2.2.2.2.2.1, (z3.2.2.2.2.2.2.2.2.2.2.1, (z3.2.2.2.2.2.2.2.2.2.2.2.1, (v411.1, ())))))))))))) (0, (1, ())) u v412) fun v413 => 
                    W.cnd (v413.2.1 != 0) (some ((0, ([], ([], ([], ([], ([], ([], ([], ([], ([], ([], ([], ())))))))))))), v413.2))
                     ((k6 v413.1))) (W.call (ref31_MoveW W (z3.2.1, (z3.2.2.1, (z3.2.2.2.1, (z3.2.2.2.2.1, (z3.2.2.2.2.2.1, (z3.2.2.2.2.2.2.1, (z3.2.2.2.2.2.2.2.1, (z3.2.2.2.2.2.2.2.2.1, (z3.2.2.2.2.2.2.2.2.2.1, (z3.2.2.2.2.2.2.2.2.2.2.1, (z3.2.2.2.2.2.2.2.2.2.2.2.1, (v411.1, ())))))))))))) (0, (1, ())) u v412) fun v414 => 
                    W.cnd (v414.2.1 != 0) (some ((0, ([], ([], ([], ([], ([], ([], ([], ([], ([], ([], ([], ())))))))))))), v414.2))
                     ((k6 v414.1)))) (W.call (ref01_IntW W v409) fun v415 => W.call (ref31_MoveW W (z3.2.1, (z3.2.2.1, (z3.2.2.2.1, (z3.2.2.2.2.1, (z3.2.2.2.2.2.1, (z3.2.2.2.2.2.2.1, (z3.2.2.2.2.2.2.2.1, (z3.2.2.2.2.2.2.2.2.1, (z3.2.2.2.2.2.2.2.2.2.1, (z3.2.2.2.2.2.2.2.2.2.2.1, (z3.2.2.2.2.2.2.2.2.2.2.2.1, (v411.1, ())))))))))))) (0, (1, ())) u v415) fun v416 => 
                   W.cnd (v416.2.1 != 0) (some ((0, ([], ([], ([], ([], ([], ([], ([], ([], ([], ([], ([], ())))))))))))), v416.2))
                    ((k6 v416.1))))))
                fun k417 => W.call (ref01_OfW W x405.2.2.1) fun v418 => W.call (ref01_CmpW W v407 v418) fun v419 => 
                W.cnd (decide (v419 < 0)) (W.call (ref01_IntW W v407) fun v420 => (k417 (x405.1, (x405.2.1, (v420, ())))))
                 ((k417 x405))) (W.call (ref12_SellW W v404.1 v406) fun v421 => 
               W.join (fun (z422 : Int × Int × Int × Unit) => W.call (ref12_WorthW W v404.1 z422.2.2.1) fun v423 => W.call (ref01_FitsW W v423) fun v424 => 
                W.cnd (!v424) (some ((0, ([], ([], ([], ([], ([], ([], ([], ([], ([], ([], ([], ())))))))))))), (7, ())))
                 (W.call (ref26_PassW W z3.2.2.2.2.2.2.2.2.2.2.2.2.1 u (0, (1, ())) z422 0) fun v425 => 
                 W.cnd (v425.2.1 != 0) (some ((0, ([], ([], ([], ([], ([], ([], ([], ([], ([], ([], ([], ())))))))))))), v425.2))
                  (W.both (W.call (ref01_IntW W v423) fun v426 => W.both (W.call (ref31_MoveW W (z3.2.1, (z3.2.2.1, (z3.2.2.2.1, (z3.2.2.2.2.1, (z3.2.2.2.2.2.1, (z3.2.2.2.2.2.2.1, (z3.2.2.2.2.2.2.2.1, (z3.2.2.2.2.2.2.2.2.1, (z3.2.2.2.2.2.2.2.2.2.1, (z3.2.2.2.2.2.2.2.2.2.2.1, (z3.2.2.2.2.2.2.2.2.2.2.2.1, (v425.1, ())))))))))))) (0, (1, ())) u v426) fun v427 => 
                    W.cnd (v427.2.1 != 0) (some ((0, ([], ([], ([], ([], ([], ([], ([], ([], ([], ([], ([], ())))))))))))), v427.2))
                     ((k6 v427.1))) (W.call (ref31_MoveW W (z3.2.1, (z3.2.2.1, (z3.2.2.2.1, (z3.2.2.2.2.1, (z3.2.2.2.2.2.1, (z3.2.2.2.2.2.2.1, (z3.2.2.2.2.2.2.2.1, (z3.2.2.2.2.2.2.2.2.1, (z3.2.2.2.2.2.2.2.2.2.1, (z3.2.2.2.2.2.2.2.2.2.2.1, (z3.2.2.2.2.2.2.2.2.2.2.2.1, (v425.1, ())))))))))))) (0, (1, ())) u v426) fun v428 => 
                    W.cnd (v428.2.1 != 0) (some ((0, ([], ([], ([], ([], ([], ([], ([], ([], ([], ([], ([], ())))))))))))), v428.2))
                     ((k6 v428.1)))) (W.call (ref01_IntW W v423) fun v429 => W.call (ref31_MoveW W (z3.2.1, (z3.2.2.1, (z3.2.2.2.1, (z3.2.2.2.2.1, (z3.2.2.2.2.2.1, (z3.2.2.2.2.2.2.1, (z3.2.2.2.2.2.2.2.1, (z3.2.2.2.2.2.2.2.2.1, (z3.2.2.2.2.2.2.2.2.2.1, (z3.2.2.2.2.2.2.2.2.2.2.1, (z3.2.2.2.2.2.2.2.2.2.2.2.1, (v425.1, ())))))))))))) (0, (1, ())) u v429) fun v430 => 
                   W.cnd (v430.2.1 != 0) (some ((0, ([], ([], ([], ([], ([], ([], ([], ([], ([], ([], ([], ())))))))))))), v430.2))
                    ((k6 v430.1))))))
                fun k431 => W.call (ref01_OfW W x405.2.2.1) fun v432 => W.call (ref01_CmpW W v421 v432) fun v433 => 
                W.cnd (decide (v433 < 0)) (W.call (ref01_IntW W v421) fun v434 => (k431 (x405.1, (x405.2.1, (v434, ())))))
                 ((k431 x405)))) (W.call (ref01_IntW W v400) fun v435 => W.call (ref12_SellW W v404.1 v435) fun v436 => 
              W.join (fun (z437 : Int × Int × Int × Unit) => W.call (ref12_WorthW W v404.1 z437.2.2.1) fun v438 => W.call (ref01_FitsW W v438) fun v439 => 
               W.cnd (!v439) (some ((0, ([], ([], ([], ([], ([], ([], ([], ([], ([], ([], ([], ())))))))))))), (7, ())))
                (W.call (ref26_PassW W z3.2.2.2.2.2.2.2.2.2.2.2.2.1 u (0, (1, ())) z437 0) fun v440 => 
                W.cnd (v440.2.1 != 0) (some ((0, ([], ([], ([], ([], ([], ([], ([], ([], ([], ([], ([], ())))))))))))), v440.2))
                 (W.both (W.call (ref01_IntW W v438) fun v441 => W.both (W.call (ref31_MoveW W (z3.2.1, (z3.2.2.1, (z3.2.2.2.1, (z3.2.2.2.2.1, (z3.2.2.2.2.2.1, (z3.2.2.2.2.2.2.1, (z3.2.2.2.2.2.2.2.1, (z3.2.2.2.2.2.2.2.2.1, (z3.2.2.2.2.2.2.2.2.2.1, (z3.2.2.2.2.2.2.2.2.2.2.1, (z3.2.2.2.2.2.2.2.2.2.2.2.1, (v440.1, ())))))))))))) (0, (1, ())) u v441) fun v442 => 
                   W.cnd (v442.2.1 != 0) (some ((0, ([], ([], ([], ([], ([], ([], ([], ([], ([], ([], ([], ())))))))))))), v442.2))
                    ((k6 v442.1))) (W.call (ref31_MoveW W (z3.2.1, (z3.2.2.1, (z3.2.2.2.1, (z3.2.2.2.2.1, (z3.2.2.2.2.2.1, (z3.2.2.2.2.2.2.1, (z3.2.2.2.2.2.2.2.1, (z3.2.2.2.2.2.2.2.2.1, (z3.2.2.2.2.2.2.2.2.2.1, (z3.2.2.2.2.2.2.2.2.2.2.1, (z3.2.2.2.2.2.2.2.2.2.2.2.1, (v440.1, ())))))))))))) (0, (1, ())) u v441) fun v443 => 
                   W.cnd (v443.2.1 != 0) (some ((0, ([], ([], ([], ([], ([], ([], ([], ([], ([], ([], ([], ())))))))))))), v443.2))
                    ((k6 v443.1)))) (W.call (ref01_IntW W v438) fun v444 => W.call (ref31_MoveW W (z3.2.1, (z3.2.2.1, (z3.2.2.2.1, (z3.2.2.2.2.1, (z3.2.2.2.2.2.1, (z3.2.2.2.2.2.2.1, (z3.2.2.2.2.2.2.2.1, (z3.2.2.2.2.2.2.2.2.1, (z3.2.2.2.2.2.2.2.2.2.1, (z3.2.2.2.2.2.2.2.2.2.2.1, (z3.2.2.2.2.2.2.2.2.2.2.2.1, (v440.1, ())))))))))))) (0, (1, ())) u v444) fun v445 => 
                  W.cnd (v445.2.1 != 0) (some ((0, ([], ([], ([], ([], ([], ([], ([], ([], ([], ([], ([], ())))))))))))), v445.2))
                   ((k6 v445.1))))))
               fun k446 => W.call (ref01_OfW W x405.2.2.1) fun v447 => W.call (ref01_CmpW W v436 v447) fun v448 => 
               W.cnd (decide (v448 < 0)) (W.call (ref01_IntW W v436) fun v449 => (k446 (x405.1, (x405.2.1, (v449, ())))))
                ((k446 x405)))))) (W.call (ref12_FindW W z3.2.2.2.2.1 x403.1) fun v450 => 
           W.cnd (!v450.2.1) (some ((0, ([], ([], ([], ([], ([], ([], ([], ([], ([], ([], ([], ())))))))))))), (11, ())))
            (
            W.cnd (v450.1.2.1 == 0) ((k6 z3.2))
             (W.idx v2 z3.1 fun x451 => W.both (W.call (ref01_IntW W v400) fun v452 => W.both (W.call (ref12_SellW W v450.1 v452) fun v453 => 
               W.join (fun (z454 : Int × Int × Int × Unit) => W.call (ref12_WorthW W v450.1 z454.2.2.1) fun v455 => W.call (ref01_FitsW W v455) fun v456 => 
                W.cnd (!v456) (some ((0, ([], ([], ([], ([], ([], ([], ([], ([], ([], ([], ([], ())))))))))))), (7, ())))
                 (W.call (ref26_PassW W z3.2.2.2.2.2.2.2.2.2.2.2.2.1 u (0, (1, ())) z454 0) fun v457 => 
                 W.cnd (v457.2.1 != 0) (some ((0, ([], ([], ([], ([], ([], ([], ([], ([], ([], ([], ([], ())))))))))))), v457.2))
                  (W.both (W.call (ref01_IntW W v455) fun v458 => W.both (W.call (ref31_MoveW W (z3.2.1, (z3.2.2.1, (z3.2.2.2.1, (z3.2.2.2.2.1, (z3.2.2.2.2.2.1, (z3.2.2.2.2.2.2.1, (z3.2.2.2.2.2.2.2.1, (z3.2.2.2.2.2.2.2.2.1, (z3.2.2.2.2.2.2.2.2.2.1, (z3.2.2.2.2.2.2.2.2.2.2.1, (z3.2.2.2.2.2.2.2.2.2.2.2.1, (v457.1, ())))))))))))) (0, (1, ())) u v458) fun v459 => 
                    W.cnd (v459.2.1 != 0) (some ((0, ([], ([], ([], ([], ([], ([], ([], ([], ([], ([], ([], ())))))))))))), v459.2))
                     ((k6 v459.1))) (W.call (ref31_MoveW W (z3.2.1, (z3.2.2.1, (z3.2.2.2.1, (z3.2.2.2.2.1, (z3.2.2.2.2.2.1, (z3.2.2.2.2.2.2.1, (z3.2.2.2.2.2.2.2.1, (z3.2.2.2.2.2.2.2.2.1, (z3.2.2.2.2.2.2.2.2.2.1, (z3.2.2.2.2.2.2.2.2.2.2.1, (z3.2.2.2.2.2.2.2.2.2.2.2.1, (v457.1, ())))))))))))) (0, (1, ())) u v458) fun v460 => 
                    W.cnd (v460.2.1 != 0) (some ((0, ([], ([], ([], ([], ([], ([], ([], ([], ([], ([], ([], ())))))))))))), v460.2))
                     ((k6 v460.1)))) (W.call (ref01_IntW W v455) fun v461 => W.call (ref31_MoveW W (z3.2.1, (z3.2.2.1, (z3.2.2.2.1, (z3.2.2.2.2.1, (z3.2.2.2.2.2.1, (z3.2.2.2.2.2.2.1, (z3.2.2.2.2.2.2.2.1, (z3.2.2.2.2.2.2.2.2.1, (z3.2.2.2.2.2.2.2.2.2.1, (z3.2.2.2.2.2.2.2.2.2.2.1, (z3.2.2.2.2.2.2.2.2.2.2.2.1, (v457.1, ())))))))))))) (0, (1, ())) u v461) fun v462 => 
                   W.cnd (v462.2.1 != 0) (some ((0, ([], ([], ([], ([], ([], ([], ([], ([], ([], ([], ([], ())))))))))))), v462.2))
                    ((k6 v462.1))))))
                fun k463 => W.call (ref01_OfW W x451.2.2.1) fun v464 => W.call (ref01_CmpW W v453 v464) fun v465 => 
                W.cnd (decide (v465 < 0)) (W.call (ref01_IntW W v453) fun v466 => (k463 (x451.1, (x451.2.1, (v466, ())))))
                 ((k463 x451))) (W.call (ref12_SellW W v450.1 v452) fun v467 => 
               W.join (fun (z468 : Int × Int × Int × Unit) => W.call (ref12_WorthW W v450.1 z468.2.2.1) fun v469 => W.call (ref01_FitsW W v469) fun v470 => 
                W.cnd (!v470) (some ((0, ([], ([], ([], ([], ([], ([], ([], ([], ([], ([], ([], ())))))))))))), (7, ())))
                 (W.call (ref26_PassW W z3.2.2.2.2.2.2.2.2.2.2.2.2.1 u (0, (1, ())) z468 0) fun v471 => 
                 W.cnd (v471.2.1 != 0) (some ((0, ([], ([], ([], ([], ([], ([], ([], ([], ([], ([], ([], ())))))))))))), v471.2))
                  (W.both (W.call (ref01_IntW W v469) fun v472 => W.both (W.call (ref31_MoveW W (z3.2.1, (z3.2.2.1, (z3.2.2.2.1, (z3.2.2.2.2.1, (z3.2.2.2.2.2.1, (z3.2.2.2.2.2.2.1, (z3.2.2.2.2.2.2.2.1, (z3.2.2.2.2.2.2.2.2.1, (z3.2.2.2.2.2.2.2.2.2.1, (z3.2.2.2.2.2.2.2.2.2.2.1, (z3.2.2.2.2.2.2.2.2.2.2.2.1, (v471.1, ())))))))))))) (0, (1, ())) u v472) fun v473 => 
                    W.cnd (v473.2.1 != 0) (some ((0, ([], ([], ([], ([], ([], ([], ([], ([], ([], ([], ([], ())))))))))))), v473.2))
                     ((k6 v473.1))) (W.call (ref31_MoveW W (z3.2.1, (z3.2.2.1, (z3.2.2.2.1, (z3.2.2.2.2.1, (z3.2.2.2.2.2.1, (z3.2.2.2.2.2.2.1, (z3.2.2.2.2.2.2.2.1, (z3.2.2.2.2.2.2.2.2.1, (z3.2.2.2.2.2.2.2.2.2.1, (z3.2.2.2.2.2.2.2.2.2.2.1, (z3.2.2.2.2.2.2.2.2.2.2.2.1, (v471.1, ())))))))))))) (0, (1, ())) u v472) fun v474 => 
                    W.cnd (v474.2.1 != 0) (some ((0, ([], ([], ([], ([], ([], ([], ([], ([], ([], ([], ([], ())))))))))))), v474.2))
                     ((k6 v474.1)))) (W.call (ref01_IntW W v469) fun v475 => W.call (ref31_MoveW W (z3.2.1, (z3.2.2.1, (z3.2.2.2.1, (z3.2.2.2.2.1, (z3.2.2.2.2.2.1, (z3.2.2.2.2.2.2.1, (z3.2.2.2.2.2.2.2.1, (z3.2.2.2.2.2.2.2.2.1, (z3.2.2.2.2.2.2.2.2.2.1, (z3.2.2.2.2.2.2.2.2.2.2.1, (z3.2.2.2.2.2.2.2.2.2.2.2.1, (v471.1, ())))))))))))) (0, (1, ())) u v475) fun v476 => 
                   W.cnd (v476.2.1 != 0) (some ((0, ([], ([], ([], ([], ([], ([], ([], ([], ([], ([], ([], ())))))))))))), v476.2))
                    ((k6 v476.1))))))
                fun k477 => W.call (ref01_OfW W x451.2.2.1) fun v478 => W.call (ref01_CmpW W v467 v478) fun v479 => 
                W.cnd (decide (v479 < 0)) (W.call (ref01_IntW W v467) fun v480 => (k477 (x451.1, (x451.2.1, (v480, ())))))
                 ((k477 x451)))) (W.call (ref01_IntW W v400) fun v481 => W.call (ref12_SellW W v450.1 v481) fun v482 => 
              W.join (fun (z483 : Int × Int × Int × Unit) => W.call (ref12_WorthW W v450.1 z483.2.2.1) fun v484 => W.call (ref01_FitsW W v484) fun v485 => 
               W.cnd (!v485) (some ((0, ([], ([], ([], ([], ([], ([], ([], ([], ([], ([], ([], ())))))))))))), (7, ())))
                (W.call (ref26_PassW W z3.2.2.2.2.2.2.2.2.2.2.2.2.1 u (0, (1, ())) z483 0) fun v486 => 
                W.cnd (v486.2.1 != 0) (some ((0, ([], ([], ([], ([], ([], ([], ([], ([], ([], ([], ([], ())))))))))))), v486.2))
                 (W.both (W.call (ref01_IntW W v484) fun v487 => W.both (W.call (ref31_MoveW W (z3.2.1, (z3.2.2.1, (z3.2.2.2.1, (z3.2.2.2.2.1, (z3.2.2.2.2.2.1, (z3.2.2.2.2.2.2.1, (z3.2.2.2.2.2.2.2.1, (z3.2.2.2.2.2.2.2.2.1, (z3.2.2.2.2.2.2.2.2.2.1, (z3.2.2.2.2.2.2.2.2.2.2.1, (z3.2.2.2.2.2.2.2.2.2.2.2.1, (v486.1, ())))))))))))) (0, (1, ())) u v487) fun v488 => 
                   W.cnd (v488.2.1 != 0) (some ((0, ([], ([], ([], ([], ([], ([], ([], ([], ([], ([], ([], ())))))))))))), v488.2))
                    ((k6 v488.1))) (W.call (ref31_MoveW W (z3.2.1, (z3.2.2.1, (z3.2.2.2.1, (z3.2.2.2.2.1, (z3.2.2.2.2.2.1, (z3.2.2.2.2.2.2.1, (z3.2.2.2.2.2.2.2.1, (z3.2.2.2.2.2.2.2.2.1, (z3.2.2.2.2.2.2.2.2.2.1, (z3.2.2.2.2.2.2.2.2.2.2.1, (z3.2.2.2.2.2.2.2.2.2.2.2.1, (v486.1, ())))))))))))) (0, (1, ())) u v487) fun v489 => 
                   W.cnd (v489.2.1 != 0) (some ((0, ([], ([], ([], ([], ([], ([], ([], ([], ([], ([], ([], ())))))))))))), v489.2))
                    ((k6 v489.1)))) (W.call (ref01_IntW W v484) fun v490 => W.call (ref31_MoveW W (z3.2.1, (z3.2.2.1, (z3.2.2.2.1, (z3.2.2.2.2.1, (z3.2.2.2.2.2.1, (z3.2.2.2.2.2.2.1, (z3.2.2.2.2.2.2.2.1, (z3.2.2.2.2.2.2.2.2.1, (z3.2.2.2.2.2.2.2.2.2.1, (z3.2.2.2.2.2.2.2.2.2.2.1, (z3.2.2.2.2.2.2.2.2.2.2.2.1, (v486.1, ())))))))))))) (0, (1, ())) u v490) fun v491 => 
                  W.cnd (v491.2.1 != 0) (some ((0, ([], ([], ([], ([], ([], ([], ([], ([], ([], ([], ([], ())))))))))))), v491.2))
                   ((k6 v491.1))))))
               fun k492 => W.call (ref01_OfW W x451.2.2.1) fun v493 => W.call (ref01_CmpW W v482 v493) fun v494 => 
               W.cnd (decide (v494 < 0)) (W.call (ref01_IntW W v482) fun v495 => (k492 (x451.1, (x451.2.1, (v495, ())))))
                ((k492 x451))))))))))
      (some (z3.2, (0, ()))))
     (0, s))))
  fun k496 => W.call (ref17_IsW W s.2.2.2.2.2.2.2.2.2.2.1) fun v497 => 
  W.cnd (!v497) ((k496 (true, ())))
   (W.call (ref26_IsW W s.2.2.2.2.2.2.2.2.2.2.2.1) fun v498 => (k496 ((!v498), ())))
abbrev ref31_Sell := ref31_SellW stdW
def ref17_SameW (W : Wd) (a : List AFlow') (b : List AFlow') : Option Bool := 
 W.cnd ((a.length : Int) != (b.length : Int)) (some false)
  (
  W.loop (fun (z1 : Int × Unit) again2 => 
   W.cnd (decide (z1.1 < (a.length : Int))) (W.idx a z1.1 fun x3 => W.idx b z1.1 fun x4 => 
    W.cnd (Go.Vc.notIf true ((x3.1.1 == x4.1.1) && ((x3.1.2.1 == x4.1.2.1) && (x3.2.1 == x4.2.1)))) (some false)
     ((again2 ((IntKind.i64.wrap (z1.1 + 1)), ()))))
    (some true))
   (0, ()))
abbrev ref17_Same := ref17_SameW stdW
def ref18_SameW (W : Wd) (a : List ALot') (b : List ALot') : Option Bool := 
 W.cnd ((a.length : Int) != (b.length : Int)) (some false)
  (
  W.loop (fun (z1 : Int × Unit) again2 => 
   W.cnd (decide (z1.1 < (a.length : Int))) (W.idx a z1.1 fun x3 => W.idx b z1.1 fun x4 => 
    W.cnd (Go.Vc.notIf true ((x3.1 == x4.1) && ((x3.2.1 == x4.2.1) && (x3.2.2.1 == x4.2.2.1)))) (some false)
     ((again2 ((IntKind.i64.wrap (z1.1 + 1)), ()))))
    (some true))
   (0, ()))
abbrev ref18_Same := ref18_SameW stdW
def ref26_SameW (W : Wd) (a : List AHold') (b : List AHold') : Option Bool := 
 W.cnd ((a.length : Int) != (b.length : Int)) (some false)
  (
  W.loop (fun (z1 : Int × Unit) again2 => 
   W.cnd (decide (z1.1 < (a.length : Int))) (
    W.join (fun (z3 : Bool × Unit) => 
     W.cnd z3.1 (some false)
      ((again2 ((IntKind.i64.wrap (z1.1 + 1)), ()))))
     fun k4 => W.idx a z1.1 fun x5 => W.idx b z1.1 fun x6 => 
     W.cnd (Go.Vc.notIf true ((x5.1.1 == x6.1.1) && (x5.1.2.1 == x6.1.2.1))) ((k4 (true, ())))
      (W.idx a z1.1 fun x7 => W.idx b z1.1 fun x8 => W.call (ref18_SameW W x7.2.1 x8.2.1) fun v9 => (k4 ((!v9), ()))))
    (some true))
   (0, ()))
abbrev ref26_Same := ref26_SameW stdW
def ref31_SameW (W : Wd) (a : AState') (b : AState') : Option Bool := W.call (ref17_SameW W a.2.2.2.2.2.2.2.2.2.2.1 b.2.2.2.2.2.2.2.2.2.2.1) fun v1 => 
 W.cnd v1 (W.call (ref26_SameW W a.2.2.2.2.2.2.2.2.2.2.2.1 b.2.2.2.2.2.2.2.2.2.2.2.1) fun v2 => some v2)
  (some false)
abbrev ref31_Same := ref31_SameW stdW
def fall_FundW (W : Wd) : Option AUnit' := some (0, (0, ()))
abbrev fall_Fund := fall_FundW stdW
def slices_Cloneint_intW (W : Wd) (s : List Int) : Option (List Int) := W.nilq (List.isEmpty s) fun g1 => 
 W.cnd (Go.Vc.notIf false g1) (some [])
  (W.room ((0 : Nat) + s.length) 8 (some ([] ++ s)))
def acct_ownW (W : Wd) (a : AAccount') : Option AAccount' := W.call (slices_Cloneint_intW W a.2.2.2.1) fun v1 => some (a.1, (a.2.1, (a.2.2.1, (v1, ()))))
def acct_copiedW (W : Wd) (l : List AAccount') : Option (List AAccount') := 
 W.loop (fun (z1 : Int × List (Int × Int × Int × List (Int) × Unit) × Unit) again2 => 
  W.cnd (decide (z1.1 < (l.length : Int))) (W.idx l z1.1 fun x3 => W.call (acct_ownW W x3) fun v4 => W.room (z1.2.1.length + (v4 :: []).length) 48 ((again2 ((IntKind.i64.wrap (z1.1 + 1)), ((z1.2.1 ++ (v4 :: [])), ())))))
   (some z1.2.1))
  (0, ([], ()))
def acct_Of_1W (W : Wd) (free10 : Int) (a : AAccount') : Option (Bool × (Int × Unit)) := some ((a.2.1 != free10), (free10, ()))
def slices_IndexFuncapi_Account_api_Account_acct_Of_1W (W : Wd) (f0_0 : Int) (s : List AAccount') : Option (Int × (Int × Unit)) := 
 W.loop (fun (z1 : Int × Int × Unit) again2 => 
  W.cnd (decide (z1.1 < (s.length : Int))) (W.idx s z1.1 fun x3 => W.call (acct_Of_1W W z1.2.1 x3) fun v4 => 
   W.cnd v4.1 (some (z1.1, v4.2))
    ((again2 ((IntKind.i64.wrap (z1.1 + 1)), v4.2))))
   (some ((-1), z1.2)))
  (0, (f0_0, ()))
def slices_DeleteFuncapi_Account_api_Account_acct_Of_1W (W : Wd) (del0_0 : Int) (s : List AAccount') : Option ((List AAccount') × (Int × Unit)) := W.call (slices_IndexFuncapi_Account_api_Account_acct_Of_1W W del0_0 s) fun v1 => 
 W.cnd (v1.1 == (-1)) (some (s, v1.2))
  (
  W.loop (fun (z2 : Int × Int × Int × List (Int × Int × Int × List (Int) × Unit) × Unit) again3 => 
   W.cnd (decide (z2.2.1 < (z2.2.2.2.1.length : Int))) (
    W.join (fun (z4 : Int × Int × List (Int × Int × Int × List (Int) × Unit) × Unit) => (again3 (z4.1, ((IntKind.i64.wrap (z2.2.1 + 1)), z4.2))))
     fun k5 => W.idx z2.2.2.2.1 z2.2.1 fun x6 => W.nth z2.2.2.2.1 (Int.toNat z2.2.1) fun x7 => W.call (acct_Of_1W W z2.2.2.1 x7) fun v8 => 
     W.cnd (!v8.1) (W.idx z2.2.2.2.1 z2.1 fun x9 => W.nth z2.2.2.2.1 (Int.toNat z2.1) fun x10 => (k5 ((IntKind.i64.wrap (z2.1 + 1)), (v8.2.1, ((List.set z2.2.2.2.1 (Int.toNat z2.1) x7), ())))))
      ((k5 (z2.1, (v8.2.1, z2.2.2.2)))))
    (W.bnd z2.1 z2.2.2.2.1.length fun h11 => W.bnd (h11 : Int) z2.2.2.2.1.length fun h12 => W.bnd z2.1 ((z2.2.2.2.1.take h12) ++ (List.replicate (z2.2.2.2.1.length - h12) (0, (0, (0, ([], ())))))).length fun h13 => some ((((z2.2.2.2.1.take h12) ++ (List.replicate (z2.2.2.2.1.length - h12) (0, (0, (0, ([], ())))))).take h13), (z2.2.2.1, ()))))
   (v1.1, ((IntKind.i64.wrap (v1.1 + 1)), (v1.2.1, (s, ())))))
def acct_OfW (W : Wd) (l : List AAccount') (member : Int) : Option (List AAccount') := W.call (acct_copiedW W l) fun v1 => W.call (slices_DeleteFuncapi_Account_api_Account_acct_Of_1W W member v1) fun v2 => some v2.1
def acct_UnitsW (W : Wd) (a : AAccount') : Option (List AUnit') := 
 W.cnd (a.2.2.1 == 1) (some ((a.1, (0, ())) :: []))
  (
  W.loop (fun (z1 : Int × List (Int × Int × Unit) × Unit) again2 => 
   W.cnd (decide (z1.1 < (a.2.2.2.1.length : Int))) (W.idx a.2.2.2.1 z1.1 fun x3 => W.room (z1.2.1.length + ((a.1, (x3, ())) :: []).length) 16 ((again2 ((IntKind.i64.wrap (z1.1 + 1)), ((z1.2.1 ++ ((a.1, (x3, ())) :: [])), ())))))
    (some z1.2.1))
   (0, ([], ())))
def fall_unitsW (W : Wd) (l : List AAccount') : Option ((List AUnit') × (List AUnit') × Unit) := 
 W.loop (fun (z1 : Int × List (Int × Int × Unit) × List (Int × Int × Unit) × Unit) again2 => 
  W.cnd (decide (z1.1 < (l.length : Int))) (
   W.join (fun (z3 : List (Int × Int × Unit) × List (Int × Int × Unit) × Unit) => (again2 ((IntKind.i64.wrap (z1.1 + 1)), z3)))
    fun k4 => W.idx l z1.1 fun x5 => W.call (acct_UnitsW W x5) fun v6 => W.room (z1.2.1.length + v6.length) 16 (
    W.cnd (x5.2.2.1 == 1) (W.call (acct_UnitsW W x5) fun v7 => W.room (z1.2.2.1.length + v7.length) 16 ((k4 ((z1.2.1 ++ v6), ((z1.2.2.1 ++ v7), ())))))
     ((k4 ((z1.2.1 ++ v6), z1.2.2)))))
   (some z1.2))
  (0, ([], ([], ())))
def fall_OwnW (W : Wd) (s : AState') (u : AUnit') : Option (AState' × (List ADebit') × Int × Unit) := W.call (fall_OwesW W s u) fun v1 => 
 W.cnd (v1.2.1 != 0) (some ((0, ([], ([], ([], ([], ([], ([], ([], ([], ([], ([], ([], ())))))))))))), ([], v1.2)))
  (W.call (fall_SellW W s u 0) fun v2 => 
  W.cnd (v2.2.1 != 0) (some ((0, ([], ([], ([], ([], ([], ([], ([], ([], ([], ([], ([], ())))))))))))), ([], v2.2)))
   (W.call (fall_OwesW W v2.1 u) fun v3 => 
   W.cnd (v1.1 == v3.1) (some (v2.1, ([], (0, ()))))
    (W.both (some (v2.1, (((u, (u, ((IntKind.i64.wrap (v1.1 - v3.1)), ()))) :: []), (0, ())))) (some (v2.1, (((u, (u, ((IntKind.i64.wrap (v1.1 - v3.1)), ()))) :: []), (0, ())))))))
abbrev fall_Own := fall_OwnW stdW
def fall_run_stepW (W : Wd) (r0 : Int) (r1 : List AMember') (r2 : List AInst') (r3 : List ALot') (r4 : List AAccount') (r5 : List AChoice') (r6 : List AGroup') (r7 : List AGive') (r8 : List APos') (r9 : List APos') (r10 : List AFlow') (r11 : List AHold') (r12 : List ADebit') (r13 : Int) (s : AState') (debits : List ADebit') (e : Int) : Option (Unit × (Int × (List AMember') × (List AInst') × (List ALot') × (List AAccount') × (List AChoice') × (List AGroup') × (List AGive') × (List APos') × (List APos') × (List AFlow') × (List AHold') × (List ADebit') × Int × Unit)) := 
 W.cnd (e == 0) (W.room (r12.length + debits.length) 40 (some ((), (s.1, (s.2.1, (s.2.2.1, (s.2.2.2.1, (s.2.2.2.2.1, (s.2.2.2.2.2.1, (s.2.2.2.2.2.2.1, (s.2.2.2.2.2.2.2.1, (s.2.2.2.2.2.2.2.2.1, (s.2.2.2.2.2.2.2.2.2.1, (s.2.2.2.2.2.2.2.2.2.2.1, (s.2.2.2.2.2.2.2.2.2.2.2.1, ((r12 ++ debits), (e, ())))))))))))))))))
  (some ((), (r0, (r1, (r2, (r3, (r4, (r5, (r6, (r7, (r8, (r9, (r10, (r11, (r12, (e, ()))))))))))))))))
def fall_run_ownW (W : Wd) (r0 : Int) (r1 : List AMember') (r2 : List AInst') (r3 : List ALot') (r4 : List AAccount') (r5 : List AChoice') (r6 : List AGroup') (r7 : List AGive') (r8 : List APos') (r9 : List APos') (r10 : List AFlow') (r11 : List AHold') (r12 : List ADebit') (r13 : Int) (l : List AUnit') : Option (Unit × (Int × (List AMember') × (List AInst') × (List ALot') × (List AAccount') × (List AChoice') × (List AGroup') × (List AGive') × (List APos') × (List APos') × (List AFlow') × (List AHold') × (List ADebit') × Int × Unit)) := 
 W.loop (fun (z1 : Int × Int × List (Int × Int × Int × Int × Unit) × List (Int × Int × Int × Int × List (Int) × Unit) × List (Int × Int × Int × Unit) × List (Int × Int × Int × List (Int) × Unit) × List ((Int × Int × Unit) × (Int × Int × Unit) × Bool × Unit) × List (Int × (Int × Int × Unit) × Int × Int × Int × Unit) × List (Int × (Int × Int × Unit) × (Int × Int × Unit) × (Int × Int × Unit) × Int × Int × Int × Int × Unit) × List ((Int × Int × Unit) × List (Int × Int × Unit) × Unit) × List ((Int × Int × Unit) × List (Int × Int × Unit) × Unit) × List ((Int × Int × Unit) × Int × Unit) × List ((Int × Int × Unit) × List (Int × Int × Int × Unit) × Unit) × Int × List ((Int × Int × Unit) × (Int × Int × Unit) × Int × Unit) × Unit) again2 => 
  W.cnd (decide (z1.1 < (l.length : Int))) (
   W.join (fun (z3 : Int × List (Int × Int × Int × Int × Unit) × List (Int × Int × Int × Int × List (Int) × Unit) × List (Int × Int × Int × Unit) × List (Int × Int × Int × List (Int) × Unit) × List ((Int × Int × Unit) × (Int × Int × Unit) × Bool × Unit) × List (Int × (Int × Int × Unit) × Int × Int × Int × Unit) × List (Int × (Int × Int × Unit) × (Int × Int × Unit) × (Int × Int × Unit) × Int × Int × Int × Int × Unit) × List ((Int × Int × Unit) × List (Int × Int × Unit) × Unit) × List ((Int × Int × Unit) × List (Int × Int × Unit) × Unit) × List ((Int × Int × Unit) × Int × Unit) × List ((Int × Int × Unit) × List (Int × Int × Int × Unit) × Unit) × Int × List ((Int × Int × Unit) × (Int × Int × Unit) × Int × Unit) × Unit) => (again2 ((IntKind.i64.wrap (z1.1 + 1)), z3)))
    fun k4 => W.idx l z1.1 fun x5 => 
    W.cnd (z1.2.2.2.2.2.2.2.2.2.2.2.2.2.1 == 0) (W.call (fall_OwnW W (z1.2.1, (z1.2.2.1, (z1.2.2.2.1, (z1.2.2.2.2.1, (z1.2.2.2.2.2.1, (z1.2.2.2.2.2.2.1, (z1.2.2.2.2.2.2.2.1, (z1.2.2.2.2.2.2.2.2.1, (z1.2.2.2.2.2.2.2.2.2.1, (z1.2.2.2.2.2.2.2.2.2.2.1, (z1.2.2.2.2.2.2.2.2.2.2.2.1, (z1.2.2.2.2.2.2.2.2.2.2.2.2.1, ())))))))))))) x5) fun v6 => W.call (fall_run_stepW W z1.2.1 z1.2.2.1 z1.2.2.2.1 z1.2.2.2.2.1 z1.2.2.2.2.2.1 z1.2.2.2.2.2.2.1 z1.2.2.2.2.2.2.2.1 z1.2.2.2.2.2.2.2.2.1 z1.2.2.2.2.2.2.2.2.2.1 z1.2.2.2.2.2.2.2.2.2.2.1 z1.2.2.2.2.2.2.2.2.2.2.2.1 z1.2.2.2.2.2.2.2.2.2.2.2.2.1 z1.2.2.2.2.2.2.2.2.2.2.2.2.2.2.1 z1.2.2.2.2.2.2.2.2.2.2.2.2.2.1 v6.1 v6.2.1 v6.2.2.1) fun v7 => (k4 (v7.2.1, (v7.2.2.1, (v7.2.2.2.1, (v7.2.2.2.2.1, (v7.2.2.2.2.2.1, (v7.2.2.2.2.2.2.1, (v7.2.2.2.2.2.2.2.1, (v7.2.2.2.2.2.2.2.2.1, (v7.2.2.2.2.2.2.2.2.2.1, (v7.2.2.2.2.2.2.2.2.2.2.1, (v7.2.2.2.2.2.2.2.2.2.2.2.1, (v7.2.2.2.2.2.2.2.2.2.2.2.2.1, (v7.2.2.2.2.2.2.2.2.2.2.2.2.2.2.1, (v7.2.2.2.2.2.2.2.2.2.2.2.2.2.1, ()))))))))))))))))
     ((k4 z1.2)))
   (some ((), (z1.2.1, (z1.2.2.1, (z1.2.2.2.1, (z1.2.2.2.2.1, (z1.2.2.2.2.2.1, (z1.2.2.2.2.2.2.1, (z1.2.2.2.2.2.2.2.1, (z1.2.2.2.2.2.2.2.2.1, (z1.2.2.2.2.2.2.2.2.2.1, (z1.2.2.2.2.2.2.2.2.2.2.1, (z1.2.2.2.2.2.2.2.2.2.2.2.1, (z1.2.2.2.2.2.2.2.2.2.2.2.2.1, (z1.2.2.2.2.2.2.2.2.2.2.2.2.2.2.1, (z1.2.2.2.2.2.2.2.2.2.2.2.2.2.1, ())))))))))))))))))
  (0, (r0, (r1, (r2, (r3, (r4, (r5, (r6, (r7, (r8, (r9, (r10, (r11, (r13, (r12, ())))))))))))))))
def fall_each_fall_OwesW (W : Wd) (s : AState') (l : List AUnit') : Option (((List Int) × Int × Int × Unit) × Unit) := 
 W.loop (fun (z1 : Int × List (Int) × Unit) again2 => 
  W.cnd (decide (z1.1 < (l.length : Int))) (W.idx l z1.1 fun x3 => W.call (fall_OwesW W s x3) fun v4 => 
   W.cnd (v4.2.1 != 0) (some (([], (0, v4.2)), ()))
    (W.room (z1.2.1.length + (v4.1 :: []).length) 8 ((again2 ((IntKind.i64.wrap (z1.1 + 1)), ((z1.2.1 ++ (v4.1 :: [])), ()))))))
   (W.call (fix_SumW W z1.2.1) fun v5 => some ((z1.2.1, v5), ())))
  (0, ([], ()))
def fall_freeW (W : Wd) (s : AState') (u : AUnit') : Option (Int × Int × Unit) := W.call (fall_RoomW W s u) fun v1 => 
 W.join (fun (z2 : Int × Unit) => some (z2.1, v1.2))
  fun k3 => W.call (purse_GetW W s.2.2.2.2.2.2.2.2.2.2.1 u) fun v4 => 
  W.cnd (decide (v4 < 0)) ((k3 (0, ())))
   ((k3 (v1.1, ())))
def fall_each_fall_freeW (W : Wd) (s : AState') (l : List AUnit') : Option (((List Int) × Int × Int × Unit) × Unit) := 
 W.loop (fun (z1 : Int × List (Int) × Unit) again2 => 
  W.cnd (decide (z1.1 < (l.length : Int))) (W.idx l z1.1 fun x3 => W.call (fall_freeW W s x3) fun v4 => 
   W.cnd (v4.2.1 != 0) (some (([], (0, v4.2)), ()))
    (W.room (z1.2.1.length + (v4.1 :: []).length) 8 ((again2 ((IntKind.i64.wrap (z1.1 + 1)), ((z1.2.1 ++ (v4.1 :: [])), ()))))))
   (W.call (fix_SumW W z1.2.1) fun v5 => some ((z1.2.1, v5), ())))
  (0, ([], ()))
def cmp_Or2W (W : Wd) (vals : List Int) : Option Int := 
 W.loop (fun (z1 : Int × Unit) again2 => 
  W.cnd (decide (z1.1 < (vals.length : Int))) (W.idx vals z1.1 fun x3 => 
   W.cnd (x3 != 0) (some x3)
    ((again2 ((IntKind.i64.wrap (z1.1 + 1)), ()))))
   (some 0))
  (0, ())
abbrev cmp_Or2 := cmp_Or2W stdW
def fall_paysW (W : Wd) (s : AState') (by_ : AUnit') (to_ : AUnit') (amount : Int) : Option (AState' × (List ADebit') × Int × Unit) := 
 W.cnd (amount == 0) (some (s, ([], (0, ()))))
  (W.call (fall_SellW W s by_ amount) fun v1 => 
  W.join (fun (z2 : Int × Int × List (Int × Int × Int × Int × Unit) × List (Int × Int × Int × Int × List (Int) × Unit) × List (Int × Int × Int × Unit) × List (Int × Int × Int × List (Int) × Unit) × List ((Int × Int × Unit) × (Int × Int × Unit) × Bool × Unit) × List (Int × (Int × Int × Unit) × Int × Int × Int × Unit) × List (Int × (Int × Int × Unit) × (Int × Int × Unit) × (Int × Int × Unit) × Int × Int × Int × Int × Unit) × List ((Int × Int × Unit) × List (Int × Int × Unit) × Unit) × List ((Int × Int × Unit) × List (Int × Int × Unit) × Unit) × List ((Int × Int × Unit) × Int × Unit) × List ((Int × Int × Unit) × List (Int × Int × Int × Unit) × Unit) × Unit) => 
   W.cnd (z2.1 != 0) (some ((0, ([], ([], ([], ([], ([], ([], ([], ([], ([], ([], ([], ())))))))))))), ([], (z2.1, ()))))
    (W.both (some (z2.2, (((by_, (to_, (amount, ()))) :: []), (0, ())))) (some (z2.2, (((by_, (to_, (amount, ()))) :: []), (0, ()))))))
   fun k3 => 
   W.cnd (v1.2.1 == 0) (W.call (purse_MoveW W v1.1.2.2.2.2.2.2.2.2.2.2.1 by_ to_ amount) fun v4 => (k3 (v4.2.1, (v1.1.1, (v1.1.2.1, (v1.1.2.2.1, (v1.1.2.2.2.1, (v1.1.2.2.2.2.1, (v1.1.2.2.2.2.2.1, (v1.1.2.2.2.2.2.2.1, (v1.1.2.2.2.2.2.2.2.1, (v1.1.2.2.2.2.2.2.2.2.1, (v1.1.2.2.2.2.2.2.2.2.2.1, (v4.1, v1.1.2.2.2.2.2.2.2.2.2.2.2))))))))))))))
    ((k3 (v1.2.1, v1.1))))
abbrev fall_pays := fall_paysW stdW
def fall_SharedW (W : Wd) (s : AState') (l : List AUnit') : Option (AState' × (List ADebit') × Int × Unit) := W.call (fall_each_fall_OwesW W s l) fun v1 => W.call (fall_each_fall_freeW W s l) fun v2 => 
 W.join (fun (z3 : Bool × List (Int) × List (Int) × Unit) => 
  W.cnd z3.1 (W.call (cmp_Or2W W (v1.1.2.2.1 :: (v2.1.2.2.1 :: []))) fun v4 => some ((0, ([], ([], ([], ([], ([], ([], ([], ([], ([], ([], ([], ())))))))))))), ([], (v4, ()))))
   (W.call (sharefill (if v2.1.2.1 < v1.1.2.1 then v2.1.2.1 else v1.1.2.1) z3.2.2.1) fun v5 => W.call (sharefill (if v2.1.2.1 < v1.1.2.1 then v2.1.2.1 else v1.1.2.1) z3.2.1) fun v6 => 
   W.join (fun (z7 : Int × List (Int × Int × Int × Int × Unit) × List (Int × Int × Int × Int × List (Int) × Unit) × List (Int × Int × Int × Unit) × List (Int × Int × Int × List (Int) × Unit) × List ((Int × Int × Unit) × (Int × Int × Unit) × Bool × Unit) × List (Int × (Int × Int × Unit) × Int × Int × Int × Unit) × List (Int × (Int × Int × Unit) × (Int × Int × Unit) × (Int × Int × Unit) × Int × Int × Int × Int × Unit) × List ((Int × Int × Unit) × List (Int × Int × Unit) × Unit) × List ((Int × Int × Unit) × List (Int × Int × Unit) × Unit) × List ((Int × Int × Unit) × Int × Unit) × List ((Int × Int × Unit) × List (Int × Int × Int × Unit) × Unit) × List ((Int × Int × Unit) × (Int × Int × Unit) × Int × Unit) × Unit) => some ((z7.1, (z7.2.1, (z7.2.2.1, (z7.2.2.2.1, (z7.2.2.2.2.1, (z7.2.2.2.2.2.1, (z7.2.2.2.2.2.2.1, (z7.2.2.2.2.2.2.2.1, (z7.2.2.2.2.2.2.2.2.1, (z7.2.2.2.2.2.2.2.2.2.1, (z7.2.2.2.2.2.2.2.2.2.2.1, (z7.2.2.2.2.2.2.2.2.2.2.2.1, ())))))))))))), (z7.2.2.2.2.2.2.2.2.2.2.2.2.1, (0, ()))))
    fun k8 => 
    W.loop (fun (z9 : Int × Int × Int × List (Int × Int × Int × Int × Unit) × List (Int × Int × Int × Int × List (Int) × Unit) × List (Int × Int × Int × Unit) × List (Int × Int × Int × List (Int) × Unit) × List ((Int × Int × Unit) × (Int × Int × Unit) × Bool × Unit) × List (Int × (Int × Int × Unit) × Int × Int × Int × Unit) × List (Int × (Int × Int × Unit) × (Int × Int × Unit) × (Int × Int × Unit) × Int × Int × Int × Int × Unit) × List ((Int × Int × Unit) × List (Int × Int × Unit) × Unit) × List ((Int × Int × Unit) × List (Int × Int × Unit) × Unit) × List ((Int × Int × Unit) × Int × Unit) × List ((Int × Int × Unit) × List (Int × Int × Int × Unit) × Unit) × List (Int) × List (Int) × List ((Int × Int × Unit) × (Int × Int × Unit) × Int × Unit) × Unit) again10 => 
     W.cnd (decide (z9.1 < (z9.2.2.2.2.2.2.2.2.2.2.2.2.2.2.1.length : Int))) (
      W.cnd (decide (z9.2.1 < (z9.2.2.2.2.2.2.2.2.2.2.2.2.2.2.2.1.length : Int))) (
       W.join (fun (z11 : Int × List (Int) × List (Int) × List ((Int × Int × Unit) × (Int × Int × Unit) × Int × Unit) × Unit) => W.idx l z9.1 fun x12 => W.idx l z9.2.1 fun x13 => W.both (W.call (fall_paysW W (z9.2.2.1, (z9.2.2.2.1, (z9.2.2.2.2.1, (z9.2.2.2.2.2.1, (z9.2.2.2.2.2.2.1, (z9.2.2.2.2.2.2.2.1, (z9.2.2.2.2.2.2.2.2.1, (z9.2.2.2.2.2.2.2.2.2.1, (z9.2.2.2.2.2.2.2.2.2.2.1, (z9.2.2.2.2.2.2.2.2.2.2.2.1, (z9.2.2.2.2.2.2.2.2.2.2.2.2.1, (z9.2.2.2.2.2.2.2.2.2.2.2.2.2.1, ())))))))))))) x12 x13 z11.1) fun v14 => 
         W.cnd (v14.2.2.1 != 0) (some ((0, ([], ([], ([], ([], ([], ([], ([], ([], ([], ([], ([], ())))))))))))), ([], v14.2.2)))
          (W.room (z11.2.2.2.1.length + v14.2.1.length) 40 (
          W.join (fun (z15 : List (Int) × List (Int) × List ((Int × Int × Unit) × (Int × Int × Unit) × Int × Unit) × Unit) => W.idx z15.1 z9.1 fun x16 => W.nth z15.1 (Int.toNat z9.1) fun x17 => 
           W.cnd (x17 == 0) ((again10 ((IntKind.i64.wrap (z9.1 + 1)), (z9.2.1, (v14.1.1, (v14.1.2.1, (v14.1.2.2.1, (v14.1.2.2.2.1, (v14.1.2.2.2.2.1, (v14.1.2.2.2.2.2.1, (v14.1.2.2.2.2.2.2.1, (v14.1.2.2.2.2.2.2.2.1, (v14.1.2.2.2.2.2.2.2.2.1, (v14.1.2.2.2.2.2.2.2.2.2.1, (v14.1.2.2.2.2.2.2.2.2.2.2.1, (v14.1.2.2.2.2.2.2.2.2.2.2.2.1, z15))))))))))))))))
            ((again10 (z9.1, ((IntKind.i64.wrap (z9.2.1 + 1)), (v14.1.1, (v14.1.2.1, (v14.1.2.2.1, (v14.1.2.2.2.1, (v14.1.2.2.2.2.1, (v14.1.2.2.2.2.2.1, (v14.1.2.2.2.2.2.2.1, (v14.1.2.2.2.2.2.2.2.1, (v14.1.2.2.2.2.2.2.2.2.1, (v14.1.2.2.2.2.2.2.2.2.2.1, (v14.1.2.2.2.2.2.2.2.2.2.2.1, (v14.1.2.2.2.2.2.2.2.2.2.2.2.1, z15)))))))))))))))))
           fun k18 => W.idx z11.2.1 z9.1 fun x19 => W.idx z11.2.2.1 z9.2.1 fun x20 => W.both (W.nth z11.2.1 (Int.toNat z9.1) fun x21 => W.nth z11.2.2.1 (Int.toNat z9.2.1) fun x22 => W.idx z11.2.1 z9.1 fun x23 => W.nth z11.2.1 (Int.toNat z9.1) fun x24 => W.idx z11.2.2.1 z9.2.1 fun x25 => W.nth z11.2.2.1 (Int.toNat z9.2.1) fun x26 => (k18 ((List.set z11.2.1 (Int.toNat z9.1) (IntKind.i64.wrap (x21 - z11.1))), ((List.set z11.2.2.1 (Int.toNat z9.2.1) (IntKind.i64.wrap (x22 - z11.1))), ((z11.2.2.2.1 ++ v14.2.1), ()))))) (W.nth z11.2.2.1 (Int.toNat z9.2.1) fun x27 => W.nth z11.2.1 (Int.toNat z9.1) fun x28 => W.idx z11.2.1 z9.1 fun x29 => W.nth z11.2.1 (Int.toNat z9.1) fun x30 => W.idx z11.2.2.1 z9.2.1 fun x31 => W.nth z11.2.2.1 (Int.toNat z9.2.1) fun x32 => (k18 ((List.set z11.2.1 (Int.toNat z9.1) (IntKind.i64.wrap (x28 - z11.1))), ((List.set z11.2.2.1 (Int.toNat z9.2.1) (IntKind.i64.wrap (x27 - z11.1))), ((z11.2.2.2.1 ++ v14.2.1), ())))))))) (W.call (fall_paysW W (z9.2.2.1, (z9.2.2.2.1, (z9.2.2.2.2.1, (z9.2.2.2.2.2.1, (z9.2.2.2.2.2.2.1, (z9.2.2.2.2.2.2.2.1, (z9.2.2.2.2.2.2.2.2.1, (z9.2.2.2.2.2.2.2.2.2.1, (z9.2.2.2.2.2.2.2.2.2.2.1, (z9.2.2.2.2.2.2.2.2.2.2.2.1, (z9.2.2.2.2.2.2.2.2.2.2.2.2.1, (z9.2.2.2.2.2.2.2.2.2.2.2.2.2.1, ())))))))))))) x12 x13 z11.1) fun v33 => 
         W.cnd (v33.2.2.1 != 0) (some ((0, ([], ([], ([], ([], ([], ([], ([], ([], ([], ([], ([], ())))))))))))), ([], v33.2.2)))
          (W.room (z11.2.2.2.1.length + v33.2.1.length) 40 (
          W.join (fun (z34 : List (Int) × List (Int) × List ((Int × Int × Unit) × (Int × Int × Unit) × Int × Unit) × Unit) => W.idx z34.1 z9.1 fun x35 => W.nth z34.1 (Int.toNat z9.1) fun x36 => 
           W.cnd (x36 == 0) ((again10 ((IntKind.i64.wrap (z9.1 + 1)), (z9.2.1, (v33.1.1, (v33.1.2.1, (v33.1.2.2.1, (v33.1.2.2.2.1, (v33.1.2.2.2.2.1, (v33.1.2.2.2.2.2.1, (v33.1.2.2.2.2.2.2.1, (v33.1.2.2.2.2.2.2.2.1, (v33.1.2.2.2.2.2.2.2.2.1, (v33.1.2.2.2.2.2.2.2.2.2.1, (v33.1.2.2.2.2.2.2.2.2.2.2.1, (v33.1.2.2.2.2.2.2.2.2.2.2.2.1, z34))))))))))))))))
            ((again10 (z9.1, ((IntKind.i64.wrap (z9.2.1 + 1)), (v33.1.1, (v33.1.2.1, (v33.1.2.2.1, (v33.1.2.2.2.1, (v33.1.2.2.2.2.1, (v33.1.2.2.2.2.2.1, (v33.1.2.2.2.2.2.2.1, (v33.1.2.2.2.2.2.2.2.1, (v33.1.2.2.2.2.2.2.2.2.1, (v33.1.2.2.2.2.2.2.2.2.2.1, (v33.1.2.2.2.2.2.2.2.2.2.2.1, (v33.1.2.2.2.2.2.2.2.2.2.2.2.1, z34)))))))))))))))))
           fun k37 => W.idx z11.2.1 z9.1 fun x38 => W.idx z11.2.2.1 z9.2.1 fun x39 => W.both (W.nth z11.2.1 (Int.toNat z9.1) fun x40 => W.nth z11.2.2.1 (Int.toNat z9.2.1) fun x41 => W.idx z11.2.1 z9.1 fun x42 => W.nth z11.2.1 (Int.toNat z9.1) fun x43 => W.idx z11.2.2.1 z9.2.1 fun x44 => W.nth z11.2.2.1 (Int.toNat z9.2.1) fun x45 => (k37 ((List.set z11.2.1 (Int.toNat z9.1) (IntKind.i64.wrap (x40 - z11.1))), ((List.set z11.2.2.1 (Int.toNat z9.2.1) (IntKind.i64.wrap (x41 - z11.1))), ((z11.2.2.2.1 ++ v33.2.1), ()))))) (W.nth z11.2.2.1 (Int.toNat z9.2.1) fun x46 => W.nth z11.2.1 (Int.toNat z9.1) fun x47 => W.idx z11.2.1 z9.1 fun x48 => W.nth z11.2.1 (Int.toNat z9.1) fun x49 => W.idx z11.2.2.1 z9.2.1 fun x50 => W.nth z11.2.2.1 (Int.toNat z9.2.1) fun x51 => (k37 ((List.set z11.2.1 (Int.toNat z9.1) (IntKind.i64.wrap (x47 - z11.1))), ((List.set z11.2.2.1 (Int.toNat z9.2.1) (IntKind.i64.wrap (x46 - z11.1))), ((z11.2.2.2.1 ++ v33.2.1), ())))))))))
        fun k52 => W.idx z9.2.2.2.2.2.2.2.2.2.2.2.2.2.2.1 z9.1 fun x53 => W.idx z9.2.2.2.2.2.2.2.2.2.2.2.2.2.2.2.1 z9.2.1 fun x54 => W.both (W.nth z9.2.2.2.2.2.2.2.2.2.2.2.2.2.2.1 (Int.toNat z9.1) fun x55 => W.nth z9.2.2.2.2.2.2.2.2.2.2.2.2.2.2.2.1 (Int.toNat z9.2.1) fun x56 => (k52 ((if x56 < x55 then x56 else x55), z9.2.2.2.2.2.2.2.2.2.2.2.2.2.2))) (W.nth z9.2.2.2.2.2.2.2.2.2.2.2.2.2.2.2.1 (Int.toNat z9.2.1) fun x57 => W.nth z9.2.2.2.2.2.2.2.2.2.2.2.2.2.2.1 (Int.toNat z9.1) fun x58 => (k52 ((if x57 < x58 then x57 else x58), z9.2.2.2.2.2.2.2.2.2.2.2.2.2.2))))
       ((k8 (z9.2.2.1, (z9.2.2.2.1, (z9.2.2.2.2.1, (z9.2.2.2.2.2.1, (z9.2.2.2.2.2.2.1, (z9.2.2.2.2.2.2.2.1, (z9.2.2.2.2.2.2.2.2.1, (z9.2.2.2.2.2.2.2.2.2.1, (z9.2.2.2.2.2.2.2.2.2.2.1, (z9.2.2.2.2.2.2.2.2.2.2.2.1, (z9.2.2.2.2.2.2.2.2.2.2.2.2.1, (z9.2.2.2.2.2.2.2.2.2.2.2.2.2.1, z9.2.2.2.2.2.2.2.2.2.2.2.2.2.2.2.2)))))))))))))))
      ((k8 (z9.2.2.1, (z9.2.2.2.1, (z9.2.2.2.2.1, (z9.2.2.2.2.2.1, (z9.2.2.2.2.2.2.1, (z9.2.2.2.2.2.2.2.1, (z9.2.2.2.2.2.2.2.2.1, (z9.2.2.2.2.2.2.2.2.2.1, (z9.2.2.2.2.2.2.2.2.2.2.1, (z9.2.2.2.2.2.2.2.2.2.2.2.1, (z9.2.2.2.2.2.2.2.2.2.2.2.2.1, (z9.2.2.2.2.2.2.2.2.2.2.2.2.2.1, z9.2.2.2.2.2.2.2.2.2.2.2.2.2.2.2.2)))))))))))))))
     (0, (0, (s.1, (s.2.1, (s.2.2.1, (s.2.2.2.1, (s.2.2.2.2.1, (s.2.2.2.2.2.1, (s.2.2.2.2.2.2.1, (s.2.2.2.2.2.2.2.1, (s.2.2.2.2.2.2.2.2.1, (s.2.2.2.2.2.2.2.2.2.1, (s.2.2.2.2.2.2.2.2.2.2.1, (s.2.2.2.2.2.2.2.2.2.2.2.1, (v5.1, (v6.1, ([], ())))))))))))))))))))
  fun k59 => 
  W.cnd (v1.1.2.2.1 != 0) ((k59 (true, (v1.1.1, (v2.1.1, ())))))
   ((k59 ((v2.1.2.2.1 != 0), (v1.1.1, (v2.1.1, ())))))
def fall_run_sharedW (W : Wd) (r0 : Int) (r1 : List AMember') (r2 : List AInst') (r3 : List ALot') (r4 : List AAccount') (r5 : List AChoice') (r6 : List AGroup') (r7 : List AGive') (r8 : List APos') (r9 : List APos') (r10 : List AFlow') (r11 : List AHold') (r12 : List ADebit') (r13 : Int) (l : List AAccount') : Option (Unit × (Int × (List AMember') × (List AInst') × (List ALot') × (List AAccount') × (List AChoice') × (List AGroup') × (List AGive') × (List APos') × (List APos') × (List AFlow') × (List AHold') × (List ADebit') × Int × Unit)) := 
 W.loop (fun (z1 : Int × Int × List (Int × Int × Int × Int × Unit) × List (Int × Int × Int × Int × List (Int) × Unit) × List (Int × Int × Int × Unit) × List (Int × Int × Int × List (Int) × Unit) × List ((Int × Int × Unit) × (Int × Int × Unit) × Bool × Unit) × List (Int × (Int × Int × Unit) × Int × Int × Int × Unit) × List (Int × (Int × Int × Unit) × (Int × Int × Unit) × (Int × Int × Unit) × Int × Int × Int × Int × Unit) × List ((Int × Int × Unit) × List (Int × Int × Unit) × Unit) × List ((Int × Int × Unit) × List (Int × Int × Unit) × Unit) × List ((Int × Int × Unit) × Int × Unit) × List ((Int × Int × Unit) × List (Int × Int × Int × Unit) × Unit) × Int × List ((Int × Int × Unit) × (Int × Int × Unit) × Int × Unit) × Unit) again2 => 
  W.cnd (decide (z1.1 < (l.length : Int))) (
   W.join (fun (z3 : Int × List (Int × Int × Int × Int × Unit) × List (Int × Int × Int × Int × List (Int) × Unit) × List (Int × Int × Int × Unit) × List (Int × Int × Int × List (Int) × Unit) × List ((Int × Int × Unit) × (Int × Int × Unit) × Bool × Unit) × List (Int × (Int × Int × Unit) × Int × Int × Int × Unit) × List (Int × (Int × Int × Unit) × (Int × Int × Unit) × (Int × Int × Unit) × Int × Int × Int × Int × Unit) × List ((Int × Int × Unit) × List (Int × Int × Unit) × Unit) × List ((Int × Int × Unit) × List (Int × Int × Unit) × Unit) × List ((Int × Int × Unit) × Int × Unit) × List ((Int × Int × Unit) × List (Int × Int × Int × Unit) × Unit) × Int × List ((Int × Int × Unit) × (Int × Int × Unit) × Int × Unit) × Unit) => (again2 ((IntKind.i64.wrap (z1.1 + 1)), z3)))
    fun k4 => W.idx l z1.1 fun x5 => 
    W.join (fun (z6 : Bool × Int × List (Int × Int × Int × Int × Unit) × List (Int × Int × Int × Int × List (Int) × Unit) × List (Int × Int × Int × Unit) × List (Int × Int × Int × List (Int) × Unit) × List ((Int × Int × Unit) × (Int × Int × Unit) × Bool × Unit) × List (Int × (Int × Int × Unit) × Int × Int × Int × Unit) × List (Int × (Int × Int × Unit) × (Int × Int × Unit) × (Int × Int × Unit) × Int × Int × Int × Int × Unit) × List ((Int × Int × Unit) × List (Int × Int × Unit) × Unit) × List ((Int × Int × Unit) × List (Int × Int × Unit) × Unit) × List ((Int × Int × Unit) × Int × Unit) × List ((Int × Int × Unit) × List (Int × Int × Int × Unit) × Unit) × Int × List ((Int × Int × Unit) × (Int × Int × Unit) × Int × Unit) × Unit) => 
     W.cnd z6.1 (W.both (W.call (acct_UnitsW W x5) fun v7 => W.call (fall_SharedW W (z6.2.1, (z6.2.2.1, (z6.2.2.2.1, (z6.2.2.2.2.1, (z6.2.2.2.2.2.1, (z6.2.2.2.2.2.2.1, (z6.2.2.2.2.2.2.2.1, (z6.2.2.2.2.2.2.2.2.1, (z6.2.2.2.2.2.2.2.2.2.1, (z6.2.2.2.2.2.2.2.2.2.2.1, (z6.2.2.2.2.2.2.2.2.2.2.2.1, (z6.2.2.2.2.2.2.2.2.2.2.2.2.1, ())))))))))))) v7) fun v8 => W.call (fall_run_stepW W z6.2.1 z6.2.2.1 z6.2.2.2.1 z6.2.2.2.2.1 z6.2.2.2.2.2.1 z6.2.2.2.2.2.2.1 z6.2.2.2.2.2.2.2.1 z6.2.2.2.2.2.2.2.2.1 z6.2.2.2.2.2.2.2.2.2.1 z6.2.2.2.2.2.2.2.2.2.2.1 z6.2.2.2.2.2.2.2.2.2.2.2.1 z6.2.2.2.2.2.2.2.2.2.2.2.2.1 z6.2.2.2.2.2.2.2.2.2.2.2.2.2.2.1 z6.2.2.2.2.2.2.2.2.2.2.2.2.2.1 v8.1 v8.2.1 v8.2.2.1) fun v9 => (k4 (v9.2.1, (v9.2.2.1, (v9.2.2.2.1, (v9.2.2.2.2.1, (v9.2.2.2.2.2.1, (v9.2.2.2.2.2.2.1, (v9.2.2.2.2.2.2.2.1, (v9.2.2.2.2.2.2.2.2.1, (v9.2.2.2.2.2.2.2.2.2.1, (v9.2.2.2.2.2.2.2.2.2.2.1, (v9.2.2.2.2.2.2.2.2.2.2.2.1, (v9.2.2.2.2.2.2.2.2.2.2.2.2.1, (v9.2.2.2.2.2.2.2.2.2.2.2.2.2.2.1, (v9.2.2.2.2.2.2.2.2.2.2.2.2.2.1, ())))))))))))))))) (W.call (acct_UnitsW W x5) fun v10 => W.call (fall_SharedW W (z6.2.1, (z6.2.2.1, (z6.2.2.2.1, (z6.2.2.2.2.1, (z6.2.2.2.2.2.1, (z6.2.2.2.2.2.2.1, (z6.2.2.2.2.2.2.2.1, (z6.2.2.2.2.2.2.2.2.1, (z6.2.2.2.2.2.2.2.2.2.1, (z6.2.2.2.2.2.2.2.2.2.2.1, (z6.2.2.2.2.2.2.2.2.2.2.2.1, (z6.2.2.2.2.2.2.2.2.2.2.2.2.1, ())))))))))))) v10) fun v11 => W.call (fall_run_stepW W z6.2.1 z6.2.2.1 z6.2.2.2.1 z6.2.2.2.2.1 z6.2.2.2.2.2.1 z6.2.2.2.2.2.2.1 z6.2.2.2.2.2.2.2.1 z6.2.2.2.2.2.2.2.2.1 z6.2.2.2.2.2.2.2.2.2.1 z6.2.2.2.2.2.2.2.2.2.2.1 z6.2.2.2.2.2.2.2.2.2.2.2.1 z6.2.2.2.2.2.2.2.2.2.2.2.2.1 z6.2.2.2.2.2.2.2.2.2.2.2.2.2.2.1 z6.2.2.2.2.2.2.2.2.2.2.2.2.2.1 v11.1 v11.2.1 v11.2.2.1) fun v12 => (k4 (v12.2.1, (v12.2.2.1, (v12.2.2.2.1, (v12.2.2.2.2.1, (v12.2.2.2.2.2.1, (v12.2.2.2.2.2.2.1, (v12.2.2.2.2.2.2.2.1, (v12.2.2.2.2.2.2.2.2.1, (v12.2.2.2.2.2.2.2.2.2.1, (v12.2.2.2.2.2.2.2.2.2.2.1, (v12.2.2.2.2.2.2.2.2.2.2.2.1, (v12.2.2.2.2.2.2.2.2.2.2.2.2.1, (v12.2.2.2.2.2.2.2.2.2.2.2.2.2.2.1, (v12.2.2.2.2.2.2.2.2.2.2.2.2.2.1, ())))))))))))))))))
      ((k4 z6.2)))
     fun k13 => 
     W.cnd (z1.2.2.2.2.2.2.2.2.2.2.2.2.2.1 == 0) ((k13 ((x5.2.2.1 == 2), z1.2)))
      ((k13 (false, z1.2))))
   (some ((), (z1.2.1, (z1.2.2.1, (z1.2.2.2.1, (z1.2.2.2.2.1, (z1.2.2.2.2.2.1, (z1.2.2.2.2.2.2.1, (z1.2.2.2.2.2.2.2.1, (z1.2.2.2.2.2.2.2.2.1, (z1.2.2.2.2.2.2.2.2.2.1, (z1.2.2.2.2.2.2.2.2.2.2.1, (z1.2.2.2.2.2.2.2.2.2.2.2.1, (z1.2.2.2.2.2.2.2.2.2.2.2.2.1, (z1.2.2.2.2.2.2.2.2.2.2.2.2.2.2.1, (z1.2.2.2.2.2.2.2.2.2.2.2.2.2.1, ())))))))))))))))))
  (0, (r0, (r1, (r2, (r3, (r4, (r5, (r6, (r7, (r8, (r9, (r10, (r11, (r13, (r12, ())))))))))))))))
def fall_PayW (W : Wd) (s : AState') (by_ : AUnit') (to_ : AUnit') : Option (AState' × (List ADebit') × Int × Unit) := W.call (fall_OwesW W s to_) fun v1 => W.call (fall_RoomW W s by_) fun v2 => 
 W.join (fun (z3 : Bool × Unit) => 
  W.cnd z3.1 (W.call (cmp_Or2W W (v1.2.1 :: (v2.2.1 :: []))) fun v4 => some ((0, ([], ([], ([], ([], ([], ([], ([], ([], ([], ([], ([], ())))))))))))), ([], (v4, ()))))
   (
   W.cnd (Go.Vc.notIf false ((by_.1 == to_.1) && (by_.2.1 == to_.2.1))) (some (s, ([], (0, ()))))
    (W.call (fall_paysW W s by_ to_ (if v2.1 < v1.1 then v2.1 else v1.1)) fun v5 => some v5)))
  fun k6 => 
  W.cnd (v1.2.1 != 0) ((k6 (true, ())))
   ((k6 ((v2.2.1 != 0), ())))
abbrev fall_Pay := fall_PayW stdW
def fall_run_othersW (W : Wd) (r0 : Int) (r1 : List AMember') (r2 : List AInst') (r3 : List ALot') (r4 : List AAccount') (r5 : List AChoice') (r6 : List AGroup') (r7 : List AGive') (r8 : List APos') (r9 : List APos') (r10 : List AFlow') (r11 : List AHold') (r12 : List ADebit') (r13 : Int) (to_ : List AUnit') (by_ : List AUnit') : Option (Unit × (Int × (List AMember') × (List AInst') × (List ALot') × (List AAccount') × (List AChoice') × (List AGroup') × (List AGive') × (List APos') × (List APos') × (List AFlow') × (List AHold') × (List ADebit') × Int × Unit)) := 
 W.loop (fun (z1 : Int × Int × List (Int × Int × Int × Int × Unit) × List (Int × Int × Int × Int × List (Int) × Unit) × List (Int × Int × Int × Unit) × List (Int × Int × Int × List (Int) × Unit) × List ((Int × Int × Unit) × (Int × Int × Unit) × Bool × Unit) × List (Int × (Int × Int × Unit) × Int × Int × Int × Unit) × List (Int × (Int × Int × Unit) × (Int × Int × Unit) × (Int × Int × Unit) × Int × Int × Int × Int × Unit) × List ((Int × Int × Unit) × List (Int × Int × Unit) × Unit) × List ((Int × Int × Unit) × List (Int × Int × Unit) × Unit) × List ((Int × Int × Unit) × Int × Unit) × List ((Int × Int × Unit) × List (Int × Int × Int × Unit) × Unit) × Int × List ((Int × Int × Unit) × (Int × Int × Unit) × Int × Unit) × Unit) again2 => 
  W.cnd (decide (z1.1 < (to_.length : Int))) (W.idx to_ z1.1 fun x3 => 
   W.loop (fun (z4 : Int × Int × List (Int × Int × Int × Int × Unit) × List (Int × Int × Int × Int × List (Int) × Unit) × List (Int × Int × Int × Unit) × List (Int × Int × Int × List (Int) × Unit) × List ((Int × Int × Unit) × (Int × Int × Unit) × Bool × Unit) × List (Int × (Int × Int × Unit) × Int × Int × Int × Unit) × List (Int × (Int × Int × Unit) × (Int × Int × Unit) × (Int × Int × Unit) × Int × Int × Int × Int × Unit) × List ((Int × Int × Unit) × List (Int × Int × Unit) × Unit) × List ((Int × Int × Unit) × List (Int × Int × Unit) × Unit) × List ((Int × Int × Unit) × Int × Unit) × List ((Int × Int × Unit) × List (Int × Int × Int × Unit) × Unit) × Int × List ((Int × Int × Unit) × (Int × Int × Unit) × Int × Unit) × Unit) again5 => 
    W.cnd (decide (z4.1 < (by_.length : Int))) (
     W.join (fun (z6 : Int × List (Int × Int × Int × Int × Unit) × List (Int × Int × Int × Int × List (Int) × Unit) × List (Int × Int × Int × Unit) × List (Int × Int × Int × List (Int) × Unit) × List ((Int × Int × Unit) × (Int × Int × Unit) × Bool × Unit) × List (Int × (Int × Int × Unit) × Int × Int × Int × Unit) × List (Int × (Int × Int × Unit) × (Int × Int × Unit) × (Int × Int × Unit) × Int × Int × Int × Int × Unit) × List ((Int × Int × Unit) × List (Int × Int × Unit) × Unit) × List ((Int × Int × Unit) × List (Int × Int × Unit) × Unit) × List ((Int × Int × Unit) × Int × Unit) × List ((Int × Int × Unit) × List (Int × Int × Int × Unit) × Unit) × Int × List ((Int × Int × Unit) × (Int × Int × Unit) × Int × Unit) × Unit) => (again5 ((IntKind.i64.wrap (z4.1 + 1)), z6)))
      fun k7 => W.idx by_ z4.1 fun x8 => 
      W.cnd (z4.2.2.2.2.2.2.2.2.2.2.2.2.2.1 == 0) (W.call (fall_PayW W (z4.2.1, (z4.2.2.1, (z4.2.2.2.1, (z4.2.2.2.2.1, (z4.2.2.2.2.2.1, (z4.2.2.2.2.2.2.1, (z4.2.2.2.2.2.2.2.1, (z4.2.2.2.2.2.2.2.2.1, (z4.2.2.2.2.2.2.2.2.2.1, (z4.2.2.2.2.2.2.2.2.2.2.1, (z4.2.2.2.2.2.2.2.2.2.2.2.1, (z4.2.2.2.2.2.2.2.2.2.2.2.2.1, ())))))))))))) x8 x3) fun v9 => W.call (fall_run_stepW W z4.2.1 z4.2.2.1 z4.2.2.2.1 z4.2.2.2.2.1 z4.2.2.2.2.2.1 z4.2.2.2.2.2.2.1 z4.2.2.2.2.2.2.2.1 z4.2.2.2.2.2.2.2.2.1 z4.2.2.2.2.2.2.2.2.2.1 z4.2.2.2.2.2.2.2.2.2.2.1 z4.2.2.2.2.2.2.2.2.2.2.2.1 z4.2.2.2.2.2.2.2.2.2.2.2.2.1 z4.2.2.2.2.2.2.2.2.2.2.2.2.2.2.1 z4.2.2.2.2.2.2.2.2.2.2.2.2.2.1 v9.1 v9.2.1 v9.2.2.1) fun v10 => (k7 (v10.2.1, (v10.2.2.1, (v10.2.2.2.1, (v10.2.2.2.2.1, (v10.2.2.2.2.2.1, (v10.2.2.2.2.2.2.1, (v10.2.2.2.2.2.2.2.1, (v10.2.2.2.2.2.2.2.2.1, (v10.2.2.2.2.2.2.2.2.2.1, (v10.2.2.2.2.2.2.2.2.2.2.1, (v10.2.2.2.2.2.2.2.2.2.2.2.1, (v10.2.2.2.2.2.2.2.2.2.2.2.2.1, (v10.2.2.2.2.2.2.2.2.2.2.2.2.2.2.1, (v10.2.2.2.2.2.2.2.2.2.2.2.2.2.1, ()))))))))))))))))
       ((k7 z4.2)))
     ((again2 ((IntKind.i64.wrap (z1.1 + 1)), z4.2))))
    (0, z1.2))
   (some ((), (z1.2.1, (z1.2.2.1, (z1.2.2.2.1, (z1.2.2.2.2.1, (z1.2.2.2.2.2.1, (z1.2.2.2.2.2.2.1, (z1.2.2.2.2.2.2.2.1, (z1.2.2.2.2.2.2.2.2.1, (z1.2.2.2.2.2.2.2.2.2.1, (z1.2.2.2.2.2.2.2.2.2.2.1, (z1.2.2.2.2.2.2.2.2.2.2.2.1, (z1.2.2.2.2.2.2.2.2.2.2.2.2.1, (z1.2.2.2.2.2.2.2.2.2.2.2.2.2.2.1, (z1.2.2.2.2.2.2.2.2.2.2.2.2.2.1, ())))))))))))))))))
  (0, (r0, (r1, (r2, (r3, (r4, (r5, (r6, (r7, (r8, (r9, (r10, (r11, (r13, (r12, ())))))))))))))))
def fall_AllW (W : Wd) (s : AState') (id : Int) : Option (AState' × (List ADebit') × Int × Unit) := W.call (acct_OfW W s.2.2.2.2.1 id) fun v1 => W.call (fall_unitsW W v1) fun v2 => W.call (fall_run_ownW W s.1 s.2.1 s.2.2.1 s.2.2.2.1 s.2.2.2.2.1 s.2.2.2.2.2.1 s.2.2.2.2.2.2.1 s.2.2.2.2.2.2.2.1 s.2.2.2.2.2.2.2.2.1 s.2.2.2.2.2.2.2.2.2.1 s.2.2.2.2.2.2.2.2.2.2.1 s.2.2.2.2.2.2.2.2.2.2.2.1 [] 0 v2.1) fun v3 => W.call (fall_run_sharedW W v3.2.1 v3.2.2.1 v3.2.2.2.1 v3.2.2.2.2.1 v3.2.2.2.2.2.1 v3.2.2.2.2.2.2.1 v3.2.2.2.2.2.2.2.1 v3.2.2.2.2.2.2.2.2.1 v3.2.2.2.2.2.2.2.2.2.1 v3.2.2.2.2.2.2.2.2.2.2.1 v3.2.2.2.2.2.2.2.2.2.2.2.1 v3.2.2.2.2.2.2.2.2.2.2.2.2.1 v3.2.2.2.2.2.2.2.2.2.2.2.2.2.1 v3.2.2.2.2.2.2.2.2.2.2.2.2.2.2.1 v1) fun v4 => W.call (fall_run_othersW W v4.2.1 v4.2.2.1 v4.2.2.2.1 v4.2.2.2.2.1 v4.2.2.2.2.2.1 v4.2.2.2.2.2.2.1 v4.2.2.2.2.2.2.2.1 v4.2.2.2.2.2.2.2.2.1 v4.2.2.2.2.2.2.2.2.2.1 v4.2.2.2.2.2.2.2.2.2.2.1 v4.2.2.2.2.2.2.2.2.2.2.2.1 v4.2.2.2.2.2.2.2.2.2.2.2.2.1 v4.2.2.2.2.2.2.2.2.2.2.2.2.2.1 v4.2.2.2.2.2.2.2.2.2.2.2.2.2.2.1 v2.1 v2.2.1) fun v5 => W.call (fall_FundW W) fun v6 => W.call (fall_run_othersW W v5.2.1 v5.2.2.1 v5.2.2.2.1 v5.2.2.2.2.1 v5.2.2.2.2.2.1 v5.2.2.2.2.2.2.1 v5.2.2.2.2.2.2.2.1 v5.2.2.2.2.2.2.2.2.1 v5.2.2.2.2.2.2.2.2.2.1 v5.2.2.2.2.2.2.2.2.2.2.1 v5.2.2.2.2.2.2.2.2.2.2.2.1 v5.2.2.2.2.2.2.2.2.2.2.2.2.1 v5.2.2.2.2.2.2.2.2.2.2.2.2.2.1 v5.2.2.2.2.2.2.2.2.2.2.2.2.2.2.1 v2.1 (v6 :: [])) fun v7 => 
 W.cnd (v7.2.2.2.2.2.2.2.2.2.2.2.2.2.2.1 != 0) (some ((0, ([], ([], ([], ([], ([], ([], ([], ([], ([], ([], ([], ())))))))))))), ([], v7.2.2.2.2.2.2.2.2.2.2.2.2.2.2)))
  (some ((v7.2.1, (v7.2.2.1, (v7.2.2.2.1, (v7.2.2.2.2.1, (v7.2.2.2.2.2.1, (v7.2.2.2.2.2.2.1, (v7.2.2.2.2.2.2.2.1, (v7.2.2.2.2.2.2.2.2.1, (v7.2.2.2.2.2.2.2.2.2.1, (v7.2.2.2.2.2.2.2.2.2.2.1, (v7.2.2.2.2.2.2.2.2.2.2.2.1, (v7.2.2.2.2.2.2.2.2.2.2.2.2.1, ())))))))))))), (v7.2.2.2.2.2.2.2.2.2.2.2.2.2.1, (0, ()))))
def ref31_SameDebitsW (W : Wd) (a : List ADebit') (b : List ADebit') : Option Bool := 
 W.cnd ((a.length : Int) != (b.length : Int)) (some false)
  (
  W.loop (fun (z1 : Int × Unit) again2 => 
   W.cnd (decide (z1.1 < (a.length : Int))) (W.idx a z1.1 fun x3 => W.idx b z1.1 fun x4 => 
    W.cnd (Go.Vc.notIf true ((x3.1.1 == x4.1.1) && ((x3.1.2.1 == x4.1.2.1) && ((x3.2.1.1 == x4.2.1.1) && ((x3.2.1.2.1 == x4.2.1.2.1) && (x3.2.2.1 == x4.2.2.1)))))) (some false)
     ((again2 ((IntKind.i64.wrap (z1.1 + 1)), ()))))
    (some true))
   (0, ()))
abbrev ref31_SameDebits := ref31_SameDebitsW stdW
def law31_livesW (W : Wd) : Option Bool := W.call (fall_AllW W (0, ([], ([], (((1, (3, (0, ()))) :: []), (((1, (1, (1, ([], ())))) :: []), ([], ([], ([], ([], ([], ((((1, (0, ())), ((-10), ())) :: []), ((((1, (0, ())), (((1, (0, (4, ()))) :: []), ())) :: []), ())))))))))))) 1) fun v1 => 
 W.cnd (v1.2.2.1 == 0) (W.call (ref31_SameDebitsW W v1.2.1 (((1, (0, ())), ((1, (0, ())), (10, ()))) :: [])) fun v2 => 
  W.cnd v2 (W.call (ref17_GetW W v1.1.2.2.2.2.2.2.2.2.2.2.1 (1, (0, ()))) fun v3 => 
   W.cnd (v3 == 2) (W.call (ref26_LotsW W v1.1.2.2.2.2.2.2.2.2.2.2.2.1 (1, (0, ()))) fun v4 => some ((v4.length : Int) == 0))
    (some false))
   (some false))
  (some false)
abbrev law31_lives := law31_livesW stdW
def law31_FallSellsW (W : Wd) (s : AState') (u : AUnit') (cash : Int) : Option Bool := W.call (law31_FewW W s) fun v1 => W.call (fall_OwesW W v1 u) fun v2 => W.call (ref31_OwesW W v1 u) fun v3 => W.call (fall_RoomW W v1 u) fun v4 => W.call (ref31_RoomW W v1 u) fun v5 => W.call (fall_SellW W v1 u cash) fun v6 => W.call (ref31_SellW W v1 u cash) fun v7 => 
 W.cnd (v2.1 == v3.1) (
  W.cnd (v2.2.1 == v3.2.1) (
   W.cnd (v4.1 == v5.1) (
    W.cnd (v4.2.1 == v5.2.1) (W.call (ref31_SameW W v6.1 v7.1) fun v8 => 
     W.cnd v8 (
      W.cnd (v6.2.1 == v7.2.1) (W.call (fall_TreasuryW W) fun v9 => 
       W.cnd (Go.Vc.notIf false ((v9.1 == 0) && (v9.2.1 == 1))) (W.call (fall_FundW W) fun v10 => 
        W.cnd (Go.Vc.notIf false ((v10.1 == 0) && (v10.2.1 == 0))) (W.call (law31_livesW W) fun v11 => some v11)
         (some false))
        (some false))
       (some false))
      (some false))
     (some false))
    (some false))
   (some false))
  (some false)
def ref31_paysW (W : Wd) (s : AState') (by_ : AUnit') (to_ : AUnit') (amount : Int) : Option (AState' × (List ADebit') × Int × Unit) := 
 W.cnd (amount == 0) (some (s, ([], (0, ()))))
  (W.call (ref31_SellW W s by_ amount) fun v1 => 
  W.cnd (v1.2.1 != 0) (some ((0, ([], ([], ([], ([], ([], ([], ([], ([], ([], ([], ([], ())))))))))))), ([], v1.2)))
   (W.call (ref31_MoveW W v1.1 by_ to_ amount) fun v2 => 
   W.cnd (v2.2.1 != 0) (some ((0, ([], ([], ([], ([], ([], ([], ([], ([], ([], ([], ([], ())))))))))))), ([], v2.2)))
    (W.both (some (v2.1, (((by_, (to_, (amount, ()))) :: []), (0, ())))) (some (v2.1, (((by_, (to_, (amount, ()))) :: []), (0, ())))))))
abbrev ref31_pays := ref31_paysW stdW
def ref31_PayW (W : Wd) (s : AState') (by_ : AUnit') (to_ : AUnit') : Option (AState' × (List ADebit') × Int × Unit) := W.call (ref31_OwesW W s to_) fun v1 => 
 W.cnd (v1.2.1 != 0) (some ((0, ([], ([], ([], ([], ([], ([], ([], ([], ([], ([], ([], ())))))))))))), ([], v1.2)))
  (W.call (ref31_RoomW W s by_) fun v2 => 
  W.cnd (v2.2.1 != 0) (some ((0, ([], ([], ([], ([], ([], ([], ([], ([], ([], ([], ([], ())))))))))))), ([], v2.2)))
   (
   W.cnd (Go.Vc.notIf false ((by_.1 == to_.1) && (by_.2.1 == to_.2.1))) (some (s, ([], (0, ()))))
    (
    W.join (fun (z3 : Int × Unit) => W.call (ref31_paysW W s by_ to_ z3.1) fun v4 => some v4)
     fun k5 => 
     W.cnd (decide (v2.1 < v1.1)) ((k5 (v2.1, ())))
      ((k5 (v1.1, ()))))))
abbrev ref31_Pay := ref31_PayW stdW
def ref31_OwnW (W : Wd) (s : AState') (u : AUnit') : Option (AState' × (List ADebit') × Int × Unit) := W.call (ref31_OwesW W s u) fun v1 => 
 W.cnd (v1.2.1 != 0) (some ((0, ([], ([], ([], ([], ([], ([], ([], ([], ([], ([], ([], ())))))))))))), ([], v1.2)))
  (W.call (ref31_SellW W s u 0) fun v2 => 
  W.cnd (v2.2.1 != 0) (some ((0, ([], ([], ([], ([], ([], ([], ([], ([], ([], ([], ([], ())))))))))))), ([], v2.2)))
   (W.call (ref31_OwesW W v2.1 u) fun v3 => 
   W.cnd (v3.1 == v1.1) (some (v2.1, ([], (0, ()))))
    (W.both (some (v2.1, (((u, (u, ((IntKind.i64.wrap (v1.1 - v3.1)), ()))) :: []), (0, ())))) (some (v2.1, (((u, (u, ((IntKind.i64.wrap (v1.1 - v3.1)), ()))) :: []), (0, ())))))))
abbrev ref31_Own := ref31_OwnW stdW
def law31_FallPaysW (W : Wd) (s : AState') (by_ : AUnit') (to_ : AUnit') : Option Bool := W.call (law31_FewW W s) fun v1 => W.call (fall_PayW W v1 by_ to_) fun v2 => W.call (ref31_PayW W v1 by_ to_) fun v3 => W.call (fall_OwnW W v1 to_) fun v4 => W.call (ref31_OwnW W v1 to_) fun v5 => W.call (ref31_SameW W v2.1 v3.1) fun v6 => 
 W.cnd v6 (W.call (ref31_SameDebitsW W v2.2.1 v3.2.1) fun v7 => 
  W.cnd v7 (
   W.cnd (v2.2.2.1 == v3.2.2.1) (W.call (ref31_SameW W v4.1 v5.1) fun v8 => 
    W.cnd v8 (W.call (ref31_SameDebitsW W v4.2.1 v5.2.1) fun v9 => 
     W.cnd v9 (
      W.cnd (v4.2.2.1 == v5.2.2.1) (W.call (law31_livesW W) fun v10 => some v10)
       (some false))
      (some false))
     (some false))
    (some false))
   (some false))
  (some false)
end Go.Proofs.YtllkmncnmlmefaaGreat
