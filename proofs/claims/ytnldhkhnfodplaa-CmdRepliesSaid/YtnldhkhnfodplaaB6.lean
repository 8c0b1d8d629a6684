import Derived.Test.YtnldhkhnfodplaaB5
import Derived.Test.YtnldhkhnfodplaaRows
import Derived.JoinedOf
namespace Go.Proofs.Ytnldhkhnfodplaa
open Go Go.Vc Go.RowKit
set_option maxRecDepth 100000
@[reducible] def tADebit : DT := (.pair tAUnit (.pair tAUnit (.pair (.int .i64) .unit)))
abbrev ADebit' := AUnit' × AUnit' × Int × Unit
@[reducible] def tALot : DT := (.pair (.int .i64) (.pair (.int .i64) (.pair (.int .i64) .unit)))
abbrev ALot' := Int × Int × Int × Unit
@[reducible] def tAReturn : DT := (.pair tAUnit (.pair (.int .i64) (.pair (.slc tALot) .unit)))
abbrev AReturn' := AUnit' × Int × (List ALot') × Unit
@[reducible] def tAReply : DT := (.pair (.int .i64) (.pair (.slc (.int .i64)) (.pair (.slc tADebit) (.pair (.slc tAReturn) .unit))))
abbrev AReply' := Int × (List Int) × (List ADebit') × (List AReturn') × Unit
noncomputable def law18_FewW (W : Wd) (l : List ALot') : Option (List ALot') := 
 W.cnd (decide (20 < (l.length : Int))) (W.bnd 20 l.length fun h1 => some (l.take h1))
  (some l)
noncomputable def law18_Few (l : List ALot') : Option (List ALot') := law18_FewW stdW l
noncomputable def law18_Few_s : ES := ⟨(.pair (.slc tALot) .unit), (.v (.slc tALot)), fun x => law18_Few x.1⟩
theorem law18_Few_ok : ECok Try.prog 95 (.es law18_Few_s)   := es_ok (A := (.pair (.slc tALot) .unit)) (Q := (.v (.slc tALot))) (fun W x => law18_FewW W x.1) [] trivial [] [] [] Try.func95 rfl (by decide +kernel) rfl rfl (fun W x => by kernel_rfl)
noncomputable def law34_fewW (W : Wd) (r : AReply') : Option AReply' := 
 W.join (fun (z1 : Int × List (Int) × Unit) => 
  W.loop (fun (z2 : Int × Int × List (Int) × List ((Int × Int × Unit) × (Int × Int × Unit) × Int × Unit) × List ((Int × Int × Unit) × Int × List (Int × Int × Int × Unit) × Unit) × Unit) again3 => 
   W.cnd (decide (z2.1 < 12)) (
    W.join (fun (z4 : Int × List (Int) × List ((Int × Int × Unit) × (Int × Int × Unit) × Int × Unit) × List ((Int × Int × Unit) × Int × List (Int × Int × Int × Unit) × Unit) × Unit) => (again3 ((IntKind.i64.wrap (z2.1 + 1)), (z4.1, (z4.2.1, (z4.2.2.1, (z4.2.2.2.1, ())))))))
     fun k5 => 
     W.join (fun (z6 : Int × List (Int) × List ((Int × Int × Unit) × (Int × Int × Unit) × Int × Unit) × List ((Int × Int × Unit) × Int × List (Int × Int × Int × Unit) × Unit) × Unit) => 
      W.cnd (decide (z2.1 < (r.2.2.2.1.length : Int))) (W.idx r.2.2.2.1 z2.1 fun x7 => W.call (law18_Few x7.2.2.1) fun v8 => W.room (z6.2.2.2.1.length + ((x7.1, (x7.2.1, (v8, ()))) :: []).length) 48 ((k5 (z6.1, (z6.2.1, (z6.2.2.1, ((z6.2.2.2.1 ++ ((x7.1, (x7.2.1, (v8, ()))) :: [])), ())))))))
       ((k5 (z6.1, (z6.2.1, (z6.2.2.1, (z6.2.2.2.1, ())))))))
      fun k9 => 
      W.cnd (decide (z2.1 < (r.2.2.1.length : Int))) (W.idx r.2.2.1 z2.1 fun x10 => W.both (W.room (z2.2.2.2.1.length + (x10 :: []).length) 40 ((k9 (z2.2.1, (z2.2.2.1, ((z2.2.2.2.1 ++ (x10 :: [])), (z2.2.2.2.2.1, ()))))))) (W.room (z2.2.2.2.1.length + (x10 :: []).length) 40 ((k9 (z2.2.1, (z2.2.2.1, ((z2.2.2.2.1 ++ (x10 :: [])), (z2.2.2.2.2.1, ()))))))))
       ((k9 (z2.2.1, (z2.2.2.1, (z2.2.2.2.1, (z2.2.2.2.2.1, ())))))))
    (some (z2.2.1, (z2.2.2.1, (z2.2.2.2.1, (z2.2.2.2.2.1, ()))))))
   (0, (z1.1, (z1.2.1, ([], ([], ()))))))
  fun k11 => 
  W.cnd (decide (40 < (r.2.1.length : Int))) (W.bnd 40 r.2.1.length fun h12 => (k11 (r.1, ((r.2.1.take h12), ()))))
   ((k11 (r.1, (r.2.1, ()))))
noncomputable def law34_few (r : AReply') : Option AReply' := law34_fewW stdW r
noncomputable def law34_few_s : ES := ⟨(.pair tAReply .unit), (.v tAReply), fun x => law34_few x.1⟩
theorem law34_few_ok : ECok Try.prog 71 (.es law34_few_s)   := es_ok (A := (.pair tAReply .unit)) (Q := (.v tAReply)) (fun W x => law34_fewW W x.1) [(95, .es law18_Few_s)] ⟨law18_Few_ok, trivial⟩ [(8, [2], (.rd 0 (.rd 2 (.rd 3 (.rd 4 (.rd 5 (.rd 6 (.two 1 7 (ofL [(7, false), (8, false), (9, true), (10, false)]) (ofL [(1, false), (8, false), (9, true), (10, false)])))))))))] [(4, ⟨[], [(2, [.t (.int .i64), .t (.slc (.int .i64)), .nil, .nil])], []⟩), (6, ⟨[], [(2, [.t (.int .i64), .t (.slc (.int .i64)), .row 1, .row 3])], [.dead, .own 174 tADebit, .dead, .own 163 tAReturn]⟩), (9, ⟨[], [(2, [.t (.int .i64), .t (.slc (.int .i64)), .row 1, .row 3])], [.dead, .own 174 tADebit, .dead, .own 163 tAReturn]⟩)] [(5, ⟨[(4, .t (.int .i64))], [(2, [.t (.int .i64), .t (.slc (.int .i64)), .row 1, .row 3])], [.dead, .own 174 tADebit, .dead, .own 163 tAReturn]⟩)] Try.func71 rfl (by decide +kernel) rfl rfl (fun W x => by kernel_rfl)
noncomputable def cmd_EncodeReplyW (W : Wd) (r : AReply') : Option (List Int) := W.both (W.call (pack_New) fun v1 => W.call (pack_Writer_Int (r.1 :: ((r.2.1.length : Int) :: [])) v1.1.1 v1.1.2.1) fun v2 => W.call (pack_Writer_Int r.2.1 v2.2.1 v2.2.2.1) fun v3 => W.call (pack_Writer_Int ((r.2.2.1.length : Int) :: []) v3.2.1 v3.2.2.1) fun v4 => 
  W.loop (fun (z5 : Int × Bool × List (Int) × Unit) again6 => 
   W.cnd (decide (z5.1 < (r.2.2.1.length : Int))) (W.idx r.2.2.1 z5.1 fun x7 => W.call (cmd_unit x7.1 z5.2.1 z5.2.2.1) fun v8 => W.call (cmd_unit x7.2.1 v8.2.1 v8.2.2.1) fun v9 => W.call (pack_Writer_Int (x7.2.2.1 :: []) v9.2.1 v9.2.2.1) fun v10 => (again6 ((IntKind.i64.wrap (z5.1 + 1)), (v10.2.1, (v10.2.2.1, ())))))
    (W.call (pack_Writer_Int ((r.2.2.2.1.length : Int) :: []) z5.2.1 z5.2.2.1) fun v11 => 
    W.loop (fun (z12 : Int × Bool × List (Int) × Unit) again13 => 
     W.cnd (decide (z12.1 < (r.2.2.2.1.length : Int))) (W.idx r.2.2.2.1 z12.1 fun x14 => W.call (cmd_unit x14.1 z12.2.1 z12.2.2.1) fun v15 => W.call (pack_Writer_Int (x14.2.1 :: ((x14.2.2.1.length : Int) :: [])) v15.2.1 v15.2.2.1) fun v16 => 
      W.loop (fun (z17 : Int × Bool × List (Int) × Unit) again18 => 
       W.cnd (decide (z17.1 < (x14.2.2.1.length : Int))) (W.idx x14.2.2.1 z17.1 fun x19 => W.call (pack_Writer_Int (x19.1 :: (x19.2.1 :: (x19.2.2.1 :: []))) z17.2.1 z17.2.2.1) fun v20 => (again18 ((IntKind.i64.wrap (z17.1 + 1)), (v20.2.1, (v20.2.2.1, ())))))
        ((again13 ((IntKind.i64.wrap (z12.1 + 1)), (z17.2.1, (z17.2.2.1, ()))))))
       (0, (v16.2.1, (v16.2.2.1, ()))))
      (W.call (pack_Writer_Done z12.2.1 z12.2.2.1) fun v21 => some v21.1))
     (0, (v11.2.1, (v11.2.2.1, ())))))
   (0, (v4.2.1, (v4.2.2.1, ())))) (W.call (pack_New) fun v22 => W.call (pack_Writer_Int (r.1 :: ((r.2.1.length : Int) :: [])) v22.1.1 v22.1.2.1) fun v23 => W.call (pack_Writer_Int r.2.1 v23.2.1 v23.2.2.1) fun v24 => W.call (pack_Writer_Int ((r.2.2.1.length : Int) :: []) v24.2.1 v24.2.2.1) fun v25 => 
  W.loop (fun (z26 : Int × Bool × List (Int) × Unit) again27 => 
   W.cnd (decide (z26.1 < (r.2.2.1.length : Int))) (W.idx r.2.2.1 z26.1 fun x28 => W.call (cmd_unit x28.1 z26.2.1 z26.2.2.1) fun v29 => W.call (cmd_unit x28.2.1 v29.2.1 v29.2.2.1) fun v30 => W.call (pack_Writer_Int (x28.2.2.1 :: []) v30.2.1 v30.2.2.1) fun v31 => (again27 ((IntKind.i64.wrap (z26.1 + 1)), (v31.2.1, (v31.2.2.1, ())))))
    (W.call (pack_Writer_Int ((r.2.2.2.1.length : Int) :: []) z26.2.1 z26.2.2.1) fun v32 => 
    W.loop (fun (z33 : Int × Bool × List (Int) × Unit) again34 => 
     W.cnd (decide (z33.1 < (r.2.2.2.1.length : Int))) (W.idx r.2.2.2.1 z33.1 fun x35 => W.call (cmd_unit x35.1 z33.2.1 z33.2.2.1) fun v36 => W.call (pack_Writer_Int (x35.2.1 :: ((x35.2.2.1.length : Int) :: [])) v36.2.1 v36.2.2.1) fun v37 => 
      W.loop (fun (z38 : Int × Bool × List (Int) × Unit) again39 => 
       W.cnd (decide (z38.1 < (x35.2.2.1.length : Int))) (W.idx x35.2.2.1 z38.1 fun x40 => W.call (pack_Writer_Int (x40.1 :: (x40.2.1 :: (x40.2.2.1 :: []))) z38.2.1 z38.2.2.1) fun v41 => (again39 ((IntKind.i64.wrap (z38.1 + 1)), (v41.2.1, (v41.2.2.1, ())))))
        ((again34 ((IntKind.i64.wrap (z33.1 + 1)), (z38.2.1, (z38.2.2.1, ()))))))
       (0, (v37.2.1, (v37.2.2.1, ()))))
      (W.call (pack_Writer_Done z33.2.1 z33.2.2.1) fun v42 => some v42.1))
     (0, (v32.2.1, (v32.2.2.1, ())))))
   (0, (v25.2.1, (v25.2.2.1, ()))))
noncomputable def cmd_EncodeReply (r : AReply') : Option (List Int) := cmd_EncodeReplyW stdW r
noncomputable def cmd_EncodeReply_s : ES := ⟨(.pair tAReply .unit), (.own 5 (.int .u8)), fun x => cmd_EncodeReply x.1⟩
theorem cmd_EncodeReply_ok : ECok Try.prog 72 (.es cmd_EncodeReply_s)   := es_ok (A := (.pair tAReply .unit)) (Q := (.own 5 (.int .u8))) (fun W x => cmd_EncodeReplyW W x.1) [(25, .ls pack_New_s), (26, .ls pack_Writer_Int_s), (126, .ls cmd_unit_s), (33, .ls pack_Writer_Done_s)] ⟨pack_New_ok, pack_Writer_Int_ok, cmd_unit_ok, pack_Writer_Done_ok, trivial⟩ [(1, [], (.rd 1 (.rd 2 (.rd 3 (.rd 4 (.rd 5 (.rd 8 (.rd 9 (.two 0 6 (ofL [(6, false), (7, false), (10, false), (11, true)]) (ofL [(0, false), (7, false), (10, false), (11, true)]))))))))))] [] [(4, ⟨[(30, .t (.int .i64))], [(1, [.t .bool, .row 0])], [.own 5 (.int .u8)]⟩), (4, ⟨[(30, .t (.int .i64))], [(1, [.t .bool, .row 1])], [.dead, .own 5 (.int .u8)]⟩), (12, ⟨[(57, .t (.int .i64))], [(1, [.t .bool, .row 0])], [.own 5 (.int .u8)]⟩), (12, ⟨[(57, .t (.int .i64))], [(1, [.t .bool, .row 1])], [.dead, .own 5 (.int .u8)]⟩), (17, ⟨[(76, .t (.int .i64))], [(1, [.t .bool, .row 0])], [.own 5 (.int .u8)]⟩), (17, ⟨[(76, .t (.int .i64))], [(1, [.t .bool, .row 1])], [.dead, .own 5 (.int .u8)]⟩)] Try.func72 rfl (by decide +kernel) rfl rfl (fun W x => by kernel_rfl)
noncomputable def cmd_anyIntW (W : Wd) (r0 : Bool) (r1 : List Int) (r2 : Int) : Option (Int × (Bool × (List Int) × Int × Unit)) := W.call (pack_Reader_Int (-9223372036854775808) 9223372036854775807 r0 r1 r2) fun v1 => some (v1.1, (v1.2.1, (v1.2.2.1, v1.2.2.2)))
noncomputable def cmd_anyInt (r0 : Bool) (r1 : List Int) (r2 : Int) : Option (Int × (Bool × (List Int) × Int × Unit)) := cmd_anyIntW stdW r0 r1 r2
noncomputable def cmd_anyInt_s : LS := ⟨[.ptr], [⟨65, [.v .bool, .v (.slc (.int .u8)), .v (.int .i64)]⟩], [⟨65, [.v .bool, .v (.slc (.int .u8)), .v (.int .i64)]⟩], (.q (.v (.int .i64))), fun x => cmd_anyInt x.1 x.2.1 x.2.2.1⟩
theorem cmd_anyInt_ok : ECok Try.prog 127 (.ls cmd_anyInt_s)   := ls_ok (A := [.ptr]) (B := [⟨65, [.v .bool, .v (.slc (.int .u8)), .v (.int .i64)]⟩]) (E := [⟨65, [.v .bool, .v (.slc (.int .u8)), .v (.int .i64)]⟩]) (Q := (.q (.v (.int .i64)))) (fun W x => cmd_anyIntW W x.1 x.2.1 x.2.2.1) [(37, .ls pack_Reader_Int_s)] ⟨pack_Reader_Int_ok, trivial⟩ [] [] [] Try.func127 rfl (by decide +kernel) rfl rfl rfl rfl rfl (fun W x => by kernel_rfl)
noncomputable def cmd_anyUnitW (W : Wd) (r0 : Bool) (r1 : List Int) (r2 : Int) : Option (AUnit' × (Bool × (List Int) × Int × Unit)) := W.call (cmd_anyInt r0 r1 r2) fun v1 => W.call (cmd_anyInt v1.2.1 v1.2.2.1 v1.2.2.2.1) fun v2 => some ((v1.1, (v2.1, ())), (v2.2.1, (v2.2.2.1, v2.2.2.2)))
noncomputable def cmd_anyUnit (r0 : Bool) (r1 : List Int) (r2 : Int) : Option (AUnit' × (Bool × (List Int) × Int × Unit)) := cmd_anyUnitW stdW r0 r1 r2
noncomputable def cmd_anyUnit_s : LS := ⟨[.ptr], [⟨65, [.v .bool, .v (.slc (.int .u8)), .v (.int .i64)]⟩], [⟨65, [.v .bool, .v (.slc (.int .u8)), .v (.int .i64)]⟩], (.q (.v tAUnit)), fun x => cmd_anyUnit x.1 x.2.1 x.2.2.1⟩
theorem cmd_anyUnit_ok : ECok Try.prog 130 (.ls cmd_anyUnit_s)   := ls_ok (A := [.ptr]) (B := [⟨65, [.v .bool, .v (.slc (.int .u8)), .v (.int .i64)]⟩]) (E := [⟨65, [.v .bool, .v (.slc (.int .u8)), .v (.int .i64)]⟩]) (Q := (.q (.v tAUnit))) (fun W x => cmd_anyUnitW W x.1 x.2.1 x.2.2.1) [(127, .ls cmd_anyInt_s)] ⟨cmd_anyInt_ok, trivial⟩ [] [] [] Try.func130 rfl (by decide +kernel) rfl rfl rfl rfl rfl (fun W x => by kernel_rfl)
noncomputable def cmd_backW (W : Wd) (r0 : Bool) (r1 : List Int) (r2 : Int) : Option (AReturn' × (Bool × (List Int) × Int × Unit)) := W.call (cmd_anyUnit r0 r1 r2) fun v1 => W.call (pack_Reader_Int (-9223372036854775808) 9223372036854775807 v1.2.1 v1.2.2.1 v1.2.2.2.1) fun v2 => 
 W.join (fun (z3 : Bool × List (Int) × Int × Int × Int × Int × List (Int × Int × Int × Unit) × Unit) => some (((z3.2.2.2.1, (z3.2.2.2.2.1, ())), (z3.2.2.2.2.2.1, (z3.2.2.2.2.2.2.1, ()))), (z3.1, (z3.2.1, (z3.2.2.1, ())))))
  fun k4 => W.call (cmd_small 4096 v2.2.1 v2.2.2.1 v2.2.2.2.1) fun v5 => 
  W.loop (fun (z6 : Int × Bool × List (Int) × Int × Int × Int × Int × List (Int × Int × Int × Unit) × Unit) again7 => 
   W.cnd (decide (0 < z6.1)) (W.call (pack_Reader_Err z6.2.1 z6.2.2.1 z6.2.2.2.1) fun v8 => 
    W.cnd (v8.1 == 0) (
     W.join (fun (z9 : Bool × List (Int) × Int × Int × Int × Int × List (Int × Int × Int × Unit) × Unit) => (again7 ((IntKind.i64.wrap (z6.1 - 1)), (z9.1, (z9.2.1, (z9.2.2.1, (z9.2.2.2.1, (z9.2.2.2.2.1, (z9.2.2.2.2.2.1, (z9.2.2.2.2.2.2.1, ()))))))))))
      fun k10 => W.both (W.call (cmd_anyInt v8.2.1 v8.2.2.1 v8.2.2.2.1) fun v11 => W.call (cmd_anyInt v11.2.1 v11.2.2.1 v11.2.2.2.1) fun v12 => W.call (pack_Reader_Int (-9223372036854775808) 9223372036854775807 v12.2.1 v12.2.2.1 v12.2.2.2.1) fun v13 => W.room (z6.2.2.2.2.2.2.2.1.length + ((v11.1, (v12.1, (v13.1, ()))) :: []).length) 24 ((k10 (v13.2.1, (v13.2.2.1, (v13.2.2.2.1, (z6.2.2.2.2.1, (z6.2.2.2.2.2.1, (z6.2.2.2.2.2.2.1, ((z6.2.2.2.2.2.2.2.1 ++ ((v11.1, (v12.1, (v13.1, ()))) :: [])), ())))))))))) (W.call (cmd_anyInt v8.2.1 v8.2.2.1 v8.2.2.2.1) fun v14 => W.both (W.call (cmd_anyInt v14.2.1 v14.2.2.1 v14.2.2.2.1) fun v15 => W.call (pack_Reader_Int (-9223372036854775808) 9223372036854775807 v15.2.1 v15.2.2.1 v15.2.2.2.1) fun v16 => W.room (z6.2.2.2.2.2.2.2.1.length + ((v14.1, (v15.1, (v16.1, ()))) :: []).length) 24 ((k10 (v16.2.1, (v16.2.2.1, (v16.2.2.2.1, (z6.2.2.2.2.1, (z6.2.2.2.2.2.1, (z6.2.2.2.2.2.2.1, ((z6.2.2.2.2.2.2.2.1 ++ ((v14.1, (v15.1, (v16.1, ()))) :: [])), ())))))))))) (W.call (cmd_anyInt v14.2.1 v14.2.2.1 v14.2.2.2.1) fun v17 => W.both (W.call (pack_Reader_Int (-9223372036854775808) 9223372036854775807 v17.2.1 v17.2.2.1 v17.2.2.2.1) fun v18 => W.room (z6.2.2.2.2.2.2.2.1.length + ((v14.1, (v17.1, (v18.1, ()))) :: []).length) 24 ((k10 (v18.2.1, (v18.2.2.1, (v18.2.2.2.1, (z6.2.2.2.2.1, (z6.2.2.2.2.2.1, (z6.2.2.2.2.2.2.1, ((z6.2.2.2.2.2.2.2.1 ++ ((v14.1, (v17.1, (v18.1, ()))) :: [])), ())))))))))) (W.call (pack_Reader_Int (-9223372036854775808) 9223372036854775807 v17.2.1 v17.2.2.1 v17.2.2.2.1) fun v19 => W.both (W.room (z6.2.2.2.2.2.2.2.1.length + ((v14.1, (v17.1, (v19.1, ()))) :: []).length) 24 ((k10 (v19.2.1, (v19.2.2.1, (v19.2.2.2.1, (z6.2.2.2.2.1, (z6.2.2.2.2.2.1, (z6.2.2.2.2.2.2.1, ((z6.2.2.2.2.2.2.2.1 ++ ((v14.1, (v17.1, (v19.1, ()))) :: [])), ())))))))))) (W.room (z6.2.2.2.2.2.2.2.1.length + ((v14.1, (v17.1, (v19.1, ()))) :: []).length) 24 ((k10 (v19.2.1, (v19.2.2.1, (v19.2.2.2.1, (z6.2.2.2.2.1, (z6.2.2.2.2.2.1, (z6.2.2.2.2.2.2.1, ((z6.2.2.2.2.2.2.2.1 ++ ((v14.1, (v17.1, (v19.1, ()))) :: [])), ()))))))))))))))
     ((k4 (v8.2.1, (v8.2.2.1, (v8.2.2.2.1, (z6.2.2.2.2.1, (z6.2.2.2.2.2.1, (z6.2.2.2.2.2.2.1, (z6.2.2.2.2.2.2.2.1, ()))))))))))
    ((k4 (z6.2.1, (z6.2.2.1, (z6.2.2.2.1, (z6.2.2.2.2.1, (z6.2.2.2.2.2.1, (z6.2.2.2.2.2.2.1, (z6.2.2.2.2.2.2.2.1, ()))))))))))
   (v5.1, (v5.2.1, (v5.2.2.1, (v5.2.2.2.1, (v1.1.1, (v1.1.2.1, (v2.1, ([], ()))))))))
noncomputable def cmd_back (r0 : Bool) (r1 : List Int) (r2 : Int) : Option (AReturn' × (Bool × (List Int) × Int × Unit)) := cmd_backW stdW r0 r1 r2
noncomputable def cmd_back_s : LS := ⟨[.ptr], [⟨65, [.v .bool, .v (.slc (.int .u8)), .v (.int .i64)]⟩], [⟨65, [.v .bool, .v (.slc (.int .u8)), .v (.int .i64)]⟩], (.q (.v tAReturn)), fun x => cmd_back x.1 x.2.1 x.2.2.1⟩
theorem cmd_back_ok : ECok Try.prog 131 (.ls cmd_back_s)   := ls_ok (A := [.ptr]) (B := [⟨65, [.v .bool, .v (.slc (.int .u8)), .v (.int .i64)]⟩]) (E := [⟨65, [.v .bool, .v (.slc (.int .u8)), .v (.int .i64)]⟩]) (Q := (.q (.v tAReturn))) (fun W x => cmd_backW W x.1 x.2.1 x.2.2.1) [(130, .ls cmd_anyUnit_s), (37, .ls pack_Reader_Int_s), (129, .ls cmd_small_s), (41, .ls pack_Reader_Err_s), (127, .ls cmd_anyInt_s)] ⟨cmd_anyUnit_ok, pack_Reader_Int_ok, cmd_small_ok, pack_Reader_Err_ok, cmd_anyInt_ok, trivial⟩ [(5, [0, 2], (.rd 0 (.rd 2 (.rd 4 (.rd 6 (.two 1 3 (ofL [(3, false), (5, false), (7, false), (8, true), (9, false), (10, false), (11, true), (12, false)]) (.two 1 5 (ofL [(5, false), (7, false), (8, true), (9, false), (10, false), (11, true), (12, false)]) (.two 1 7 (ofL [(7, false), (8, true), (9, false), (10, false), (11, true), (12, false)]) (.rd 8 (.two 1 9 (ofL [(9, false), (10, false), (11, true), (12, false)]) (ofL [(1, false), (10, false), (11, true), (12, false)])))))))))))] [(4, ⟨[], [(0, [.t .bool, .t (.slc (.int .u8)), .t (.int .i64)]), (2, [.t (.int .i64), .t (.int .i64), .t (.int .i64), .row 1])], [.dead, .own 200 tALot]⟩), (6, ⟨[], [(0, [.t .bool, .t (.slc (.int .u8)), .t (.int .i64)]), (2, [.t (.int .i64), .t (.int .i64), .t (.int .i64), .row 1])], [.dead, .own 200 tALot]⟩)] [(3, ⟨[(4, .t (.int .i64))], [(0, [.t .bool, .t (.slc (.int .u8)), .t (.int .i64)]), (2, [.t (.int .i64), .t (.int .i64), .t (.int .i64), .row 1])], [.dead, .own 200 tALot]⟩)] Try.func131 rfl (by decide +kernel) rfl rfl rfl rfl rfl (fun W x => by kernel_rfl)
noncomputable def bytes_EqualW (W : Wd) (a : List Int) (b : List Int) : Option Bool := some (Go.Vc.notIf false ((Go.Vc.strOf a).toList == (Go.Vc.strOf b).toList))
noncomputable def bytes_Equal (a : List Int) (b : List Int) : Option Bool := bytes_EqualW stdW a b
noncomputable def bytes_Equal_s : ES := ⟨(.pair (.slc (.int .u8)) (.pair (.slc (.int .u8)) .unit)), (.v .bool), fun x => bytes_Equal x.1 x.2.1⟩
theorem bytes_Equal_ok : ECok Try.prog 132 (.es bytes_Equal_s)   := es_ok (A := (.pair (.slc (.int .u8)) (.pair (.slc (.int .u8)) .unit))) (Q := (.v .bool)) (fun W x => bytes_EqualW W x.1 x.2.1) [] trivial [] [] [] Try.func132 rfl (by decide +kernel) rfl rfl (fun W x => by kernel_rfl)
noncomputable def cmd_DecodeReplyW (W : Wd) (b : List Int) : Option (AReply' × Int × Unit) := W.call (pack_Open b) fun v1 => W.call (cmd_anyInt v1.1.1 v1.1.2.1 v1.1.2.2.1) fun v2 => W.call (cmd_numbers 4096 v2.2.1 v2.2.2.1 v2.2.2.2.1) fun v3 => 
 W.join (fun (z4 : Bool × List (Int) × Int × Int × List (Int) × List ((Int × Int × Unit) × (Int × Int × Unit) × Int × Unit) × Unit) => 
  W.join (fun (z5 : Bool × List (Int) × Int × Int × List (Int) × List ((Int × Int × Unit) × (Int × Int × Unit) × Int × Unit) × List ((Int × Int × Unit) × Int × List (Int × Int × Int × Unit) × Unit) × Unit) => 
   W.join (fun (z6 : Bool × Bool × List (Int) × Int × Int × List (Int) × List ((Int × Int × Unit) × (Int × Int × Unit) × Int × Unit) × List ((Int × Int × Unit) × Int × List (Int × Int × Int × Unit) × Unit) × Unit) => 
    W.cnd z6.1 (some ((0, ([], ([], ([], ())))), (3, ())))
     (some ((z6.2.2.2.2.1, (z6.2.2.2.2.2.1, (z6.2.2.2.2.2.2.1, (z6.2.2.2.2.2.2.2.1, ())))), (0, ()))))
    fun k7 => W.call (pack_Reader_End z5.1 z5.2.1 z5.2.2.1) fun v8 => 
    W.cnd (v8.1 != 0) ((k7 (true, (v8.2.1, (v8.2.2.1, (v8.2.2.2.1, (z5.2.2.2.1, (z5.2.2.2.2.1, (z5.2.2.2.2.2.1, (z5.2.2.2.2.2.2.1, ()))))))))))
     (W.call (cmd_EncodeReply (z5.2.2.2.1, (z5.2.2.2.2.1, (z5.2.2.2.2.2.1, (z5.2.2.2.2.2.2.1, ()))))) fun v9 => W.call (bytes_Equal v9 b) fun v10 => (k7 ((!v10), (v8.2.1, (v8.2.2.1, (v8.2.2.2.1, (z5.2.2.2.1, (z5.2.2.2.2.1, (z5.2.2.2.2.2.1, (z5.2.2.2.2.2.2.1, ())))))))))))
   fun k11 => W.call (cmd_small 4096 z4.1 z4.2.1 z4.2.2.1) fun v12 => 
   W.loop (fun (z13 : Int × Bool × List (Int) × Int × Int × List (Int) × List ((Int × Int × Unit) × (Int × Int × Unit) × Int × Unit) × List ((Int × Int × Unit) × Int × List (Int × Int × Int × Unit) × Unit) × Unit) again14 => 
    W.cnd (decide (0 < z13.1)) (W.call (pack_Reader_Err z13.2.1 z13.2.2.1 z13.2.2.2.1) fun v15 => 
     W.cnd (v15.1 == 0) (
      W.join (fun (z16 : Bool × List (Int) × Int × Int × List (Int) × List ((Int × Int × Unit) × (Int × Int × Unit) × Int × Unit) × List ((Int × Int × Unit) × Int × List (Int × Int × Int × Unit) × Unit) × Unit) => (again14 ((IntKind.i64.wrap (z13.1 - 1)), (z16.1, (z16.2.1, (z16.2.2.1, (z16.2.2.2.1, (z16.2.2.2.2.1, (z16.2.2.2.2.2.1, (z16.2.2.2.2.2.2.1, ()))))))))))
       fun k17 => W.both (W.call (cmd_back v15.2.1 v15.2.2.1 v15.2.2.2.1) fun v18 => W.room (z13.2.2.2.2.2.2.2.1.length + ((v18.1.1, (v18.1.2.1, (v18.1.2.2.1, ()))) :: []).length) 48 ((k17 (v18.2.1, (v18.2.2.1, (v18.2.2.2.1, (z13.2.2.2.2.1, (z13.2.2.2.2.2.1, (z13.2.2.2.2.2.2.1, ((z13.2.2.2.2.2.2.2.1 ++ ((v18.1.1, (v18.1.2.1, (v18.1.2.2.1, ()))) :: [])), ())))))))))) (W.call (cmd_back v15.2.1 v15.2.2.1 v15.2.2.2.1) fun v19 => W.both (W.room (z13.2.2.2.2.2.2.2.1.length + ((v19.1.1, (v19.1.2.1, (v19.1.2.2.1, ()))) :: []).length) 48 ((k17 (v19.2.1, (v19.2.2.1, (v19.2.2.2.1, (z13.2.2.2.2.1, (z13.2.2.2.2.2.1, (z13.2.2.2.2.2.2.1, ((z13.2.2.2.2.2.2.2.1 ++ ((v19.1.1, (v19.1.2.1, (v19.1.2.2.1, ()))) :: [])), ())))))))))) (W.room (z13.2.2.2.2.2.2.2.1.length + ((v19.1.1, (v19.1.2.1, (v19.1.2.2.1, ()))) :: []).length) 48 ((k17 (v19.2.1, (v19.2.2.1, (v19.2.2.2.1, (z13.2.2.2.2.1, (z13.2.2.2.2.2.1, (z13.2.2.2.2.2.2.1, ((z13.2.2.2.2.2.2.2.1 ++ ((v19.1.1, (v19.1.2.1, (v19.1.2.2.1, ()))) :: [])), ()))))))))))))
      ((k11 (v15.2.1, (v15.2.2.1, (v15.2.2.2.1, (z13.2.2.2.2.1, (z13.2.2.2.2.2.1, (z13.2.2.2.2.2.2.1, (z13.2.2.2.2.2.2.2.1, ()))))))))))
     ((k11 (z13.2.1, (z13.2.2.1, (z13.2.2.2.1, (z13.2.2.2.2.1, (z13.2.2.2.2.2.1, (z13.2.2.2.2.2.2.1, (z13.2.2.2.2.2.2.2.1, ()))))))))))
    (v12.1, (v12.2.1, (v12.2.2.1, (v12.2.2.2.1, (z4.2.2.2.1, (z4.2.2.2.2.1, (z4.2.2.2.2.2.1, ([], ())))))))))
  fun k20 => W.call (cmd_small 4096 v3.2.1 v3.2.2.1 v3.2.2.2.1) fun v21 => 
  W.loop (fun (z22 : Int × Bool × List (Int) × Int × Int × List (Int) × List ((Int × Int × Unit) × (Int × Int × Unit) × Int × Unit) × Unit) again23 => 
   W.cnd (decide (0 < z22.1)) (W.call (pack_Reader_Err z22.2.1 z22.2.2.1 z22.2.2.2.1) fun v24 => 
    W.cnd (v24.1 == 0) (
     W.join (fun (z25 : Bool × List (Int) × Int × Int × List (Int) × List ((Int × Int × Unit) × (Int × Int × Unit) × Int × Unit) × Unit) => (again23 ((IntKind.i64.wrap (z22.1 - 1)), (z25.1, (z25.2.1, (z25.2.2.1, (z25.2.2.2.1, (z25.2.2.2.2.1, (z25.2.2.2.2.2.1, ())))))))))
      fun k26 => W.both (W.call (cmd_anyUnit v24.2.1 v24.2.2.1 v24.2.2.2.1) fun v27 => W.call (cmd_anyUnit v27.2.1 v27.2.2.1 v27.2.2.2.1) fun v28 => W.call (pack_Reader_Int (-9223372036854775808) 9223372036854775807 v28.2.1 v28.2.2.1 v28.2.2.2.1) fun v29 => W.room (z22.2.2.2.2.2.2.1.length + ((v27.1, (v28.1, (v29.1, ()))) :: []).length) 40 ((k26 (v29.2.1, (v29.2.2.1, (v29.2.2.2.1, (z22.2.2.2.2.1, (z22.2.2.2.2.2.1, ((z22.2.2.2.2.2.2.1 ++ ((v27.1, (v28.1, (v29.1, ()))) :: [])), ()))))))))) (W.call (cmd_anyUnit v24.2.1 v24.2.2.1 v24.2.2.2.1) fun v30 => W.both (W.call (cmd_anyUnit v30.2.1 v30.2.2.1 v30.2.2.2.1) fun v31 => W.call (pack_Reader_Int (-9223372036854775808) 9223372036854775807 v31.2.1 v31.2.2.1 v31.2.2.2.1) fun v32 => W.room (z22.2.2.2.2.2.2.1.length + ((v30.1, (v31.1, (v32.1, ()))) :: []).length) 40 ((k26 (v32.2.1, (v32.2.2.1, (v32.2.2.2.1, (z22.2.2.2.2.1, (z22.2.2.2.2.2.1, ((z22.2.2.2.2.2.2.1 ++ ((v30.1, (v31.1, (v32.1, ()))) :: [])), ()))))))))) (W.call (cmd_anyUnit v30.2.1 v30.2.2.1 v30.2.2.2.1) fun v33 => W.both (W.call (pack_Reader_Int (-9223372036854775808) 9223372036854775807 v33.2.1 v33.2.2.1 v33.2.2.2.1) fun v34 => W.room (z22.2.2.2.2.2.2.1.length + ((v30.1, (v33.1, (v34.1, ()))) :: []).length) 40 ((k26 (v34.2.1, (v34.2.2.1, (v34.2.2.2.1, (z22.2.2.2.2.1, (z22.2.2.2.2.2.1, ((z22.2.2.2.2.2.2.1 ++ ((v30.1, (v33.1, (v34.1, ()))) :: [])), ()))))))))) (W.call (pack_Reader_Int (-9223372036854775808) 9223372036854775807 v33.2.1 v33.2.2.1 v33.2.2.2.1) fun v35 => W.both (W.room (z22.2.2.2.2.2.2.1.length + ((v30.1, (v33.1, (v35.1, ()))) :: []).length) 40 ((k26 (v35.2.1, (v35.2.2.1, (v35.2.2.2.1, (z22.2.2.2.2.1, (z22.2.2.2.2.2.1, ((z22.2.2.2.2.2.2.1 ++ ((v30.1, (v33.1, (v35.1, ()))) :: [])), ()))))))))) (W.room (z22.2.2.2.2.2.2.1.length + ((v30.1, (v33.1, (v35.1, ()))) :: []).length) 40 ((k26 (v35.2.1, (v35.2.2.1, (v35.2.2.2.1, (z22.2.2.2.2.1, (z22.2.2.2.2.2.1, ((z22.2.2.2.2.2.2.1 ++ ((v30.1, (v33.1, (v35.1, ()))) :: [])), ())))))))))))))
     ((k20 (v24.2.1, (v24.2.2.1, (v24.2.2.2.1, (z22.2.2.2.2.1, (z22.2.2.2.2.2.1, (z22.2.2.2.2.2.2.1, ())))))))))
    ((k20 (z22.2.1, (z22.2.2.1, (z22.2.2.2.1, (z22.2.2.2.2.1, (z22.2.2.2.2.2.1, (z22.2.2.2.2.2.2.1, ())))))))))
   (v21.1, (v21.2.1, (v21.2.2.1, (v21.2.2.2.1, (v2.1, (v3.1, ([], ())))))))
noncomputable def cmd_DecodeReply (b : List Int) : Option (AReply' × Int × Unit) := cmd_DecodeReplyW stdW b
noncomputable def cmd_DecodeReply_s : ES := ⟨(.pair (.slc (.int .u8)) .unit), (.pair (.v tAReply) (.pair (.v (.int .i64)) .unit)), fun x => cmd_DecodeReply x.1⟩
theorem cmd_DecodeReply_ok : ECok Try.prog 73 (.es cmd_DecodeReply_s)   := es_ok (A := (.pair (.slc (.int .u8)) .unit)) (Q := (.pair (.v tAReply) (.pair (.v (.int .i64)) .unit))) (fun W x => cmd_DecodeReplyW W x.1) [(36, .ls pack_Open_s), (127, .ls cmd_anyInt_s), (128, .ls cmd_numbers_s), (129, .ls cmd_small_s), (41, .ls pack_Reader_Err_s), (130, .ls cmd_anyUnit_s), (37, .ls pack_Reader_Int_s), (131, .ls cmd_back_s), (39, .ls pack_Reader_End_s), (72, .es cmd_EncodeReply_s), (132, .es bytes_Equal_s)] ⟨pack_Open_ok, cmd_anyInt_ok, cmd_numbers_ok, cmd_small_ok, pack_Reader_Err_ok, cmd_anyUnit_ok, pack_Reader_Int_ok, cmd_back_ok, pack_Reader_End_ok, cmd_EncodeReply_ok, bytes_Equal_ok, trivial⟩ [(6, [1, 2], (.rd 0 (.rd 2 (.rd 4 (.rd 6 (.two 1 3 (ofL [(3, false), (5, false), (7, false), (8, true), (9, false), (10, false), (11, true), (12, false)]) (.two 1 5 (ofL [(5, false), (7, false), (8, true), (9, false), (10, false), (11, true), (12, false)]) (.two 1 7 (ofL [(7, false), (8, true), (9, false), (10, false), (11, true), (12, false)]) (.rd 8 (.two 1 9 (ofL [(9, false), (10, false), (11, true), (12, false)]) (ofL [(1, false), (10, false), (11, true), (12, false)]))))))))))), (10, [1, 2], (.rd 0 (.rd 2 (.two 1 3 (ofL [(3, false), (4, false), (5, false), (6, true), (7, false)]) (.two 1 4 (ofL [(4, false), (5, false), (6, true), (7, false)]) (ofL [(1, false), (5, false), (6, true), (7, false)]))))))] [(5, ⟨[], [(1, [.t .bool, .t (.slc (.int .u8)), .t (.int .i64)]), (2, [.t (.int .i64), .row 0, .row 2, .nil])], [.own 2 (.int .i64), .dead, .own 174 tADebit]⟩), (7, ⟨[], [(1, [.t .bool, .t (.slc (.int .u8)), .t (.int .i64)]), (2, [.t (.int .i64), .row 0, .row 2, .nil])], [.own 2 (.int .i64), .dead, .own 174 tADebit]⟩), (9, ⟨[], [(1, [.t .bool, .t (.slc (.int .u8)), .t (.int .i64)]), (2, [.t (.int .i64), .row 0, .row 2, .row 4])], [.own 2 (.int .i64), .dead, .own 174 tADebit, .dead, .own 163 tAReturn]⟩), (11, ⟨[], [(1, [.t .bool, .t (.slc (.int .u8)), .t (.int .i64)]), (2, [.t (.int .i64), .row 0, .row 2, .row 4])], [.own 2 (.int .i64), .dead, .own 174 tADebit, .dead, .own 163 tAReturn]⟩), (500065, ⟨[(65, .t .bool)], [(1, [.t .bool, .t (.slc (.int .u8)), .t (.int .i64)]), (2, [.t (.int .i64), .t (.slc (.int .i64)), .t (.slc tADebit), .t (.slc tAReturn)])], []⟩)] [(4, ⟨[(6, .t (.int .i64))], [(1, [.t .bool, .t (.slc (.int .u8)), .t (.int .i64)]), (2, [.t (.int .i64), .row 0, .row 2, .nil])], [.own 2 (.int .i64), .dead, .own 174 tADebit]⟩), (8, ⟨[(7, .t (.int .i64))], [(1, [.t .bool, .t (.slc (.int .u8)), .t (.int .i64)]), (2, [.t (.int .i64), .row 0, .row 2, .row 4])], [.own 2 (.int .i64), .dead, .own 174 tADebit, .dead, .own 163 tAReturn]⟩)] Try.func73 rfl (by decide +kernel) rfl rfl (fun W x => by kernel_rfl)
noncomputable def ref34_EncodeReplyW (W : Wd) (x : AReply') : Option (List Int) := W.call (ref34_nums (x.1 :: ((x.2.1.length : Int) :: [])) []) fun v1 => W.call (ref04_Ints x.2.1) fun v2 => W.room (v1.1.length + v2.length) 1 (W.call (ref34_nums ((x.2.2.1.length : Int) :: []) (v1.1 ++ v2)) fun v3 => 
 W.loop (fun (z4 : Int × List (Int) × Unit) again5 => 
  W.cnd (decide (z4.1 < (x.2.2.1.length : Int))) (W.idx x.2.2.1 z4.1 fun x6 => W.call (ref34_nums (x6.1.1 :: (x6.1.2.1 :: (x6.2.1.1 :: (x6.2.1.2.1 :: [])))) z4.2.1) fun v7 => W.call (ref04_Int x6.2.2.1) fun v8 => W.room (v7.1.length + v8.length) 1 ((again5 ((IntKind.i64.wrap (z4.1 + 1)), ((v7.1 ++ v8), ())))))
   (W.call (ref34_nums ((x.2.2.2.1.length : Int) :: []) z4.2.1) fun v9 => 
   W.loop (fun (z10 : Int × List (Int) × Unit) again11 => 
    W.cnd (decide (z10.1 < (x.2.2.2.1.length : Int))) (W.idx x.2.2.2.1 z10.1 fun x12 => W.call (ref34_nums (x12.1.1 :: (x12.1.2.1 :: [])) z10.2.1) fun v13 => W.call (ref04_Int x12.2.1) fun v14 => W.room (v13.1.length + v14.length) 1 (W.call (ref34_nums ((x12.2.2.1.length : Int) :: []) (v13.1 ++ v14)) fun v15 => 
     W.loop (fun (z16 : Int × List (Int) × Unit) again17 => 
      W.cnd (decide (z16.1 < (x12.2.2.1.length : Int))) (W.idx x12.2.2.1 z16.1 fun x18 => W.idx x12.2.2.1 z16.1 fun x19 => W.call (ref34_nums (x18.1 :: (x19.2.1 :: [])) z16.2.1) fun v20 => W.idx x12.2.2.1 z16.1 fun x21 => W.call (ref04_Int x21.2.2.1) fun v22 => W.room (v20.1.length + v22.length) 1 ((again17 ((IntKind.i64.wrap (z16.1 + 1)), ((v20.1 ++ v22), ())))))
       ((again11 ((IntKind.i64.wrap (z10.1 + 1)), (z16.2.1, ())))))
      (0, (v15.1, ()))))
     (some z10.2.1))
    (0, (v9.1, ()))))
  (0, (v3.1, ())))
noncomputable def ref34_EncodeReply (x : AReply') : Option (List Int) := ref34_EncodeReplyW stdW x
noncomputable def ref34_EncodeReply_s : ES := ⟨(.pair tAReply .unit), (.own 5 (.int .u8)), fun x => ref34_EncodeReply x.1⟩
theorem ref34_EncodeReply_ok : ECok Try.prog 74 (.es ref34_EncodeReply_s)   := es_ok (A := (.pair tAReply .unit)) (Q := (.own 5 (.int .u8))) (fun W x => ref34_EncodeReplyW W x.1) [(117, .ls ref34_nums_s), (28, .es ref04_Ints_s), (85, .es ref04_Int_s)] ⟨ref34_nums_ok, ref04_Ints_ok, ref04_Int_ok, trivial⟩ [(21, [], (ofL [(0, true), (1, true), (2, true), (3, true), (4, true), (5, true), (6, true), (7, true), (8, true), (9, true), (10, true), (11, true), (12, true), (13, false), (14, false), (15, true)]))] [] [(5, ⟨[(3, .row 1), (4, .t (.int .i64))], [], [.dead, .own 5 (.int .u8)]⟩), (12, ⟨[(3, .row 1), (6, .t (.int .i64))], [], [.dead, .own 5 (.int .u8)]⟩), (19, ⟨[(3, .row 1), (8, .t (.int .i64))], [], [.dead, .own 5 (.int .u8)]⟩)] Try.func74 rfl (by decide +kernel) rfl rfl (fun W x => by kernel_rfl)
noncomputable def ref31_SameDebitsW (W : Wd) (a : List ADebit') (b : List ADebit') : Option Bool := 
 W.cnd ((a.length : Int) != (b.length : Int)) (some false)
  (
  W.loop (fun (z1 : Int × Unit) again2 => 
   W.cnd (decide (z1.1 < (a.length : Int))) (W.idx a z1.1 fun x3 => W.idx b z1.1 fun x4 => 
    W.cnd (Go.Vc.notIf true ((x3.1.1 == x4.1.1) && ((x3.1.2.1 == x4.1.2.1) && ((x3.2.1.1 == x4.2.1.1) && ((x3.2.1.2.1 == x4.2.1.2.1) && (x3.2.2.1 == x4.2.2.1)))))) (some false)
     ((again2 ((IntKind.i64.wrap (z1.1 + 1)), ()))))
    (some true))
   (0, ()))
noncomputable def ref31_SameDebits (a : List ADebit') (b : List ADebit') : Option Bool := ref31_SameDebitsW stdW a b
noncomputable def ref31_SameDebits_s : ES := ⟨(.pair (.slc tADebit) (.pair (.slc tADebit) .unit)), (.v .bool), fun x => ref31_SameDebits x.1 x.2.1⟩
theorem ref31_SameDebits_ok : ECok Try.prog 54 (.es ref31_SameDebits_s)   := es_ok (A := (.pair (.slc tADebit) (.pair (.slc tADebit) .unit))) (Q := (.v .bool)) (fun W x => ref31_SameDebitsW W x.1 x.2.1) [] trivial [(6, [], (ofL [(0, true), (1, true), (2, true), (3, true), (4, true), (5, true), (6, true), (7, true), (8, true)]))] [] [(4, ⟨[(5, .t (.int .i64))], [], []⟩)] Try.func54 rfl (by decide +kernel) rfl rfl (fun W x => by kernel_rfl)
noncomputable def ref18_SameW (W : Wd) (a : List ALot') (b : List ALot') : Option Bool := 
 W.cnd ((a.length : Int) != (b.length : Int)) (some false)
  (
  W.loop (fun (z1 : Int × Unit) again2 => 
   W.cnd (decide (z1.1 < (a.length : Int))) (W.idx a z1.1 fun x3 => W.idx b z1.1 fun x4 => 
    W.cnd (Go.Vc.notIf true ((x3.1 == x4.1) && ((x3.2.1 == x4.2.1) && (x3.2.2.1 == x4.2.2.1)))) (some false)
     ((again2 ((IntKind.i64.wrap (z1.1 + 1)), ()))))
    (some true))
   (0, ()))
noncomputable def ref18_Same (a : List ALot') (b : List ALot') : Option Bool := ref18_SameW stdW a b
noncomputable def ref18_Same_s : ES := ⟨(.pair (.slc tALot) (.pair (.slc tALot) .unit)), (.v .bool), fun x => ref18_Same x.1 x.2.1⟩
theorem ref18_Same_ok : ECok Try.prog 159 (.es ref18_Same_s)   := es_ok (A := (.pair (.slc tALot) (.pair (.slc tALot) .unit))) (Q := (.v .bool)) (fun W x => ref18_SameW W x.1 x.2.1) [] trivial [(6, [], (ofL [(0, true), (1, true), (2, true), (3, true), (4, true), (5, true), (6, true), (7, true), (8, true)]))] [] [(4, ⟨[(5, .t (.int .i64))], [], []⟩)] Try.func159 rfl (by decide +kernel) rfl rfl (fun W x => by kernel_rfl)
noncomputable def ref32_SameW (W : Wd) (a : List AReturn') (b : List AReturn') : Option Bool := 
 W.cnd ((a.length : Int) != (b.length : Int)) (some false)
  (
  W.loop (fun (z1 : Int × Unit) again2 => 
   W.cnd (decide (z1.1 < (a.length : Int))) (
    W.join (fun (z3 : Bool × Unit) => 
     W.cnd z3.1 (some false)
      ((again2 ((IntKind.i64.wrap (z1.1 + 1)), ()))))
     fun k4 => W.idx a z1.1 fun x5 => W.idx b z1.1 fun x6 => 
     W.cnd (Go.Vc.notIf true ((x5.1.1 == x6.1.1) && (x5.1.2.1 == x6.1.2.1))) ((k4 (true, ())))
      (W.idx a z1.1 fun x7 => W.idx b z1.1 fun x8 => 
      W.cnd (x7.2.1 != x8.2.1) ((k4 (true, ())))
       (W.idx a z1.1 fun x9 => W.idx b z1.1 fun x10 => W.call (ref18_Same x9.2.2.1 x10.2.2.1) fun v11 => (k4 ((!v11), ())))))
    (some true))
   (0, ()))
noncomputable def ref32_Same (a : List AReturn') (b : List AReturn') : Option Bool := ref32_SameW stdW a b
noncomputable def ref32_Same_s : ES := ⟨(.pair (.slc tAReturn) (.pair (.slc tAReturn) .unit)), (.v .bool), fun x => ref32_Same x.1 x.2.1⟩
theorem ref32_Same_ok : ECok Try.prog 133 (.es ref32_Same_s)   := es_ok (A := (.pair (.slc tAReturn) (.pair (.slc tAReturn) .unit))) (Q := (.v .bool)) (fun W x => ref32_SameW W x.1 x.2.1) [(159, .es ref18_Same_s)] ⟨ref18_Same_ok, trivial⟩ [(6, [], (ofL [(0, true), (1, true), (2, true), (3, true), (4, true), (5, true), (6, true), (7, true), (8, true), (9, true), (10, true), (11, true), (12, true), (13, true), (14, true), (15, true), (16, true), (17, true), (18, true), (19, true), (20, true), (21, true), (22, true), (23, true), (24, true), (25, true), (26, true), (27, true), (28, true), (29, true), (30, true), (31, true), (32, true), (33, true), (34, true), (35, false), (36, true), (37, true)]))] [(500054, ⟨[(54, .t .bool)], [], []⟩)] [(4, ⟨[(5, .t (.int .i64))], [], []⟩)] Try.func133 rfl (by decide +kernel) rfl rfl (fun W x => by kernel_rfl)
noncomputable def ref34_SameReplyW (W : Wd) (a : AReply') (b : AReply') : Option Bool := 
 W.cnd (a.1 == b.1) (W.call (ref01_SameNumbers a.2.1 b.2.1) fun v1 => 
  W.cnd v1 (W.call (ref31_SameDebits a.2.2.1 b.2.2.1) fun v2 => 
   W.cnd v2 (W.call (ref32_Same a.2.2.2.1 b.2.2.2.1) fun v3 => some v3)
    (some false))
   (some false))
  (some false)
noncomputable def ref34_SameReply (a : AReply') (b : AReply') : Option Bool := ref34_SameReplyW stdW a b
noncomputable def ref34_SameReply_s : ES := ⟨(.pair tAReply (.pair tAReply .unit)), (.v .bool), fun x => ref34_SameReply x.1 x.2.1⟩
theorem ref34_SameReply_ok : ECok Try.prog 75 (.es ref34_SameReply_s)   := es_ok (A := (.pair tAReply (.pair tAReply .unit))) (Q := (.v .bool)) (fun W x => ref34_SameReplyW W x.1 x.2.1) [(125, .es ref01_SameNumbers_s), (54, .es ref31_SameDebits_s), (133, .es ref32_Same_s)] ⟨ref01_SameNumbers_ok, ref31_SameDebits_ok, ref32_Same_ok, trivial⟩ [] [] [] Try.func75 rfl (by decide +kernel) rfl rfl (fun W x => by kernel_rfl)
noncomputable def law34_CmdRepliesW (W : Wd) (r : AReply') (b : List Int) : Option Bool := W.call (law34_few (r.1, (r.2.1, (r.2.2.1, (r.2.2.2.1, ()))))) fun v1 => W.call (ref01_Cut b 400) fun v2 => W.call (cmd_EncodeReply (v1.1, (v1.2.1, (v1.2.2.1, (v1.2.2.2.1, ()))))) fun v3 => W.call (cmd_DecodeReply v3) fun v4 => 
 W.join (fun (z5 : Bool × Unit) => 
  W.cnd z5.1 (some false)
   (W.call (cmd_DecodeReply v2) fun v6 => 
   W.cnd (v6.2.1 != 0) (
    W.cnd (v6.2.1 == 3) (W.call (ref34_SameReply (v6.1.1, (v6.1.2.1, (v6.1.2.2.1, (v6.1.2.2.2.1, ())))) (0, ([], ([], ([], ()))))) fun v7 => 
     W.cnd v7 (W.call (law34_lives) fun v8 => some v8)
      (some false))
     (some false))
    (W.call (ref34_EncodeReply (v6.1.1, (v6.1.2.1, (v6.1.2.2.1, (v6.1.2.2.2.1, ()))))) fun v9 => W.call (ref01_Same v9 v2) fun v10 => 
    W.cnd v10 (W.call (law34_lives) fun v11 => some v11)
     (some false))))
  fun k12 => W.call (ref34_EncodeReply (v1.1, (v1.2.1, (v1.2.2.1, (v1.2.2.2.1, ()))))) fun v13 => W.call (ref01_Same v3 v13) fun v14 => 
  W.cnd (!v14) ((k12 (true, ())))
   (
   W.cnd (v4.2.1 != 0) ((k12 (true, ())))
    (W.call (ref34_SameReply (v4.1.1, (v4.1.2.1, (v4.1.2.2.1, (v4.1.2.2.2.1, ())))) (v1.1, (v1.2.1, (v1.2.2.1, (v1.2.2.2.1, ()))))) fun v15 => (k12 ((!v15), ()))))
noncomputable def law34_CmdReplies (r : AReply') (b : List Int) : Option Bool := law34_CmdRepliesW stdW r b
noncomputable def law34_CmdReplies_s : ES := ⟨(.pair tAReply (.pair (.slc (.int .u8)) .unit)), (.v .bool), fun x => law34_CmdReplies x.1 x.2.1⟩
theorem law34_CmdReplies_ok : ECok Try.prog 13 (.es law34_CmdReplies_s)   := es_ok (A := (.pair tAReply (.pair (.slc (.int .u8)) .unit))) (Q := (.v .bool)) (fun W x => law34_CmdRepliesW W x.1 x.2.1) [(71, .es law34_few_s), (35, .es ref01_Cut_s), (72, .es cmd_EncodeReply_s), (73, .es cmd_DecodeReply_s), (74, .es ref34_EncodeReply_s), (32, .es ref01_Same_s), (75, .es ref34_SameReply_s), (67, .es law34_lives_s)] ⟨law34_few_ok, ref01_Cut_ok, cmd_EncodeReply_ok, cmd_DecodeReply_ok, ref34_EncodeReply_ok, ref01_Same_ok, ref34_SameReply_ok, law34_lives_ok, trivial⟩ [] [(500035, ⟨[(35, .t .bool)], [], []⟩)] [] Try.func13 rfl (by decide +kernel) rfl rfl (fun W x => by kernel_rfl)
end Go.Proofs.Ytnldhkhnfodplaa

namespace Go.Proofs.Ytnldhkhnfodplaa
open Go Go.Vc Go.RowKit
/-! ### readers and writers that belong together (plain) -/
structure RW {α : Type} (f : S → α × S) (w : α → List Int) (ok : α → Prop) : Prop where
  bt : ∀ s, okS s → okS (f s).2
  canon : ∀ s, okS s → (f s).2.2 = 0 → s.2 = 0 ∧ s.1 = encs (w (f s).1) ++ (f s).2.1 ∧ ok (f s).1
  back : ∀ a r, ok a → f (encs (w a) ++ r, 0) = (a, (r, 0))
  is64 : ∀ a, ok a → ∀ n ∈ w a, Is64 n
def rdU (s : S) : Unit × S := ((), s)
def rdP {α β : Type} (f1 : S → α × S) (f2 : S → β × S) (s : S) : (α × β) × S := (((f1 s).1, (f2 (f1 s).2).1), (f2 (f1 s).2).2)
def nL {α : Type} (f : S → α × S) : Nat → S → List α → List α × S
  | 0, s, acc => (acc, s)
  | n + 1, s, acc => if s.2 = 0 then nL f n (f s).2 (acc ++ [(f s).1]) else (acc, s)
def rdL {α : Type} (to_ : Int) (f : S → α × S) (s : S) : List α × S := nL f (rd 0 to_ s).1.toNat (rd 0 to_ s).2 []
def wL {α : Type} (w : α → List Int) (l : List α) : List Int := (l.length : Int) :: l.flatMap w
theorem RW.int (lo hi : Int) : RW (rd lo hi) (fun n => [n]) (fun n => Is64 n ∧ lo ≤ n ∧ n ≤ hi) := by
  refine ⟨fun s h => okS_rd h, fun s h e => ?_, fun a r h => ?_, fun a h n hn => ?_⟩
  · obtain ⟨c1, c2⟩ := rd_canon h.1 e
    exact ⟨rd_err e, by rw [encs_one]; exact c1, c2, rd_in e⟩
  · rw [encs_one]; exact rd_enc h.1 h.2 r
  · simp only [List.mem_singleton] at hn; subst hn; exact h.1
theorem RW.unit : RW rdU (fun _ => []) (fun _ => True) :=
  ⟨fun s h => h, fun s h e => ⟨e, by simp [encs, rdU], trivial⟩, fun a r _ => by simp [encs, rdU], fun a _ n hn => by cases hn⟩
theorem RW.pair {α β : Type} {f1 : S → α × S} {f2 : S → β × S} {w1 : α → List Int} {w2 : β → List Int} {ok1 : α → Prop} {ok2 : β → Prop} (h1 : RW f1 w1 ok1) (h2 : RW f2 w2 ok2) :
    RW (rdP f1 f2) (fun x => w1 x.1 ++ w2 x.2) (fun x => ok1 x.1 ∧ ok2 x.2) := by
  refine ⟨fun s h => h2.bt _ (h1.bt s h), fun s h e => ?_, fun a r h => ?_, fun a h n hn => ?_⟩
  · obtain ⟨b1, b2, b3⟩ := h2.canon (f1 s).2 (h1.bt s h) e
    obtain ⟨a1, a2, a3⟩ := h1.canon s h b1
    refine ⟨a1, ?_, a3, b3⟩
    rw [encs_app, List.append_assoc]
    show s.1 = encs (w1 (f1 s).1) ++ (encs (w2 (f2 (f1 s).2).1) ++ (f2 (f1 s).2).2.1)
    rw [← b2]; exact a2
  · rw [encs_app, List.append_assoc]
    unfold rdP
    rw [h1.back _ _ h.1, h2.back _ _ h.2]
  · rcases List.mem_append.1 hn with hn | hn
    · exact h1.is64 _ h.1 n hn
    · exact h2.is64 _ h.2 n hn
section
variable {α : Type} {f : S → α × S} {w : α → List Int} {ok : α → Prop}
theorem nL_err : ∀ (n : Nat) (s : S) (acc : List α), (nL f n s acc).2.2 = 0 → s.2 = 0
  | 0, s, acc, h => h
  | n + 1, s, acc, h => by
    unfold nL at h; split at h
    · assumption
    · exact h
theorem nL_bt (H : RW f w ok) : ∀ (n : Nat) (s : S) (acc : List α), okS s → okS (nL f n s acc).2
  | 0, s, acc, h => h
  | n + 1, s, acc, h => by
    unfold nL; split
    · exact nL_bt H n _ _ (H.bt s h)
    · exact h
theorem nL_canon (H : RW f w ok) : ∀ (n : Nat) (s : S) (acc : List α), okS s → (nL f n s acc).2.2 = 0 → ∃ l : List α, (nL f n s acc).1 = acc ++ l ∧ l.length = n ∧ s.1 = encs (l.flatMap w) ++ (nL f n s acc).2.1 ∧ ∀ a ∈ l, ok a
  | 0, s, acc, hb, h => ⟨[], by simp [nL], rfl, by simp [nL, encs], by simp⟩
  | n + 1, s, acc, hb, h => by
    have h0 : s.2 = 0 := nL_err (n + 1) s acc h
    unfold nL at h ⊢
    rw [if_pos h0] at h ⊢
    have h1 : (f s).2.2 = 0 := nL_err n _ _ h
    obtain ⟨l, e1, e2, e3, e4⟩ := nL_canon H n _ _ (H.bt s hb) h
    obtain ⟨_, c1, c2⟩ := H.canon s hb h1
    refine ⟨(f s).1 :: l, by rw [e1]; simp, by simp [e2], ?_, fun x hx => ?_⟩
    · rw [List.flatMap_cons, encs_app, List.append_assoc, ← e3]; exact c1
    · rcases List.mem_cons.1 hx with rfl | hx
      · exact c2
      · exact e4 x hx
theorem nL_back (H : RW f w ok) : ∀ (l : List α) (r : List Int) (acc : List α), (∀ a ∈ l, ok a) → nL f l.length (encs (l.flatMap w) ++ r, 0) acc = (acc ++ l, (r, 0))
  | [], r, acc, _ => by simp [nL, encs]
  | x :: l, r, acc, h => by
    rw [List.flatMap_cons, encs_app, List.append_assoc, List.length_cons]
    unfold nL
    rw [if_pos rfl, H.back x _ (h x (by simp)), nL_back H l r (acc ++ [x]) fun y hy => h y (by simp [hy])]
    simp
theorem RW.list (H : RW f w ok) {to_ : Int} (h0 : 0 ≤ to_) (h1 : to_ ≤ 9223372036854775807) : RW (rdL to_ f) (wL w) (fun l => (l.length : Int) ≤ to_ ∧ ∀ a ∈ l, ok a) := by
  refine ⟨fun s h => nL_bt H _ _ _ (okS_rd h), fun s h e => ?_, fun l r h => ?_, fun l h n hn => ?_⟩
  · have e1 := nL_err _ _ _ e
    obtain ⟨c1, c2⟩ := rd_canon h.1 e1
    have hin := rd_in e1
    obtain ⟨l, g1, g2, g3, g4⟩ := nL_canon H _ _ _ (okS_rd h) e
    have ev : (rdL to_ f s).1 = l := by show (nL f _ _ []).1 = _; rw [g1]; simp
    refine ⟨rd_err e1, ?_, ?_⟩
    · rw [ev]
      unfold wL
      rw [show (l.length : Int) :: l.flatMap w = [(l.length : Int)] ++ l.flatMap w from rfl, encs_app, encs_one, List.append_assoc, g2, Int.toNat_of_nonneg hin.1]
      show s.1 = encU (fold (rd 0 to_ s).1) ++ (encs (l.flatMap w) ++ (nL f (rd 0 to_ s).1.toNat (rd 0 to_ s).2 []).2.1)
      rw [← g3]; exact c1
    · rw [ev]; exact ⟨by omega, g4⟩
  · unfold rdL wL
    have h64 : Is64 (l.length : Int) := by unfold Is64; omega
    rw [show (l.length : Int) :: l.flatMap w = [(l.length : Int)] ++ l.flatMap w from rfl, encs_app, encs_one, List.append_assoc, rd_enc h64 ⟨by omega, h.1⟩]
    show nL f (l.length : Int).toNat (encs (l.flatMap w) ++ r, 0) [] = _
    rw [Int.toNat_natCast, nL_back H l r [] h.2]
    simp
  · unfold wL at hn
    rcases List.mem_cons.1 hn with rfl | hn
    · unfold Is64; omega
    · obtain ⟨a, ha, hn⟩ := List.mem_flatMap.1 hn
      exact H.is64 a (h.2 a ha) n hn
theorem encs_ge (l : List Int) : l.length ≤ (encs l).length := by
  induction l with
  | nil => simp
  | cons x l ih =>
    rw [show x :: l = [x] ++ l from rfl, encs_app, encs_one, List.length_append, List.length_append]
    have := encU_pos (fold x)
    simp only [List.length_singleton]
    omega
end
/-! replies -/
abbrev iA := rd LO HI
def uA : S → AUnit' × S := rdP iA (rdP iA rdU)
def dA : S → ADebit' × S := rdP uA (rdP uA (rdP iA rdU))
def lA : S → ALot' × S := rdP iA (rdP iA (rdP iA rdU))
def bA : S → AReturn' × S := rdP uA (rdP iA (rdP (rdL 4096 lA) rdU))
def rA : S → AReply' × S := rdP iA (rdP (rdL 4096 iA) (rdP (rdL 4096 dA) (rdP (rdL 4096 bA) rdU)))
def okI (n : Int) : Prop := Is64 n ∧ LO ≤ n ∧ n ≤ HI
def wU (u : AUnit') : List Int := [u.1] ++ ([u.2.1] ++ [])
def okU (u : AUnit') : Prop := okI u.1 ∧ okI u.2.1 ∧ True
theorem rwU : RW uA wU okU := (RW.int LO HI).pair ((RW.int LO HI).pair RW.unit)
def wD (d : ADebit') : List Int := wU d.1 ++ (wU d.2.1 ++ ([d.2.2.1] ++ []))
def okD' (d : ADebit') : Prop := okU d.1 ∧ okU d.2.1 ∧ okI d.2.2.1 ∧ True
theorem rwD : RW dA wD okD' := rwU.pair (rwU.pair ((RW.int LO HI).pair RW.unit))
def wA (l : ALot') : List Int := [l.1] ++ ([l.2.1] ++ ([l.2.2.1] ++ []))
def okA (l : ALot') : Prop := okI l.1 ∧ okI l.2.1 ∧ okI l.2.2.1 ∧ True
theorem rwA : RW lA wA okA := (RW.int LO HI).pair ((RW.int LO HI).pair ((RW.int LO HI).pair RW.unit))
def wB (b : AReturn') : List Int := wU b.1 ++ ([b.2.1] ++ (wL wA b.2.2.1 ++ []))
def okB' (b : AReturn') : Prop := okU b.1 ∧ okI b.2.1 ∧ ((b.2.2.1.length : Int) ≤ 4096 ∧ ∀ a ∈ b.2.2.1, okA a) ∧ True
theorem rwB : RW bA wB okB' := rwU.pair ((RW.int LO HI).pair ((rwA.list (by omega) (by omega)).pair RW.unit))
def wR (r : AReply') : List Int := [r.1] ++ (wL (fun n => [n]) r.2.1 ++ (wL wD r.2.2.1 ++ (wL wB r.2.2.2.1 ++ [])))
def okR (r : AReply') : Prop := okI r.1 ∧ ((r.2.1.length : Int) ≤ 4096 ∧ ∀ a ∈ r.2.1, okI a) ∧ ((r.2.2.1.length : Int) ≤ 4096 ∧ ∀ a ∈ r.2.2.1, okD' a) ∧ ((r.2.2.2.1.length : Int) ≤ 4096 ∧ ∀ a ∈ r.2.2.2.1, okB' a) ∧ True
theorem rwR : RW rA wR okR := (RW.int LO HI).pair (((RW.int LO HI).list (by omega) (by omega)).pair ((rwD.list (by omega) (by omega)).pair ((rwB.list (by omega) (by omega)).pair RW.unit)))
theorem okI_of {n : Int} (h : Is64 n) : okI n := ⟨h, h.1, h.2⟩
end Go.Proofs.Ytnldhkhnfodplaa

namespace Go.Proofs.Ytnldhkhnfodplaa
open Go Go.Vc Go.RowKit
/-! ### the program's reading of a reply -/
def ans {α : Type} (x : α × S) : Option (α × (Bool × (List Int) × Int × Unit)) := some (x.1, (true, (x.2.1, (x.2.2, ()))))
theorem r_anyInt {s : S} (h : okS s) : cmd_anyInt true s.1 s.2 = ans (iA s) := by
  show cmd_anyIntW stdW true s.1 s.2 = _
  unfold cmd_anyIntW
  rw [call_w (r_pInt h.1 h.2)]
  rfl
theorem r_pI {s : S} (h : okS s) : pack_Reader_Int (-9223372036854775808) 9223372036854775807 true s.1 s.2 = ans (iA s) := r_pInt h.1 h.2
theorem r_anyUnit {s : S} (h : okS s) : cmd_anyUnit true s.1 s.2 = ans (uA s) := by
  show cmd_anyUnitW stdW true s.1 s.2 = _
  unfold cmd_anyUnitW
  rw [call_w (r_anyInt h)]
  show stdW.call (cmd_anyInt true (iA s).2.1 (iA s).2.2) _ = _
  rw [call_w (r_anyInt (okS_rd h))]
  rfl
theorem r_pErr (t : S) : pack_Reader_Err true t.1 t.2 = some (t.2, (true, (t.1, (t.2, ())))) := rfl
/-- the loop of all of them -/
theorem loop_nL {β X α : Type} {f : S → α × S} {w : α → List Int} {ok : α → Prop} (H : RW f w ok) (mk : Int → S → List α → X) (num : X → Int) (hnum : ∀ n s l, num (mk n s l) = n) {F : X → (X → Option β) → Option β} {z0 : X} (G : List α × S → Option β) {top : Nat} (htop : top ≤ 9000000000000000000)
    (n : Nat) (s : S) (acc : List α) (hz : z0 = mk (n : Int) s acc) (hs : okS s) (hl : acc.length + n ≤ top)
    (hend : ∀ (s : S) (acc : List α) (again : X → Option β), F (mk 0 s acc) again = G (acc, s))
    (herr : ∀ (n : Nat) (s : S) (acc : List α) (again : X → Option β), s.2 ≠ 0 → F (mk ((n + 1 : Nat) : Int) s acc) again = G (acc, s))
    (hstep : ∀ (n : Nat) (s : S) (acc : List α) (again : X → Option β), s.2 = 0 → okS s → acc.length + (n + 1) ≤ top → F (mk ((n + 1 : Nat) : Int) s acc) again = again (mk (n : Int) (f s).2 (acc ++ [(f s).1]))) :
    stdW.loop F z0 = G (nL f n s acc) := by
  subst hz
  obtain ⟨R0, hR0⟩ : ∃ R0, nL f n s acc = R0 := ⟨_, rfl⟩
  rw [hR0]
  have key := loop_std (f := F) (fun z => (num z).toNat) (fun z => ∃ (m : Nat) (t : S) (a : List α), z = mk (m : Int) t a ∧ okS t ∧ a.length + m ≤ top ∧ nL f m t a = R0) (fun _ => G R0) (z := mk (n : Int) s acc) ⟨n, s, acc, rfl, hs, hl, hR0⟩ (by rw [hnum]; omega) ?_
  · exact key
  · rintro _ ⟨m, t, a, rfl, ht, hl, he⟩ again ha
    cases m with
    | zero =>
      have e := hend t a again
      unfold nL at he
      rw [← he]; exact e
    | succ m =>
      by_cases h0 : t.2 = 0
      · rw [hstep m t a again h0 ht hl]
        unfold nL at he
        rw [if_pos h0] at he
        exact ha _ ⟨m, _, _, rfl, H.bt t ht, by simp; omega, he⟩ (by rw [hnum, hnum]; omega)
      · rw [herr m t a again h0]
        unfold nL at he
        rw [if_neg h0] at he
        rw [← he]
theorem i64_d (n : Nat) (h : n < 9000000000000000000) : IntKind.i64.wrap (((n + 1 : Nat) : Int) - 1) = (n : Int) := by
  rw [i64c _ (by omega)]; omega
theorem rng_nat {to_ : Int} {s : S} (h : 0 ≤ to_) : (rd 0 to_ s).1 = (((rd 0 to_ s).1.toNat : Nat) : Int) ∧ (rd 0 to_ s).1.toNat ≤ to_.toNat := by
  have := rd_rng (s := s) h; omega
theorem y_pos {β : Type} (n : Nat) (a b : Option β) : stdW.cnd (decide ((0 : Int) < ((n + 1 : Nat) : Int))) a b = a := cnd_y (decide_eq_true (by omega)) a b
theorem r_nums4096 {s : S} (h : okS s) : cmd_numbers 4096 true s.1 s.2 = ans (rdL 4096 iA s) := by
  show cmd_numbersW stdW 4096 true s.1 s.2 = _
  unfold cmd_numbersW
  rw [join_w, call_w (r_small h)]
  obtain ⟨e, hle⟩ := rng_nat (to_ := 4096) (s := s) (by omega)
  unfold rdL
  refine loop_nL (RW.int LO HI) (fun n s l => (n, (true, (s.1, (s.2, (l, ())))))) (fun z => z.1) (fun _ _ _ => rfl) ans (top := 4096) (by omega) (rd 0 4096 s).1.toNat (rd 0 4096 s).2 [] (by rw [← e]) (okS_rd h) (by simp only [List.length_nil]; omega) ?_ ?_ ?_
  · intro s acc again
    rw [cnd_n (by rfl)]; rfl
  · intro n s acc again h0
    show stdW.cnd (decide ((0 : Int) < ((n + 1 : Nat) : Int))) _ _ = _
    rw [y_pos]
    show stdW.call (pack_Reader_Err true s.1 s.2) _ = _
    rw [call_w (r_pErr s), cnd_n (by simp [h0])]
    rfl
  · intro n s acc again h0 hs hl
    show stdW.cnd (decide ((0 : Int) < ((n + 1 : Nat) : Int))) _ _ = _
    rw [y_pos]
    show stdW.call (pack_Reader_Err true s.1 s.2) _ = _
    rw [call_w (r_pErr s), cnd_y (by simp [h0])]
    show stdW.call (pack_Reader_Int (-9223372036854775808) 9223372036854775807 true s.1 s.2) _ = _
    rw [call_w (r_pI hs)]
    show stdW.room (acc.length + 1) 8 _ = _
    rw [room_w (by omega) (by omega)]
    show again (IntKind.i64.wrap (((n + 1 : Nat) : Int) - 1), _) = _
    rw [i64_d n (by omega)]
theorem r_back {s : S} (h : okS s) : cmd_back true s.1 s.2 = ans (bA s) := by
  show cmd_backW stdW true s.1 s.2 = _
  unfold cmd_backW
  rw [call_w (r_anyUnit h)]
  have h1 := rwU.bt s h
  show stdW.call (pack_Reader_Int (-9223372036854775808) 9223372036854775807 true (uA s).2.1 (uA s).2.2) _ = _
  rw [call_w (r_pI h1), join_w]
  have h2 : okS (iA (uA s).2).2 := okS_rd (lo := LO) (hi := HI) h1
  show stdW.call (cmd_small 4096 true (iA (uA s).2).2.1 (iA (uA s).2).2.2) _ = _
  rw [call_w (r_small h2)]
  obtain ⟨e, hle⟩ := rng_nat (to_ := 4096) (s := (iA (uA s).2).2) (by omega)
  have e3 : ans (bA s) = some (((uA s).1, ((iA (uA s).2).1, ((rdL 4096 lA (iA (uA s).2).2).1, ()))), (true, ((rdL 4096 lA (iA (uA s).2).2).2.1, ((rdL 4096 lA (iA (uA s).2).2).2.2, ())))) := rfl
  rw [e3]
  unfold rdL
  generalize (uA s).1 = u
  generalize iA (uA s).2 = c at *
  refine loop_nL rwA (fun n s l => (n, (true, (s.1, (s.2, (u.1, (u.2.1, (c.1, (l, ()))))))))) (fun z => z.1) (fun _ _ _ => rfl) (fun x => some ((u, (c.1, (x.1, ()))), (true, (x.2.1, (x.2.2, ()))))) (top := 4096) (by omega) (rd 0 4096 c.2).1.toNat (rd 0 4096 c.2).2 [] (by rw [← e]) (okS_rd h2) (by simp only [List.length_nil]; omega) ?_ ?_ ?_
  · intro s acc again
    rw [cnd_n (by rfl)]
  · intro n s acc again h0
    show stdW.cnd (decide ((0 : Int) < ((n + 1 : Nat) : Int))) _ _ = _
    rw [y_pos]
    show stdW.call (pack_Reader_Err true s.1 s.2) _ = _
    rw [call_w (r_pErr s), cnd_n (by simp [h0])]
  · intro n s acc again h0 hs hl
    have hs1 : okS (iA s).2 := okS_rd (lo := LO) (hi := HI) hs
    have hs2 : okS (iA (iA s).2).2 := okS_rd (lo := LO) (hi := HI) hs1
    show stdW.cnd (decide ((0 : Int) < ((n + 1 : Nat) : Int))) _ _ = _
    rw [y_pos]
    show stdW.call (pack_Reader_Err true s.1 s.2) _ = _
    rw [call_w (r_pErr s), cnd_y (by simp [h0]), join_w]
    have e1 := r_anyInt hs
    have e2 := r_anyInt hs1
    have e4 := r_pI hs2
    simp only [e1, e2, e4, ans, Option.bind_some, both_eq]
    rw [room_eq (by simp only [List.length_cons, List.length_nil]; omega) (by simp only [List.length_cons, List.length_nil]; omega), i64_d n (by omega)]
    rfl
end Go.Proofs.Ytnldhkhnfodplaa

namespace Go.Proofs.Ytnldhkhnfodplaa
open Go Go.Vc Go.RowKit
/-! ### the writing of a reply, by the program and by the reference -/
theorem flat_take {α : Type} (w : α → List Int) (l : List α) (i : Nat) : ((l.take i).flatMap w).length ≤ (l.flatMap w).length := by
  conv => rhs; rw [← List.take_append_drop i l, List.flatMap_append, List.length_append]
  omega
theorem flat_ge {α : Type} (w : α → List Int) (hw : ∀ a, 1 ≤ (w a).length) (l : List α) : l.length ≤ (l.flatMap w).length := by
  induction l with
  | nil => simp
  | cons x l ih => rw [List.flatMap_cons, List.length_append, List.length_cons]; have := hw x; omega
theorem flat_one (l : List Int) : l.flatMap (fun n => [n]) = l := by
  induction l with
  | nil => rfl
  | cons x l ih => rw [List.flatMap_cons, ih]; rfl
/-- a loop that writes -/
theorem loop_w {β X α : Type} {w : α → List Int} {l : List α} (hl : l.length ≤ 1000000) (h64 : ∀ a ∈ l, ∀ n ∈ w a, Is64 n) (mk : Int → List Int → X) (num : X → Int) (hnum : ∀ n c, num (mk n c) = n) {F : X → (X → Option β) → Option β} {z0 : X} {b : List Int} {B : Nat} (hB : b.length + 10 * (l.flatMap w).length ≤ B) (K : List Int → Option β)
    (hz : z0 = mk 0 b)
    (hend : ∀ (c : List Int) (again : X → Option β), c = b ++ encs (l.flatMap w) → c.length ≤ B → F (mk (l.length : Int) c) again = K c)
    (hstep : ∀ (i : Nat) (h : i < l.length) (c : List Int) (again : X → Option β), c.length ≤ B → F (mk (i : Int) c) again = again (mk ((i + 1 : Nat) : Int) (c ++ encs (w l[i])))) :
    stdW.loop F z0 = K (b ++ encs (l.flatMap w)) := by
  subst hz
  have hlen : ∀ i, (b ++ encs ((l.take i).flatMap w)).length ≤ B := fun i => by
    have h1 := encs_len (l := (l.take i).flatMap w) (fun n hn => by
      obtain ⟨a, ha, hn⟩ := List.mem_flatMap.1 hn
      exact h64 a (List.mem_of_mem_take ha) n hn)
    have h2 := flat_take w l i
    rw [List.length_append]; omega
  have key := loop_std (f := F) (fun z => l.length - (num z).toNat) (fun z => ∃ i : Nat, z = mk (i : Int) (b ++ encs ((l.take i).flatMap w)) ∧ i ≤ l.length) (fun _ => K (b ++ encs (l.flatMap w))) (z := mk 0 b) ⟨0, by simp [encs], by omega⟩ (by rw [hnum]; omega) ?_
  · exact key
  · rintro _ ⟨i, rfl, hi⟩ again ha
    by_cases h : i < l.length
    · rw [hstep i h _ again (hlen i)]
      refine ha _ ⟨i + 1, ?_, by omega⟩ (by rw [hnum, hnum]; omega)
      rw [show l.take (i + 1) = l.take i ++ [l[i]] by simp, List.flatMap_append, encs_app, List.append_assoc]
      simp
    · obtain rfl : i = l.length := by omega
      have := hlen l.length
      rw [List.take_length] at this ⊢
      exact hend _ again rfl this
theorem r_unit' {u : AUnit'} {b : List Int} (h : ∀ n ∈ wU u, Is64 n) (hb : b.length ≤ 40000000) : cmd_unit u true b = some ((), (true, (b ++ encs (wU u), ()))) := by
  show cmd_unitW stdW u true b = _
  unfold cmd_unitW
  rw [call_w (r_wInt (l := [u.1, u.2.1]) h (by simp) (by omega))]
  rfl
theorem wD_len (d : ADebit') : 1 ≤ (wD d).length := by simp [wD, wU]
theorem wB_len (d : AReturn') : 1 ≤ (wB d).length := by simp [wB, wU]
theorem wA_len (d : ALot') : 1 ≤ (wA d).length := by simp [wA]
structure fitR (x : AReply') : Prop where
  a : Is64 x.1
  n : ∀ n ∈ x.2.1, Is64 n
  d : ∀ d ∈ x.2.2.1, ∀ n ∈ wD d, Is64 n
  b : ∀ b ∈ x.2.2.2.1, ∀ n ∈ wB b, Is64 n
  ln : x.2.1.length ≤ 1000000
  ld : (x.2.2.1.flatMap wD).length ≤ 1000000
  lb : (x.2.2.2.1.flatMap wB).length ≤ 1000000
theorem fitR_of {x : AReply'} (h : ∀ n ∈ wR x, Is64 n) (hl : (wR x).length ≤ 1000000) : fitR x := by
  unfold wR wL at h hl
  simp only [List.length_append, List.length_cons, List.length_nil, flat_one] at hl
  simp only [List.mem_append, List.mem_cons, flat_one] at h
  exact ⟨h _ (by simp), fun n hn => h n (by simp [hn]), fun d hd n hn => h n (by simp only [List.mem_flatMap]; exact .inr (.inr (.inl (.inr ⟨d, hd, hn⟩)))), fun d hd n hn => h n (by simp only [List.mem_flatMap]; exact .inr (.inr (.inr (.inl (.inr ⟨d, hd, hn⟩))))), by omega, by omega, by omega⟩
theorem small64 {n : Nat} (h : n ≤ 9000000000000000000) : Is64 (n : Int) := by unfold Is64; omega
theorem encs1 {n : Int} (h : Is64 n) : (encs [n]).length ≤ 10 := by
  have := encs_len (l := [n]) (by intro m hm; simp at hm; subst hm; exact h)
  simpa using this
theorem mem1 {n : Int} (h : Is64 n) : ∀ m ∈ [n], Is64 m := by intro m hm; simp at hm; subst hm; exact h
theorem mem2 {n m : Int} (h : Is64 n) (h2 : Is64 m) : ∀ k ∈ [n, m], Is64 k := by intro k hk; simp at hk; rcases hk with rfl | rfl; exact h; exact h2
theorem wR_encs (x : AReply') : encs (wR x) = ((((([] ++ encs [x.1, (x.2.1.length : Int)]) ++ encs x.2.1) ++ encs [(x.2.2.1.length : Int)]) ++ encs (x.2.2.1.flatMap wD)) ++ encs [(x.2.2.2.1.length : Int)]) ++ encs (x.2.2.2.1.flatMap wB) := by
  simp only [← encs_app, List.nil_append]
  congr 1
  unfold wR wL
  simp [flat_one]
theorem wB_encs (y : AReturn') : encs (wB y) = (encs (wU y.1) ++ encs [y.2.1, (y.2.2.1.length : Int)]) ++ encs (y.2.2.1.flatMap wA) := by
  simp only [← encs_app]
  congr 1
  unfold wB wL
  simp
theorem wD_encs (d : ADebit') : encs (wD d) = (encs (wU d.1) ++ encs (wU d.2.1)) ++ encs [d.2.2.1] := by
  simp only [← encs_app]
  congr 1
theorem wBp {y : AReturn'} (h : ∀ n ∈ wB y, Is64 n) : (∀ n ∈ wU y.1, Is64 n) ∧ Is64 y.2.1 ∧ ∀ l ∈ y.2.2.1, ∀ n ∈ wA l, Is64 n := by
  unfold wB wL at h
  simp only [List.mem_append, List.mem_cons] at h
  exact ⟨fun n hn => h n (.inl hn), h _ (by simp), fun l hl n hn => h n (.inr (.inr (.inl (.inr (List.mem_flatMap.2 ⟨l, hl, hn⟩)))))⟩
theorem wDp {d : ADebit'} (h : ∀ n ∈ wD d, Is64 n) : (∀ n ∈ wU d.1, Is64 n) ∧ (∀ n ∈ wU d.2.1, Is64 n) ∧ Is64 d.2.2.1 := by
  unfold wD at h
  simp only [List.mem_append, List.mem_cons] at h
  exact ⟨fun n hn => h n (.inl hn), fun n hn => h n (.inr (.inl hn)), h _ (by simp)⟩
theorem wBl {y : AReturn'} : (y.2.2.1.flatMap wA).length ≤ (wB y).length := by
  unfold wB wL; simp only [List.length_append, List.length_cons]; omega
theorem mem_flat_len {α : Type} {w : α → List Int} {l : List α} {a : α} (h : a ∈ l) : (w a).length ≤ (l.flatMap w).length := by
  induction l with
  | nil => cases h
  | cons x l ih =>
    rw [List.flatMap_cons, List.length_append]
    rcases List.mem_cons.1 h with rfl | h
    · omega
    · have := ih h; omega
theorem r_wReply {x : AReply'} (H : fitR x) : cmd_EncodeReply x = some (encs (wR x)) := by
  show cmd_EncodeReplyW stdW x = _
  unfold cmd_EncodeReplyW
  rw [both_w, call_w (show pack_New = some ((true, ([], ())), ()) from rfl)]
  have hld := flat_ge wD wD_len x.2.2.1
  have hlb := flat_ge wB wB_len x.2.2.2.1
  have Hld := H.ld
  have Hlb := H.lb
  have Hln := H.ln
  show stdW.call (pack_Writer_Int (x.1 :: ((x.2.1.length : Int) :: [])) true []) _ = _
  have a1 := encs_len (l := [x.1, (x.2.1.length : Int)]) (mem2 H.a (small64 (by omega)))
  have a2 := encs_len (l := x.2.1) H.n
  have a3 := encs1 (small64 (n := x.2.2.1.length) (by omega))
  have a4 := encs1 (small64 (n := x.2.2.2.1.length) (by omega))
  have a5 := encs_len (l := x.2.2.1.flatMap wD) (fun n hn => by obtain ⟨d, hd, hn⟩ := List.mem_flatMap.1 hn; exact H.d d hd n hn)
  have a6 := encs_len (l := x.2.2.2.1.flatMap wB) (fun n hn => by obtain ⟨d, hd, hn⟩ := List.mem_flatMap.1 hn; exact H.b d hd n hn)
  simp only [List.length_cons, List.length_nil] at a1
  rw [wR_encs]
  rw [call_w (r_wInt (l := [x.1, (x.2.1.length : Int)]) (mem2 H.a (small64 (by omega))) (by simp) (by simp))]
  generalize hb0 : [] ++ encs [x.1, (x.2.1.length : Int)] = b0
  have l0 : b0.length ≤ 20 := by rw [← hb0, List.nil_append]; omega
  show stdW.call (pack_Writer_Int x.2.1 true b0) _ = _
  rw [call_w (r_wInt H.n (by omega) (by omega))]
  generalize hb1 : b0 ++ encs x.2.1 = b1
  have l1 : b1.length ≤ 10000020 := by rw [← hb1, List.length_append]; omega
  show stdW.call (pack_Writer_Int [(x.2.2.1.length : Int)] true b1) _ = _
  rw [call_w (r_wInt (mem1 (small64 (by omega))) (by simp) (by omega))]
  generalize hb2 : b1 ++ encs [(x.2.2.1.length : Int)] = b2
  have l2 : b2.length ≤ 10000030 := by rw [← hb2, List.length_append]; omega
  refine loop_w (l := x.2.2.1) (by omega) H.d (fun n c => (n, (true, (c, ())))) (fun z => z.1) (fun _ _ => rfl) (b := b2) (B := 20000030) (by omega) (fun c => some ((c ++ encs [(x.2.2.2.1.length : Int)]) ++ encs (x.2.2.2.1.flatMap wB))) rfl ?_ ?_
  · intro c again _ hc
    rw [cnd_end]
    show stdW.call (pack_Writer_Int [(x.2.2.2.1.length : Int)] true c) _ = _
    rw [call_w (r_wInt (mem1 (small64 (by omega))) (by simp) (by omega))]
    generalize hb4 : c ++ encs [(x.2.2.2.1.length : Int)] = b4
    have l4 : b4.length ≤ 20000040 := by rw [← hb4, List.length_append]; omega
    refine loop_w (l := x.2.2.2.1) (by omega) H.b (fun n c => (n, (true, (c, ())))) (fun z => z.1) (fun _ _ => rfl) (b := b4) (B := 30000040) (by omega) (fun c => some c) rfl ?_ ?_
    · intro c2 again _ hc2
      rw [cnd_end]
      show stdW.call (pack_Writer_Done true c2) _ = _
      rw [call_w (r_done (by omega))]
    · intro i hi c2 again hc2
      have hy := H.b _ (List.getElem_mem hi)
      have hyl := mem_flat_len (w := wB) (List.getElem_mem hi)
      rw [cnd_lt hi, idx_w hi]
      generalize x.2.2.2.1[i] = y at *
      obtain ⟨p1, p2, p3⟩ := wBp hy
      have hbl := wBl (y := y)
      have hla := flat_ge wA wA_len y.2.2.1
      show stdW.call (cmd_unit y.1 true c2) _ = _
      rw [call_w (r_unit' p1 (by omega))]
      have u1 := encs_len p1
      have u2 : (wU y.1).length = 2 := rfl
      show stdW.call (pack_Writer_Int [y.2.1, (y.2.2.1.length : Int)] true (c2 ++ encs (wU y.1))) _ = _
      rw [call_w (r_wInt (mem2 p2 (small64 (by omega))) (by simp) (by rw [List.length_append]; omega)), wB_encs]
      have u3 := encs_len (l := [y.2.1, (y.2.2.1.length : Int)]) (mem2 p2 (small64 (by omega)))
      simp only [List.length_cons, List.length_nil] at u3
      rw [← List.append_assoc c2, ← List.append_assoc c2]
      generalize hb5 : (c2 ++ encs (wU y.1)) ++ encs [y.2.1, (y.2.2.1.length : Int)] = b5
      have l5 : b5.length ≤ 30000100 := by rw [← hb5, List.length_append, List.length_append]; omega
      refine loop_w (l := y.2.2.1) (by omega) p3 (fun n c => (n, (true, (c, ())))) (fun z => z.1) (fun _ _ => rfl) (b := b5) (B := 40000100) (by omega) (fun c => again (((i + 1 : Nat) : Int), (true, (c, ())))) rfl ?_ ?_
      · intro c3 again3 _ hc3
        rw [cnd_end]
        show again (IntKind.i64.wrap ((i : Int) + 1), _) = _
        rw [i64_s i (by omega)]
      · intro j hj c3 again3 hc3
        have hl := p3 _ (List.getElem_mem hj)
        rw [cnd_lt hj, idx_w hj]
        show stdW.call (pack_Writer_Int (wA y.2.2.1[j]) true c3) _ = _
        rw [call_w (r_wInt hl (by simp [wA]) (by omega))]
        show again3 (IntKind.i64.wrap ((j : Int) + 1), _) = _
        rw [i64_s j (by omega)]
  · intro i hi c again hc
    have hy := H.d _ (List.getElem_mem hi)
    rw [cnd_lt hi, idx_w hi]
    generalize x.2.2.1[i] = d at *
    obtain ⟨p1, p2, p3⟩ := wDp hy
    have u1 := encs_len p1
    have u2 := encs_len p2
    have u3 : (wU d.1).length = 2 := rfl
    have u4 : (wU d.2.1).length = 2 := rfl
    show stdW.call (cmd_unit d.1 true c) _ = _
    rw [call_w (r_unit' p1 (by omega))]
    show stdW.call (cmd_unit d.2.1 true (c ++ encs (wU d.1))) _ = _
    rw [call_w (r_unit' p2 (by rw [List.length_append]; omega))]
    show stdW.call (pack_Writer_Int [d.2.2.1] true ((c ++ encs (wU d.1)) ++ encs (wU d.2.1))) _ = _
    rw [call_w (r_wInt (mem1 p3) (by simp) (by rw [List.length_append, List.length_append]; omega))]
    show again (IntKind.i64.wrap ((i : Int) + 1), (true, (((c ++ encs (wU d.1)) ++ encs (wU d.2.1)) ++ encs [d.2.2.1], ()))) = _
    rw [i64_s i (by omega), wD_encs, List.append_assoc, List.append_assoc, List.append_assoc]
end Go.Proofs.Ytnldhkhnfodplaa

namespace Go.Proofs.Ytnldhkhnfodplaa
open Go Go.Vc Go.RowKit
/-! ### the reference's writing of a reply -/
theorem mem4 {a b c d : Int} (h1 : Is64 a) (h2 : Is64 b) (h3 : Is64 c) (h4 : Is64 d) : ∀ k ∈ [a, b, c, d], Is64 k := by intro k hk; simp at hk; rcases hk with rfl | rfl | rfl | rfl <;> assumption
theorem r_rReply {x : AReply'} (H : fitR x) : ref34_EncodeReply x = some (encs (wR x)) := by
  show ref34_EncodeReplyW stdW x = _
  unfold ref34_EncodeReplyW
  have hld := flat_ge wD wD_len x.2.2.1
  have hlb := flat_ge wB wB_len x.2.2.2.1
  have Hld := H.ld
  have Hlb := H.lb
  have Hln := H.ln
  have a1 := encs_len (l := [x.1, (x.2.1.length : Int)]) (mem2 H.a (small64 (by omega)))
  have a2 := encs_len (l := x.2.1) H.n
  have a3 := encs1 (small64 (n := x.2.2.1.length) (by omega))
  have a4 := encs1 (small64 (n := x.2.2.2.1.length) (by omega))
  simp only [List.length_cons, List.length_nil] at a1
  rw [wR_encs]
  rw [call_w (r_nums (l := [x.1, (x.2.1.length : Int)]) (mem2 H.a (small64 (by omega))) (by simp) (by simp))]
  generalize hb0 : [] ++ encs [x.1, (x.2.1.length : Int)] = b0
  have l0 : b0.length ≤ 20 := by rw [← hb0, List.nil_append]; omega
  rw [call_w (r_ints H.n (by omega))]
  show stdW.room (b0.length + (encs x.2.1).length) 1 _ = _
  rw [room_w (by omega) (by omega)]
  generalize hb1 : b0 ++ encs x.2.1 = b1
  have l1 : b1.length ≤ 10000020 := by rw [← hb1, List.length_append]; omega
  rw [call_w (r_nums (mem1 (small64 (by omega))) (by simp) (by omega))]
  generalize hb2 : b1 ++ encs [(x.2.2.1.length : Int)] = b2
  have l2 : b2.length ≤ 10000030 := by rw [← hb2, List.length_append]; omega
  refine loop_w (l := x.2.2.1) (by omega) H.d (fun n c => (n, (c, ()))) (fun z => z.1) (fun _ _ => rfl) (b := b2) (B := 20000030) (by omega) (fun c => some ((c ++ encs [(x.2.2.2.1.length : Int)]) ++ encs (x.2.2.2.1.flatMap wB))) rfl ?_ ?_
  · intro c again _ hc
    rw [cnd_end]
    show stdW.call (ref34_nums [(x.2.2.2.1.length : Int)] c) _ = _
    rw [call_w (r_nums (mem1 (small64 (by omega))) (by simp) (by omega))]
    generalize hb4 : c ++ encs [(x.2.2.2.1.length : Int)] = b4
    have l4 : b4.length ≤ 20000040 := by rw [← hb4, List.length_append]; omega
    refine loop_w (l := x.2.2.2.1) (by omega) H.b (fun n c => (n, (c, ()))) (fun z => z.1) (fun _ _ => rfl) (b := b4) (B := 30000040) (by omega) (fun c => some c) rfl ?_ ?_
    · intro c2 again _ hc2
      rw [cnd_end]
    · intro i hi c2 again hc2
      have hy := H.b _ (List.getElem_mem hi)
      have hyl := mem_flat_len (w := wB) (List.getElem_mem hi)
      rw [cnd_lt hi, idx_w hi]
      generalize x.2.2.2.1[i] = y at *
      obtain ⟨p1, p2, p3⟩ := wBp hy
      have hbl := wBl (y := y)
      have hla := flat_ge wA wA_len y.2.2.1
      have u1 := encs_len p1
      have u2 : (wU y.1).length = 2 := rfl
      show stdW.call (ref34_nums (wU y.1) c2) _ = _
      rw [call_w (r_nums p1 (by omega) (by omega))]
      show stdW.call (ref04_Int y.2.1) _ = _
      rw [call_w (r_rInt p2)]
      have u3 := encU_len10 (fold_lt _ p2)
      show stdW.room ((c2 ++ encs (wU y.1)).length + (encU (fold y.2.1)).length) 1 _ = _
      rw [room_w (by rw [List.length_append]; omega) (by rw [List.length_append]; omega)]
      show stdW.call (ref34_nums [(y.2.2.1.length : Int)] ((c2 ++ encs (wU y.1)) ++ encU (fold y.2.1))) _ = _
      rw [call_w (r_nums (mem1 (small64 (by omega))) (by simp) (by rw [List.length_append, List.length_append]; omega)), wB_encs]
      have u4 := encs1 (small64 (n := y.2.2.1.length) (by omega))
      rw [show [y.2.1, (y.2.2.1.length : Int)] = [y.2.1] ++ [(y.2.2.1.length : Int)] from rfl, encs_app [y.2.1], encs_one y.2.1, ← List.append_assoc c2, ← List.append_assoc c2, ← List.append_assoc (c2 ++ encs (wU y.1))]
      generalize hb5 : ((c2 ++ encs (wU y.1)) ++ encU (fold y.2.1)) ++ encs [(y.2.2.1.length : Int)] = b5
      have l5 : b5.length ≤ 30000100 := by rw [← hb5, List.length_append, List.length_append, List.length_append]; omega
      refine loop_w (l := y.2.2.1) (by omega) p3 (fun n c => (n, (c, ()))) (fun z => z.1) (fun _ _ => rfl) (b := b5) (B := 40000100) (by omega) (fun c => again (((i + 1 : Nat) : Int), (c, ()))) rfl ?_ ?_
      · intro c3 again3 _ hc3
        rw [cnd_end]
        show again (IntKind.i64.wrap ((i : Int) + 1), _) = _
        rw [i64_s i (by omega)]
      · intro j hj c3 again3 hc3
        have hl := p3 _ (List.getElem_mem hj)
        have h1 : Is64 y.2.2.1[j].1 := hl _ (by simp [wA])
        have h2 : Is64 y.2.2.1[j].2.1 := hl _ (by simp [wA])
        have h3 : Is64 y.2.2.1[j].2.2.1 := hl _ (by simp [wA])
        have v1 := encs_len (mem2 h1 h2)
        have v2 := encU_len10 (fold_lt _ h3)
        simp only [List.length_cons, List.length_nil] at v1
        rw [cnd_lt hj, idx_w hj, idx_w hj]
        show stdW.call (ref34_nums [y.2.2.1[j].1, y.2.2.1[j].2.1] c3) _ = _
        rw [call_w (r_nums (mem2 h1 h2) (by simp) (by omega))]
        show stdW.idx y.2.2.1 (j : Int) _ = _
        rw [idx_w hj, call_w (r_rInt h3)]
        show stdW.room ((c3 ++ encs [y.2.2.1[j].1, y.2.2.1[j].2.1]).length + (encU (fold y.2.2.1[j].2.2.1)).length) 1 _ = _
        rw [room_w (by rw [List.length_append]; omega) (by rw [List.length_append]; omega)]
        show again3 (IntKind.i64.wrap ((j : Int) + 1), ((c3 ++ encs [y.2.2.1[j].1, y.2.2.1[j].2.1]) ++ encU (fold y.2.2.1[j].2.2.1), ())) = _
        rw [i64_s j (by omega), List.append_assoc, ← encs_one, ← encs_app]
        rfl
  · intro i hi c again hc
    have hy := H.d _ (List.getElem_mem hi)
    rw [cnd_lt hi, idx_w hi]
    generalize x.2.2.1[i] = d at *
    obtain ⟨p1, p2, p3⟩ := wDp hy
    have v := mem4 (p1 d.1.1 (by simp [wU])) (p1 d.1.2.1 (by simp [wU])) (p2 d.2.1.1 (by simp [wU])) (p2 d.2.1.2.1 (by simp [wU]))
    have v1 := encs_len v
    simp only [List.length_cons, List.length_nil] at v1
    have v2 := encU_len10 (fold_lt _ p3)
    show stdW.call (ref34_nums [d.1.1, d.1.2.1, d.2.1.1, d.2.1.2.1] c) _ = _
    rw [call_w (r_nums v (by simp) (by omega))]
    show stdW.call (ref04_Int d.2.2.1) _ = _
    rw [call_w (r_rInt p3)]
    show stdW.room ((c ++ encs [d.1.1, d.1.2.1, d.2.1.1, d.2.1.2.1]).length + (encU (fold d.2.2.1)).length) 1 _ = _
    rw [room_w (by rw [List.length_append]; omega) (by rw [List.length_append]; omega)]
    show again (IntKind.i64.wrap ((i : Int) + 1), ((c ++ encs [d.1.1, d.1.2.1, d.2.1.1, d.2.1.2.1]) ++ encU (fold d.2.2.1), ())) = _
    rw [i64_s i (by omega), List.append_assoc, ← encs_one, ← encs_app]
    rfl
/-! ### sameness of replies -/
theorem loop_same {α : Type} {l : List α} (hl : l.length ≤ 1000000) {F : Int × Unit → (Int × Unit → Option Bool) → Option Bool} (hend : ∀ again, F ((l.length : Int), ()) again = some true)
    (hstep : ∀ i (h : i < l.length) again, F ((i : Int), ()) again = again (((i + 1 : Nat) : Int), ())) : stdW.loop F (0, ()) = some true := by
  refine loop_list (l := l) (by omega) (fun _ _ => True) (fun _ _ => some true) trivial ?_ ?_
  · rintro ⟨⟩ again _; exact hend again
  · rintro i hi ⟨⟩ _ again ha
    rw [hstep i hi again]
    exact ha () trivial
theorem notIf_t (b : Bool) : Go.Vc.notIf true b = !b := by cases b <;> rfl
theorem r_sameDebits {l : List ADebit'} (hl : l.length ≤ 1000000) : ref31_SameDebits l l = some true := by
  show ref31_SameDebitsW stdW l l = _
  unfold ref31_SameDebitsW
  rw [cnd_n (by simp)]
  refine loop_same (l := l) hl (fun again => by rw [cnd_end]) fun i hi again => ?_
  rw [cnd_lt hi, idx_w hi, idx_w hi, cnd_n (by rw [notIf_t]; simp)]
  show again (IntKind.i64.wrap ((i : Int) + 1), ()) = _
  rw [i64_s i (by omega)]
theorem r_sameLots {l : List ALot'} (hl : l.length ≤ 1000000) : ref18_Same l l = some true := by
  show ref18_SameW stdW l l = _
  unfold ref18_SameW
  rw [cnd_n (by simp)]
  refine loop_same (l := l) hl (fun again => by rw [cnd_end]) fun i hi again => ?_
  rw [cnd_lt hi, idx_w hi, idx_w hi, cnd_n (by rw [notIf_t]; simp)]
  show again (IntKind.i64.wrap ((i : Int) + 1), ()) = _
  rw [i64_s i (by omega)]
theorem r_sameRet {l : List AReturn'} (hl : l.length ≤ 1000000) (hb : ∀ y ∈ l, y.2.2.1.length ≤ 1000000) : ref32_Same l l = some true := by
  show ref32_SameW stdW l l = _
  unfold ref32_SameW
  rw [cnd_n (by simp)]
  refine loop_same (l := l) hl (fun again => by rw [cnd_end]) fun i hi again => ?_
  rw [cnd_lt hi, join_w, idx_w hi, idx_w hi, cnd_n (by rw [notIf_t]; simp), idx_w hi, idx_w hi, cnd_n (by simp), idx_w hi, idx_w hi, call_w (r_sameLots (hb _ (List.getElem_mem hi)))]
  show stdW.cnd (!true) _ (again (IntKind.i64.wrap ((i : Int) + 1), ())) = _
  rw [cnd_n (by rfl), i64_s i (by omega)]
theorem r_sameReply {x : AReply'} (h1 : x.2.1.length ≤ 1000000) (h2 : x.2.2.1.length ≤ 1000000) (h3 : x.2.2.2.1.length ≤ 1000000) (hb : ∀ y ∈ x.2.2.2.1, y.2.2.1.length ≤ 1000000) : ref34_SameReply x x = some true := by
  show ref34_SameReplyW stdW x x = _
  unfold ref34_SameReplyW
  rw [cnd_y (by simp), call_w (r_sameNum h1), decide_eq_true rfl, cnd_y (by rfl), call_w (r_sameDebits h2), cnd_y (by rfl), call_w (r_sameRet h3 hb)]
theorem same_fit {x : AReply'} (H : fitR x) : ref34_SameReply x x = some true := by
  have hld := flat_ge wD wD_len x.2.2.1
  have hlb := flat_ge wB wB_len x.2.2.2.1
  have := H.ld; have := H.lb; have := H.ln
  refine r_sameReply (by omega) (by omega) (by omega) fun y hy => ?_
  have h1 := mem_flat_len (w := wB) hy
  have h2 := wBl (y := y)
  have h3 := flat_ge wA wA_len y.2.2.1
  omega
end Go.Proofs.Ytnldhkhnfodplaa

namespace Go.Proofs.Ytnldhkhnfodplaa
open Go Go.Vc Go.RowKit
/-! ### the law of replies -/
theorem join_g {X β : Type} {k0 : X → Option β} {f : (X → Option β) → Option β} {r : Option β} (h : ∀ k, k = k0 → f k = r) : stdW.join k0 f = r := h k0 rfl
def zeroR : AReply' := (0, ([], ([], ([], ()))))
def finRep (b : List Int) : AReply' × Int × Unit := if endE (rA (b, 0)).2 ≠ 0 then (zeroR, (3, ())) else ((rA (b, 0)).1, (0, ()))
theorem rep_canon {b : List Int} (hb : Bt b) (hl : b.length ≤ 1000000) (h : endE (rA (b, 0)).2 = 0) : b = encs (wR (rA (b, 0)).1) ∧ fitR (rA (b, 0)).1 ∧ okR (rA (b, 0)).1 := by
  obtain ⟨e0, e1⟩ := endE_0 h
  obtain ⟨_, c1, c2⟩ := rwR.canon (b, 0) ⟨hb, by show b.length < _; omega⟩ e0
  rw [e1, List.append_nil] at c1
  have c1 : b = encs (wR (rA (b, 0)).1) := c1
  have hlen : (wR (rA (b, 0)).1).length ≤ 1000000 := by
    have := encs_ge (wR (rA (b, 0)).1)
    have e := congrArg List.length c1
    omega
  exact ⟨c1, fitR_of (rwR.is64 _ c2) hlen, c2⟩
theorem r_decRep {b : List Int} (hb : Bt b) (hl : b.length ≤ 1000000) : cmd_DecodeReply b = some (finRep b) := by
  show cmd_DecodeReplyW stdW b = _
  have hcan := rep_canon hb hl
  unfold finRep
  unfold cmd_DecodeReplyW
  rw [call_w (r_open (by omega))]
  have h0 : okS (b, 0) := ⟨hb, by show b.length < _; omega⟩
  show stdW.call (cmd_anyInt true (b, (0 : Int)).1 (b, (0 : Int)).2) _ = _
  rw [call_w (r_anyInt h0)]
  have h1 : okS (iA (b, 0)).2 := okS_rd (lo := LO) (hi := HI) h0
  show stdW.call (cmd_numbers 4096 true (iA (b, 0)).2.1 (iA (b, 0)).2.2) _ = _
  rw [call_w (r_nums4096 h1)]
  have eR : rA (b, 0) = (((iA (b, 0)).1, ((rdL 4096 iA (iA (b, 0)).2).1, ((rdL 4096 dA (rdL 4096 iA (iA (b, 0)).2).2).1, ((rdL 4096 bA (rdL 4096 dA (rdL 4096 iA (iA (b, 0)).2).2).2).1, ())))), (rdL 4096 bA (rdL 4096 dA (rdL 4096 iA (iA (b, 0)).2).2).2).2) := rfl
  have h2 : okS (rdL 4096 iA (iA (b, 0)).2).2 := ((RW.int LO HI).list (to_ := 4096) (by omega) (by omega)).bt _ h1
  rw [eR] at hcan ⊢
  generalize (iA (b, 0)).1 = a at *
  generalize rdL 4096 iA (iA (b, 0)).2 = L2 at *
  have h3 : okS (rdL 4096 dA L2.2).2 := (rwD.list (to_ := 4096) (by omega) (by omega)).bt _ h2
  refine join_g fun k20 hk20 => ?_
  show stdW.call (cmd_small 4096 true L2.2.1 L2.2.2) _ = _
  rw [call_w (r_small h2)]
  obtain ⟨e, hle⟩ := rng_nat (to_ := 4096) (s := L2.2) (by omega)
  refine (loop_nL rwD (fun n s l => (n, (true, (s.1, (s.2, (a, (L2.1, (l, ())))))))) (fun z => z.1) (fun _ _ _ => rfl) (fun x => k20 (true, (x.2.1, (x.2.2, (a, (L2.1, (x.1, ()))))))) (top := 4096) (by omega) (rd 0 4096 L2.2).1.toNat (rd 0 4096 L2.2).2 [] (by rw [← e]) (okS_rd h2) (by simp only [List.length_nil]; omega) ?_ ?_ ?_).trans ?_
  · intro s acc again
    rw [cnd_n (by rfl)]
  · intro n s acc again h0
    show stdW.cnd (decide ((0 : Int) < ((n + 1 : Nat) : Int))) _ _ = _
    rw [y_pos]
    show stdW.call (pack_Reader_Err true s.1 s.2) _ = _
    rw [call_w (r_pErr s), cnd_n (by simp [h0])]
  · intro n s acc again h0 hs hl
    have hs1 : okS (uA s).2 := rwU.bt s hs
    have hs2 : okS (uA (uA s).2).2 := rwU.bt _ hs1
    show stdW.cnd (decide ((0 : Int) < ((n + 1 : Nat) : Int))) _ _ = _
    rw [y_pos]
    show stdW.call (pack_Reader_Err true s.1 s.2) _ = _
    rw [call_w (r_pErr s), cnd_y (by simp [h0]), join_w]
    have e1 := r_anyUnit hs
    have e2 := r_anyUnit hs1
    have e4 := r_pI hs2
    simp only [e1, e2, e4, ans, Option.bind_some, both_eq]
    rw [room_eq (by simp only [List.length_cons, List.length_nil]; omega) (by simp only [List.length_cons, List.length_nil]; omega), i64_d n (by omega)]
    rfl
  show k20 (true, ((rdL 4096 dA L2.2).2.1, ((rdL 4096 dA L2.2).2.2, (a, (L2.1, ((rdL 4096 dA L2.2).1, ())))))) = _
  generalize rdL 4096 dA L2.2 = L3 at *
  rw [hk20]
  refine join_g fun k11 hk11 => ?_
  show stdW.call (cmd_small 4096 true L3.2.1 L3.2.2) _ = _
  rw [call_w (r_small h3)]
  obtain ⟨e, hle⟩ := rng_nat (to_ := 4096) (s := L3.2) (by omega)
  refine (loop_nL rwB (fun n s l => (n, (true, (s.1, (s.2, (a, (L2.1, (L3.1, (l, ()))))))))) (fun z => z.1) (fun _ _ _ => rfl) (fun x => k11 (true, (x.2.1, (x.2.2, (a, (L2.1, (L3.1, (x.1, ())))))))) (top := 4096) (by omega) (rd 0 4096 L3.2).1.toNat (rd 0 4096 L3.2).2 [] (by rw [← e]) (okS_rd h3) (by simp only [List.length_nil]; omega) ?_ ?_ ?_).trans ?_
  · intro s acc again
    rw [cnd_n (by rfl)]
  · intro n s acc again h0
    show stdW.cnd (decide ((0 : Int) < ((n + 1 : Nat) : Int))) _ _ = _
    rw [y_pos]
    show stdW.call (pack_Reader_Err true s.1 s.2) _ = _
    rw [call_w (r_pErr s), cnd_n (by simp [h0])]
  · intro n s acc again h0 hs hl
    show stdW.cnd (decide ((0 : Int) < ((n + 1 : Nat) : Int))) _ _ = _
    rw [y_pos]
    show stdW.call (pack_Reader_Err true s.1 s.2) _ = _
    rw [call_w (r_pErr s), cnd_y (by simp [h0]), join_w]
    have e1 := r_back hs
    simp only [e1, ans, Option.bind_some, both_eq]
    rw [room_eq (by simp only [List.length_cons, List.length_nil]; omega) (by simp only [List.length_cons, List.length_nil]; omega), i64_d n (by omega)]
  show k11 (true, ((rdL 4096 bA L3.2).2.1, ((rdL 4096 bA L3.2).2.2, (a, (L2.1, (L3.1, ((rdL 4096 bA L3.2).1, ()))))))) = _
  generalize rdL 4096 bA L3.2 = L4 at *
  rw [hk11]
  refine join_g fun k7 hk7 => ?_
  show stdW.call (pack_Reader_End true L4.2.1 L4.2.2) _ = _
  rw [call_w (r_pEnd L4.2)]
  by_cases hE : endE L4.2 = 0
  · rw [cnd_n (by simp [hE])]
    obtain ⟨c1, c2, _⟩ := hcan hE
    show stdW.call (cmd_EncodeReply (a, (L2.1, (L3.1, (L4.1, ()))))) _ = _
    rw [call_w (r_wReply c2), ← c1]
    show stdW.call (bytes_Equal b b) _ = _
    rw [call_w (show bytes_Equal b b = some true by
      show bytes_EqualW stdW b b = _
      unfold bytes_EqualW
      rw [notIf_f]; simp), hk7]
    show stdW.cnd (!true) _ _ = _
    rw [cnd_n (by rfl), if_neg (by simp [hE])]
  · rw [cnd_y (by simp [hE]), hk7]
    show stdW.cnd true _ _ = _
    rw [cnd_y (by rfl), if_pos hE]
    rfl
/-! few -/
def fewB (y : AReturn') : AReturn' := (y.1, (y.2.1, (y.2.2.1.take 20, ())))
def fewX (r : AReply') : AReply' := (r.1, (r.2.1.take 40, (r.2.2.1.take 12, ((r.2.2.2.1.take 12).map fewB, ()))))
theorem r_few18 (l : List ALot') : law18_Few l = some (l.take 20) := by
  show law18_FewW stdW l = _
  unfold law18_FewW
  by_cases h : 20 < l.length
  · rw [cnd_y (decide_eq_true (by omega)), bnd_w (by omega) (by omega)]; rfl
  · rw [cnd_n (decide_eq_false (by omega)), List.take_of_length_le (l := l) (by omega)]
theorem take_s {α : Type} (l : List α) (i : Nat) (h : i < l.length) : l.take (i + 1) = l.take i ++ [l[i]] := by simp
theorem take_e {α : Type} (l : List α) (i : Nat) (h : l.length ≤ i) : l.take (i + 1) = l.take i := by rw [List.take_of_length_le (by omega), List.take_of_length_le h]
theorem r_fewR {r : AReply'} : law34_few r = some (fewX r) := by
  show law34_fewW stdW r = _
  unfold law34_fewW
  refine join_g fun k11 hk11 => ?_
  have h : (stdW.cnd (decide (40 < (r.2.1.length : Int))) (stdW.bnd 40 r.2.1.length fun h12 => (k11 (r.1, ((r.2.1.take h12), ())))) ((k11 (r.1, (r.2.1, ()))))) = k11 (r.1, (r.2.1.take 40, ())) := by
    by_cases h : 40 < r.2.1.length
    · rw [cnd_y (decide_eq_true (by omega)), bnd_w (by omega) (by omega)]; rfl
    · rw [cnd_n (decide_eq_false (by omega)), List.take_of_length_le (l := r.2.1) (by omega)]
  rw [h, hk11]
  unfold fewX
  generalize r.2.1.take 40 = ns
  refine loop_n (N := 12) (by omega) (fun i s => s = (r.1, (ns, (r.2.2.1.take i, ((r.2.2.2.1.take i).map fewB, ()))))) (some (r.1, (ns, (r.2.2.1.take 12, ((r.2.2.2.1.take 12).map fewB, ()))))) (by simp) ?_ ?_
  · rintro _ again rfl
    rw [cnd_n (by rfl)]
  · rintro i hi _ rfl again ha
    rw [cnd_y (decide_eq_true (show (i : Int) < 12 by omega))]
    refine join_g fun k5 hk5 => ?_
    refine join_g fun k9 hk9 => ?_
    have t1 : (r.2.2.1.take i).length ≤ 12 := by rw [List.length_take]; omega
    have t2 : ((r.2.2.2.1.take i).map fewB).length ≤ 12 := by rw [List.length_map, List.length_take]; omega
    have g : ∀ D, k9 (r.1, (ns, (D, ((r.2.2.2.1.take i).map fewB, ())))) = k5 (r.1, (ns, (D, ((r.2.2.2.1.take (i + 1)).map fewB, ())))) := fun D => by
      rw [hk9]
      show stdW.cnd (decide ((i : Int) < (r.2.2.2.1.length : Int))) _ _ = _
      by_cases h : i < r.2.2.2.1.length
      · rw [cnd_lt h, idx_w h, call_w (r_few18 _)]
        show stdW.room (((r.2.2.2.1.take i).map fewB).length + 1) 48 _ = _
        rw [room_w (by omega) (by omega), take_s _ i h, List.map_append]
        rfl
      · rw [cnd_n (decide_eq_false (by omega)), take_e _ i (by omega)]
    have g2 : (stdW.cnd (decide ((i : Int) < (r.2.2.1.length : Int))) (stdW.idx r.2.2.1 (i : Int) fun x10 => stdW.both (stdW.room ((r.2.2.1.take i).length + (x10 :: []).length) 40 ((k9 (r.1, (ns, (((r.2.2.1.take i) ++ (x10 :: [])), ((r.2.2.2.1.take i).map fewB, ()))))))) (stdW.room ((r.2.2.1.take i).length + (x10 :: []).length) 40 ((k9 (r.1, (ns, (((r.2.2.1.take i) ++ (x10 :: [])), ((r.2.2.2.1.take i).map fewB, ()))))))))
       ((k9 (r.1, (ns, (r.2.2.1.take i, ((r.2.2.2.1.take i).map fewB, ()))))))) = k9 (r.1, (ns, (r.2.2.1.take (i + 1), ((r.2.2.2.1.take i).map fewB, ())))) := by
      by_cases h : i < r.2.2.1.length
      · rw [cnd_lt h, idx_w h, both_w, room_w (by simp only [List.length_cons, List.length_nil]; omega) (by simp only [List.length_cons, List.length_nil]; omega), take_s _ i h]
      · rw [cnd_n (decide_eq_false (by omega)), take_e _ i (by omega)]
    refine g2.trans ?_
    rw [g, hk5]
    show again (IntKind.i64.wrap ((i : Int) + 1), _) = _
    rw [i64_s i (by omega)]
    exact ha _ rfl
/-! the law -/
theorem encs_btR (l : List Int) : Bt (encs l) := encs_bt
theorem replies_law {r : AReply'} {b : List Int} (hb : Bt b) (hr : okR (fewX r)) (hw : (wR (fewX r)).length ≤ 1000) : law34_CmdReplies r b = some true := by
  show law34_CmdRepliesW stdW r b = _
  unfold law34_CmdRepliesW
  show stdW.call (law34_few r) _ = _
  rw [call_w r_fewR]
  show stdW.call (ref01_Cut b 400) _ = _
  rw [call_w (r_cut b)]
  have hb' : Bt (b.take 400) := fun x hx => hb x (List.mem_of_mem_take hx)
  have hl : (b.take 400).length ≤ 400 := by rw [List.length_take]; omega
  generalize b.take 400 = b at *
  generalize fewX r = x at *
  have h64 := rwR.is64 _ hr
  have hf := fitR_of h64 (by omega)
  show stdW.call (cmd_EncodeReply x) _ = _
  rw [call_w (r_wReply hf)]
  have hlen : (encs (wR x)).length ≤ 1000000 := by have := encs_len h64; omega
  have e1 : finRep (encs (wR x)) = (x, (0, ())) := by
    unfold finRep
    have := rwR.back x [] hr
    rw [List.append_nil] at this
    rw [this]
    exact if_neg (by show ¬ endE ([], 0) ≠ 0; decide)
  rw [call_w (r_decRep (encs_btR _) hlen), e1, join_w]
  show stdW.call (ref34_EncodeReply x) _ = _
  rw [call_w (r_rReply hf), call_w (r_sameB hlen), decide_eq_true rfl, cnd_n (by rfl), cnd_n (by rfl)]
  show stdW.call (ref34_SameReply x x) _ = _
  rw [call_w (same_fit hf)]
  show stdW.cnd (!true) _ _ = _
  rw [cnd_n (by rfl), call_w (r_decRep hb' (by omega))]
  unfold finRep
  by_cases hE : endE (rA (b, 0)).2 = 0
  · obtain ⟨c1, c2, _⟩ := rep_canon hb' (by omega) hE
    rw [if_neg (by simp [hE]), cnd_n (by rfl)]
    show stdW.call (ref34_EncodeReply (rA (b, 0)).1) _ = _
    rw [call_w (r_rReply c2), ← c1, call_w (r_sameB (by omega)), decide_eq_true rfl, cnd_y (by rfl), call_w r_lives34]
  · rw [if_pos hE, cnd_y (by rfl), cnd_y (by rfl)]
    show stdW.call (ref34_SameReply zeroR zeroR) _ = _
    rw [call_w (r_sameReply (x := zeroR) (by simp [zeroR]) (by simp [zeroR]) (by simp [zeroR]) (by simp [zeroR])), cnd_y (by rfl), call_w r_lives34]
theorem okU_of {u : AUnit'} (h : DT.okD tAUnit u) : okU u := ⟨okI_of (wf_i64 h.1), okI_of (wf_i64 h.2.1), trivial⟩
theorem few_ok {r : AReply'} (h : DT.okD tAReply r) : okR (fewX r) := by
  obtain ⟨h1, h2, h3, h4, _⟩ := h
  refine ⟨okI_of (wf_i64 h1), ⟨?_, fun a ha => okI_of (wf_i64 (h2.1 a (List.mem_of_mem_take ha)))⟩, ⟨?_, fun d hd => ?_⟩, ⟨?_, fun y hy => ?_⟩, trivial⟩
  · have : (r.2.1.take 40).length ≤ 40 := by rw [List.length_take]; omega
    show (((r.2.1.take 40).length : Nat) : Int) ≤ 4096; omega
  · have : (r.2.2.1.take 12).length ≤ 12 := by rw [List.length_take]; omega
    show (((r.2.2.1.take 12).length : Nat) : Int) ≤ 4096; omega
  · have h : DT.okD tADebit d := h3.1 d (List.mem_of_mem_take hd)
    exact ⟨okU_of h.1, okU_of h.2.1, okI_of (wf_i64 h.2.2.1), trivial⟩
  · have : ((r.2.2.2.1.take 12).map fewB).length ≤ 12 := by rw [List.length_map, List.length_take]; omega
    show ((((r.2.2.2.1.take 12).map fewB).length : Nat) : Int) ≤ 4096; omega
  · obtain ⟨y0, hy0, rfl⟩ := List.mem_map.1 (show y ∈ (r.2.2.2.1.take 12).map fewB from hy)
    have h : DT.okD tAReturn y0 := h4.1 y0 (List.mem_of_mem_take hy0)
    refine ⟨okU_of h.1, okI_of (wf_i64 h.2.1), ⟨?_, fun l hl => ?_⟩, trivial⟩
    · have : (y0.2.2.1.take 20).length ≤ 20 := by rw [List.length_take]; omega
      show (((y0.2.2.1.take 20).length : Nat) : Int) ≤ 4096; omega
    · have h' : DT.okD tALot l := h.2.2.1.1 l (List.mem_of_mem_take hl)
      exact ⟨okI_of (wf_i64 h'.1), okI_of (wf_i64 h'.2.1), okI_of (wf_i64 h'.2.2.1), trivial⟩
theorem flat_le {α : Type} (w : α → List Int) (k : Nat) : ∀ (l : List α), (∀ a ∈ l, (w a).length ≤ k) → (l.flatMap w).length ≤ k * l.length
  | [], _ => by simp
  | x :: l, h => by
    rw [List.flatMap_cons, List.length_append, List.length_cons]
    have h1 := h x (by simp)
    have h2 := flat_le w k l fun a ha => h a (by simp [ha])
    rw [Nat.mul_add]; omega
theorem few_len (r : AReply') : (wR (fewX r)).length ≤ 1000 := by
  unfold wR wL
  simp only [List.length_append, List.length_cons, List.length_nil, flat_one]
  have h1 : (fewX r).2.1.length ≤ 40 := by show (r.2.1.take 40).length ≤ 40; rw [List.length_take]; omega
  have h2 : (fewX r).2.2.1.length ≤ 12 := by show (r.2.2.1.take 12).length ≤ 12; rw [List.length_take]; omega
  have h3 : (fewX r).2.2.2.1.length ≤ 12 := by show ((r.2.2.2.1.take 12).map fewB).length ≤ 12; rw [List.length_map, List.length_take]; omega
  have g2 := flat_le wD 5 (fewX r).2.2.1 fun d _ => by simp [wD, wU]
  have g3 := flat_le wB 64 (fewX r).2.2.2.1 fun y hy => by
    obtain ⟨y0, hy0, rfl⟩ := List.mem_map.1 (show y ∈ (r.2.2.2.1.take 12).map fewB from hy)
    have l1 : (fewB y0).2.2.1.length ≤ 20 := by show (y0.2.2.1.take 20).length ≤ 20; rw [List.length_take]; omega
    have l2 := flat_le wA 3 (fewB y0).2.2.1 fun a _ => by simp [wA]
    unfold wB wL wU
    simp only [List.length_append, List.length_cons, List.length_nil]
    omega
  omega
theorem cmdReplies_true (x0 : DT.den tAReply) (x1 : DT.den (.slc (.int .u8))) (o0 : DT.okD tAReply x0) (o1 : DT.okD (.slc (.int .u8)) x1) : law34_CmdReplies x0 x1 = some true :=
  replies_law (fun b hb => by have := wf_u8 (o1.1 b hb); omega) (few_ok o0) (few_len x0)
end Go.Proofs.Ytnldhkhnfodplaa

namespace Go.Proofs.Ytnldhkhnfodplaa
open Go Go.Vc Go.RowKit Go.ChangeShapes Go.WideShapes Go.ChangeAt Go.Joins

theorem own : ownKnob Try.prog.godebug = none := by kernel_rfl
theorem laidOut : laidOutB Try.prog = true := by kernel_rfl
theorem trod_places {H : Type} {enc : TypeId × Value → H} {w : World} {spare : Nat → Bool} {held : Bool} {t : TypeId} {v : Value} {d : DataW H} {p : List MemPlace} (h : DataW.Trod enc Try.prog w 0 spare held t v d p) : ∀ x ∈ p, x.block < w.heap.size := by
  obtain ⟨m, hm⟩ := h; exact DataW.trod_lt m _ _ _ hm
end Go.Proofs.Ytnldhkhnfodplaa

/-! A program's closures over a table of who leads to whom (own work): so that 'recurses' is not reckoned by the kernel function by function. -/
namespace Go.Vc
open Go
def closT (T : List (List Nat)) : Nat → List Nat → List Nat → List Nat
  | 0, _, seen => seen.reverse
  | _, [], seen => seen.reverse
  | n + 1, f :: todo, seen => if seen.contains f then closT T n todo seen else closT T n ((T[f]?).getD [] ++ todo) (f :: seen)
theorem lead_eq {P : Program} {T : List (List Nat)} (hT : P.funcs.toList.map P.leadsTo = T) (f : Nat) : (P.funcs[f]?).elim [] P.leadsTo = (T[f]?).getD [] := by
  subst hT
  rw [List.getElem?_map, Array.getElem?_toList]
  cases P.funcs[f]? <;> rfl
theorem closureVia_eq {P : Program} {T : List (List Nat)} (hT : P.funcs.toList.map P.leadsTo = T) : ∀ n todo seen, P.closureVia n todo seen = closT T n todo seen
  | 0, _, _ => by simp only [Program.closureVia, closT]
  | n + 1, [], _ => by simp only [Program.closureVia, closT]
  | n + 1, f :: todo, seen => by
    simp only [Program.closureVia, closT]
    rw [closureVia_eq hT n, closureVia_eq hT n, lead_eq hT f]
theorem closure_eq {P : Program} {T : List (List Nat)} (hT : P.funcs.toList.map P.leadsTo = T) (f : Nat) : P.closure f = closT T (1 + (T.map fun l => l.length + 1).sum) [f] [] := by
  unfold Program.closure
  rw [closureVia_eq hT]
  subst hT
  rw [List.map_map]; rfl
theorem mem_closT {T : List (List Nat)} {p : Nat → Prop} (hp : ∀ x, p x → ∀ y ∈ (T[x]?).getD [], p y) : ∀ n todo seen, (∀ x ∈ todo, p x) → (∀ x ∈ seen, p x) → ∀ x ∈ closT T n todo seen, p x
  | 0, _, _, _, hs => by intro x hx; simp only [closT] at hx; exact hs x (by simpa using hx)
  | n + 1, [], _, _, hs => by intro x hx; simp only [closT] at hx; exact hs x (by simpa using hx)
  | n + 1, f :: todo, seen, ht, hs => by
    intro x hx
    simp only [closT] at hx
    split at hx
    · exact mem_closT hp n todo seen (fun y hy => ht y (by simp [hy])) hs x hx
    · refine mem_closT hp n _ _ (fun y hy => ?_) (fun y hy => ?_) x hx
      · rcases List.mem_append.1 hy with h | h
        · exact hp f (ht f (by simp)) y h
        · exact ht y (by simp [h])
      · rcases List.mem_cons.1 hy with rfl | h
        · exact ht y (by simp)
        · exact hs y h
/-- a rank that falls along every call (0: not ranked) -/
def okRk (T : List (List Nat)) (rk : List Nat) : Bool :=
  (List.range T.length).all fun g => (rk[g]?).getD 0 == 0 || ((T[g]?).getD []).all fun h => decide (0 < (rk[h]?).getD 0) && decide ((rk[h]?).getD 0 < (rk[g]?).getD 0)
theorem okRk_at {T : List (List Nat)} {rk : List Nat} (h : okRk T rk = true) {g y : Nat} (hg : 0 < (rk[g]?).getD 0) (hy : y ∈ (T[g]?).getD []) : 0 < (rk[y]?).getD 0 ∧ (rk[y]?).getD 0 < (rk[g]?).getD 0 := by
  have hlt : g < T.length := by
    rcases Nat.lt_or_ge g T.length with h1 | h1
    · exact h1
    · rw [List.getElem?_eq_none h1] at hy; cases hy
  have := List.all_eq_true.1 h g (List.mem_range.2 hlt)
  simp only [Bool.or_eq_true, beq_iff_eq, List.all_eq_true, Bool.and_eq_true, decide_eq_true_eq] at this
  rcases this with h0 | h0
  · omega
  · exact h0 y hy
theorem recurses_no {P : Program} {T : List (List Nat)} {rk : List Nat} {f : Nat} (hT : P.funcs.toList.map P.leadsTo = T) (hk : okRk T rk = true) (hf : 0 < (rk[f]?).getD 0) (hu : P.unfollowed f = false) : P.recurses f = false := by
  unfold Program.recurses
  rw [hu, Bool.false_or, List.any_eq_false]
  intro g hg
  rw [closure_eq hT] at hg
  have hg0 : 0 < (rk[g]?).getD 0 := mem_closT (p := fun x => 0 < (rk[x]?).getD 0) (fun x hx y hy => (okRk_at hk hx hy).1) _ _ _ (by intro x hx; simp only [List.mem_singleton] at hx; subst hx; exact hf) (by intro x hx; cases hx) g hg
  simp only [Bool.not_eq_true, List.any_eq_false]
  intro h hh
  rw [lead_eq hT] at hh
  obtain ⟨h1, h2⟩ := okRk_at hk hg0 hh
  rw [closure_eq hT]
  cases hc : (closT T (1 + (T.map fun l => l.length + 1).sum) [h] []).contains g with
  | false => rfl
  | true =>
    have hm := List.contains_iff_mem.1 hc
    have := mem_closT (p := fun x => 0 < (rk[x]?).getD 0 ∧ (rk[x]?).getD 0 ≤ (rk[h]?).getD 0) (fun x hx y hy => by have := okRk_at hk hx.1 hy; exact ⟨this.1, by omega⟩) _ _ _ (by intro x hx; simp only [List.mem_singleton] at hx; subst hx; exact ⟨h1, Nat.le_refl _⟩) (by intro x hx; cases hx) g hm
    omega
end Go.Vc

namespace Go.Proofs.Ytnldhkhnfodplaa
open Go Go.Vc
def leadsT : List (List Nat) := [[], [], [1], [15, 16, 17, 18], [18, 19, 20, 18, 20, 20, 20, 18], [15, 21, 16, 22, 17, 23, 20, 24, 18], [25, 27, 26, 27, 28, 30, 29, 30, 31, 33, 32, 34], [27, 30, 35, 25, 26, 29, 33, 36, 37, 38, 39, 36, 25, 40, 37, 41, 26, 39, 33, 32, 34], [27, 26, 30, 29, 33, 37, 38, 40, 41, 39, 34], [42, 43, 44, 45, 46], [43, 47, 50, 49, 51, 48, 52, 49, 48, 53, 49, 48, 55, 56, 54, 58, 59, 57, 46], [60, 61, 62, 32, 63, 64, 65, 66, 67], [35, 60, 68, 69, 70, 61, 32, 61, 67, 68, 70, 67], [71, 35, 72, 73, 74, 32, 75, 73, 75, 67, 74, 32, 67], [76, 76, 77, 77, 78, 79], [80], [80], [80], [15, 16, 16, 19], [], [19], [81], [81], [81], [], [], [82, 84, 83], [], [85], [82, 84, 83], [], [85], [], [82, 86], [25, 26, 29, 33, 36, 32, 37, 37, 38, 39], [], [86], [87, 88, 89, 90], [37, 87, 90], [41], [87], [], [91, 92, 92, 76, 93, 94], [60, 95], [96, 97, 50, 98, 50], [100, 100, 99, 101, 51, 48, 102, 51, 48], [44, 50, 49, 103, 48], [56, 103, 99, 103, 99], [104], [105], [106, 108, 107, 108, 109, 110, 109, 111], [103, 99, 103, 104, 103, 104, 112, 104], [114, 113], [115, 113], [], [106], [], [], [106], [], [], [63, 116], [64, 117, 66, 117, 117, 117, 117, 117, 117, 117, 85, 85, 117, 28], [116, 118, 119], [66, 121, 120, 121, 120, 121, 120, 121, 120, 121, 120, 121, 120, 121, 120, 121, 120, 121, 120, 121, 121, 121], [], [], [61, 68, 32], [118], [122, 122, 66, 122, 122, 122, 122, 122, 122, 122, 122, 122, 122, 122, 123, 122, 124, 64], [125], [95], [25, 26, 26, 26, 126, 126, 26, 26, 126, 26, 26, 33], [36, 127, 128, 129, 41, 130, 130, 37, 129, 41, 131, 39, 72, 132], [117, 28, 117, 117, 85, 117, 117, 85, 117, 117, 85], [125, 54, 133], [], [134, 135, 136, 138, 137], [], [139, 140, 140, 134], [141], [142], [], [], [], [], [], [], [90, 90], [], [], [], [143], [95], [], [], [144, 144, 107, 111], [108, 145], [146, 145], [148, 147, 149, 150, 147, 150, 147], [151, 103, 99], [112, 99], [103, 99], [152, 152, 148], [153, 99], [103, 152, 99], [], [], [], [154, 107], [108, 146], [145], [103, 99], [55, 108, 107, 111], [], [], [25, 26, 65, 155, 33], [85], [36, 37, 129, 65, 156, 39], [157], [], [], [123], [158, 158, 158], [], [], [26], [37], [129, 41, 37], [37], [127, 127], [130, 37, 129, 41, 127, 127, 37], [], [159], [160], [161], [162, 163], [108, 145, 164], [], [165, 134, 77], [], [], [], [], [166, 108, 145], [167, 168], [108, 145], [], [], [], [], [], [], [147], [170, 172, 171, 169], [26, 126, 126, 26, 26, 26, 26, 26, 26, 26, 26], [129, 173, 173, 129, 129, 129, 129, 37, 37, 128], [], [], [], [], [], [175, 174], [160, 160], [176], [108, 108, 177, 164], [], [178, 178], [169], [], [172, 179, 179], [179, 179], [], [129, 129], [180, 181, 182, 183, 184, 185, 186, 187, 174, 174], [188, 189], [108], [167, 167, 108, 167, 168], [], [], [], [190, 190], [191, 192], [193, 193, 193, 194], [], [], [], [], [], [], [], [175], [], [194], [195, 195, 195], [], [], [], [], [], [], [], [], [], [], [], [], [], [], [], [], [], []]
def rankT : List Nat := [1, 1, 2, 5, 5, 5, 6, 6, 6, 9, 9, 11, 11, 11, 0, 3, 3, 3, 4, 1, 2, 3, 3, 3, 1, 1, 2, 1, 2, 2, 1, 2, 1, 2, 5, 1, 2, 3, 4, 2, 2, 1, 3, 2, 7, 5, 8, 3, 4, 4, 6, 4, 6, 6, 1, 2, 1, 1, 2, 1, 1, 9, 3, 8, 2, 1, 1, 10, 8, 4, 2, 2, 4, 7, 3, 3, 1, 0, 1, 0, 2, 2, 1, 1, 1, 1, 1, 1, 2, 1, 1, 1, 2, 2, 1, 1, 5, 4, 5, 2, 3, 4, 3, 2, 3, 3, 1, 1, 1, 4, 5, 4, 3, 5, 1, 1, 5, 2, 7, 2, 1, 1, 3, 2, 1, 1, 3, 4, 5, 4, 5, 6, 1, 2, 2, 2, 0, 4, 1, 0, 1, 1, 1, 1, 4, 3, 4, 1, 1, 1, 1, 1, 1, 2, 3, 4, 6, 1, 1, 1, 1, 1, 0, 2, 3, 4, 1, 2, 2, 1, 2, 2, 1, 5, 0, 2, 2, 3, 1, 1, 1, 2, 4, 4, 1, 1, 1, 1, 1, 1, 1, 3, 1, 3, 2, 1, 1, 1, 1, 1, 1, 1, 1, 1, 1, 1, 1, 1, 1, 1, 1, 1, 1]
set_option maxRecDepth 1000000 in
theorem leads_ok : Try.prog.funcs.toList.map Try.prog.leadsTo = leadsT := by kernel_rfl
set_option maxRecDepth 1000000 in
theorem rank_ok : okRk leadsT rankT = true := by kernel_rfl
end Go.Proofs.Ytnldhkhnfodplaa
