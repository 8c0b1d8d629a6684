import Derived.Test.YtnldhkhnfodplaaB4
namespace Go.Proofs.Ytnldhkhnfodplaa
open Go Go.Vc Go.RowKit
set_option maxRecDepth 100000
@[reducible] def tWideWide : DT := (.pair (.int .i64) (.pair (.int .u64) .unit))
abbrev WideWide' := Int × Int × Unit
@[reducible] def tAuditTally : DT := (.pair (.slc tWideWide) .unit)
abbrev AuditTally' := (List WideWide') × Unit
@[reducible] def tWideTotal : DT := (.pair (.int .i64) (.pair tWideWide .unit))
abbrev WideTotal' := Int × WideWide' × Unit
@[reducible] def tWideSize : DT := (.pair (.int .u64) (.pair (.int .u64) .unit))
abbrev WideSize' := Int × Int × Unit
@[reducible] def tNovationref04Reader : DT := (.pair (.slc (.int .u8)) (.pair (.int .i64) .unit))
abbrev Novationref04Reader' := (List Int) × Int × Unit
@[reducible] def tPackReader : DT := (.pair .bool (.pair (.slc (.int .u8)) (.pair (.int .i64) .unit)))
abbrev PackReader' := Bool × (List Int) × Int × Unit
@[reducible] def tPackWriter : DT := (.pair .bool (.pair (.slc (.int .u8)) .unit))
abbrev PackWriter' := Bool × (List Int) × Unit
@[reducible] def tAUnit : DT := (.pair (.int .i64) (.pair (.int .i64) .unit))
abbrev AUnit' := Int × Int × Unit
@[reducible] def tACommand : DT := (.pair (.int .i64) (.pair (.int .i64) (.pair (.int .i64) (.pair tAUnit (.pair tAUnit (.pair (.int .i64) (.pair (.int .i64) (.pair (.int .i64) (.pair (.int .i64) (.pair (.int .i64) (.pair (.int .i64) (.pair (.slc (.int .i64)) .unit))))))))))))
abbrev ACommand' := Int × Int × Int × AUnit' × AUnit' × Int × Int × Int × Int × Int × Int × (List Int) × Unit
@[reducible] def tADebit : DT := (.pair tAUnit (.pair tAUnit (.pair (.int .i64) .unit)))
abbrev ADebit' := AUnit' × AUnit' × Int × Unit
@[reducible] def tALot : DT := (.pair (.int .i64) (.pair (.int .i64) (.pair (.int .i64) .unit)))
abbrev ALot' := Int × Int × Int × Unit
@[reducible] def tAReturn : DT := (.pair tAUnit (.pair (.int .i64) (.pair (.slc tALot) .unit)))
abbrev AReturn' := AUnit' × Int × (List ALot') × Unit
@[reducible] def tAReply : DT := (.pair (.int .i64) (.pair (.slc (.int .i64)) (.pair (.slc tADebit) (.pair (.slc tAReturn) .unit))))
abbrev AReply' := Int × (List Int) × (List ADebit') × (List AReturn') × Unit
@[reducible] def tADone : DT := (.pair tACommand (.pair tAReply .unit))
abbrev ADone' := ACommand' × AReply' × Unit
@[reducible] def tAMember : DT := (.pair (.int .i64) (.pair (.int .i64) (.pair (.int .i64) (.pair (.int .i64) .unit))))
abbrev AMember' := Int × Int × Int × Int × Unit
@[reducible] def tAInst : DT := (.pair (.int .i64) (.pair (.int .i64) (.pair (.int .i64) (.pair (.int .i64) (.pair (.slc (.int .i64)) .unit)))))
abbrev AInst' := Int × Int × Int × Int × (List Int) × Unit
@[reducible] def tAAccount : DT := (.pair (.int .i64) (.pair (.int .i64) (.pair (.int .i64) (.pair (.slc (.int .i64)) .unit))))
abbrev AAccount' := Int × Int × Int × (List Int) × Unit
@[reducible] def tAChoice : DT := (.pair tAUnit (.pair tAUnit (.pair .bool .unit)))
abbrev AChoice' := AUnit' × AUnit' × Bool × Unit
@[reducible] def tAGroup : DT := (.pair (.int .i64) (.pair tAUnit (.pair (.int .i64) (.pair (.int .i64) (.pair (.int .i64) .unit)))))
abbrev AGroup' := Int × AUnit' × Int × Int × Int × Unit
@[reducible] def tAGive : DT := (.pair (.int .i64) (.pair tAUnit (.pair tAUnit (.pair tAUnit (.pair (.int .i64) (.pair (.int .i64) (.pair (.int .i64) (.pair (.int .i64) .unit))))))))
abbrev AGive' := Int × AUnit' × AUnit' × AUnit' × Int × Int × Int × Int × Unit
@[reducible] def tAPos : DT := (.pair tAUnit (.pair (.slc tAUnit) .unit))
abbrev APos' := AUnit' × (List AUnit') × Unit
@[reducible] def tAFlow : DT := (.pair tAUnit (.pair (.int .i64) .unit))
abbrev AFlow' := AUnit' × Int × Unit
@[reducible] def tAHold : DT := (.pair tAUnit (.pair (.slc tALot) .unit))
abbrev AHold' := AUnit' × (List ALot') × Unit
@[reducible] def tAState : DT := (.pair (.int .i64) (.pair (.slc tAMember) (.pair (.slc tAInst) (.pair (.slc tALot) (.pair (.slc tAAccount) (.pair (.slc tAChoice) (.pair (.slc tAGroup) (.pair (.slc tAGive) (.pair (.slc tAPos) (.pair (.slc tAPos) (.pair (.slc tAFlow) (.pair (.slc tAHold) .unit))))))))))))
abbrev AState' := Int × (List AMember') × (List AInst') × (List ALot') × (List AAccount') × (List AChoice') × (List AGroup') × (List AGive') × (List APos') × (List APos') × (List AFlow') × (List AHold') × Unit
@[reducible] def tNovationlaw04Do : DT := (.pair (.int .i64) (.pair (.slc (.int .i64)) (.pair .str (.pair (.int .i64) (.pair (.int .i64) (.pair (.int .i64) .unit))))))
abbrev Novationlaw04Do' := Int × (List Int) × ByteArray × Int × Int × Int × Unit
noncomputable def wide_total_addW (W : Wd) (w : WideWide') (t0 : Int) (t1 : Int) (t2 : Int) : Option (Unit × (Int × Int × Int × Unit)) := W.call (add64 t2 w.2.1 0) fun v1 => W.call (add64 (IntKind.u64.wrap t1) (IntKind.u64.wrap w.1) v1.2.1) fun v2 => W.nn 63 (some ((), ((IntKind.i64.wrap (t0 + (IntKind.i64.wrap ((Int.fdiv w.1 (2 ^ (Min.min (Int.toNat 63) (Go.IntKind.bits Go.IntKind.i64)))) + (IntKind.i64.wrap v2.2.1))))), ((IntKind.i64.wrap v2.1), (v1.1, ())))))
noncomputable def wide_total_add (w : WideWide') (t0 : Int) (t1 : Int) (t2 : Int) : Option (Unit × (Int × Int × Int × Unit)) := wide_total_addW stdW w t0 t1 t2
noncomputable def wide_total_add_s : LS := ⟨[.ptr, .v tWideWide], [⟨249, [.v (.int .i64), .v (.int .i64), .v (.int .u64)]⟩], [⟨249, [.v (.int .i64), .v (.int .i64), .v (.int .u64)]⟩], (.q .unit), fun x => wide_total_add x.1 x.2.1 x.2.2.1 x.2.2.2.1⟩
theorem wide_total_add_ok : ECok Try.prog 167 (.ls wide_total_add_s)   := ls_ok (A := [.ptr, .v tWideWide]) (B := [⟨249, [.v (.int .i64), .v (.int .i64), .v (.int .u64)]⟩]) (E := [⟨249, [.v (.int .i64), .v (.int .i64), .v (.int .u64)]⟩]) (Q := (.q .unit)) (fun W x => wide_total_addW W x.1 x.2.1 x.2.2.1 x.2.2.2.1) [(178, .es add64_s)] ⟨add64_ok, trivial⟩ [(1, [], (ofL [(0, true), (1, true), (2, true), (3, true), (4, true), (5, true), (6, true), (7, false), (8, true), (9, true), (10, true), (11, true), (12, true)])), (2, [], (ofL [(0, true), (1, true), (2, true), (3, true), (4, true), (5, true), (6, true), (7, true), (8, true), (9, true), (10, false), (11, true), (12, true), (13, true), (14, true), (15, true)])), (3, [0], (ofL [(0, true), (1, true), (2, true), (4, true), (5, true), (6, true), (7, true), (8, true), (9, true), (3, false), (10, true), (11, true), (12, true), (13, false)]))] [] [] Try.func167 rfl (by decide +kernel) rfl rfl rfl rfl rfl (fun W x => by kernel_rfl)
noncomputable def wide_rangedW (W : Wd) (w : WideWide') (ok : Bool) : Option (WideWide' × Int × Unit) := 
 W.cnd (!ok) (some ((0, (0, ())), (7, ())))
  (some (w, (0, ())))
noncomputable def wide_ranged (w : WideWide') (ok : Bool) : Option (WideWide' × Int × Unit) := wide_rangedW stdW w ok
noncomputable def wide_ranged_s : ES := ⟨(.pair tWideWide (.pair .bool .unit)), (.pair (.v tWideWide) (.pair (.v (.int .i64)) .unit)), fun x => wide_ranged x.1 x.2.1⟩
theorem wide_ranged_ok : ECok Try.prog 169 (.es wide_ranged_s)   := es_ok (A := (.pair tWideWide (.pair .bool .unit))) (Q := (.pair (.v tWideWide) (.pair (.v (.int .i64)) .unit))) (fun W x => wide_rangedW W x.1 x.2.1) [] trivial [] [] [] Try.func169 rfl (by decide +kernel) rfl rfl (fun W x => by kernel_rfl)
noncomputable def wide_total_doneW (W : Wd) (t0 : Int) (t1 : Int) (t2 : Int) : Option ((WideWide' × Int × Unit) × (Int × Int × Int × Unit)) := W.nn 63 (W.call (wide_ranged (t1, (t2, ())) (t0 == (Int.fdiv t1 (2 ^ (Min.min (Int.toNat 63) (Go.IntKind.bits Go.IntKind.i64)))))) fun v1 => some (v1, (t0, (t1, (t2, ())))))
noncomputable def wide_total_done (t0 : Int) (t1 : Int) (t2 : Int) : Option ((WideWide' × Int × Unit) × (Int × Int × Int × Unit)) := wide_total_doneW stdW t0 t1 t2
noncomputable def wide_total_done_s : LS := ⟨[.ptr], [⟨249, [.v (.int .i64), .v (.int .i64), .v (.int .u64)]⟩], [⟨249, [.v (.int .i64), .v (.int .i64), .v (.int .u64)]⟩], (.q (.pair (.v tWideWide) (.pair (.v (.int .i64)) .unit))), fun x => wide_total_done x.1 x.2.1 x.2.2.1⟩
theorem wide_total_done_ok : ECok Try.prog 168 (.ls wide_total_done_s)   := ls_ok (A := [.ptr]) (B := [⟨249, [.v (.int .i64), .v (.int .i64), .v (.int .u64)]⟩]) (E := [⟨249, [.v (.int .i64), .v (.int .i64), .v (.int .u64)]⟩]) (Q := (.q (.pair (.v tWideWide) (.pair (.v (.int .i64)) .unit)))) (fun W x => wide_total_doneW W x.1 x.2.1 x.2.2.1) [(169, .es wide_ranged_s)] ⟨wide_ranged_ok, trivial⟩ [(1, [1], (ofL [(0, true), (1, true), (2, true), (3, true), (4, true), (5, true), (6, true), (7, true), (8, true), (9, true), (10, true), (11, true), (12, true), (13, true), (14, true), (15, false), (16, true), (17, true), (18, false), (19, true)]))] [] [] Try.func168 rfl (by decide +kernel) rfl rfl rfl rfl rfl (fun W x => by kernel_rfl)
noncomputable def wide_AddW (W : Wd) (l : List WideWide') : Option (WideWide' × Int × Unit) := 
 W.loop (fun (z1 : Int × Int × Int × Int × Unit) again2 => 
  W.cnd (decide (z1.1 < (l.length : Int))) (W.idx l z1.1 fun x3 => W.call (wide_total_add x3 z1.2.1 z1.2.2.1 z1.2.2.2.1) fun v4 => (again2 ((IntKind.i64.wrap (z1.1 + 1)), v4.2)))
   (W.call (wide_total_done z1.2.1 z1.2.2.1 z1.2.2.2.1) fun v5 => some v5.1))
  (0, (0, (0, (0, ()))))
noncomputable def wide_Add (l : List WideWide') : Option (WideWide' × Int × Unit) := wide_AddW stdW l
noncomputable def wide_Add_s : ES := ⟨(.pair (.slc tWideWide) .unit), (.pair (.v tWideWide) (.pair (.v (.int .i64)) .unit)), fun x => wide_Add x.1⟩
theorem wide_Add_ok : ECok Try.prog 145 (.es wide_Add_s)   := es_ok (A := (.pair (.slc tWideWide) .unit)) (Q := (.pair (.v tWideWide) (.pair (.v (.int .i64)) .unit))) (fun W x => wide_AddW W x.1) [(167, .ls wide_total_add_s), (168, .ls wide_total_done_s)] ⟨wide_total_add_ok, wide_total_done_ok, trivial⟩ [] [] [(3, ⟨[(9, .t (.int .i64))], [(1, [.t (.int .i64), .t (.int .i64), .t (.int .u64)])], []⟩)] Try.func145 rfl (by decide +kernel) rfl rfl (fun W x => by kernel_rfl)
noncomputable def audit_tally_doneW (W : Wd) (t0 : List WideWide') : Option (WideWide' × ((List WideWide') × Unit)) := W.call (wide_Add t0) fun v1 => some (v1.1, (t0, ()))
noncomputable def audit_tally_done (t0 : List WideWide') : Option (WideWide' × ((List WideWide') × Unit)) := audit_tally_doneW stdW t0
noncomputable def audit_tally_done_s : LS := ⟨[.ptr], [⟨179, [.row 94 tWideWide]⟩], [⟨179, [.v (.slc tWideWide)]⟩], (.q (.v tWideWide)), fun x => audit_tally_done x.1⟩
theorem audit_tally_done_ok : ECok Try.prog 111 (.ls audit_tally_done_s)   := ls_ok (A := [.ptr]) (B := [⟨179, [.row 94 tWideWide]⟩]) (E := [⟨179, [.v (.slc tWideWide)]⟩]) (Q := (.q (.v tWideWide))) (fun W x => audit_tally_doneW W x.1) [(145, .es wide_Add_s)] ⟨wide_Add_ok, trivial⟩ [] [] [] Try.func111 rfl (by decide +kernel) rfl rfl rfl rfl rfl (fun W x => by kernel_rfl)
noncomputable def wide_Wide_belowW (W : Wd) (w : WideWide') : Option Bool := some (decide (w.1 < 0))
noncomputable def wide_Wide_below (w : WideWide') : Option Bool := wide_Wide_belowW stdW w
noncomputable def wide_Wide_below_s : ES := ⟨(.pair tWideWide .unit), (.v .bool), fun x => wide_Wide_below x.1⟩
theorem wide_Wide_below_ok : ECok Try.prog 172 (.es wide_Wide_below_s)   := es_ok (A := (.pair tWideWide .unit)) (Q := (.v .bool)) (fun W x => wide_Wide_belowW W x.1) [] trivial [] [] [] Try.func172 rfl (by decide +kernel) rfl rfl (fun W x => by kernel_rfl)
noncomputable def wide_Wide_sizeW (W : Wd) (w : WideWide') : Option WideSize' := W.call (wide_Wide_below w) fun v1 => 
 W.cnd (!v1) (some ((IntKind.u64.wrap w.1), w.2))
  (W.call (sub64 0 w.2.1 0) fun v2 => W.call (sub64 0 (IntKind.u64.wrap w.1) v2.2.1) fun v3 => some (v3.1, (v2.1, ())))
noncomputable def wide_Wide_size (w : WideWide') : Option WideSize' := wide_Wide_sizeW stdW w
noncomputable def wide_Wide_size_s : ES := ⟨(.pair tWideWide .unit), (.v tWideSize), fun x => wide_Wide_size x.1⟩
theorem wide_Wide_size_ok : ECok Try.prog 170 (.es wide_Wide_size_s)   := es_ok (A := (.pair tWideWide .unit)) (Q := (.v tWideSize)) (fun W x => wide_Wide_sizeW W x.1) [(172, .es wide_Wide_below_s), (179, .es sub64_s)] ⟨wide_Wide_below_ok, sub64_ok, trivial⟩ [] [] [] Try.func170 rfl (by decide +kernel) rfl rfl (fun W x => by kernel_rfl)
noncomputable def wide_size_signedW (W : Wd) (s : WideSize') (minus : Bool) : Option (WideWide' × Bool × Unit) := 
 W.cnd (!minus) (some (((IntKind.i64.wrap s.1), s.2), ((decide (s.1 < 9223372036854775808)), ())))
  (W.call (sub64 0 s.2.1 0) fun v1 => W.call (sub64 0 s.1 v1.2.1) fun v2 => 
  W.cnd (decide (s.1 < 9223372036854775808)) (some (((IntKind.i64.wrap v2.1), (v1.1, ())), (true, ())))
   (
   W.cnd (s.1 == 9223372036854775808) (some (((IntKind.i64.wrap v2.1), (v1.1, ())), ((s.2.1 == 0), ())))
    (some (((IntKind.i64.wrap v2.1), (v1.1, ())), (false, ())))))
noncomputable def wide_size_signed (s : WideSize') (minus : Bool) : Option (WideWide' × Bool × Unit) := wide_size_signedW stdW s minus
noncomputable def wide_size_signed_s : ES := ⟨(.pair tWideSize (.pair .bool .unit)), (.pair (.v tWideWide) (.pair (.v .bool) .unit)), fun x => wide_size_signed x.1 x.2.1⟩
theorem wide_size_signed_ok : ECok Try.prog 171 (.es wide_size_signed_s)   := es_ok (A := (.pair tWideSize (.pair .bool .unit))) (Q := (.pair (.v tWideWide) (.pair (.v .bool) .unit))) (fun W x => wide_size_signedW W x.1 x.2.1) [(179, .es sub64_s)] ⟨sub64_ok, trivial⟩ [(2, [1], (ofL [(0, true), (1, true), (2, true), (3, true), (4, true), (5, true), (6, true), (7, true), (8, true), (9, false), (10, true)])), (5, [1], (ofL [(0, true), (1, true), (2, true), (3, true), (4, true), (5, true), (6, true), (7, true), (8, true), (9, true), (10, true), (11, true), (12, true), (13, true), (14, true), (15, true), (16, true), (17, false), (18, true)]))] [] [] Try.func171 rfl (by decide +kernel) rfl rfl (fun W x => by kernel_rfl)
noncomputable def wide_NegW (W : Wd) (w : WideWide') : Option (WideWide' × Int × Unit) := W.call (wide_Wide_size w) fun v1 => W.call (wide_Wide_below w) fun v2 => W.call (wide_size_signed v1 (!v2)) fun v3 => W.call (wide_ranged v3.1 v3.2.1) fun v4 => some v4
noncomputable def wide_Neg (w : WideWide') : Option (WideWide' × Int × Unit) := wide_NegW stdW w
noncomputable def wide_Neg_s : ES := ⟨(.pair tWideWide .unit), (.pair (.v tWideWide) (.pair (.v (.int .i64)) .unit)), fun x => wide_Neg x.1⟩
theorem wide_Neg_ok : ECok Try.prog 154 (.es wide_Neg_s)   := es_ok (A := (.pair tWideWide .unit)) (Q := (.pair (.v tWideWide) (.pair (.v (.int .i64)) .unit))) (fun W x => wide_NegW W x.1) [(170, .es wide_Wide_size_s), (172, .es wide_Wide_below_s), (171, .es wide_size_signed_s), (169, .es wide_ranged_s)] ⟨wide_Wide_size_ok, wide_Wide_below_ok, wide_size_signed_ok, wide_ranged_ok, trivial⟩ [(1, [1], (ofL [(0, true), (2, true), (1, false), (3, false), (4, true), (5, false), (6, true), (7, true), (8, false), (9, true), (10, true), (11, false), (12, true)]))] [] [] Try.func154 rfl (by decide +kernel) rfl rfl (fun W x => by kernel_rfl)
noncomputable def audit_tally_plusW (W : Wd) (l : List WideWide') (t0 : List WideWide') : Option (Unit × ((List WideWide') × Unit)) := W.room (t0.length + l.length) 16 (some ((), ((t0 ++ l), ())))
noncomputable def audit_tally_plus (l : List WideWide') (t0 : List WideWide') : Option (Unit × ((List WideWide') × Unit)) := audit_tally_plusW stdW l t0
noncomputable def audit_tally_plus_s : LS := ⟨[.ptr, .v (.slc tWideWide)], [⟨179, [.row 94 tWideWide]⟩], [⟨179, [.row 94 tWideWide]⟩], (.q .unit), fun x => audit_tally_plus x.1 x.2.1⟩
theorem audit_tally_plus_ok : ECok Try.prog 107 (.ls audit_tally_plus_s)   := ls_ok (A := [.ptr, .v (.slc tWideWide)]) (B := [⟨179, [.row 94 tWideWide]⟩]) (E := [⟨179, [.row 94 tWideWide]⟩]) (Q := (.q .unit)) (fun W x => audit_tally_plusW W x.1 x.2.1) [] trivial [] [] [] Try.func107 rfl (by decide +kernel) rfl rfl rfl rfl rfl (fun W x => by kernel_rfl)
noncomputable def audit_tally_lessW (W : Wd) (l : List WideWide') (t0 : List WideWide') : Option (Unit × ((List WideWide') × Unit)) := 
 W.loop (fun (z1 : Int × List (Int × Int × Unit) × Unit) again2 => 
  W.cnd (decide (z1.1 < (l.length : Int))) (W.idx l z1.1 fun x3 => W.call (wide_Neg x3) fun v4 => W.call (audit_tally_plus (v4.1 :: []) z1.2.1) fun v5 => (again2 ((IntKind.i64.wrap (z1.1 + 1)), (v5.2.1, ()))))
   (some ((), (z1.2.1, ()))))
  (0, (t0, ()))
noncomputable def audit_tally_less (l : List WideWide') (t0 : List WideWide') : Option (Unit × ((List WideWide') × Unit)) := audit_tally_lessW stdW l t0
noncomputable def audit_tally_less_s : LS := ⟨[.ptr, .v (.slc tWideWide)], [⟨179, [.row 94 tWideWide]⟩], [⟨179, [.row 94 tWideWide]⟩], (.q .unit), fun x => audit_tally_less x.1 x.2.1⟩
theorem audit_tally_less_ok : ECok Try.prog 109 (.ls audit_tally_less_s)   := ls_ok (A := [.ptr, .v (.slc tWideWide)]) (B := [⟨179, [.row 94 tWideWide]⟩]) (E := [⟨179, [.row 94 tWideWide]⟩]) (Q := (.q .unit)) (fun W x => audit_tally_lessW W x.1 x.2.1) [(154, .es wide_Neg_s), (107, .ls audit_tally_plus_s)] ⟨wide_Neg_ok, audit_tally_plus_ok, trivial⟩ [] [] [(1, ⟨[(10, .t (.int .i64))], [(0, [.row 0])], [some (94, tWideWide)]⟩)] Try.func109 rfl (by decide +kernel) rfl rfl rfl rfl rfl (fun W x => by kernel_rfl)
noncomputable def audit_goodW (W : Wd) (l : List ADone') : Option (List ADone') := 
 W.loop (fun (z1 : Int × List ((Int × Int × Int × (Int × Int × Unit) × (Int × Int × Unit) × Int × Int × Int × Int × Int × Int × List (Int) × Unit) × (Int × List (Int) × List ((Int × Int × Unit) × (Int × Int × Unit) × Int × Unit) × List ((Int × Int × Unit) × Int × List (Int × Int × Int × Unit) × Unit) × Unit) × Unit) × Unit) again2 => 
  W.cnd (decide (z1.1 < (l.length : Int))) (
   W.join (fun (z3 : List ((Int × Int × Int × (Int × Int × Unit) × (Int × Int × Unit) × Int × Int × Int × Int × Int × Int × List (Int) × Unit) × (Int × List (Int) × List ((Int × Int × Unit) × (Int × Int × Unit) × Int × Unit) × List ((Int × Int × Unit) × Int × List (Int × Int × Int × Unit) × Unit) × Unit) × Unit) × Unit) => (again2 ((IntKind.i64.wrap (z1.1 + 1)), (z3.1, ()))))
    fun k4 => W.idx l z1.1 fun x5 => 
    W.cnd (x5.2.1.1 == 0) (W.room (z1.2.1.length + (((x5.1.1, (x5.1.2.1, (x5.1.2.2.1, (x5.1.2.2.2.1, (x5.1.2.2.2.2.1, (x5.1.2.2.2.2.2.1, (x5.1.2.2.2.2.2.2.1, (x5.1.2.2.2.2.2.2.2.1, (x5.1.2.2.2.2.2.2.2.2.1, (x5.1.2.2.2.2.2.2.2.2.2.1, (x5.1.2.2.2.2.2.2.2.2.2.2.1, (x5.1.2.2.2.2.2.2.2.2.2.2.2.1, ())))))))))))), ((x5.2.1.1, (x5.2.1.2.1, (x5.2.1.2.2.1, (x5.2.1.2.2.2.1, ())))), ())) :: []).length) 208 ((k4 ((z1.2.1 ++ (((x5.1.1, (x5.1.2.1, (x5.1.2.2.1, (x5.1.2.2.2.1, (x5.1.2.2.2.2.1, (x5.1.2.2.2.2.2.1, (x5.1.2.2.2.2.2.2.1, (x5.1.2.2.2.2.2.2.2.1, (x5.1.2.2.2.2.2.2.2.2.1, (x5.1.2.2.2.2.2.2.2.2.2.1, (x5.1.2.2.2.2.2.2.2.2.2.2.1, (x5.1.2.2.2.2.2.2.2.2.2.2.2.1, ())))))))))))), ((x5.2.1.1, (x5.2.1.2.1, (x5.2.1.2.2.1, (x5.2.1.2.2.2.1, ())))), ())) :: [])), ()))))
     ((k4 (z1.2.1, ()))))
   (some z1.2.1))
  (0, ([], ()))
noncomputable def audit_good (l : List ADone') : Option (List ADone') := audit_goodW stdW l
noncomputable def audit_good_s : ES := ⟨(.pair (.slc tADone) .unit), (.own 160 tADone), fun x => audit_good x.1⟩
theorem audit_good_ok : ECok Try.prog 106 (.es audit_good_s)   := es_ok (A := (.pair (.slc tADone) .unit)) (Q := (.own 160 tADone)) (fun W x => audit_goodW W x.1) [] trivial [] [(7, ⟨[(3, .row 1)], [], [none, some (160, tADone)]⟩)] [(3, ⟨[(3, .row 1), (8, .t (.int .i64))], [], [none, some (160, tADone)]⟩)] Try.func106 rfl (by decide +kernel) rfl rfl (fun W x => by kernel_rfl)
noncomputable def audit_DebitsW (W : Wd) (l : List ADone') : Option (List ADebit') := W.call (audit_good l) fun v1 => 
 W.loop (fun (z2 : Int × List ((Int × Int × Int × (Int × Int × Unit) × (Int × Int × Unit) × Int × Int × Int × Int × Int × Int × List (Int) × Unit) × (Int × List (Int) × List ((Int × Int × Unit) × (Int × Int × Unit) × Int × Unit) × List ((Int × Int × Unit) × Int × List (Int × Int × Int × Unit) × Unit) × Unit) × Unit) × List ((Int × Int × Unit) × (Int × Int × Unit) × Int × Unit) × Unit) again3 => 
  W.cnd (decide (z2.1 < (v1.length : Int))) (W.idx z2.2.1 z2.1 fun x4 => W.nth z2.2.1 (Int.toNat z2.1) fun x5 => W.room (z2.2.2.1.length + x5.2.1.2.2.1.length) 40 ((again3 ((IntKind.i64.wrap (z2.1 + 1)), (z2.2.1, ((z2.2.2.1 ++ x5.2.1.2.2.1), ()))))))
   (some z2.2.2.1))
  (0, (v1, ([], ())))
noncomputable def audit_Debits (l : List ADone') : Option (List ADebit') := audit_DebitsW stdW l
noncomputable def audit_Debits_s : ES := ⟨(.pair (.slc tADone) .unit), (.own 174 tADebit), fun x => audit_Debits x.1⟩
theorem audit_Debits_ok : ECok Try.prog 55 (.es audit_Debits_s)   := es_ok (A := (.pair (.slc tADone) .unit)) (Q := (.own 174 tADebit)) (fun W x => audit_DebitsW W x.1) [(106, .es audit_good_s)] ⟨audit_good_ok, trivial⟩ [] [] [(3, ⟨[(3, .row 1), (7, .row 0), (9, .t (.int .i64))], [], [some (160, tADone), some (174, tADebit)]⟩)] Try.func55 rfl (by decide +kernel) rfl rfl (fun W x => by kernel_rfl)
noncomputable def audit_By_1W (W : Wd) (d : ADebit') (free10 : Int) (free11 : Int) : Option (Bool × (Int × Int × Unit)) := some ((Go.Vc.notIf false ((d.1.1 == free10) && (d.1.2.1 == free11))), (free10, (free11, ())))
noncomputable def audit_By_1 (d : ADebit') (free10 : Int) (free11 : Int) : Option (Bool × (Int × Int × Unit)) := audit_By_1W stdW d free10 free11
noncomputable def audit_By_1_s : LS := ⟨[.v tADebit, .ptr], [⟨85, [.v (.int .i64), .v (.int .i64)]⟩], [⟨85, [.v (.int .i64), .v (.int .i64)]⟩], (.q (.v .bool)), fun x => audit_By_1 x.1 x.2.1 x.2.2.1⟩
theorem audit_By_1_ok : ECok Try.prog 115 (.ls audit_By_1_s)   := ls_ok (A := [.v tADebit, .ptr]) (B := [⟨85, [.v (.int .i64), .v (.int .i64)]⟩]) (E := [⟨85, [.v (.int .i64), .v (.int .i64)]⟩]) (Q := (.q (.v .bool))) (fun W x => audit_By_1W W x.1 x.2.1 x.2.2.1) [] trivial [] [] [] Try.func115 rfl (by decide +kernel) rfl rfl rfl rfl rfl (fun W x => by kernel_rfl)
noncomputable def wide_OfW (W : Wd) (n : Int) : Option WideWide' := W.nn 63 (some ((Int.fdiv n (2 ^ (Min.min (Int.toNat 63) (Go.IntKind.bits Go.IntKind.i64)))), ((IntKind.u64.wrap n), ())))
noncomputable def wide_Of (n : Int) : Option WideWide' := wide_OfW stdW n
noncomputable def wide_Of_s : ES := ⟨(.pair (.int .i64) .unit), (.v tWideWide), fun x => wide_Of x.1⟩
theorem wide_Of_ok : ECok Try.prog 108 (.es wide_Of_s)   := es_ok (A := (.pair (.int .i64) .unit)) (Q := (.v tWideWide)) (fun W x => wide_OfW W x.1) [] trivial [] [] [] Try.func108 rfl (by decide +kernel) rfl rfl (fun W x => by kernel_rfl)
noncomputable def audit_amounts_audit_By_1W (W : Wd) (l : List ADone') (is0_0 : Int) (is0_1 : Int) : Option (WideWide' × (Int × Int × Unit)) := W.call (audit_Debits l) fun v1 => 
 W.loop (fun (z2 : Int × Int × Int × List ((Int × Int × Unit) × (Int × Int × Unit) × Int × Unit) × List (Int × Int × Unit) × Unit) again3 => 
  W.cnd (decide (z2.1 < (v1.length : Int))) (
   W.join (fun (z4 : Int × Int × List ((Int × Int × Unit) × (Int × Int × Unit) × Int × Unit) × List (Int × Int × Unit) × Unit) => (again3 ((IntKind.i64.wrap (z2.1 + 1)), (z4.1, (z4.2.1, (z4.2.2.1, (z4.2.2.2.1, ())))))))
    fun k5 => W.idx z2.2.2.2.1 z2.1 fun x6 => W.nth z2.2.2.2.1 (Int.toNat z2.1) fun x7 => W.call (audit_By_1 x7 z2.2.1 z2.2.2.1) fun v8 => 
    W.cnd v8.1 (W.call (wide_Of x7.2.2.1) fun v9 => W.call (audit_tally_plus (v9 :: []) z2.2.2.2.2.1) fun v10 => (k5 (v8.2.1, (v8.2.2.1, (z2.2.2.2.1, (v10.2.1, ()))))))
     ((k5 (v8.2.1, (v8.2.2.1, (z2.2.2.2.1, (z2.2.2.2.2.1, ())))))))
   (W.call (audit_tally_done z2.2.2.2.2.1) fun v11 => some (v11.1, (z2.2.1, (z2.2.2.1, ())))))
  (0, (is0_0, (is0_1, (v1, ([], ())))))
noncomputable def audit_amounts_audit_By_1 (l : List ADone') (is0_0 : Int) (is0_1 : Int) : Option (WideWide' × (Int × Int × Unit)) := audit_amounts_audit_By_1W stdW l is0_0 is0_1
noncomputable def audit_amounts_audit_By_1_s : LS := ⟨[.v (.slc tADone), .fn 115 1], [⟨85, [.v (.int .i64), .v (.int .i64)]⟩], [⟨85, [.v (.int .i64), .v (.int .i64)]⟩], (.q (.v tWideWide)), fun x => audit_amounts_audit_By_1 x.1 x.2.1 x.2.2.1⟩
theorem audit_amounts_audit_By_1_ok : ECok Try.prog 113 (.ls audit_amounts_audit_By_1_s)   := ls_ok (A := [.v (.slc tADone), .fn 115 1]) (B := [⟨85, [.v (.int .i64), .v (.int .i64)]⟩]) (E := [⟨85, [.v (.int .i64), .v (.int .i64)]⟩]) (Q := (.q (.v tWideWide))) (fun W x => audit_amounts_audit_By_1W W x.1 x.2.1 x.2.2.1) [(55, .es audit_Debits_s), (115, .ls audit_By_1_s), (108, .es wide_Of_s), (107, .ls audit_tally_plus_s), (111, .ls audit_tally_done_s)] ⟨audit_Debits_ok, audit_By_1_ok, wide_Of_ok, audit_tally_plus_ok, audit_tally_done_ok, trivial⟩ [] [(7, ⟨[(11, .row 0)], [(0, [.t (.int .i64), .t (.int .i64)]), (2, [.row 2])], [some (174, tADebit), none, some (94, tWideWide)]⟩)] [(3, ⟨[(11, .row 0), (13, .t (.int .i64))], [(0, [.t (.int .i64), .t (.int .i64)]), (2, [.row 2])], [some (174, tADebit), none, some (94, tWideWide)]⟩)] Try.func113 rfl (by decide +kernel) rfl rfl rfl rfl rfl (fun W x => by kernel_rfl)
noncomputable def audit_ByW (W : Wd) (l : List ADone') (u : AUnit') : Option WideWide' := W.call (audit_amounts_audit_By_1 l u.1 u.2.1) fun v1 => some v1.1
noncomputable def audit_By (l : List ADone') (u : AUnit') : Option WideWide' := audit_ByW stdW l u
noncomputable def audit_By_s : ES := ⟨(.pair (.slc tADone) (.pair tAUnit .unit)), (.v tWideWide), fun x => audit_By x.1 x.2.1⟩
theorem audit_By_ok : ECok Try.prog 53 (.es audit_By_s)   := es_ok (A := (.pair (.slc tADone) (.pair tAUnit .unit))) (Q := (.v tWideWide)) (fun W x => audit_ByW W x.1 x.2.1) [(113, .ls audit_amounts_audit_By_1_s)] ⟨audit_amounts_audit_By_1_ok, trivial⟩ [] [] [] Try.func53 rfl (by decide +kernel) rfl rfl (fun W x => by kernel_rfl)
noncomputable def vec_GetW (W : Wd) (l : List AUnit') (inst : Int) : Option Int := 
 W.loop (fun (z1 : Int × Unit) again2 => 
  W.cnd (decide (z1.1 < (l.length : Int))) (W.idx l z1.1 fun x3 => 
   W.cnd (x3.1 == inst) (some x3.2.1)
    ((again2 ((IntKind.i64.wrap (z1.1 + 1)), ()))))
   (some 0))
  (0, ())
noncomputable def vec_Get (l : List AUnit') (inst : Int) : Option Int := vec_GetW stdW l inst
noncomputable def vec_Get_s : ES := ⟨(.pair (.slc tAUnit) (.pair (.int .i64) .unit)), (.v (.int .i64)), fun x => vec_Get x.1 x.2.1⟩
theorem vec_Get_ok : ECok Try.prog 166 (.es vec_Get_s)   := es_ok (A := (.pair (.slc tAUnit) (.pair (.int .i64) .unit))) (Q := (.v (.int .i64))) (fun W x => vec_GetW W x.1 x.2.1) [] trivial [] [] [(2, ⟨[(9, .t (.int .i64))], [], []⟩)] Try.func166 rfl (by decide +kernel) rfl rfl (fun W x => by kernel_rfl)
noncomputable def book_OpenW (W : Wd) (l : List APos') (inst : Int) : Option WideWide' := 
 W.loop (fun (z1 : Int × List (Int × Int × Unit) × Unit) again2 => 
  W.cnd (decide (z1.1 < (l.length : Int))) (W.idx l z1.1 fun x3 => W.call (vec_Get x3.2.1 inst) fun v4 => W.call (wide_Of v4) fun v5 => W.room (z1.2.1.length + (v5 :: []).length) 16 ((again2 ((IntKind.i64.wrap (z1.1 + 1)), ((z1.2.1 ++ (v5 :: [])), ())))))
   (W.call (wide_Add z1.2.1) fun v6 => some v6.1))
  (0, ([], ()))
noncomputable def book_Open (l : List APos') (inst : Int) : Option WideWide' := book_OpenW stdW l inst
noncomputable def book_Open_s : ES := ⟨(.pair (.slc tAPos) (.pair (.int .i64) .unit)), (.v tWideWide), fun x => book_Open x.1 x.2.1⟩
theorem book_Open_ok : ECok Try.prog 144 (.es book_Open_s)   := es_ok (A := (.pair (.slc tAPos) (.pair (.int .i64) .unit))) (Q := (.v tWideWide)) (fun W x => book_OpenW W x.1 x.2.1) [(166, .es vec_Get_s), (108, .es wide_Of_s), (145, .es wide_Add_s)] ⟨vec_Get_ok, wide_Of_ok, wide_Add_ok, trivial⟩ [] [] [(3, ⟨[(5, .row 1), (12, .t (.int .i64))], [], [none, some (94, tWideWide)]⟩)] Try.func144 rfl (by decide +kernel) rfl rfl (fun W x => by kernel_rfl)
noncomputable def audit_balancedW (W : Wd) (s : AState') : Option Bool := 
 W.loop (fun (z1 : Int × Unit) again2 => 
  W.cnd (decide (z1.1 ≤ 8)) (W.call (book_Open s.2.2.2.2.2.2.2.2.1 z1.1) fun v3 => W.call (book_Open s.2.2.2.2.2.2.2.2.2.1 z1.1) fun v4 => W.call (audit_tally_plus (v3 :: (v4 :: [])) []) fun v5 => W.call (audit_tally_done v5.2.1) fun v6 => 
   W.cnd (Go.Vc.notIf true ((v6.1.1 == 0) && (v6.1.2.1 == 0))) (some false)
    ((again2 ((IntKind.i64.wrap (z1.1 + 1)), ()))))
   (some true))
  (1, ())
noncomputable def audit_balanced (s : AState') : Option Bool := audit_balancedW stdW s
noncomputable def audit_balanced_s : ES := ⟨(.pair tAState .unit), (.v .bool), fun x => audit_balanced x.1⟩
theorem audit_balanced_ok : ECok Try.prog 96 (.es audit_balanced_s)   := es_ok (A := (.pair tAState .unit)) (Q := (.v .bool)) (fun W x => audit_balancedW W x.1) [(144, .es book_Open_s), (107, .ls audit_tally_plus_s), (111, .ls audit_tally_done_s)] ⟨book_Open_ok, audit_tally_plus_ok, audit_tally_done_ok, trivial⟩ [(5, [1], (ofL [(0, true), (1, true), (2, true), (3, true), (5, true), (6, true), (7, true), (4, false), (8, false), (9, false), (10, false)]))] [] [(2, ⟨[(3, .t (.int .i64))], [], []⟩)] Try.func96 rfl (by decide +kernel) rfl rfl (fun W x => by kernel_rfl)
noncomputable def purse_TotalW (W : Wd) (l : List AFlow') : Option WideWide' := 
 W.loop (fun (z1 : Int × List (Int × Int × Unit) × Unit) again2 => 
  W.cnd (decide (z1.1 < (l.length : Int))) (W.idx l z1.1 fun x3 => W.call (wide_Of x3.2.1) fun v4 => W.room (z1.2.1.length + (v4 :: []).length) 16 ((again2 ((IntKind.i64.wrap (z1.1 + 1)), ((z1.2.1 ++ (v4 :: [])), ())))))
   (W.call (wide_Add z1.2.1) fun v5 => some v5.1))
  (0, ([], ()))
noncomputable def purse_Total (l : List AFlow') : Option WideWide' := purse_TotalW stdW l
noncomputable def purse_Total_s : ES := ⟨(.pair (.slc tAFlow) .unit), (.v tWideWide), fun x => purse_Total x.1⟩
theorem purse_Total_ok : ECok Try.prog 97 (.es purse_Total_s)   := es_ok (A := (.pair (.slc tAFlow) .unit)) (Q := (.v tWideWide)) (fun W x => purse_TotalW W x.1) [(108, .es wide_Of_s), (145, .es wide_Add_s)] ⟨wide_Of_ok, wide_Add_ok, trivial⟩ [] [] [(3, ⟨[(3, .row 1), (10, .t (.int .i64))], [], [none, some (94, tWideWide)]⟩)] Try.func97 rfl (by decide +kernel) rfl rfl (fun W x => by kernel_rfl)
noncomputable def lots_SumW (W : Wd) (l : List ALot') (asset : Int) : Option WideWide' := 
 W.loop (fun (z1 : Int × List (Int × Int × Unit) × Unit) again2 => 
  W.cnd (decide (z1.1 < (l.length : Int))) (
   W.join (fun (z3 : List (Int × Int × Unit) × Unit) => (again2 ((IntKind.i64.wrap (z1.1 + 1)), (z3.1, ()))))
    fun k4 => W.idx l z1.1 fun x5 => 
    W.cnd (x5.1 == asset) (W.call (wide_Of x5.2.2.1) fun v6 => W.room (z1.2.1.length + (v6 :: []).length) 16 ((k4 ((z1.2.1 ++ (v6 :: [])), ()))))
     ((k4 (z1.2.1, ()))))
   (W.call (wide_Add z1.2.1) fun v7 => some v7.1))
  (0, ([], ()))
noncomputable def lots_Sum (l : List ALot') (asset : Int) : Option WideWide' := lots_SumW stdW l asset
noncomputable def lots_Sum_s : ES := ⟨(.pair (.slc tALot) (.pair (.int .i64) .unit)), (.v tWideWide), fun x => lots_Sum x.1 x.2.1⟩
theorem lots_Sum_ok : ECok Try.prog 146 (.es lots_Sum_s)   := es_ok (A := (.pair (.slc tALot) (.pair (.int .i64) .unit))) (Q := (.v tWideWide)) (fun W x => lots_SumW W x.1 x.2.1) [(108, .es wide_Of_s), (145, .es wide_Add_s)] ⟨wide_Of_ok, wide_Add_ok, trivial⟩ [] [(7, ⟨[(5, .row 1)], [], [none, some (94, tWideWide)]⟩)] [(3, ⟨[(5, .row 1), (12, .t (.int .i64))], [], [none, some (94, tWideWide)]⟩)] Try.func146 rfl (by decide +kernel) rfl rfl (fun W x => by kernel_rfl)
noncomputable def audit_backW (W : Wd) (r : AReturn') (asset : Int) : Option WideWide' := 
 W.cnd (asset == 0) (W.call (wide_Of r.2.1) fun v1 => some v1)
  (W.call (lots_Sum r.2.2.1 asset) fun v2 => some v2)
noncomputable def audit_back (r : AReturn') (asset : Int) : Option WideWide' := audit_backW stdW r asset
noncomputable def audit_back_s : ES := ⟨(.pair tAReturn (.pair (.int .i64) .unit)), (.v tWideWide), fun x => audit_back x.1 x.2.1⟩
theorem audit_back_ok : ECok Try.prog 110 (.es audit_back_s)   := es_ok (A := (.pair tAReturn (.pair (.int .i64) .unit))) (Q := (.v tWideWide)) (fun W x => audit_backW W x.1 x.2.1) [(108, .es wide_Of_s), (146, .es lots_Sum_s)] ⟨wide_Of_ok, lots_Sum_ok, trivial⟩ [] [] [] Try.func110 rfl (by decide +kernel) rfl rfl (fun W x => by kernel_rfl)
noncomputable def audit_SumW (W : Wd) (l : List ADone') (asset : Int) : Option WideWide' := W.call (audit_good l) fun v1 => 
 W.loop (fun (z2 : Int × List ((Int × Int × Int × (Int × Int × Unit) × (Int × Int × Unit) × Int × Int × Int × Int × Int × Int × List (Int) × Unit) × (Int × List (Int) × List ((Int × Int × Unit) × (Int × Int × Unit) × Int × Unit) × List ((Int × Int × Unit) × Int × List (Int × Int × Int × Unit) × Unit) × Unit) × Unit) × List (Int × Int × Unit) × Unit) again3 => 
  W.cnd (decide (z2.1 < (v1.length : Int))) (W.idx z2.2.1 z2.1 fun x4 => W.nth z2.2.1 (Int.toNat z2.1) fun x5 => 
   W.join (fun (z6 : List ((Int × Int × Int × (Int × Int × Unit) × (Int × Int × Unit) × Int × Int × Int × Int × Int × Int × List (Int) × Unit) × (Int × List (Int) × List ((Int × Int × Unit) × (Int × Int × Unit) × Int × Unit) × List ((Int × Int × Unit) × Int × List (Int × Int × Int × Unit) × Unit) × Unit) × Unit) × List (Int × Int × Unit) × Unit) => 
    W.loop (fun (z7 : Int × List ((Int × Int × Int × (Int × Int × Unit) × (Int × Int × Unit) × Int × Int × Int × Int × Int × Int × List (Int) × Unit) × (Int × List (Int) × List ((Int × Int × Unit) × (Int × Int × Unit) × Int × Unit) × List ((Int × Int × Unit) × Int × List (Int × Int × Int × Unit) × Unit) × Unit) × Unit) × List (Int × Int × Unit) × Unit) again8 => 
     W.cnd (decide (z7.1 < (x5.2.1.2.2.2.1.length : Int))) (W.idx x5.2.1.2.2.2.1 z7.1 fun x9 => W.call (audit_back (x9.1, (x9.2.1, (x9.2.2.1, ()))) asset) fun v10 => W.call (audit_tally_less (v10 :: []) z7.2.2.1) fun v11 => (again8 ((IntKind.i64.wrap (z7.1 + 1)), (z7.2.1, (v11.2.1, ())))))
      ((again3 ((IntKind.i64.wrap (z2.1 + 1)), (z7.2.1, (z7.2.2.1, ()))))))
     (0, (z6.1, (z6.2.1, ()))))
    fun k12 => 
    W.cnd (x5.1.2.2.2.2.2.2.1 != asset) ((k12 (z2.2.1, (z2.2.2.1, ()))))
     (
     W.cnd (x5.1.1 == 17) (W.call (wide_Of x5.1.2.2.2.2.2.2.2.2.2.1) fun v13 => W.call (audit_tally_plus (v13 :: []) z2.2.2.1) fun v14 => (k12 (z2.2.1, (v14.2.1, ()))))
      (
      W.cnd (x5.1.1 == 18) (W.call (wide_Of x5.1.2.2.2.2.2.2.2.2.2.1) fun v15 => W.call (audit_tally_less (v15 :: []) z2.2.2.1) fun v16 => (k12 (z2.2.1, (v16.2.1, ()))))
       ((k12 (z2.2.1, (z2.2.2.1, ())))))))
   (W.call (audit_tally_done z2.2.2.1) fun v17 => some v17.1))
  (0, (v1, ([], ())))
noncomputable def audit_Sum (l : List ADone') (asset : Int) : Option WideWide' := audit_SumW stdW l asset
noncomputable def audit_Sum_s : ES := ⟨(.pair (.slc tADone) (.pair (.int .i64) .unit)), (.v tWideWide), fun x => audit_Sum x.1 x.2.1⟩
theorem audit_Sum_ok : ECok Try.prog 50 (.es audit_Sum_s)   := es_ok (A := (.pair (.slc tADone) (.pair (.int .i64) .unit))) (Q := (.v tWideWide)) (fun W x => audit_SumW W x.1 x.2.1) [(106, .es audit_good_s), (108, .es wide_Of_s), (107, .ls audit_tally_plus_s), (109, .ls audit_tally_less_s), (110, .es audit_back_s), (111, .ls audit_tally_done_s)] ⟨audit_good_ok, wide_Of_ok, audit_tally_plus_ok, audit_tally_less_ok, audit_back_ok, audit_tally_done_ok, trivial⟩ [] [(10, ⟨[(13, .row 0)], [(1, [.row 2])], [some (160, tADone), none, some (94, tWideWide)]⟩)] [(3, ⟨[(13, .row 0), (15, .t (.int .i64))], [(1, [.row 2])], [some (160, tADone), none, some (94, tWideWide)]⟩), (11, ⟨[(13, .row 0), (53, .t (.int .i64))], [(1, [.row 2])], [some (160, tADone), none, some (94, tWideWide)]⟩)] Try.func50 rfl (by decide +kernel) rfl rfl (fun W x => by kernel_rfl)
noncomputable def hold_TotalW (W : Wd) (l : List AHold') (asset : Int) : Option WideWide' := 
 W.loop (fun (z1 : Int × List (Int × Int × Unit) × Unit) again2 => 
  W.cnd (decide (z1.1 < (l.length : Int))) (W.idx l z1.1 fun x3 => W.call (lots_Sum x3.2.1 asset) fun v4 => W.room (z1.2.1.length + (v4 :: []).length) 16 ((again2 ((IntKind.i64.wrap (z1.1 + 1)), ((z1.2.1 ++ (v4 :: [])), ())))))
   (W.call (wide_Add z1.2.1) fun v5 => some v5.1))
  (0, ([], ()))
noncomputable def hold_Total (l : List AHold') (asset : Int) : Option WideWide' := hold_TotalW stdW l asset
noncomputable def hold_Total_s : ES := ⟨(.pair (.slc tAHold) (.pair (.int .i64) .unit)), (.v tWideWide), fun x => hold_Total x.1 x.2.1⟩
theorem hold_Total_ok : ECok Try.prog 98 (.es hold_Total_s)   := es_ok (A := (.pair (.slc tAHold) (.pair (.int .i64) .unit))) (Q := (.v tWideWide)) (fun W x => hold_TotalW W x.1 x.2.1) [(146, .es lots_Sum_s), (145, .es wide_Add_s)] ⟨lots_Sum_ok, wide_Add_ok, trivial⟩ [] [] [(3, ⟨[(5, .row 1), (12, .t (.int .i64))], [], [none, some (94, tWideWide)]⟩)] Try.func98 rfl (by decide +kernel) rfl rfl (fun W x => by kernel_rfl)
noncomputable def audit_CheckW (W : Wd) (s : AState') (l : List ADone') : Option Int := 
 W.join (fun (z1 : Bool × Unit) => 
  W.cnd z1.1 (some 3)
   (
   W.loop (fun (z2 : Int × Unit) again3 => 
    W.cnd (decide (z2.1 ≤ 4)) (W.call (hold_Total s.2.2.2.2.2.2.2.2.2.2.2.1 z2.1) fun v4 => W.call (audit_Sum l z2.1) fun v5 => 
     W.cnd (Go.Vc.notIf true ((v4.1 == v5.1) && (v4.2.1 == v5.2.1))) (some 3)
      ((again3 ((IntKind.i64.wrap (z2.1 + 1)), ()))))
     (some 0))
    (1, ())))
  fun k6 => W.call (audit_balanced (s.1, (s.2.1, (s.2.2.1, (s.2.2.2.1, (s.2.2.2.2.1, (s.2.2.2.2.2.1, (s.2.2.2.2.2.2.1, (s.2.2.2.2.2.2.2.1, (s.2.2.2.2.2.2.2.2.1, (s.2.2.2.2.2.2.2.2.2.1, (s.2.2.2.2.2.2.2.2.2.2.1, (s.2.2.2.2.2.2.2.2.2.2.2.1, ()))))))))))))) fun v7 => 
  W.cnd (!v7) ((k6 (true, ())))
   (W.call (purse_Total s.2.2.2.2.2.2.2.2.2.2.1) fun v8 => W.call (audit_Sum l 0) fun v9 => (k6 ((Go.Vc.notIf true ((v8.1 == v9.1) && (v8.2.1 == v9.2.1))), ())))
noncomputable def audit_Check (s : AState') (l : List ADone') : Option Int := audit_CheckW stdW s l
noncomputable def audit_Check_s : ES := ⟨(.pair tAState (.pair (.slc tADone) .unit)), (.v (.int .i64)), fun x => audit_Check x.1 x.2.1⟩
theorem audit_Check_ok : ECok Try.prog 44 (.es audit_Check_s)   := es_ok (A := (.pair tAState (.pair (.slc tADone) .unit))) (Q := (.v (.int .i64))) (fun W x => audit_CheckW W x.1 x.2.1) [(96, .es audit_balanced_s), (97, .es purse_Total_s), (50, .es audit_Sum_s), (98, .es hold_Total_s)] ⟨audit_balanced_ok, purse_Total_ok, audit_Sum_ok, hold_Total_ok, trivial⟩ [] [(500016, ⟨[(16, .t .bool)], [], []⟩)] [(4, ⟨[(5, .t (.int .i64))], [], []⟩)] Try.func44 rfl (by decide +kernel) rfl rfl (fun W x => by kernel_rfl)
noncomputable def audit_For_1W (W : Wd) (d : ADebit') (free10 : Int) (free11 : Int) : Option (Bool × (Int × Int × Unit)) := some ((Go.Vc.notIf false ((d.2.1.1 == free10) && (d.2.1.2.1 == free11))), (free10, (free11, ())))
noncomputable def audit_For_1 (d : ADebit') (free10 : Int) (free11 : Int) : Option (Bool × (Int × Int × Unit)) := audit_For_1W stdW d free10 free11
noncomputable def audit_For_1_s : LS := ⟨[.v tADebit, .ptr], [⟨85, [.v (.int .i64), .v (.int .i64)]⟩], [⟨85, [.v (.int .i64), .v (.int .i64)]⟩], (.q (.v .bool)), fun x => audit_For_1 x.1 x.2.1 x.2.2.1⟩
theorem audit_For_1_ok : ECok Try.prog 114 (.ls audit_For_1_s)   := ls_ok (A := [.v tADebit, .ptr]) (B := [⟨85, [.v (.int .i64), .v (.int .i64)]⟩]) (E := [⟨85, [.v (.int .i64), .v (.int .i64)]⟩]) (Q := (.q (.v .bool))) (fun W x => audit_For_1W W x.1 x.2.1 x.2.2.1) [] trivial [] [] [] Try.func114 rfl (by decide +kernel) rfl rfl rfl rfl rfl (fun W x => by kernel_rfl)
noncomputable def audit_amounts_audit_For_1W (W : Wd) (l : List ADone') (is0_0 : Int) (is0_1 : Int) : Option (WideWide' × (Int × Int × Unit)) := W.call (audit_Debits l) fun v1 => 
 W.loop (fun (z2 : Int × Int × Int × List ((Int × Int × Unit) × (Int × Int × Unit) × Int × Unit) × List (Int × Int × Unit) × Unit) again3 => 
  W.cnd (decide (z2.1 < (v1.length : Int))) (
   W.join (fun (z4 : Int × Int × List ((Int × Int × Unit) × (Int × Int × Unit) × Int × Unit) × List (Int × Int × Unit) × Unit) => (again3 ((IntKind.i64.wrap (z2.1 + 1)), (z4.1, (z4.2.1, (z4.2.2.1, (z4.2.2.2.1, ())))))))
    fun k5 => W.idx z2.2.2.2.1 z2.1 fun x6 => W.nth z2.2.2.2.1 (Int.toNat z2.1) fun x7 => W.call (audit_For_1 x7 z2.2.1 z2.2.2.1) fun v8 => 
    W.cnd v8.1 (W.call (wide_Of x7.2.2.1) fun v9 => W.call (audit_tally_plus (v9 :: []) z2.2.2.2.2.1) fun v10 => (k5 (v8.2.1, (v8.2.2.1, (z2.2.2.2.1, (v10.2.1, ()))))))
     ((k5 (v8.2.1, (v8.2.2.1, (z2.2.2.2.1, (z2.2.2.2.2.1, ())))))))
   (W.call (audit_tally_done z2.2.2.2.2.1) fun v11 => some (v11.1, (z2.2.1, (z2.2.2.1, ())))))
  (0, (is0_0, (is0_1, (v1, ([], ())))))
noncomputable def audit_amounts_audit_For_1 (l : List ADone') (is0_0 : Int) (is0_1 : Int) : Option (WideWide' × (Int × Int × Unit)) := audit_amounts_audit_For_1W stdW l is0_0 is0_1
noncomputable def audit_amounts_audit_For_1_s : LS := ⟨[.v (.slc tADone), .fn 114 1], [⟨85, [.v (.int .i64), .v (.int .i64)]⟩], [⟨85, [.v (.int .i64), .v (.int .i64)]⟩], (.q (.v tWideWide)), fun x => audit_amounts_audit_For_1 x.1 x.2.1 x.2.2.1⟩
theorem audit_amounts_audit_For_1_ok : ECok Try.prog 113 (.ls audit_amounts_audit_For_1_s)   := ls_ok (A := [.v (.slc tADone), .fn 114 1]) (B := [⟨85, [.v (.int .i64), .v (.int .i64)]⟩]) (E := [⟨85, [.v (.int .i64), .v (.int .i64)]⟩]) (Q := (.q (.v tWideWide))) (fun W x => audit_amounts_audit_For_1W W x.1 x.2.1 x.2.2.1) [(55, .es audit_Debits_s), (114, .ls audit_For_1_s), (108, .es wide_Of_s), (107, .ls audit_tally_plus_s), (111, .ls audit_tally_done_s)] ⟨audit_Debits_ok, audit_For_1_ok, wide_Of_ok, audit_tally_plus_ok, audit_tally_done_ok, trivial⟩ [] [(7, ⟨[(11, .row 0)], [(0, [.t (.int .i64), .t (.int .i64)]), (2, [.row 2])], [some (174, tADebit), none, some (94, tWideWide)]⟩)] [(3, ⟨[(11, .row 0), (13, .t (.int .i64))], [(0, [.t (.int .i64), .t (.int .i64)]), (2, [.row 2])], [some (174, tADebit), none, some (94, tWideWide)]⟩)] Try.func113 rfl (by decide +kernel) rfl rfl rfl rfl rfl (fun W x => by kernel_rfl)
noncomputable def audit_ForW (W : Wd) (l : List ADone') (u : AUnit') : Option WideWide' := W.call (audit_amounts_audit_For_1 l u.1 u.2.1) fun v1 => some v1.1
noncomputable def audit_For (l : List ADone') (u : AUnit') : Option WideWide' := audit_ForW stdW l u
noncomputable def audit_For_s : ES := ⟨(.pair (.slc tADone) (.pair tAUnit .unit)), (.v tWideWide), fun x => audit_For x.1 x.2.1⟩
theorem audit_For_ok : ECok Try.prog 52 (.es audit_For_s)   := es_ok (A := (.pair (.slc tADone) (.pair tAUnit .unit))) (Q := (.v tWideWide)) (fun W x => audit_ForW W x.1 x.2.1) [(113, .ls audit_amounts_audit_For_1_s)] ⟨audit_amounts_audit_For_1_ok, trivial⟩ [] [] [] Try.func52 rfl (by decide +kernel) rfl rfl (fun W x => by kernel_rfl)
noncomputable def audit_PortsW (W : Wd) (l : List ADone') : Option (List AChoice') := W.call (audit_good l) fun v1 => 
 W.loop (fun (z2 : Int × List ((Int × Int × Int × (Int × Int × Unit) × (Int × Int × Unit) × Int × Int × Int × Int × Int × Int × List (Int) × Unit) × (Int × List (Int) × List ((Int × Int × Unit) × (Int × Int × Unit) × Int × Unit) × List ((Int × Int × Unit) × Int × List (Int × Int × Int × Unit) × Unit) × Unit) × Unit) × List ((Int × Int × Unit) × (Int × Int × Unit) × Bool × Unit) × Unit) again3 => 
  W.cnd (decide (z2.1 < (v1.length : Int))) (
   W.join (fun (z4 : List ((Int × Int × Int × (Int × Int × Unit) × (Int × Int × Unit) × Int × Int × Int × Int × Int × Int × List (Int) × Unit) × (Int × List (Int) × List ((Int × Int × Unit) × (Int × Int × Unit) × Int × Unit) × List ((Int × Int × Unit) × Int × List (Int × Int × Int × Unit) × Unit) × Unit) × Unit) × List ((Int × Int × Unit) × (Int × Int × Unit) × Bool × Unit) × Unit) => (again3 ((IntKind.i64.wrap (z2.1 + 1)), (z4.1, (z4.2.1, ())))))
    fun k5 => W.idx z2.2.1 z2.1 fun x6 => W.nth z2.2.1 (Int.toNat z2.1) fun x7 => 
    W.join (fun (z8 : Bool × List ((Int × Int × Int × (Int × Int × Unit) × (Int × Int × Unit) × Int × Int × Int × Int × Int × Int × List (Int) × Unit) × (Int × List (Int) × List ((Int × Int × Unit) × (Int × Int × Unit) × Int × Unit) × List ((Int × Int × Unit) × Int × List (Int × Int × Int × Unit) × Unit) × Unit) × Unit) × List ((Int × Int × Unit) × (Int × Int × Unit) × Bool × Unit) × Unit) => 
     W.cnd z8.1 (W.idx x7.2.1.2.1 0 fun x9 => W.idx x7.2.1.2.1 1 fun x10 => W.room (z8.2.2.1.length + ((x7.1.2.2.2.1, ((x9, (x10, ())), (true, ()))) :: []).length) 40 ((k5 (z8.2.1, ((z8.2.2.1 ++ ((x7.1.2.2.2.1, ((x9, (x10, ())), (true, ()))) :: [])), ())))))
      ((k5 (z8.2.1, (z8.2.2.1, ())))))
     fun k11 => 
     W.cnd (x7.1.1 == 22) ((k11 (((x7.2.1.2.1.length : Int) == 2), (z2.2.1, (z2.2.2.1, ())))))
      ((k11 (false, (z2.2.1, (z2.2.2.1, ()))))))
   (some z2.2.2.1))
  (0, (v1, ([], ())))
noncomputable def audit_Ports (l : List ADone') : Option (List AChoice') := audit_PortsW stdW l
noncomputable def audit_Ports_s : ES := ⟨(.pair (.slc tADone) .unit), (.own 188 tAChoice), fun x => audit_Ports x.1⟩
theorem audit_Ports_ok : ECok Try.prog 58 (.es audit_Ports_s)   := es_ok (A := (.pair (.slc tADone) .unit)) (Q := (.own 188 tAChoice)) (fun W x => audit_PortsW W x.1) [(106, .es audit_good_s)] ⟨audit_good_ok, trivial⟩ [(7, [], (ofL [(0, true), (1, true), (2, true), (3, true), (4, true), (5, true), (6, true), (7, true), (8, true), (9, true), (10, true), (11, true), (12, false), (13, false), (14, true)]))] [(8, ⟨[(3, .row 2), (8, .row 0)], [], [some (160, tADone), none, some (188, tAChoice)]⟩), (500025, ⟨[(3, .row 2), (8, .row 0), (25, .t .bool)], [], [some (160, tADone), none, some (188, tAChoice)]⟩)] [(3, ⟨[(3, .row 2), (8, .row 0), (10, .t (.int .i64))], [], [some (160, tADone), none, some (188, tAChoice)]⟩)] Try.func58 rfl (by decide +kernel) rfl rfl (fun W x => by kernel_rfl)
noncomputable def law18_FewW (W : Wd) (l : List ALot') : Option (List ALot') := 
 W.cnd (decide (20 < (l.length : Int))) (W.bnd 20 l.length fun h1 => some (l.take h1))
  (some l)
noncomputable def law18_Few (l : List ALot') : Option (List ALot') := law18_FewW stdW l
noncomputable def law18_Few_s : ES := ⟨(.pair (.slc tALot) .unit), (.v (.slc tALot)), fun x => law18_Few x.1⟩
theorem law18_Few_ok : ECok Try.prog 95 (.es law18_Few_s)   := es_ok (A := (.pair (.slc tALot) .unit)) (Q := (.v (.slc tALot))) (fun W x => law18_FewW W x.1) [] trivial [] [] [] Try.func95 rfl (by decide +kernel) rfl rfl (fun W x => by kernel_rfl)
noncomputable def law34_ShortW (W : Wd) (c : ACommand') : Option ACommand' := 
 W.join (fun (z1 : Int × Int × Int × Int × Int × Int × Int × Int × Int × Int × Int × Int × Int × List (Int) × Unit) => some (z1.1, (z1.2.1, (z1.2.2.1, ((z1.2.2.2.1, (z1.2.2.2.2.1, ())), ((z1.2.2.2.2.2.1, (z1.2.2.2.2.2.2.1, ())), (z1.2.2.2.2.2.2.2.1, (z1.2.2.2.2.2.2.2.2.1, (z1.2.2.2.2.2.2.2.2.2.1, (z1.2.2.2.2.2.2.2.2.2.2.1, (z1.2.2.2.2.2.2.2.2.2.2.2.1, (z1.2.2.2.2.2.2.2.2.2.2.2.2.1, (z1.2.2.2.2.2.2.2.2.2.2.2.2.2.1, ())))))))))))))
  fun k2 => 
  W.cnd (decide (40 < (c.2.2.2.2.2.2.2.2.2.2.2.1.length : Int))) (W.bnd 40 c.2.2.2.2.2.2.2.2.2.2.2.1.length fun h3 => (k2 (c.1, (c.2.1, (c.2.2.1, (c.2.2.2.1.1, (c.2.2.2.1.2.1, (c.2.2.2.2.1.1, (c.2.2.2.2.1.2.1, (c.2.2.2.2.2.1, (c.2.2.2.2.2.2.1, (c.2.2.2.2.2.2.2.1, (c.2.2.2.2.2.2.2.2.1, (c.2.2.2.2.2.2.2.2.2.1, (c.2.2.2.2.2.2.2.2.2.2.1, ((c.2.2.2.2.2.2.2.2.2.2.2.1.take h3), ()))))))))))))))))
   ((k2 (c.1, (c.2.1, (c.2.2.1, (c.2.2.2.1.1, (c.2.2.2.1.2.1, (c.2.2.2.2.1.1, (c.2.2.2.2.1.2.1, (c.2.2.2.2.2.1, (c.2.2.2.2.2.2.1, (c.2.2.2.2.2.2.2.1, (c.2.2.2.2.2.2.2.2.1, (c.2.2.2.2.2.2.2.2.2.1, (c.2.2.2.2.2.2.2.2.2.2.1, (c.2.2.2.2.2.2.2.2.2.2.2.1, ()))))))))))))))))
noncomputable def law34_Short (c : ACommand') : Option ACommand' := law34_ShortW stdW c
noncomputable def law34_Short_s : ES := ⟨(.pair tACommand .unit), (.v tACommand), fun x => law34_Short x.1⟩
theorem law34_Short_ok : ECok Try.prog 60 (.es law34_Short_s)   := es_ok (A := (.pair tACommand .unit)) (Q := (.v tACommand)) (fun W x => law34_ShortW W x.1) [] trivial [] [(3, ⟨[], [(0, [.t (.int .i64), .t (.int .i64), .t (.int .i64), .t (.int .i64), .t (.int .i64), .t (.int .i64), .t (.int .i64), .t (.int .i64), .t (.int .i64), .t (.int .i64), .t (.int .i64), .t (.int .i64), .t (.int .i64), .t (.slc (.int .i64))])], []⟩)] [] Try.func60 rfl (by decide +kernel) rfl rfl (fun W x => by kernel_rfl)
noncomputable def law39_FewW (W : Wd) (l : List ADone') : Option (List ADone') := 
 W.join (fun (z1 : List ((Int × Int × Int × (Int × Int × Unit) × (Int × Int × Unit) × Int × Int × Int × Int × Int × Int × List (Int) × Unit) × (Int × List (Int) × List ((Int × Int × Unit) × (Int × Int × Unit) × Int × Unit) × List ((Int × Int × Unit) × Int × List (Int × Int × Int × Unit) × Unit) × Unit) × Unit) × Unit) => some z1.1)
  fun k2 => 
  W.loop (fun (z3 : Int × List ((Int × Int × Int × (Int × Int × Unit) × (Int × Int × Unit) × Int × Int × Int × Int × Int × Int × List (Int) × Unit) × (Int × List (Int) × List ((Int × Int × Unit) × (Int × Int × Unit) × Int × Unit) × List ((Int × Int × Unit) × Int × List (Int × Int × Int × Unit) × Unit) × Unit) × Unit) × Unit) again4 => 
   W.cnd (decide (z3.1 < (l.length : Int))) (
    W.cnd (decide (z3.1 < 30)) (W.idx l z3.1 fun x5 => W.call (law34_Short (x5.1.1, (x5.1.2.1, (x5.1.2.2.1, (x5.1.2.2.2.1, (x5.1.2.2.2.2.1, (x5.1.2.2.2.2.2.1, (x5.1.2.2.2.2.2.2.1, (x5.1.2.2.2.2.2.2.2.1, (x5.1.2.2.2.2.2.2.2.2.1, (x5.1.2.2.2.2.2.2.2.2.2.1, (x5.1.2.2.2.2.2.2.2.2.2.2.1, (x5.1.2.2.2.2.2.2.2.2.2.2.2.1, ()))))))))))))) fun v6 => 
     W.join (fun (z7 : Int × Int × Int × Int × Int × Int × Int × Int × Int × Int × Int × Int × Int × List (Int) × Int × List (Int) × List ((Int × Int × Unit) × (Int × Int × Unit) × Int × Unit) × List ((Int × Int × Unit) × Int × List (Int × Int × Int × Unit) × Unit) × List ((Int × Int × Int × (Int × Int × Unit) × (Int × Int × Unit) × Int × Int × Int × Int × Int × Int × List (Int) × Unit) × (Int × List (Int) × List ((Int × Int × Unit) × (Int × Int × Unit) × Int × Unit) × List ((Int × Int × Unit) × Int × List (Int × Int × Int × Unit) × Unit) × Unit) × Unit) × Unit) => 
      W.join (fun (z8 : Int × Int × Int × Int × Int × Int × Int × Int × Int × Int × Int × Int × Int × List (Int) × Int × List (Int) × List ((Int × Int × Unit) × (Int × Int × Unit) × Int × Unit) × List ((Int × Int × Unit) × Int × List (Int × Int × Int × Unit) × Unit) × List ((Int × Int × Int × (Int × Int × Unit) × (Int × Int × Unit) × Int × Int × Int × Int × Int × Int × List (Int) × Unit) × (Int × List (Int) × List ((Int × Int × Unit) × (Int × Int × Unit) × Int × Unit) × List ((Int × Int × Unit) × Int × List (Int × Int × Int × Unit) × Unit) × Unit) × Unit) × Unit) => 
       W.join (fun (z9 : List ((Int × Int × Int × (Int × Int × Unit) × (Int × Int × Unit) × Int × Int × Int × Int × Int × Int × List (Int) × Unit) × (Int × List (Int) × List ((Int × Int × Unit) × (Int × Int × Unit) × Int × Unit) × List ((Int × Int × Unit) × Int × List (Int × Int × Int × Unit) × Unit) × Unit) × Unit) × List ((Int × Int × Unit) × Int × List (Int × Int × Int × Unit) × Unit) × Unit) => W.room (z9.1.length + (((z8.1, (z8.2.1, (z8.2.2.1, ((z8.2.2.2.1, (z8.2.2.2.2.1, ())), ((z8.2.2.2.2.2.1, (z8.2.2.2.2.2.2.1, ())), (z8.2.2.2.2.2.2.2.1, (z8.2.2.2.2.2.2.2.2.1, (z8.2.2.2.2.2.2.2.2.2.1, (z8.2.2.2.2.2.2.2.2.2.2.1, (z8.2.2.2.2.2.2.2.2.2.2.2.1, (z8.2.2.2.2.2.2.2.2.2.2.2.2.1, (z8.2.2.2.2.2.2.2.2.2.2.2.2.2.1, ())))))))))))), ((z8.2.2.2.2.2.2.2.2.2.2.2.2.2.2.1, (z8.2.2.2.2.2.2.2.2.2.2.2.2.2.2.2.1, (z8.2.2.2.2.2.2.2.2.2.2.2.2.2.2.2.2.1, (z9.2.1, ())))), ())) :: []).length) 208 ((again4 ((IntKind.i64.wrap (z3.1 + 1)), ((z9.1 ++ (((z8.1, (z8.2.1, (z8.2.2.1, ((z8.2.2.2.1, (z8.2.2.2.2.1, ())), ((z8.2.2.2.2.2.1, (z8.2.2.2.2.2.2.1, ())), (z8.2.2.2.2.2.2.2.1, (z8.2.2.2.2.2.2.2.2.1, (z8.2.2.2.2.2.2.2.2.2.1, (z8.2.2.2.2.2.2.2.2.2.2.1, (z8.2.2.2.2.2.2.2.2.2.2.2.1, (z8.2.2.2.2.2.2.2.2.2.2.2.2.1, (z8.2.2.2.2.2.2.2.2.2.2.2.2.2.1, ())))))))))))), ((z8.2.2.2.2.2.2.2.2.2.2.2.2.2.2.1, (z8.2.2.2.2.2.2.2.2.2.2.2.2.2.2.2.1, (z8.2.2.2.2.2.2.2.2.2.2.2.2.2.2.2.2.1, (z9.2.1, ())))), ())) :: [])), ())))))
        fun k10 => 
        W.loop (fun (z11 : Int × List ((Int × Int × Int × (Int × Int × Unit) × (Int × Int × Unit) × Int × Int × Int × Int × Int × Int × List (Int) × Unit) × (Int × List (Int) × List ((Int × Int × Unit) × (Int × Int × Unit) × Int × Unit) × List ((Int × Int × Unit) × Int × List (Int × Int × Int × Unit) × Unit) × Unit) × Unit) × List ((Int × Int × Unit) × Int × List (Int × Int × Int × Unit) × Unit) × Unit) again12 => 
         W.cnd (decide (z11.1 < (z8.2.2.2.2.2.2.2.2.2.2.2.2.2.2.2.2.2.1.length : Int))) (
          W.cnd (decide (z11.1 < 10)) (W.idx z8.2.2.2.2.2.2.2.2.2.2.2.2.2.2.2.2.2.1 z11.1 fun x13 => W.call (law18_Few x13.2.2.1) fun v14 => W.room (z11.2.2.1.length + ((x13.1, (x13.2.1, (v14, ()))) :: []).length) 48 ((again12 ((IntKind.i64.wrap (z11.1 + 1)), (z11.2.1, ((z11.2.2.1 ++ ((x13.1, (x13.2.1, (v14, ()))) :: [])), ()))))))
           ((k10 (z11.2.1, (z11.2.2.1, ())))))
          ((k10 (z11.2.1, (z11.2.2.1, ())))))
         (0, (z8.2.2.2.2.2.2.2.2.2.2.2.2.2.2.2.2.2.2.1, ([], ()))))
       fun k15 => 
       W.cnd (decide (20 < (z7.2.2.2.2.2.2.2.2.2.2.2.2.2.2.2.2.1.length : Int))) (W.bnd 20 z7.2.2.2.2.2.2.2.2.2.2.2.2.2.2.2.2.1.length fun h16 => (k15 (z7.1, (z7.2.1, (z7.2.2.1, (z7.2.2.2.1, (z7.2.2.2.2.1, (z7.2.2.2.2.2.1, (z7.2.2.2.2.2.2.1, (z7.2.2.2.2.2.2.2.1, (z7.2.2.2.2.2.2.2.2.1, (z7.2.2.2.2.2.2.2.2.2.1, (z7.2.2.2.2.2.2.2.2.2.2.1, (z7.2.2.2.2.2.2.2.2.2.2.2.1, (z7.2.2.2.2.2.2.2.2.2.2.2.2.1, (z7.2.2.2.2.2.2.2.2.2.2.2.2.2.1, (z7.2.2.2.2.2.2.2.2.2.2.2.2.2.2.1, (z7.2.2.2.2.2.2.2.2.2.2.2.2.2.2.2.1, ((z7.2.2.2.2.2.2.2.2.2.2.2.2.2.2.2.2.1.take h16), (z7.2.2.2.2.2.2.2.2.2.2.2.2.2.2.2.2.2.1, (z7.2.2.2.2.2.2.2.2.2.2.2.2.2.2.2.2.2.2.1, ())))))))))))))))))))))
        ((k15 (z7.1, (z7.2.1, (z7.2.2.1, (z7.2.2.2.1, (z7.2.2.2.2.1, (z7.2.2.2.2.2.1, (z7.2.2.2.2.2.2.1, (z7.2.2.2.2.2.2.2.1, (z7.2.2.2.2.2.2.2.2.1, (z7.2.2.2.2.2.2.2.2.2.1, (z7.2.2.2.2.2.2.2.2.2.2.1, (z7.2.2.2.2.2.2.2.2.2.2.2.1, (z7.2.2.2.2.2.2.2.2.2.2.2.2.1, (z7.2.2.2.2.2.2.2.2.2.2.2.2.2.1, (z7.2.2.2.2.2.2.2.2.2.2.2.2.2.2.1, (z7.2.2.2.2.2.2.2.2.2.2.2.2.2.2.2.1, (z7.2.2.2.2.2.2.2.2.2.2.2.2.2.2.2.2.1, (z7.2.2.2.2.2.2.2.2.2.2.2.2.2.2.2.2.2.1, (z7.2.2.2.2.2.2.2.2.2.2.2.2.2.2.2.2.2.2.1, ()))))))))))))))))))))))
      fun k17 => 
      W.cnd (decide (20 < (x5.2.1.2.1.length : Int))) (W.bnd 20 x5.2.1.2.1.length fun h18 => (k17 (v6.1, (v6.2.1, (v6.2.2.1, (v6.2.2.2.1.1, (v6.2.2.2.1.2.1, (v6.2.2.2.2.1.1, (v6.2.2.2.2.1.2.1, (v6.2.2.2.2.2.1, (v6.2.2.2.2.2.2.1, (v6.2.2.2.2.2.2.2.1, (v6.2.2.2.2.2.2.2.2.1, (v6.2.2.2.2.2.2.2.2.2.1, (v6.2.2.2.2.2.2.2.2.2.2.1, (v6.2.2.2.2.2.2.2.2.2.2.2.1, (x5.2.1.1, ((x5.2.1.2.1.take h18), (x5.2.1.2.2.1, (x5.2.1.2.2.2.1, (z3.2.1, ())))))))))))))))))))))
       ((k17 (v6.1, (v6.2.1, (v6.2.2.1, (v6.2.2.2.1.1, (v6.2.2.2.1.2.1, (v6.2.2.2.2.1.1, (v6.2.2.2.2.1.2.1, (v6.2.2.2.2.2.1, (v6.2.2.2.2.2.2.1, (v6.2.2.2.2.2.2.2.1, (v6.2.2.2.2.2.2.2.2.1, (v6.2.2.2.2.2.2.2.2.2.1, (v6.2.2.2.2.2.2.2.2.2.2.1, (v6.2.2.2.2.2.2.2.2.2.2.2.1, (x5.2.1.1, (x5.2.1.2.1, (x5.2.1.2.2.1, (x5.2.1.2.2.2.1, (z3.2.1, ()))))))))))))))))))))))
     ((k2 (z3.2.1, ()))))
    ((k2 (z3.2.1, ()))))
   (0, ([], ()))
noncomputable def law39_Few (l : List ADone') : Option (List ADone') := law39_FewW stdW l
noncomputable def law39_Few_s : ES := ⟨(.pair (.slc tADone) .unit), (.own 160 tADone), fun x => law39_Few x.1⟩
theorem law39_Few_ok : ECok Try.prog 43 (.es law39_Few_s)   := es_ok (A := (.pair (.slc tADone) .unit)) (Q := (.own 160 tADone)) (fun W x => law39_FewW W x.1) [(60, .es law34_Short_s), (95, .es law18_Few_s)] ⟨law34_Short_ok, law18_Few_ok, trivial⟩ [] [(9, ⟨[(3, .row 3)], [(0, [.t (.int .i64), .t (.int .i64), .t (.int .i64), .t (.int .i64), .t (.int .i64), .t (.int .i64), .t (.int .i64), .t (.int .i64), .t (.int .i64), .t (.int .i64), .t (.int .i64), .t (.int .i64), .t (.int .i64), .t (.slc (.int .i64)), .t (.int .i64), .t (.slc (.int .i64)), .t (.slc tADebit), .t (.slc tAReturn)])], [none, none, none, some (160, tADone)]⟩), (11, ⟨[(3, .row 3)], [(0, [.t (.int .i64), .t (.int .i64), .t (.int .i64), .t (.int .i64), .t (.int .i64), .t (.int .i64), .t (.int .i64), .t (.int .i64), .t (.int .i64), .t (.int .i64), .t (.int .i64), .t (.int .i64), .t (.int .i64), .t (.slc (.int .i64)), .t (.int .i64), .t (.slc (.int .i64)), .t (.slc tADebit), .t (.slc tAReturn)])], [none, none, none, some (160, tADone)]⟩), (18, ⟨[(3, .row 3), (6, .row 5)], [], [none, none, none, some (160, tADone), none, some (163, tAReturn)]⟩), (20, ⟨[(3, .row 3)], [], [none, none, none, some (160, tADone)]⟩)] [(3, ⟨[(3, .row 3), (4, .t (.int .i64))], [], [none, none, none, some (160, tADone)]⟩), (13, ⟨[(3, .row 3), (6, .row 5), (7, .t (.int .i64))], [], [none, none, none, some (160, tADone), none, some (163, tAReturn)]⟩)] Try.func43 rfl (by decide +kernel) rfl rfl (fun W x => by kernel_rfl)
noncomputable def ref39_DebitsW (W : Wd) (l : List ADone') : Option (List ADebit') := 
 W.loop (fun (z1 : Int × List ((Int × Int × Unit) × (Int × Int × Unit) × Int × Unit) × Unit) again2 => 
  W.cnd (decide (z1.1 < (l.length : Int))) (
   W.join (fun (z3 : List ((Int × Int × Unit) × (Int × Int × Unit) × Int × Unit) × Unit) => (again2 ((IntKind.i64.wrap (z1.1 + 1)), (z3.1, ()))))
    fun k4 => W.idx l z1.1 fun x5 => 
    W.cnd (x5.2.1.1 == 0) (W.idx l z1.1 fun x6 => W.room (z1.2.1.length + x6.2.1.2.2.1.length) 40 ((k4 ((z1.2.1 ++ x6.2.1.2.2.1), ()))))
     ((k4 (z1.2.1, ()))))
   (some z1.2.1))
  (0, ([], ()))
noncomputable def ref39_Debits (l : List ADone') : Option (List ADebit') := ref39_DebitsW stdW l
noncomputable def ref39_Debits_s : ES := ⟨(.pair (.slc tADone) .unit), (.own 174 tADebit), fun x => ref39_Debits x.1⟩
theorem ref39_Debits_ok : ECok Try.prog 56 (.es ref39_Debits_s)   := es_ok (A := (.pair (.slc tADone) .unit)) (Q := (.own 174 tADebit)) (fun W x => ref39_DebitsW W x.1) [] trivial [] [(4, ⟨[(3, .row 0)], [], [some (174, tADebit)]⟩)] [(3, ⟨[(3, .row 0), (4, .t (.int .i64))], [], [some (174, tADebit)]⟩)] Try.func56 rfl (by decide +kernel) rfl rfl (fun W x => by kernel_rfl)
noncomputable def ref01_NatW (W : Wd) (u : Int) : Option PackWriter' := 
 W.loop (fun (z1 : Int × List (Int) × Unit) again2 => 
  W.cnd (decide (0 < z1.1)) (W.nz 2 (W.room (z1.2.1.length + ((IntKind.u8.wrap (Int.tmod z1.1 2)) :: []).length) 1 (W.nz 2 ((again2 ((IntKind.u64.wrap (Int.tdiv z1.1 2)), ((z1.2.1 ++ ((IntKind.u8.wrap (Int.tmod z1.1 2)) :: [])), ())))))))
   (some (false, (z1.2.1, ()))))
  (u, ([], ()))
noncomputable def ref01_Nat (u : Int) : Option PackWriter' := ref01_NatW stdW u
noncomputable def ref01_Nat_s : ES := ⟨(.pair (.int .u64) .unit), (.v tPackWriter), fun x => ref01_Nat x.1⟩
theorem ref01_Nat_ok : ECok Try.prog 152 (.es ref01_Nat_s)   := es_ok (A := (.pair (.int .u64) .unit)) (Q := (.v tPackWriter)) (fun W x => ref01_NatW W x.1) [] trivial [] [] [(2, ⟨[(0, .t (.int .u64)), (3, .row 1)], [], [none, some (5, (.int .u8))]⟩)] Try.func152 rfl (by decide +kernel) rfl rfl (fun W x => by kernel_rfl)
noncomputable def ref01_plusW (W : Wd) (a : List Int) (b : List Int) : Option (List Int) := 
 W.loop (fun (z1 : Int × Int × List (Int) × Unit) again2 => 
  W.join (fun (z3 : List (Int) × Unit) => 
   W.join (fun (z4 : Int × List (Int) × Unit) => 
    W.join (fun (z5 : Int × List (Int) × Unit) => W.nz 2 (W.room (z5.2.1.length + ((Int.tmod z5.1 2) :: []).length) 1 (W.nz 2 ((again2 ((IntKind.u8.wrap (Int.tdiv z5.1 2)), ((IntKind.i64.wrap (z1.2.1 + 1)), ((z5.2.1 ++ ((Int.tmod z5.1 2) :: [])), ()))))))))
     fun k6 => 
     W.cnd (decide (z1.2.1 < (b.length : Int))) (W.idx b z1.2.1 fun x7 => (k6 ((IntKind.u8.wrap (z4.1 + x7)), (z4.2.1, ()))))
      ((k6 (z4.1, (z4.2.1, ())))))
    fun k8 => 
    W.cnd (decide (z1.2.1 < (a.length : Int))) (W.idx a z1.2.1 fun x9 => (k8 ((IntKind.u8.wrap (z1.1 + x9)), (z3.1, ()))))
     ((k8 (z1.1, (z3.1, ())))))
   fun k10 => 
   W.cnd (decide (z1.2.1 < (a.length : Int))) ((k10 (z1.2.2.1, ())))
    (
    W.cnd (decide (z1.2.1 < (b.length : Int))) ((k10 (z1.2.2.1, ())))
     (
     W.join (fun (z11 : List (Int) × Unit) => some z11.1)
      fun k12 => 
      W.cnd (decide (0 < z1.1)) (W.room (z1.2.2.1.length + (z1.1 :: []).length) 1 ((k12 ((z1.2.2.1 ++ (z1.1 :: [])), ()))))
       ((k12 (z1.2.2.1, ()))))))
  (0, (0, ([], ())))
noncomputable def ref01_plus (a : List Int) (b : List Int) : Option (List Int) := ref01_plusW stdW a b
noncomputable def ref01_plus_s : ES := ⟨(.pair (.slc (.int .u8)) (.pair (.slc (.int .u8)) .unit)), (.own 5 (.int .u8)), fun x => ref01_plus x.1 x.2.1⟩
theorem ref01_plus_ok : ECok Try.prog 148 (.es ref01_plus_s)   := es_ok (A := (.pair (.slc (.int .u8)) (.pair (.slc (.int .u8)) .unit))) (Q := (.own 5 (.int .u8))) (fun W x => ref01_plusW W x.1 x.2.1) [] trivial [] [(6, ⟨[(5, .row 1)], [], [none, some (5, (.int .u8))]⟩), (8, ⟨[(5, .row 1), (6, .t (.int .u8))], [], [none, some (5, (.int .u8))]⟩), (10, ⟨[(5, .row 1), (6, .t (.int .u8))], [], [none, some (5, (.int .u8))]⟩), (14, ⟨[(5, .row 1)], [], [none, some (5, (.int .u8))]⟩)] [(4, ⟨[(5, .row 1), (6, .t (.int .u8)), (7, .t (.int .i64))], [], [none, some (5, (.int .u8))]⟩)] Try.func148 rfl (by decide +kernel) rfl rfl (fun W x => by kernel_rfl)
noncomputable def ref01_OfW (W : Wd) (n : Int) : Option PackWriter' := 
 W.cnd (decide (0 ≤ n)) (W.call (ref01_Nat (IntKind.u64.wrap n)) fun v1 => some (v1.1, (v1.2.1, ())))
  (W.call (ref01_Nat (IntKind.u64.wrap (IntKind.i64.wrap (0 - (IntKind.i64.wrap (n + 1)))))) fun v2 => W.call (ref01_plus v2.2.1 (1 :: [])) fun v3 => some (true, (v3, ())))
noncomputable def ref01_Of (n : Int) : Option PackWriter' := ref01_OfW stdW n
noncomputable def ref01_Of_s : ES := ⟨(.pair (.int .i64) .unit), (.v tPackWriter), fun x => ref01_Of x.1⟩
theorem ref01_Of_ok : ECok Try.prog 103 (.es ref01_Of_s)   := es_ok (A := (.pair (.int .i64) .unit)) (Q := (.v tPackWriter)) (fun W x => ref01_OfW W x.1) [(152, .es ref01_Nat_s), (148, .es ref01_plus_s)] ⟨ref01_Nat_ok, ref01_plus_ok, trivial⟩ [] [] [] Try.func103 rfl (by decide +kernel) rfl rfl (fun W x => by kernel_rfl)
noncomputable def ref01_trimW (W : Wd) (neg : Bool) (b : List Int) : Option PackWriter' := 
 W.join (fun (z1 : Int × Unit) => 
  W.cnd neg (W.bnd z1.1 b.length fun h2 => some ((decide (0 < z1.1)), ((b.take h2), ())))
   (W.bnd z1.1 b.length fun h3 => some (false, ((b.take h3), ()))))
  fun k4 => 
  W.loop (fun (z5 : Int × Unit) again6 => 
   W.cnd (decide (0 < z5.1)) (W.idx b (IntKind.i64.wrap (z5.1 - 1)) fun x7 => 
    W.cnd (x7 == 0) ((again6 ((IntKind.i64.wrap (z5.1 - 1)), ())))
     ((k4 z5)))
    ((k4 z5)))
   ((b.length : Int), ())
noncomputable def ref01_trim (neg : Bool) (b : List Int) : Option PackWriter' := ref01_trimW stdW neg b
noncomputable def ref01_trim_s : ES := ⟨(.pair .bool (.pair (.slc (.int .u8)) .unit)), (.v tPackWriter), fun x => ref01_trim x.1 x.2.1⟩
theorem ref01_trim_ok : ECok Try.prog 147 (.es ref01_trim_s)   := es_ok (A := (.pair .bool (.pair (.slc (.int .u8)) .unit))) (Q := (.v tPackWriter)) (fun W x => ref01_trimW W x.1 x.2.1) [] trivial [] [(4, ⟨[(5, .t (.int .i64))], [], []⟩)] [(2, ⟨[(5, .t (.int .i64))], [], []⟩)] Try.func147 rfl (by decide +kernel) rfl rfl (fun W x => by kernel_rfl)
noncomputable def ref01_lessW (W : Wd) (a : List Int) (b : List Int) : Option Bool := 
 W.cnd ((a.length : Int) != (b.length : Int)) (some (decide ((a.length : Int) < (b.length : Int))))
  (
  W.loop (fun (z1 : Int × Unit) again2 => 
   W.cnd (decide (0 < z1.1)) (W.idx a (IntKind.i64.wrap (z1.1 - 1)) fun x3 => W.idx b (IntKind.i64.wrap (z1.1 - 1)) fun x4 => 
    W.cnd (x3 != x4) (W.idx a (IntKind.i64.wrap (z1.1 - 1)) fun x5 => W.idx b (IntKind.i64.wrap (z1.1 - 1)) fun x6 => some (decide (x5 < x6)))
     ((again2 ((IntKind.i64.wrap (z1.1 - 1)), ()))))
    (some false))
   ((a.length : Int), ()))
noncomputable def ref01_less (a : List Int) (b : List Int) : Option Bool := ref01_lessW stdW a b
noncomputable def ref01_less_s : ES := ⟨(.pair (.slc (.int .u8)) (.pair (.slc (.int .u8)) .unit)), (.v .bool), fun x => ref01_less x.1 x.2.1⟩
theorem ref01_less_ok : ECok Try.prog 149 (.es ref01_less_s)   := es_ok (A := (.pair (.slc (.int .u8)) (.pair (.slc (.int .u8)) .unit))) (Q := (.v .bool)) (fun W x => ref01_lessW W x.1 x.2.1) [] trivial [(6, [], (ofL [(0, true), (1, true), (2, true), (3, true), (4, true), (5, true), (6, true), (7, true), (8, true), (9, true), (10, true)])), (7, [], (ofL [(0, true), (1, true), (2, true), (3, true), (4, true), (5, true), (6, true), (7, true), (8, true), (9, true), (10, true), (11, true)]))] [] [(4, ⟨[(5, .t (.int .i64))], [], []⟩)] Try.func149 rfl (by decide +kernel) rfl rfl (fun W x => by kernel_rfl)
noncomputable def ref01_minusW (W : Wd) (a : List Int) (b : List Int) : Option (List Int) := 
 W.loop (fun (z1 : Int × Int × List (Int) × Unit) again2 => 
  W.cnd (decide (z1.2.1 < (a.length : Int))) (
   W.join (fun (z3 : Int × List (Int) × Unit) => W.idx a z1.2.1 fun x4 => 
    W.join (fun (z5 : Int × List (Int) × Unit) => W.nz 2 (W.room (z5.2.1.length + ((Int.tmod (IntKind.u8.wrap ((IntKind.u8.wrap (x4 + 2)) - z3.1)) 2) :: []).length) 1 ((again2 (z5.1, ((IntKind.i64.wrap (z1.2.1 + 1)), ((z5.2.1 ++ ((Int.tmod (IntKind.u8.wrap ((IntKind.u8.wrap (x4 + 2)) - z3.1)) 2) :: [])), ())))))))
     fun k6 => 
     W.cnd (decide ((IntKind.u8.wrap ((IntKind.u8.wrap (x4 + 2)) - z3.1)) < 2)) ((k6 (1, (z3.2.1, ()))))
      ((k6 (0, (z3.2.1, ())))))
    fun k7 => 
    W.cnd (decide (z1.2.1 < (b.length : Int))) (W.idx b z1.2.1 fun x8 => (k7 ((IntKind.u8.wrap (z1.1 + x8)), (z1.2.2.1, ()))))
     ((k7 (z1.1, (z1.2.2.1, ())))))
   (some z1.2.2.1))
  (0, (0, ([], ())))
noncomputable def ref01_minus (a : List Int) (b : List Int) : Option (List Int) := ref01_minusW stdW a b
noncomputable def ref01_minus_s : ES := ⟨(.pair (.slc (.int .u8)) (.pair (.slc (.int .u8)) .unit)), (.own 5 (.int .u8)), fun x => ref01_minus x.1 x.2.1⟩
theorem ref01_minus_ok : ECok Try.prog 150 (.es ref01_minus_s)   := es_ok (A := (.pair (.slc (.int .u8)) (.pair (.slc (.int .u8)) .unit))) (Q := (.own 5 (.int .u8))) (fun W x => ref01_minusW W x.1 x.2.1) [] trivial [] [(9, ⟨[(5, .row 1), (8, .t (.int .u8))], [], [none, some (5, (.int .u8))]⟩), (13, ⟨[(5, .row 1), (6, .t (.int .u8))], [], [none, some (5, (.int .u8))]⟩)] [(4, ⟨[(5, .row 1), (6, .t (.int .u8)), (7, .t (.int .i64))], [], [none, some (5, (.int .u8))]⟩)] Try.func150 rfl (by decide +kernel) rfl rfl (fun W x => by kernel_rfl)
noncomputable def ref01_AddW (W : Wd) (a : PackWriter') (b : PackWriter') : Option PackWriter' := 
 W.cnd (Go.Vc.notIf false (a.1 == b.1)) (W.call (ref01_plus a.2.1 b.2.1) fun v1 => W.call (ref01_trim a.1 v1) fun v2 => some (v2.1, (v2.2.1, ())))
  (W.call (ref01_less a.2.1 b.2.1) fun v3 => 
  W.cnd v3 (W.call (ref01_minus b.2.1 a.2.1) fun v4 => W.call (ref01_trim b.1 v4) fun v5 => some (v5.1, (v5.2.1, ())))
   (W.call (ref01_minus a.2.1 b.2.1) fun v6 => W.call (ref01_trim a.1 v6) fun v7 => some (v7.1, (v7.2.1, ()))))
noncomputable def ref01_Add (a : PackWriter') (b : PackWriter') : Option PackWriter' := ref01_AddW stdW a b
noncomputable def ref01_Add_s : ES := ⟨(.pair tPackWriter (.pair tPackWriter .unit)), (.v tPackWriter), fun x => ref01_Add x.1 x.2.1⟩
theorem ref01_Add_ok : ECok Try.prog 99 (.es ref01_Add_s)   := es_ok (A := (.pair tPackWriter (.pair tPackWriter .unit))) (Q := (.v tPackWriter)) (fun W x => ref01_AddW W x.1 x.2.1) [(148, .es ref01_plus_s), (147, .es ref01_trim_s), (149, .es ref01_less_s), (150, .es ref01_minus_s)] ⟨ref01_plus_ok, ref01_trim_ok, ref01_less_ok, ref01_minus_ok, trivial⟩ [(2, [2], (ofL [(0, true), (1, true), (2, true), (3, true), (4, true), (5, true), (6, false), (7, false), (8, false)])), (4, [2], (ofL [(0, true), (1, true), (2, true), (3, true), (4, true), (5, true), (6, false), (7, false), (8, false)])), (5, [2], (ofL [(0, true), (1, true), (2, true), (3, true), (4, true), (5, true), (6, false), (7, false), (8, false)]))] [] [] Try.func99 rfl (by decide +kernel) rfl rfl (fun W x => by kernel_rfl)
noncomputable def ref39_PaidW (W : Wd) (l : List ADone') (u : AUnit') : Option (PackWriter' × PackWriter' × Unit) := W.call (ref39_Debits l) fun v1 => 
 W.loop (fun (z2 : Int × Bool × List (Int) × Bool × List (Int) × List ((Int × Int × Unit) × (Int × Int × Unit) × Int × Unit) × Unit) again3 => 
  W.cnd (decide (z2.1 < (z2.2.2.2.2.2.1.length : Int))) (
   W.join (fun (z4 : Bool × List (Int) × Bool × List (Int) × List ((Int × Int × Unit) × (Int × Int × Unit) × Int × Unit) × Unit) => (again3 ((IntKind.i64.wrap (z2.1 + 1)), (z4.1, (z4.2.1, (z4.2.2.1, (z4.2.2.2.1, (z4.2.2.2.2.1, ()))))))))
    fun k5 => 
    W.join (fun (z6 : Bool × List (Int) × List ((Int × Int × Unit) × (Int × Int × Unit) × Int × Unit) × Unit) => W.idx z6.2.2.1 z2.1 fun x7 => W.nth z6.2.2.1 (Int.toNat z2.1) fun x8 => 
     W.cnd (Go.Vc.notIf false ((x8.1.1 == u.1) && (x8.1.2.1 == u.2.1))) (W.idx z6.2.2.1 z2.1 fun x9 => W.both (W.nth z6.2.2.1 (Int.toNat z2.1) fun x10 => W.call (ref01_Of x10.2.2.1) fun v11 => W.call (ref01_Add (z2.2.2.2.1, (z2.2.2.2.2.1, ())) (v11.1, (v11.2.1, ()))) fun v12 => (k5 (z6.1, (z6.2.1, (v12.1, (v12.2.1, (z6.2.2.1, ()))))))) (W.nth z6.2.2.1 (Int.toNat z2.1) fun x13 => W.both (W.call (ref01_Of x13.2.2.1) fun v14 => W.call (ref01_Add (z2.2.2.2.1, (z2.2.2.2.2.1, ())) (v14.1, (v14.2.1, ()))) fun v15 => (k5 (z6.1, (z6.2.1, (v15.1, (v15.2.1, (z6.2.2.1, ()))))))) (W.call (ref01_Of x13.2.2.1) fun v16 => W.call (ref01_Add (z2.2.2.2.1, (z2.2.2.2.2.1, ())) (v16.1, (v16.2.1, ()))) fun v17 => (k5 (z6.1, (z6.2.1, (v17.1, (v17.2.1, (z6.2.2.1, ())))))))))
      ((k5 (z6.1, (z6.2.1, (z2.2.2.2.1, (z2.2.2.2.2.1, (z6.2.2.1, ()))))))))
     fun k18 => W.idx z2.2.2.2.2.2.1 z2.1 fun x19 => W.nth z2.2.2.2.2.2.1 (Int.toNat z2.1) fun x20 => 
     W.cnd (Go.Vc.notIf false ((x20.2.1.1 == u.1) && (x20.2.1.2.1 == u.2.1))) (W.idx z2.2.2.2.2.2.1 z2.1 fun x21 => W.both (W.nth z2.2.2.2.2.2.1 (Int.toNat z2.1) fun x22 => W.call (ref01_Of x22.2.2.1) fun v23 => W.call (ref01_Add (z2.2.1, (z2.2.2.1, ())) (v23.1, (v23.2.1, ()))) fun v24 => (k18 (v24.1, (v24.2.1, (z2.2.2.2.2.2.1, ()))))) (W.nth z2.2.2.2.2.2.1 (Int.toNat z2.1) fun x25 => W.both (W.call (ref01_Of x25.2.2.1) fun v26 => W.call (ref01_Add (z2.2.1, (z2.2.2.1, ())) (v26.1, (v26.2.1, ()))) fun v27 => (k18 (v27.1, (v27.2.1, (z2.2.2.2.2.2.1, ()))))) (W.call (ref01_Of x25.2.2.1) fun v28 => W.call (ref01_Add (z2.2.1, (z2.2.2.1, ())) (v28.1, (v28.2.1, ()))) fun v29 => (k18 (v29.1, (v29.2.1, (z2.2.2.2.2.2.1, ())))))))
      ((k18 (z2.2.1, (z2.2.2.1, (z2.2.2.2.2.2.1, ()))))))
   (some ((z2.2.1, (z2.2.2.1, ())), ((z2.2.2.2.1, (z2.2.2.2.2.1, ())), ()))))
  (0, (false, ([], (false, ([], (v1, ()))))))
noncomputable def ref39_Paid (l : List ADone') (u : AUnit') : Option (PackWriter' × PackWriter' × Unit) := ref39_PaidW stdW l u
noncomputable def ref39_Paid_s : ES := ⟨(.pair (.slc tADone) (.pair tAUnit .unit)), (.pair (.v tPackWriter) (.pair (.v tPackWriter) .unit)), fun x => ref39_Paid x.1 x.2.1⟩
theorem ref39_Paid_ok : ECok Try.prog 47 (.es ref39_Paid_s)   := es_ok (A := (.pair (.slc tADone) (.pair tAUnit .unit))) (Q := (.pair (.v tPackWriter) (.pair (.v tPackWriter) .unit))) (fun W x => ref39_PaidW W x.1 x.2.1) [(56, .es ref39_Debits_s), (103, .es ref01_Of_s), (99, .es ref01_Add_s)] ⟨ref39_Debits_ok, ref01_Of_ok, ref01_Add_ok, trivial⟩ [(6, [], (ofL [(0, true), (1, true), (2, true), (3, true), (5, true), (4, false), (6, true)])), (7, [3], (.rd 1 (.rd 2 (.rd 3 (.rd 4 (.two 0 5 (ofL [(5, false), (6, false), (7, false), (8, false)]) (.two 0 6 (ofL [(6, false), (7, false), (8, false)]) (ofL [(0, false), (7, false), (8, false)])))))))), (8, [], (ofL [(0, true), (1, true), (2, true), (3, true), (5, true), (4, false), (6, true)])), (9, [4], (.rd 1 (.rd 2 (.rd 3 (.rd 4 (.two 0 5 (ofL [(5, false), (6, false), (7, false), (8, false)]) (.two 0 6 (ofL [(6, false), (7, false), (8, false)]) (ofL [(0, false), (7, false), (8, false)])))))))), (10, [1, 2], (ofL [(0, true), (1, true), (2, false), (3, false)]))] [(5, ⟨[(8, .row 0)], [(3, [.t .bool, .t (.slc (.int .u8))]), (4, [.t .bool, .t (.slc (.int .u8))])], [some (174, tADebit)]⟩), (8, ⟨[(8, .row 0)], [(3, [.t .bool, .t (.slc (.int .u8))])], [some (174, tADebit)]⟩)] [(4, ⟨[(8, .row 0), (9, .t (.int .i64))], [(3, [.t .bool, .t (.slc (.int .u8))]), (4, [.t .bool, .t (.slc (.int .u8))])], [some (174, tADebit)]⟩)] Try.func47 rfl (by decide +kernel) rfl rfl (fun W x => by kernel_rfl)
noncomputable def ref01_WideW (W : Wd) (hi : Int) (lo : Int) : Option PackWriter' := W.call (ref01_Of hi) fun v1 => 
 W.join (fun (z2 : Bool × List (Int) × Unit) => W.call (ref01_Nat lo) fun v3 => W.call (ref01_Add (z2.1, (z2.2.1, ())) (v3.1, (v3.2.1, ()))) fun v4 => some (v4.1, (v4.2.1, ())))
  fun k5 => 
  W.loop (fun (z6 : Int × Bool × List (Int) × Unit) again7 => 
   W.cnd (decide (z6.1 < 64)) (
    W.cnd (decide (0 < (z6.2.2.1.length : Int))) (W.room (0 :: []).length 1 (W.room ((0 :: []).length + z6.2.2.1.length) 1 ((again7 ((IntKind.i64.wrap (z6.1 + 1)), (z6.2.1, (((0 :: []) ++ z6.2.2.1), ())))))))
     ((k5 (z6.2.1, (z6.2.2.1, ())))))
    ((k5 (z6.2.1, (z6.2.2.1, ())))))
   (0, (v1.1, (v1.2.1, ())))
noncomputable def ref01_Wide (hi : Int) (lo : Int) : Option PackWriter' := ref01_WideW stdW hi lo
noncomputable def ref01_Wide_s : ES := ⟨(.pair (.int .i64) (.pair (.int .u64) .unit)), (.v tPackWriter), fun x => ref01_Wide x.1 x.2.1⟩
theorem ref01_Wide_ok : ECok Try.prog 105 (.es ref01_Wide_s)   := es_ok (A := (.pair (.int .i64) (.pair (.int .u64) .unit))) (Q := (.v tPackWriter)) (fun W x => ref01_WideW W x.1 x.2.1) [(103, .es ref01_Of_s), (152, .es ref01_Nat_s), (99, .es ref01_Add_s)] ⟨ref01_Of_ok, ref01_Nat_ok, ref01_Add_ok, trivial⟩ [(8, [0], (ofL [(0, true), (1, true), (2, false), (3, false), (4, false)]))] [(8, ⟨[], [(1, [.t .bool, .t (.slc (.int .u8))])], []⟩)] [(3, ⟨[(6, .t (.int .i64))], [(1, [.t .bool, .t (.slc (.int .u8))])], []⟩)] Try.func105 rfl (by decide +kernel) rfl rfl (fun W x => by kernel_rfl)
noncomputable def law39_bigW (W : Wd) (w : WideWide') : Option PackWriter' := W.call (ref01_Wide w.1 w.2.1) fun v1 => some (v1.1, (v1.2.1, ()))
noncomputable def law39_big (w : WideWide') : Option PackWriter' := law39_bigW stdW w
noncomputable def law39_big_s : ES := ⟨(.pair tWideWide .unit), (.v tPackWriter), fun x => law39_big x.1⟩
theorem law39_big_ok : ECok Try.prog 49 (.es law39_big_s)   := es_ok (A := (.pair tWideWide .unit)) (Q := (.v tPackWriter)) (fun W x => law39_bigW W x.1) [(105, .es ref01_Wide_s)] ⟨ref01_Wide_ok, trivial⟩ [] [] [] Try.func49 rfl (by decide +kernel) rfl rfl (fun W x => by kernel_rfl)
noncomputable def ref01_NegW (W : Wd) (a : PackWriter') : Option PackWriter' := W.call (ref01_trim (!a.1) a.2.1) fun v1 => some (v1.1, (v1.2.1, ()))
noncomputable def ref01_Neg (a : PackWriter') : Option PackWriter' := ref01_NegW stdW a
noncomputable def ref01_Neg_s : ES := ⟨(.pair tPackWriter .unit), (.v tPackWriter), fun x => ref01_Neg x.1⟩
theorem ref01_Neg_ok : ECok Try.prog 153 (.es ref01_Neg_s)   := es_ok (A := (.pair tPackWriter .unit)) (Q := (.v tPackWriter)) (fun W x => ref01_NegW W x.1) [(147, .es ref01_trim_s)] ⟨ref01_trim_ok, trivial⟩ [] [] [] Try.func153 rfl (by decide +kernel) rfl rfl (fun W x => by kernel_rfl)
noncomputable def ref01_SubW (W : Wd) (a : PackWriter') (b : PackWriter') : Option PackWriter' := W.call (ref01_Neg (b.1, (b.2.1, ()))) fun v1 => W.call (ref01_Add (a.1, (a.2.1, ())) (v1.1, (v1.2.1, ()))) fun v2 => some (v2.1, (v2.2.1, ()))
noncomputable def ref01_Sub (a : PackWriter') (b : PackWriter') : Option PackWriter' := ref01_SubW stdW a b
noncomputable def ref01_Sub_s : ES := ⟨(.pair tPackWriter (.pair tPackWriter .unit)), (.v tPackWriter), fun x => ref01_Sub x.1 x.2.1⟩
theorem ref01_Sub_ok : ECok Try.prog 104 (.es ref01_Sub_s)   := es_ok (A := (.pair tPackWriter (.pair tPackWriter .unit))) (Q := (.v tPackWriter)) (fun W x => ref01_SubW W x.1 x.2.1) [(153, .es ref01_Neg_s), (99, .es ref01_Add_s)] ⟨ref01_Neg_ok, ref01_Add_ok, trivial⟩ [(1, [2], (ofL [(0, true), (1, true), (2, false), (3, false), (4, false)]))] [] [] Try.func104 rfl (by decide +kernel) rfl rfl (fun W x => by kernel_rfl)
noncomputable def ref18_SumW (W : Wd) (l : List ALot') (asset : Int) : Option PackWriter' := 
 W.loop (fun (z1 : Int × Bool × List (Int) × Unit) again2 => 
  W.cnd (decide (z1.1 < (l.length : Int))) (
   W.join (fun (z3 : Bool × List (Int) × Unit) => (again2 ((IntKind.i64.wrap (z1.1 + 1)), (z3.1, (z3.2.1, ())))))
    fun k4 => W.idx l z1.1 fun x5 => 
    W.cnd (x5.1 == asset) (W.idx l z1.1 fun x6 => W.both (W.call (ref01_Of x6.2.2.1) fun v7 => W.call (ref01_Add (z1.2.1, (z1.2.2.1, ())) (v7.1, (v7.2.1, ()))) fun v8 => (k4 (v8.1, (v8.2.1, ())))) (W.call (ref01_Of x6.2.2.1) fun v9 => W.call (ref01_Add (z1.2.1, (z1.2.2.1, ())) (v9.1, (v9.2.1, ()))) fun v10 => (k4 (v10.1, (v10.2.1, ())))))
     ((k4 (z1.2.1, (z1.2.2.1, ())))))
   (some (z1.2.1, (z1.2.2.1, ()))))
  (0, (false, ([], ())))
noncomputable def ref18_Sum (l : List ALot') (asset : Int) : Option PackWriter' := ref18_SumW stdW l asset
noncomputable def ref18_Sum_s : ES := ⟨(.pair (.slc tALot) (.pair (.int .i64) .unit)), (.v tPackWriter), fun x => ref18_Sum x.1 x.2.1⟩
theorem ref18_Sum_ok : ECok Try.prog 112 (.es ref18_Sum_s)   := es_ok (A := (.pair (.slc tALot) (.pair (.int .i64) .unit))) (Q := (.v tPackWriter)) (fun W x => ref18_SumW W x.1 x.2.1) [(103, .es ref01_Of_s), (99, .es ref01_Add_s)] ⟨ref01_Of_ok, ref01_Add_ok, trivial⟩ [(6, [1], (.rd 1 (.rd 2 (.rd 3 (.rd 4 (.rd 5 (.two 0 6 (ofL [(6, false), (7, false), (8, false)]) (ofL [(0, false), (7, false), (8, false)]))))))))] [(4, ⟨[], [(1, [.t .bool, .t (.slc (.int .u8))])], []⟩)] [(3, ⟨[(6, .t (.int .i64))], [(1, [.t .bool, .t (.slc (.int .u8))])], []⟩)] Try.func112 rfl (by decide +kernel) rfl rfl (fun W x => by kernel_rfl)
noncomputable def ref39_SumW (W : Wd) (l : List ADone') (asset : Int) : Option PackWriter' := 
 W.loop (fun (z1 : Int × Bool × List (Int) × Unit) again2 => 
  W.cnd (decide (z1.1 < (l.length : Int))) (
   W.join (fun (z3 : Bool × List (Int) × Unit) => (again2 ((IntKind.i64.wrap (z1.1 + 1)), (z3.1, (z3.2.1, ())))))
    fun k4 => W.idx l z1.1 fun x5 => W.idx l z1.1 fun x6 => W.both (
     W.cnd (x6.2.1.1 != 0) ((k4 (z1.2.1, (z1.2.2.1, ()))))
      (
      W.join (fun (z7 : Bool × List (Int) × Unit) => 
       W.join (fun (z8 : Bool × List (Int) × Unit) => 
        W.loop (fun (z9 : Int × Bool × List (Int) × Unit) again10 => 
         W.cnd (decide (z9.1 < (x6.2.1.2.2.2.1.length : Int))) (
          W.join (fun (z11 : Bool × List (Int) × Unit) => (again10 ((IntKind.i64.wrap (z9.1 + 1)), (z11.1, (z11.2.1, ())))))
           fun k12 => 
           W.cnd (asset == 0) (W.idx x6.2.1.2.2.2.1 z9.1 fun x13 => W.both (W.call (ref01_Of x13.2.1) fun v14 => W.call (ref01_Sub (z9.2.1, (z9.2.2.1, ())) (v14.1, (v14.2.1, ()))) fun v15 => (k12 (v15.1, (v15.2.1, ())))) (W.call (ref01_Of x13.2.1) fun v16 => W.call (ref01_Sub (z9.2.1, (z9.2.2.1, ())) (v16.1, (v16.2.1, ()))) fun v17 => (k12 (v17.1, (v17.2.1, ())))))
            (W.idx x6.2.1.2.2.2.1 z9.1 fun x18 => W.both (W.call (ref18_Sum x18.2.2.1 asset) fun v19 => W.call (ref01_Sub (z9.2.1, (z9.2.2.1, ())) (v19.1, (v19.2.1, ()))) fun v20 => (k12 (v20.1, (v20.2.1, ())))) (W.call (ref18_Sum x18.2.2.1 asset) fun v21 => W.call (ref01_Sub (z9.2.1, (z9.2.2.1, ())) (v21.1, (v21.2.1, ()))) fun v22 => (k12 (v22.1, (v22.2.1, ()))))))
          ((k4 (z9.2.1, (z9.2.2.1, ())))))
         (0, (z8.1, (z8.2.1, ()))))
        fun k23 => 
        W.join (fun (z24 : Bool × Unit) => 
         W.cnd z24.1 (W.both (W.call (ref01_Of x5.1.2.2.2.2.2.2.2.2.2.1) fun v25 => W.call (ref01_Sub (z7.1, (z7.2.1, ())) (v25.1, (v25.2.1, ()))) fun v26 => (k23 (v26.1, (v26.2.1, ())))) (W.call (ref01_Of x5.1.2.2.2.2.2.2.2.2.2.1) fun v27 => W.call (ref01_Sub (z7.1, (z7.2.1, ())) (v27.1, (v27.2.1, ()))) fun v28 => (k23 (v28.1, (v28.2.1, ())))))
          ((k23 (z7.1, (z7.2.1, ())))))
         fun k29 => 
         W.cnd (x5.1.2.2.2.2.2.2.1 == asset) ((k29 ((x5.1.1 == 18), ())))
          ((k29 (false, ()))))
       fun k30 => 
       W.join (fun (z31 : Bool × Unit) => 
        W.cnd z31.1 (W.both (W.call (ref01_Of x5.1.2.2.2.2.2.2.2.2.2.1) fun v32 => W.call (ref01_Add (z1.2.1, (z1.2.2.1, ())) (v32.1, (v32.2.1, ()))) fun v33 => (k30 (v33.1, (v33.2.1, ())))) (W.call (ref01_Of x5.1.2.2.2.2.2.2.2.2.2.1) fun v34 => W.call (ref01_Add (z1.2.1, (z1.2.2.1, ())) (v34.1, (v34.2.1, ()))) fun v35 => (k30 (v35.1, (v35.2.1, ())))))
         ((k30 (z1.2.1, (z1.2.2.1, ())))))
        fun k36 => 
        W.cnd (x5.1.2.2.2.2.2.2.1 == asset) ((k36 ((x5.1.1 == 17), ())))
         ((k36 (false, ()))))) (
     W.cnd (x6.2.1.1 != 0) ((k4 (z1.2.1, (z1.2.2.1, ()))))
      (
      W.join (fun (z37 : Bool × List (Int) × Unit) => 
       W.join (fun (z38 : Bool × List (Int) × Unit) => 
        W.loop (fun (z39 : Int × Bool × List (Int) × Unit) again40 => 
         W.cnd (decide (z39.1 < (x6.2.1.2.2.2.1.length : Int))) (
          W.join (fun (z41 : Bool × List (Int) × Unit) => (again40 ((IntKind.i64.wrap (z39.1 + 1)), (z41.1, (z41.2.1, ())))))
           fun k42 => 
           W.cnd (asset == 0) (W.idx x6.2.1.2.2.2.1 z39.1 fun x43 => W.both (W.call (ref01_Of x43.2.1) fun v44 => W.call (ref01_Sub (z39.2.1, (z39.2.2.1, ())) (v44.1, (v44.2.1, ()))) fun v45 => (k42 (v45.1, (v45.2.1, ())))) (W.call (ref01_Of x43.2.1) fun v46 => W.call (ref01_Sub (z39.2.1, (z39.2.2.1, ())) (v46.1, (v46.2.1, ()))) fun v47 => (k42 (v47.1, (v47.2.1, ())))))
            (W.idx x6.2.1.2.2.2.1 z39.1 fun x48 => W.both (W.call (ref18_Sum x48.2.2.1 asset) fun v49 => W.call (ref01_Sub (z39.2.1, (z39.2.2.1, ())) (v49.1, (v49.2.1, ()))) fun v50 => (k42 (v50.1, (v50.2.1, ())))) (W.call (ref18_Sum x48.2.2.1 asset) fun v51 => W.call (ref01_Sub (z39.2.1, (z39.2.2.1, ())) (v51.1, (v51.2.1, ()))) fun v52 => (k42 (v52.1, (v52.2.1, ()))))))
          ((k4 (z39.2.1, (z39.2.2.1, ())))))
         (0, (z38.1, (z38.2.1, ()))))
        fun k53 => 
        W.join (fun (z54 : Bool × Unit) => 
         W.cnd z54.1 (W.both (W.call (ref01_Of x5.1.2.2.2.2.2.2.2.2.2.1) fun v55 => W.call (ref01_Sub (z37.1, (z37.2.1, ())) (v55.1, (v55.2.1, ()))) fun v56 => (k53 (v56.1, (v56.2.1, ())))) (W.call (ref01_Of x5.1.2.2.2.2.2.2.2.2.2.1) fun v57 => W.call (ref01_Sub (z37.1, (z37.2.1, ())) (v57.1, (v57.2.1, ()))) fun v58 => (k53 (v58.1, (v58.2.1, ())))))
          ((k53 (z37.1, (z37.2.1, ())))))
         fun k59 => 
         W.cnd (x5.1.2.2.2.2.2.2.1 == asset) ((k59 ((x5.1.1 == 18), ())))
          ((k59 (false, ()))))
       fun k60 => 
       W.join (fun (z61 : Bool × Unit) => 
        W.cnd z61.1 (W.both (W.call (ref01_Of x5.1.2.2.2.2.2.2.2.2.2.1) fun v62 => W.call (ref01_Add (z1.2.1, (z1.2.2.1, ())) (v62.1, (v62.2.1, ()))) fun v63 => (k60 (v63.1, (v63.2.1, ())))) (W.call (ref01_Of x5.1.2.2.2.2.2.2.2.2.2.1) fun v64 => W.call (ref01_Add (z1.2.1, (z1.2.2.1, ())) (v64.1, (v64.2.1, ()))) fun v65 => (k60 (v65.1, (v65.2.1, ())))))
         ((k60 (z1.2.1, (z1.2.2.1, ())))))
        fun k66 => 
        W.cnd (x5.1.2.2.2.2.2.2.1 == asset) ((k66 ((x5.1.1 == 17), ())))
         ((k66 (false, ()))))))
   (some (z1.2.1, (z1.2.2.1, ()))))
  (0, (false, ([], ())))
noncomputable def ref39_Sum (l : List ADone') (asset : Int) : Option PackWriter' := ref39_SumW stdW l asset
noncomputable def ref39_Sum_s : ES := ⟨(.pair (.slc tADone) (.pair (.int .i64) .unit)), (.v tPackWriter), fun x => ref39_Sum x.1 x.2.1⟩
theorem ref39_Sum_ok : ECok Try.prog 51 (.es ref39_Sum_s)   := es_ok (A := (.pair (.slc tADone) (.pair (.int .i64) .unit))) (Q := (.v tPackWriter)) (fun W x => ref39_SumW W x.1 x.2.1) [(103, .es ref01_Of_s), (99, .es ref01_Add_s), (104, .es ref01_Sub_s), (112, .es ref18_Sum_s)] ⟨ref01_Of_ok, ref01_Add_ok, ref01_Sub_ok, ref18_Sum_ok, trivial⟩ [(5, [], (.rd 0 (.rd 1 (.rd 2 (.rd 3 (.rd 4 (.rd 5 (.rd 6 (.rd 7 (.rd 8 (.rd 9 (.two 10 11 (ofL [(11, false), (12, false), (13, false)]) (ofL [(10, false), (12, false), (13, false)]))))))))))))), (8, [1], (.rd 1 (.rd 2 (.two 0 3 (ofL [(3, false), (4, false), (5, false)]) (ofL [(0, false), (4, false), (5, false)]))))), (10, [1], (.rd 1 (.rd 2 (.two 0 3 (ofL [(3, false), (4, false), (5, false)]) (ofL [(0, false), (4, false), (5, false)]))))), (15, [1], (.rd 1 (.rd 2 (.rd 3 (.rd 4 (.rd 5 (.rd 6 (.two 0 7 (ofL [(7, false), (8, false), (9, false)]) (ofL [(0, false), (8, false), (9, false)]))))))))), (16, [1], (.rd 1 (.rd 2 (.rd 3 (.rd 4 (.rd 5 (.rd 6 (.rd 7 (.two 0 8 (ofL [(8, false), (9, false), (10, false)]) (ofL [(0, false), (9, false), (10, false)]))))))))))] [(4, ⟨[], [(1, [.t .bool, .t (.slc (.int .u8))])], []⟩), (9, ⟨[], [(1, [.t .bool, .t (.slc (.int .u8))])], []⟩), (11, ⟨[], [(1, [.t .bool, .t (.slc (.int .u8))])], []⟩), (13, ⟨[], [(1, [.t .bool, .t (.slc (.int .u8))])], []⟩), (500038, ⟨[(38, .t .bool)], [], []⟩), (500052, ⟨[(52, .t .bool)], [], []⟩)] [(3, ⟨[(6, .t (.int .i64))], [(1, [.t .bool, .t (.slc (.int .u8))])], []⟩), (12, ⟨[(9, .t (.int .i64))], [(1, [.t .bool, .t (.slc (.int .u8))])], []⟩)] Try.func51 rfl (by decide +kernel) rfl rfl (fun W x => by kernel_rfl)
noncomputable def ref01_CmpW (W : Wd) (a : PackWriter') (b : PackWriter') : Option Int := W.call (ref01_Sub (a.1, (a.2.1, ())) (b.1, (b.2.1, ()))) fun v1 => 
 W.cnd ((v1.2.1.length : Int) == 0) (some 0)
  (
  W.cnd v1.1 (some (-1))
   (some 1))
noncomputable def ref01_Cmp (a : PackWriter') (b : PackWriter') : Option Int := ref01_CmpW stdW a b
noncomputable def ref01_Cmp_s : ES := ⟨(.pair tPackWriter (.pair tPackWriter .unit)), (.v (.int .i64)), fun x => ref01_Cmp x.1 x.2.1⟩
theorem ref01_Cmp_ok : ECok Try.prog 48 (.es ref01_Cmp_s)   := es_ok (A := (.pair tPackWriter (.pair tPackWriter .unit))) (Q := (.v (.int .i64))) (fun W x => ref01_CmpW W x.1 x.2.1) [(104, .es ref01_Sub_s)] ⟨ref01_Sub_ok, trivial⟩ [] [] [] Try.func48 rfl (by decide +kernel) rfl rfl (fun W x => by kernel_rfl)
noncomputable def ref31_SameDebitsW (W : Wd) (a : List ADebit') (b : List ADebit') : Option Bool := 
 W.cnd ((a.length : Int) != (b.length : Int)) (some false)
  (
  W.loop (fun (z1 : Int × Unit) again2 => 
   W.cnd (decide (z1.1 < (a.length : Int))) (W.idx a z1.1 fun x3 => W.idx b z1.1 fun x4 => 
    W.cnd (Go.Vc.notIf true ((x3.1.1 == x4.1.1) && ((x3.1.2.1 == x4.1.2.1) && ((x3.2.1.1 == x4.2.1.1) && ((x3.2.1.2.1 == x4.2.1.2.1) && (x3.2.2.1 == x4.2.2.1)))))) (some false)
     ((again2 ((IntKind.i64.wrap (z1.1 + 1)), ()))))
    (some true))
   (0, ()))
noncomputable def ref31_SameDebits (a : List ADebit') (b : List ADebit') : Option Bool := ref31_SameDebitsW stdW a b
noncomputable def ref31_SameDebits_s : ES := ⟨(.pair (.slc tADebit) (.pair (.slc tADebit) .unit)), (.v .bool), fun x => ref31_SameDebits x.1 x.2.1⟩
theorem ref31_SameDebits_ok : ECok Try.prog 54 (.es ref31_SameDebits_s)   := es_ok (A := (.pair (.slc tADebit) (.pair (.slc tADebit) .unit))) (Q := (.v .bool)) (fun W x => ref31_SameDebitsW W x.1 x.2.1) [] trivial [(6, [], (ofL [(0, true), (1, true), (2, true), (3, true), (4, true), (5, true), (6, true), (7, true), (8, true)]))] [] [(4, ⟨[(5, .t (.int .i64))], [], []⟩)] Try.func54 rfl (by decide +kernel) rfl rfl (fun W x => by kernel_rfl)
noncomputable def ref39_PortsW (W : Wd) (l : List ADone') : Option (List AChoice') := 
 W.loop (fun (z1 : Int × List ((Int × Int × Unit) × (Int × Int × Unit) × Bool × Unit) × Unit) again2 => 
  W.cnd (decide (z1.1 < (l.length : Int))) (
   W.join (fun (z3 : List ((Int × Int × Unit) × (Int × Int × Unit) × Bool × Unit) × Unit) => (again2 ((IntKind.i64.wrap (z1.1 + 1)), (z3.1, ()))))
    fun k4 => W.idx l z1.1 fun x5 => 
    W.join (fun (z6 : Bool × List ((Int × Int × Unit) × (Int × Int × Unit) × Bool × Unit) × Unit) => 
     W.cnd z6.1 (W.idx l z1.1 fun x7 => W.idx x5.2.1.2.1 0 fun x8 => W.idx x5.2.1.2.1 1 fun x9 => W.room (z6.2.1.length + ((x7.1.2.2.2.1, ((x8, (x9, ())), (true, ()))) :: []).length) 40 ((k4 ((z6.2.1 ++ ((x7.1.2.2.2.1, ((x8, (x9, ())), (true, ()))) :: [])), ()))))
      ((k4 (z6.2.1, ()))))
     fun k10 => W.idx l z1.1 fun x11 => 
     W.cnd (x11.2.1.1 == 0) (W.idx l z1.1 fun x12 => 
      W.cnd (x12.1.1 == 22) ((k10 (((x5.2.1.2.1.length : Int) == 2), (z1.2.1, ()))))
       ((k10 (false, (z1.2.1, ())))))
      ((k10 (false, (z1.2.1, ())))))
   (some z1.2.1))
  (0, ([], ()))
noncomputable def ref39_Ports (l : List ADone') : Option (List AChoice') := ref39_PortsW stdW l
noncomputable def ref39_Ports_s : ES := ⟨(.pair (.slc tADone) .unit), (.own 188 tAChoice), fun x => ref39_Ports x.1⟩
theorem ref39_Ports_ok : ECok Try.prog 59 (.es ref39_Ports_s)   := es_ok (A := (.pair (.slc tADone) .unit)) (Q := (.own 188 tAChoice)) (fun W x => ref39_PortsW W x.1) [] trivial [] [(4, ⟨[(3, .row 1)], [], [none, some (188, tAChoice)]⟩), (500039, ⟨[(3, .row 1), (39, .t .bool)], [], [none, some (188, tAChoice)]⟩)] [(3, ⟨[(3, .row 1), (4, .t (.int .i64))], [], [none, some (188, tAChoice)]⟩)] Try.func59 rfl (by decide +kernel) rfl rfl (fun W x => by kernel_rfl)
noncomputable def ref16_SameW (W : Wd) (a : List AChoice') (b : List AChoice') : Option Bool := 
 W.cnd ((a.length : Int) != (b.length : Int)) (some false)
  (
  W.loop (fun (z1 : Int × Unit) again2 => 
   W.cnd (decide (z1.1 < (a.length : Int))) (W.idx a z1.1 fun x3 => W.idx b z1.1 fun x4 => 
    W.cnd (Go.Vc.notIf true ((x3.1.1 == x4.1.1) && ((x3.1.2.1 == x4.1.2.1) && ((x3.2.1.1 == x4.2.1.1) && ((x3.2.1.2.1 == x4.2.1.2.1) && (x3.2.2.1 == x4.2.2.1)))))) (some false)
     ((again2 ((IntKind.i64.wrap (z1.1 + 1)), ()))))
    (some true))
   (0, ()))
noncomputable def ref16_Same (a : List AChoice') (b : List AChoice') : Option Bool := ref16_SameW stdW a b
noncomputable def ref16_Same_s : ES := ⟨(.pair (.slc tAChoice) (.pair (.slc tAChoice) .unit)), (.v .bool), fun x => ref16_Same x.1 x.2.1⟩
theorem ref16_Same_ok : ECok Try.prog 57 (.es ref16_Same_s)   := es_ok (A := (.pair (.slc tAChoice) (.pair (.slc tAChoice) .unit))) (Q := (.v .bool)) (fun W x => ref16_SameW W x.1 x.2.1) [] trivial [(6, [], (ofL [(0, true), (1, true), (2, true), (3, true), (4, true), (5, true), (6, true), (7, true), (8, true)]))] [] [(4, ⟨[(5, .t (.int .i64))], [], []⟩)] Try.func57 rfl (by decide +kernel) rfl rfl (fun W x => by kernel_rfl)
noncomputable def law39_livesW (W : Wd) : Option Bool := W.call (audit_Check (0, ([], ([], ([], ([], ([], ([], ([], ([], ([], ([], ([], ())))))))))))) (((17, (0, (0, ((0, (0, ())), ((0, (0, ())), (0, (0, (0, (0, (5, (0, ([], ())))))))))))), ((0, ([], ([], ([], ())))), ())) :: (((18, (0, (0, ((0, (0, ())), ((0, (0, ())), (0, (0, (0, (0, (2, (0, ([], ())))))))))))), ((0, ([], ([], ([], ())))), ())) :: (((17, (0, (0, ((0, (0, ())), ((0, (0, ())), (0, (0, (0, (0, (9, (0, ([], ())))))))))))), ((3, ([], ([], ([], ())))), ())) :: [])))) fun v1 => 
 W.cnd (v1 == 3) (W.call (audit_Sum (((17, (0, (0, ((0, (0, ())), ((0, (0, ())), (0, (0, (0, (0, (5, (0, ([], ())))))))))))), ((0, ([], ([], ([], ())))), ())) :: (((18, (0, (0, ((0, (0, ())), ((0, (0, ())), (0, (0, (0, (0, (2, (0, ([], ())))))))))))), ((0, ([], ([], ([], ())))), ())) :: (((17, (0, (0, ((0, (0, ())), ((0, (0, ())), (0, (0, (0, (0, (9, (0, ([], ())))))))))))), ((3, ([], ([], ([], ())))), ())) :: []))) 0) fun v2 => W.call (law39_big v2) fun v3 => W.call (ref01_Of 3) fun v4 => W.call (ref01_Cmp (v3.1, (v3.2.1, ())) (v4.1, (v4.2.1, ()))) fun v5 => some (v5 == 0))
  (some false)
noncomputable def law39_lives : Option Bool := law39_livesW stdW
noncomputable def law39_lives_s : ES := ⟨.unit, (.v .bool), fun x => law39_lives ⟩
theorem law39_lives_ok : ECok Try.prog 46 (.es law39_lives_s)   := es_ok (A := .unit) (Q := (.v .bool)) (fun W x => law39_livesW W ) [(44, .es audit_Check_s), (50, .es audit_Sum_s), (49, .es law39_big_s), (103, .es ref01_Of_s), (48, .es ref01_Cmp_s)] ⟨audit_Check_ok, audit_Sum_ok, law39_big_ok, ref01_Of_ok, ref01_Cmp_ok, trivial⟩ [] [] [] Try.func46 rfl (by decide +kernel) rfl rfl (fun W x => by kernel_rfl)
noncomputable def law39_AuditSumsW (W : Wd) (l : List ADone') (asset : Int) (u : AUnit') : Option Bool := W.call (law39_Few l) fun v1 => W.call (ref39_Paid v1 u) fun v2 => 
 W.join (fun (z3 : Bool × Unit) => 
  W.cnd z3.1 (some false)
   (W.call (audit_Debits v1) fun v4 => W.call (ref39_Debits v1) fun v5 => W.call (ref31_SameDebits v4 v5) fun v6 => 
   W.cnd v6 (W.call (audit_Ports v1) fun v7 => W.call (ref39_Ports v1) fun v8 => W.call (ref16_Same v7 v8) fun v9 => 
    W.cnd v9 (W.call (law39_lives) fun v10 => some v10)
     (some false))
    (some false)))
  fun k11 => W.call (audit_Sum v1 asset) fun v12 => W.call (law39_big v12) fun v13 => W.call (ref39_Sum v1 asset) fun v14 => W.call (ref01_Cmp (v13.1, (v13.2.1, ())) (v14.1, (v14.2.1, ()))) fun v15 => 
  W.cnd (v15 != 0) (W.both (W.both (W.both (W.both (W.both (W.both ((k11 (true, ()))) ((k11 (true, ())))) ((k11 (true, ())))) ((k11 (true, ())))) (W.both (W.both (W.both ((k11 (true, ()))) ((k11 (true, ())))) ((k11 (true, ())))) ((k11 (true, ()))))) (W.both (W.both (W.both ((k11 (true, ()))) ((k11 (true, ())))) ((k11 (true, ())))) ((k11 (true, ()))))) (W.both (W.both (W.both ((k11 (true, ()))) ((k11 (true, ())))) ((k11 (true, ())))) ((k11 (true, ())))))
   (W.both (W.both (W.call (audit_For v1 u) fun v16 => W.both (W.call (law39_big v16) fun v17 => W.call (ref01_Cmp (v17.1, (v17.2.1, ())) (v2.1.1, (v2.1.2.1, ()))) fun v18 => 
      W.cnd (v18 != 0) (W.both (W.both (W.both ((k11 (true, ()))) ((k11 (true, ())))) ((k11 (true, ())))) ((k11 (true, ()))))
       (W.both (W.both (W.call (audit_By v1 u) fun v19 => W.both (W.call (law39_big v19) fun v20 => W.call (ref01_Cmp (v20.1, (v20.2.1, ())) (v2.2.1.1, (v2.2.1.2.1, ()))) fun v21 => (k11 ((v21 != 0), ()))) (W.call (law39_big v19) fun v22 => W.call (ref01_Cmp (v22.1, (v22.2.1, ())) (v2.2.1.1, (v2.2.1.2.1, ()))) fun v23 => (k11 ((v23 != 0), ())))) (W.call (audit_By v1 u) fun v24 => W.call (law39_big v24) fun v25 => W.call (ref01_Cmp (v25.1, (v25.2.1, ())) (v2.2.1.1, (v2.2.1.2.1, ()))) fun v26 => (k11 ((v26 != 0), ())))) (W.call (audit_By v1 u) fun v27 => W.call (law39_big v27) fun v28 => W.call (ref01_Cmp (v28.1, (v28.2.1, ())) (v2.2.1.1, (v2.2.1.2.1, ()))) fun v29 => (k11 ((v29 != 0), ()))))) (W.call (law39_big v16) fun v30 => W.call (ref01_Cmp (v30.1, (v30.2.1, ())) (v2.1.1, (v2.1.2.1, ()))) fun v31 => 
      W.cnd (v31 != 0) (W.both (W.both (W.both ((k11 (true, ()))) ((k11 (true, ())))) ((k11 (true, ())))) ((k11 (true, ()))))
       (W.both (W.both (W.call (audit_By v1 u) fun v32 => W.both (W.call (law39_big v32) fun v33 => W.call (ref01_Cmp (v33.1, (v33.2.1, ())) (v2.2.1.1, (v2.2.1.2.1, ()))) fun v34 => (k11 ((v34 != 0), ()))) (W.call (law39_big v32) fun v35 => W.call (ref01_Cmp (v35.1, (v35.2.1, ())) (v2.2.1.1, (v2.2.1.2.1, ()))) fun v36 => (k11 ((v36 != 0), ())))) (W.call (audit_By v1 u) fun v37 => W.call (law39_big v37) fun v38 => W.call (ref01_Cmp (v38.1, (v38.2.1, ())) (v2.2.1.1, (v2.2.1.2.1, ()))) fun v39 => (k11 ((v39 != 0), ())))) (W.call (audit_By v1 u) fun v40 => W.call (law39_big v40) fun v41 => W.call (ref01_Cmp (v41.1, (v41.2.1, ())) (v2.2.1.1, (v2.2.1.2.1, ()))) fun v42 => (k11 ((v42 != 0), ())))))) (W.call (audit_For v1 u) fun v43 => W.call (law39_big v43) fun v44 => W.call (ref01_Cmp (v44.1, (v44.2.1, ())) (v2.1.1, (v2.1.2.1, ()))) fun v45 => 
     W.cnd (v45 != 0) (W.both (W.both (W.both ((k11 (true, ()))) ((k11 (true, ())))) ((k11 (true, ())))) ((k11 (true, ()))))
      (W.both (W.both (W.call (audit_By v1 u) fun v46 => W.both (W.call (law39_big v46) fun v47 => W.call (ref01_Cmp (v47.1, (v47.2.1, ())) (v2.2.1.1, (v2.2.1.2.1, ()))) fun v48 => (k11 ((v48 != 0), ()))) (W.call (law39_big v46) fun v49 => W.call (ref01_Cmp (v49.1, (v49.2.1, ())) (v2.2.1.1, (v2.2.1.2.1, ()))) fun v50 => (k11 ((v50 != 0), ())))) (W.call (audit_By v1 u) fun v51 => W.call (law39_big v51) fun v52 => W.call (ref01_Cmp (v52.1, (v52.2.1, ())) (v2.2.1.1, (v2.2.1.2.1, ()))) fun v53 => (k11 ((v53 != 0), ())))) (W.call (audit_By v1 u) fun v54 => W.call (law39_big v54) fun v55 => W.call (ref01_Cmp (v55.1, (v55.2.1, ())) (v2.2.1.1, (v2.2.1.2.1, ()))) fun v56 => (k11 ((v56 != 0), ())))))) (W.call (audit_For v1 u) fun v57 => W.call (law39_big v57) fun v58 => W.call (ref01_Cmp (v58.1, (v58.2.1, ())) (v2.1.1, (v2.1.2.1, ()))) fun v59 => 
    W.cnd (v59 != 0) (W.both (W.both (W.both ((k11 (true, ()))) ((k11 (true, ())))) ((k11 (true, ())))) ((k11 (true, ()))))
     (W.both (W.both (W.call (audit_By v1 u) fun v60 => W.both (W.call (law39_big v60) fun v61 => W.call (ref01_Cmp (v61.1, (v61.2.1, ())) (v2.2.1.1, (v2.2.1.2.1, ()))) fun v62 => (k11 ((v62 != 0), ()))) (W.call (law39_big v60) fun v63 => W.call (ref01_Cmp (v63.1, (v63.2.1, ())) (v2.2.1.1, (v2.2.1.2.1, ()))) fun v64 => (k11 ((v64 != 0), ())))) (W.call (audit_By v1 u) fun v65 => W.call (law39_big v65) fun v66 => W.call (ref01_Cmp (v66.1, (v66.2.1, ())) (v2.2.1.1, (v2.2.1.2.1, ()))) fun v67 => (k11 ((v67 != 0), ())))) (W.call (audit_By v1 u) fun v68 => W.call (law39_big v68) fun v69 => W.call (ref01_Cmp (v69.1, (v69.2.1, ())) (v2.2.1.1, (v2.2.1.2.1, ()))) fun v70 => (k11 ((v70 != 0), ()))))))
noncomputable def law39_AuditSums (l : List ADone') (asset : Int) (u : AUnit') : Option Bool := law39_AuditSumsW stdW l asset u
noncomputable def law39_AuditSums_s : ES := ⟨(.pair (.slc tADone) (.pair (.int .i64) (.pair tAUnit .unit))), (.v .bool), fun x => law39_AuditSums x.1 x.2.1 x.2.2.1⟩
theorem law39_AuditSums_ok : ECok Try.prog 10 (.es law39_AuditSums_s)   := es_ok (A := (.pair (.slc tADone) (.pair (.int .i64) (.pair tAUnit .unit)))) (Q := (.v .bool)) (fun W x => law39_AuditSumsW W x.1 x.2.1 x.2.2.1) [(43, .es law39_Few_s), (47, .es ref39_Paid_s), (50, .es audit_Sum_s), (49, .es law39_big_s), (51, .es ref39_Sum_s), (48, .es ref01_Cmp_s), (52, .es audit_For_s), (53, .es audit_By_s), (55, .es audit_Debits_s), (56, .es ref39_Debits_s), (54, .es ref31_SameDebits_s), (58, .es audit_Ports_s), (59, .es ref39_Ports_s), (57, .es ref16_Same_s), (46, .es law39_lives_s)] ⟨law39_Few_ok, ref39_Paid_ok, audit_Sum_ok, law39_big_ok, ref39_Sum_ok, ref01_Cmp_ok, audit_For_ok, audit_By_ok, audit_Debits_ok, ref39_Debits_ok, ref31_SameDebits_ok, audit_Ports_ok, ref39_Ports_ok, ref16_Same_ok, law39_lives_ok, trivial⟩ [(3, [], (.rd 0 (.rd 1 (.rd 4 (.rd 5 (.op 2 (.op 3 (.op 6 (.op 7 (.rd 8 (.rd 9 (.rd 10 (.two 11 14 (.two 12 14 (.two 13 14 (.op 14 (.op 15 (.rd 16 (.rd 17 (.rd 18 (.rd 19 (.two 20 23 (.two 21 23 (.two 22 23 (ofL [(23, false), (24, false), (25, true), (26, true)]) (ofL [(22, false), (24, false), (25, true), (26, true)])) (ofL [(21, false), (22, false), (24, false), (25, true), (26, true)])) (ofL [(20, false), (21, false), (22, false), (24, false), (25, true), (26, true)])))))))) (.op 13 (.op 15 (.rd 16 (.rd 17 (.rd 18 (.rd 19 (.two 20 23 (.two 21 23 (.two 22 23 (ofL [(23, false), (24, false), (25, true), (26, true)]) (ofL [(22, false), (24, false), (25, true), (26, true)])) (ofL [(21, false), (22, false), (24, false), (25, true), (26, true)])) (ofL [(20, false), (21, false), (22, false), (24, false), (25, true), (26, true)]))))))))) (.op 12 (.op 13 (.op 15 (.rd 16 (.rd 17 (.rd 18 (.rd 19 (.two 20 23 (.two 21 23 (.two 22 23 (ofL [(23, false), (24, false), (25, true), (26, true)]) (ofL [(22, false), (24, false), (25, true), (26, true)])) (ofL [(21, false), (22, false), (24, false), (25, true), (26, true)])) (ofL [(20, false), (21, false), (22, false), (24, false), (25, true), (26, true)])))))))))) (.op 11 (.op 12 (.op 13 (.op 15 (.rd 16 (.rd 17 (.rd 18 (.rd 19 (.two 20 23 (.two 21 23 (.two 22 23 (ofL [(23, false), (24, false), (25, true), (26, true)]) (ofL [(22, false), (24, false), (25, true), (26, true)])) (ofL [(21, false), (22, false), (24, false), (25, true), (26, true)])) (ofL [(20, false), (21, false), (22, false), (24, false), (25, true), (26, true)])))))))))))))))))))))))] [(500043, ⟨[(43, .t .bool)], [], []⟩)] [] Try.func10 rfl (by decide +kernel) rfl rfl (fun W x => by kernel_rfl)
end Go.Proofs.Ytnldhkhnfodplaa

namespace Go.Proofs.Ytnldhkhnfodplaa
open Go Go.Vc Go.RowKit
theorem r_nat (u : Nat) (hu : u < 18446744073709551616) : ref01_Nat (u : Int) = some (bigS false u) := nat_is u hu
theorem r_plus {xs ys : List Int} (hx : Nrm xs) (hy : Nrm ys) (lx : xs.length ≤ 1000) (ly : ys.length ≤ 1000) : ref01_plus xs ys = some (bitsOf (valB xs + valB ys)) := plus_is hx hy lx ly
theorem r_less {xs ys : List Int} (hx : Nrm xs) (hy : Nrm ys) (lx : xs.length ≤ 1000) (ly : ys.length ≤ 1000) : ref01_less xs ys = some (decide (valB xs < valB ys)) := less_is hx hy lx ly
theorem r_minus {xs ys : List Int} (hx : Nrm xs) (hy : Nrm ys) (lx : xs.length ≤ 1000) (hle : valB ys ≤ valB xs) : ref01_minus xs ys = some (bitsK xs.length (valB xs - valB ys)) := minus_is hx hy lx hle
theorem r_trim {g : Bool} {xs : List Int} (h : bitL xs) (lx : xs.length ≤ 1000) : ref01_trim g xs = some (bigS g (valB xs)) := trim_is h lx
end Go.Proofs.Ytnldhkhnfodplaa

namespace Go.Proofs.Ytnldhkhnfodplaa
open Go Go.Vc Go.RowKit
theorem bits_len_le {n k K : Nat} (h : n < 2 ^ k) (hk : k ≤ K) : (bitsOf n).length ≤ K := Nat.le_trans (bits_len k n h) hk
theorem pw {a b k : Nat} (ha : a < 2 ^ k) (hb : b < 2 ^ k) : a + b < 2 ^ (k + 1) := by rw [Nat.pow_succ]; omega
theorem call_eq {α β : Type} {o : Option α} {a : α} (h : o = some a) (K : α → Option β) : stdW.call o K = K a := by subst h; rfl
theorem valB_lt' {xs : List Int} (h : Nrm xs) {k : Nat} (hl : xs.length ≤ k) : valB xs < 2 ^ k := Nat.lt_of_lt_of_le (valB_lt xs h.bits) (Nat.pow_le_pow_right (by omega) hl)
theorem sum_len {a b : List Int} (ha : Nrm a) (hb : Nrm b) {k : Nat} (la : a.length ≤ k) (lb : b.length ≤ k) : (bitsOf (valB a + valB b)).length ≤ k + 1 := bits_len_le (pw (valB_lt' ha la) (valB_lt' hb lb)) (Nat.le_refl _)
theorem r_add {x y : BigT} (hx : Nb x) (hy : Nb y) (lx : x.2.1.length ≤ 900) (ly : y.2.1.length ≤ 900) : ref01_Add x y = some (big (bv x + bv y)) := by
  show ref01_AddW stdW x y = _
  have nx := nb_nrm hx
  have ny := nb_nrm hy
  unfold ref01_AddW
  have eta : ∀ z : BigT, (some (z.1, (z.2.1, ())) : Option BigT) = some z := fun z => rfl
  by_cases h : x.1 = y.1
  · have e : notIf false (x.1 == y.1) = true := by simp [notIf, h]
    have hs : (bitsOf (valB x.2.1 + valB y.2.1)).length ≤ 1000 := Nat.le_trans (sum_len nx ny lx ly) (by omega)
    rw [e]
    show (stdW.call _ _ : Option BigT) = _
    rw [call_eq (r_plus nx ny (by omega) (by omega)), call_eq (r_trim (bitL_bits _) hs), eta, add_same h]
  · have e : notIf false (x.1 == y.1) = false := by simp [notIf, h]
    rw [e]
    show (stdW.call _ _ : Option BigT) = _
    rw [call_eq (r_less nx ny (by omega) (by omega))]
    by_cases hl : valB x.2.1 < valB y.2.1
    · rw [decide_eq_true hl]
      show (stdW.call _ _ : Option BigT) = _
      rw [call_eq (r_minus ny nx (by omega) (by omega)), call_eq (r_trim (bitL_K _ _) (by rw [len_K]; omega)), eta, add_less ny h hl]
    · rw [decide_eq_false hl]
      show (stdW.call _ _ : Option BigT) = _
      rw [call_eq (r_minus nx ny (by omega) (by omega)), call_eq (r_trim (bitL_K _ _) (by rw [len_K]; omega)), eta, add_more nx h hl]
end Go.Proofs.Ytnldhkhnfodplaa

namespace Go.Vc
open Go Go.RowKit
variable {β : Type}
/-! ### loops over a list -/
theorem loop_list {α S : Type} {l : List α} (hl : l.length ≤ 9223372036854775807) {f : Int × S → (Int × S → Option β) → Option β} (Inv : Nat → S → Prop) (g : List α → S → Option β) {s0 : S} (h0 : Inv 0 s0)
    (hend : ∀ s (again : Int × S → Option β), Inv l.length s → f ((l.length : Int), s) again = g [] s)
    (hstep : ∀ i (h : i < l.length) s, Inv i s → ∀ again : Int × S → Option β, (∀ s', Inv (i + 1) s' → again (((i + 1 : Nat) : Int), s') = g (l.drop (i + 1)) s') → f ((i : Int), s) again = g (l[i] :: l.drop (i + 1)) s) :
    stdW.loop f (0, s0) = g l s0 := by
  refine (loop_std (fun z => (l.length + 1) - z.1.toNat) (fun z => ∃ i : Nat, z.1 = (i : Int) ∧ i ≤ l.length ∧ Inv i z.2) (fun z => g (l.drop z.1.toNat) z.2) ⟨0, rfl, by omega, h0⟩ (by show l.length + 1 - 0 < _; omega) ?_).trans ?_
  · rintro ⟨z, s⟩ ⟨i, hi, hle, hs⟩ again ha
    dsimp only at hi hs
    subst hi
    simp only [Int.toNat_natCast]
    by_cases h : i < l.length
    · rw [drop_cons' l i h]
      refine hstep i h s hs again fun s' hs' => ?_
      have := ha (((i + 1 : Nat) : Int), s') ⟨i + 1, rfl, by omega, hs'⟩ (by simp only [Int.toNat_natCast]; omega)
      simpa only [Int.toNat_natCast] using this
    · obtain rfl : i = l.length := by omega
      rw [List.drop_length]
      exact hend s again hs
  · simp
theorem cnd_lt {i n : Nat} (h : i < n) (a b : Option β) : stdW.cnd (decide ((i : Int) < (n : Int))) a b = a := by rw [decide_eq_true (by omega)]; rfl
theorem cnd_end {n : Nat} (a b : Option β) : stdW.cnd (decide ((n : Int) < (n : Int))) a b = b := by rw [decide_eq_false (by omega)]; rfl
theorem cnd_p {p : Prop} [Decidable p] (a b : Option β) : stdW.cnd (decide p) a b = if p then a else b := by by_cases h : p <;> simp [h]
theorem cnd_b {c : Bool} (a b : Option β) : stdW.cnd c a b = if c = true then a else b := by cases c <;> rfl
theorem cnd_y {c : Bool} (h : c = true) (a b : Option β) : stdW.cnd c a b = a := by subst h; rfl
theorem cnd_n {c : Bool} (h : c = false) (a b : Option β) : stdW.cnd c a b = b := by subst h; rfl
theorem idx_w {α : Type} {l : List α} {i : Nat} (h : i < l.length) (K : α → Option β) : stdW.idx l (i : Int) K = K l[i] := idx_eq h K
theorem nth_w {α : Type} {l : List α} {i : Nat} (h : i < l.length) (K : α → Option β) : stdW.nth l (Int.toNat (i : Int)) K = K l[i] := by
  show idxR l _ K = _
  unfold idxR
  rw [Int.toNat_natCast, List.getElem?_eq_getElem h]
theorem room_w {n b : Nat} (h : n ≤ 281474976710656) (h2 : n * b ≤ 140737488355328) (K : Option β) : stdW.room n b K = K := room_eq h h2 K
theorem nn_w {b : Int} (h : 0 ≤ b) (K : Option β) : stdW.nn b K = K := nn_eq h K
theorem both_w (a : Option β) : stdW.both a a = a := both_eq a
theorem join_w {X : Type} (k : X → Option β) (f : (X → Option β) → Option β) : stdW.join k f = f k := rfl
theorem bnd_w {i : Int} {n : Nat} (h : 0 ≤ i) (h2 : i ≤ n) (K : Nat → Option β) : stdW.bnd i n K = K i.toNat := bnd_eq h h2 K
theorem i64_s (i : Nat) (h : i < 9223372036854775807) : IntKind.i64.wrap ((i : Int) + 1) = ((i + 1 : Nat) : Int) := i64_succ i h
end Go.Vc
namespace Go.Vc
variable {β : Type}
/-- a loop that counts up to N -/
theorem loop_n {S : Type} {N : Nat} (hN : N < 9223372036854775807) {f : Int × S → (Int × S → Option β) → Option β} (Inv : Nat → S → Prop) (r : Option β) {s0 : S} (h0 : Inv 0 s0)
    (hend : ∀ s (again : Int × S → Option β), Inv N s → f (((N : Nat) : Int), s) again = r)
    (hstep : ∀ i, i < N → ∀ s, Inv i s → ∀ again : Int × S → Option β, (∀ s', Inv (i + 1) s' → again (((i + 1 : Nat) : Int), s') = r) → f ((i : Int), s) again = r) :
    stdW.loop f (0, s0) = r := by
  refine (loop_std (fun z => (N + 1) - z.1.toNat) (fun z => ∃ i : Nat, z.1 = (i : Int) ∧ i ≤ N ∧ Inv i z.2) (fun _ => r) ⟨0, rfl, by omega, h0⟩ (by show N + 1 - 0 < _; omega) ?_)
  rintro ⟨z, s⟩ ⟨i, hi, hle, hs⟩ again ha
  dsimp only at hi hs
  subst hi
  by_cases h : i < N
  · refine hstep i h s hs again fun s' hs' => ?_
    exact ha (((i + 1 : Nat) : Int), s') ⟨i + 1, rfl, by omega, hs'⟩ (by simp only [Int.toNat_natCast]; omega)
  · obtain rfl : i = N := by omega
    exact hend s again hs
/-! ### sums -/
def sumBy {α : Type} (f : α → Int) (l : List α) : Int := (l.map f).sum
theorem sumBy_nil {α : Type} (f : α → Int) : sumBy f [] = 0 := rfl
theorem sumBy_cons {α : Type} (f : α → Int) (x : α) (l : List α) : sumBy f (x :: l) = f x + sumBy f l := by simp [sumBy]
theorem sumBy_app {α : Type} (f : α → Int) (a b : List α) : sumBy f (a ++ b) = sumBy f a + sumBy f b := by simp [sumBy]
theorem sumBy_take {α : Type} (f : α → Int) (l : List α) (i : Nat) (h : i < l.length) : sumBy f (l.take (i + 1)) = sumBy f (l.take i) + f l[i] := by
  rw [show l.take (i + 1) = l.take i ++ [l[i]] by simp, sumBy_app, sumBy_cons, sumBy_nil]; omega
theorem sumBy_in {α : Type} {f : α → Int} {B : Int} : ∀ {l : List α}, (∀ x ∈ l, -B ≤ f x ∧ f x ≤ B) → -(B * (l.length : Int)) ≤ sumBy f l ∧ sumBy f l ≤ B * (l.length : Int)
  | [], _ => by simp [sumBy]
  | x :: l, h => by
    have h1 := h x (by simp)
    have h2 := sumBy_in (l := l) fun w hw => h w (by simp [hw])
    rw [sumBy_cons, List.length_cons, Int.natCast_add, Int.mul_add]
    omega
theorem sumBy_filter {α : Type} (f : α → Int) (p : α → Bool) : ∀ (l : List α), sumBy f (l.filter p) = sumBy (fun x => if p x = true then f x else 0) l
  | [] => rfl
  | x :: l => by
    rw [sumBy_cons, ← sumBy_filter f p l]
    by_cases h : p x = true
    · rw [List.filter_cons_of_pos h, sumBy_cons, if_pos h]
    · rw [List.filter_cons_of_neg h, if_neg h]; omega
theorem filter_take {α : Type} (p : α → Bool) (l : List α) (i : Nat) (h : i < l.length) : (l.take (i + 1)).filter p = (l.take i).filter p ++ (if p l[i] = true then [l[i]] else []) := by
  rw [show l.take (i + 1) = l.take i ++ [l[i]] by simp, List.filter_append]
  congr 1
  by_cases hp : p l[i] = true <;> simp [hp]
end Go.Vc

namespace Go.Proofs.Ytnldhkhnfodplaa
open Go Go.Vc Go.RowKit
/-! ### numbers of 128 bits, by their values -/
def wv (w : WideWide') : Int := w.1 * 18446744073709551616 + w.2.1
def wOk (w : WideWide') : Prop := (-9223372036854775808 ≤ w.1 ∧ w.1 ≤ 9223372036854775807) ∧ (0 ≤ w.2.1 ∧ w.2.1 < 18446744073709551616)
def wide (z : Int) : WideWide' := (z / 18446744073709551616, z % 18446744073709551616, ())
def In128 (z : Int) : Prop := -170141183460469231731687303715884105728 ≤ z ∧ z < 170141183460469231731687303715884105728
instance (z : Int) : Decidable (In128 z) := by unfold In128; infer_instance
theorem wv_wide (z : Int) : wv (wide z) = z := by unfold wide wv; simp only; omega
theorem wide_wv (w : WideWide') (h : wOk w) : wide (wv w) = w := by
  obtain ⟨hi, lo, ⟨⟩⟩ := w
  unfold wOk at h
  unfold wide wv
  simp only at h ⊢
  have e1 : (hi * 18446744073709551616 + lo) / 18446744073709551616 = hi := by omega
  have e2 : (hi * 18446744073709551616 + lo) % 18446744073709551616 = lo := by omega
  rw [e1, e2]
theorem wv_in (w : WideWide') (h : wOk w) : In128 (wv w) := by unfold wOk at h; unfold In128 wv; omega
theorem wide_ok (z : Int) (h : In128 z) : wOk (wide z) := by unfold In128 at h; unfold wOk wide; simp only; omega
theorem wide_inj {a b : Int} (h : wide a = wide b) : a = b := by rw [← wv_wide a, h, wv_wide]
theorem shr63 (n : Int) (h : -9223372036854775808 ≤ n ∧ n ≤ 9223372036854775807) : n.fdiv (2 ^ min (Int.toNat 63) IntKind.i64.bits) = n / 18446744073709551616 := by
  have e : (2 : Int) ^ min (Int.toNat 63) IntKind.i64.bits = 9223372036854775808 := by decide +kernel
  rw [e, Int.fdiv_eq_ediv_of_nonneg _ (by omega)]; omega
def fit (z : Int) : WideWide' × Int × Unit := if In128 z then (wide z, 0, ()) else ((0, 0, ()), 7, ())
def I64 (n : Int) : Prop := -9223372036854775808 ≤ n ∧ n ≤ 9223372036854775807
theorem i64_128 {n : Int} (h : I64 n) : In128 n := by unfold I64 at h; unfold In128; omega
theorem r_wOf (n : Int) (h : I64 n) : wide_Of n = some (wide n) := by
  show wide_OfW stdW n = _
  unfold wide_OfW
  rw [nn_w (by omega), shr63 n h, IntKind.wrap_u64]; rfl
/-! a running sum -/
def totT (V : Int) : Int × Int × Int × Unit := (V / 340282366920938463463374607431768211456, IntKind.i64.wrap (V / 18446744073709551616), V % 18446744073709551616, ())
def InTot (V : Int) : Prop := -1569275433846670190958947355801916604025588861116008628224 ≤ V ∧ V < 1569275433846670190958947355801916604025588861116008628224
theorem wrap_wrap_u (z : Int) : IntKind.u64.wrap (IntKind.i64.wrap z) = z % 18446744073709551616 := by
  rw [IntKind.wrap_u64, IntKind.wrap_i64]; omega
theorem wrap_mod_i (z : Int) : IntKind.i64.wrap (z % 18446744073709551616) = IntKind.i64.wrap z := by
  rw [IntKind.wrap_i64, IntKind.wrap_i64]; omega
theorem tot_next (V x y : Int) (hV : InTot V) (hx : -9223372036854775808 ≤ x ∧ x ≤ 9223372036854775807) (hy : 0 ≤ y ∧ y < 18446744073709551616) :
    ((IntKind.i64.wrap (V / 340282366920938463463374607431768211456 + IntKind.i64.wrap (x.fdiv (2 ^ min (Int.toNat 63) IntKind.i64.bits) + IntKind.i64.wrap ((IntKind.u64.wrap (IntKind.i64.wrap (V / 18446744073709551616)) + IntKind.u64.wrap x + (V % 18446744073709551616 + y + 0) / 18446744073709551616) / 18446744073709551616))),
      IntKind.i64.wrap ((IntKind.u64.wrap (IntKind.i64.wrap (V / 18446744073709551616)) + IntKind.u64.wrap x + (V % 18446744073709551616 + y + 0) / 18446744073709551616) % 18446744073709551616),
      (V % 18446744073709551616 + y + 0) % 18446744073709551616, ()) : Int × Int × Int × Unit) = totT (V + (x * 18446744073709551616 + y)) := by
  unfold InTot at hV
  rw [wrap_wrap_u, wrap_mod_i, shr63 x hx, IntKind.wrap_u64]
  have e1 : (V + (x * 18446744073709551616 + y)) / 18446744073709551616 = V / 18446744073709551616 + x + (V % 18446744073709551616 + y + 0) / 18446744073709551616 := by omega
  have e0 : (V + (x * 18446744073709551616 + y)) / 340282366920938463463374607431768211456 = (V / 18446744073709551616 + x + (V % 18446744073709551616 + y + 0) / 18446744073709551616) / 18446744073709551616 := by omega
  have e3 : V / 340282366920938463463374607431768211456 = V / 18446744073709551616 / 18446744073709551616 := by omega
  unfold totT
  rw [e1, e0, e3]
  have hc : 0 ≤ (V % 18446744073709551616 + y + 0) / 18446744073709551616 ∧ (V % 18446744073709551616 + y + 0) / 18446744073709551616 ≤ 1 := by omega
  generalize (V % 18446744073709551616 + y + 0) / 18446744073709551616 = c at *
  have hu : -92233720368547758080000000000000000000 ≤ V / 18446744073709551616 ∧ V / 18446744073709551616 < 92233720368547758080000000000000000000 := by omega
  generalize V / 18446744073709551616 = u at *
  have f1 : (V + (x * 18446744073709551616 + y)) % 18446744073709551616 = (V % 18446744073709551616 + y + 0) % 18446744073709551616 := by omega
  rw [f1]
  have g2 : (u % 18446744073709551616 + x % 18446744073709551616 + c) / 18446744073709551616 ≤ 2 ∧ 0 ≤ (u % 18446744073709551616 + x % 18446744073709551616 + c) / 18446744073709551616 := by omega
  have g1 : IntKind.i64.wrap ((u % 18446744073709551616 + x % 18446744073709551616 + c) / 18446744073709551616) = (u % 18446744073709551616 + x % 18446744073709551616 + c) / 18446744073709551616 := IntWalk.i64_in _ (by omega)
  rw [g1]
  have g3 : IntKind.i64.wrap (x / 18446744073709551616 + (u % 18446744073709551616 + x % 18446744073709551616 + c) / 18446744073709551616) = x / 18446744073709551616 + (u % 18446744073709551616 + x % 18446744073709551616 + c) / 18446744073709551616 := IntWalk.i64_in _ (by omega)
  rw [g3]
  have g4 : u / 18446744073709551616 + (x / 18446744073709551616 + (u % 18446744073709551616 + x % 18446744073709551616 + c) / 18446744073709551616) = (u + x + c) / 18446744073709551616 := by omega
  rw [g4]
  have g5 : IntKind.i64.wrap ((u + x + c) / 18446744073709551616) = (u + x + c) / 18446744073709551616 := IntWalk.i64_in _ (by omega)
  rw [g5]
  have g6 : IntKind.i64.wrap (u % 18446744073709551616 + x % 18446744073709551616 + c) = IntKind.i64.wrap (u + x + c) := by rw [IntKind.wrap_i64, IntKind.wrap_i64]; omega
  rw [g6]
theorem add64_is {x y c : Int} (hx : 0 ≤ x) (hy : 0 ≤ y) (hc0 : 0 ≤ c) (hc : c ≤ 1) : add64 x y c = some ((x + y + c) % 18446744073709551616, (x + y + c) / 18446744073709551616, ()) := by unfold add64; rw [if_pos ⟨hx, hy, hc0, hc⟩]
theorem sub64_is {x y b : Int} (hx : 0 ≤ x) (hy : 0 ≤ y) (hy2 : y < 18446744073709551616) (hb0 : 0 ≤ b) (hb : b ≤ 1) : sub64 x y b = some ((x - y - b) % 18446744073709551616, if x < y + b then 1 else 0, ()) := by unfold sub64; rw [if_pos ⟨hx, hy, hy2, hb0, hb⟩]
theorem r_tadd (V : Int) (x : WideWide') (hV : InTot V) (hx : wOk x) : wide_total_add x (totT V).1 (totT V).2.1 (totT V).2.2.1 = some ((), totT (V + wv x)) := by
  unfold wOk at hx
  show wide_total_addW stdW x (V / 340282366920938463463374607431768211456) (IntKind.i64.wrap (V / 18446744073709551616)) (V % 18446744073709551616) = _
  unfold wide_total_addW wv
  rw [← tot_next V x.1 x.2.1 hV hx.1 hx.2]
  have hV' := hV
  unfold InTot at hV'
  rw [call_eq (add64_is (by omega) (by omega) (by omega) (by omega)), call_eq (add64_is (by rw [IntKind.wrap_u64]; omega) (by rw [IntKind.wrap_u64]; omega) (by show 0 ≤ (V % 18446744073709551616 + x.2.1 + 0) / 18446744073709551616; omega) (by show (V % 18446744073709551616 + x.2.1 + 0) / 18446744073709551616 ≤ 1; omega)), nn_w (by omega)]
theorem tot_fits (V : Int) (hV : InTot V) : (V / 340282366920938463463374607431768211456 == (IntKind.i64.wrap (V / 18446744073709551616)).fdiv (2 ^ min (Int.toNat 63) IntKind.i64.bits)) = decide (In128 V) := by
  have hr : -9223372036854775808 ≤ IntKind.i64.wrap (V / 18446744073709551616) ∧ IntKind.i64.wrap (V / 18446744073709551616) ≤ 9223372036854775807 := by
    rw [IntKind.wrap_i64]; omega
  rw [shr63 _ hr]
  unfold InTot at hV
  by_cases h : In128 V
  · rw [decide_eq_true h]
    unfold In128 at h
    rw [IntWalk.i64_in _ (by omega)]
    first | (simp; done) | (simp; omega) | skip
  · rw [decide_eq_false h]
    unfold In128 at h
    rw [IntKind.wrap_i64]
    simp; omega
theorem r_ranged (w : WideWide') (ok : Bool) : wide_ranged w ok = some (if ok = true then (w, 0, ()) else ((0, 0, ()), 7, ())) := by
  show wide_rangedW stdW w ok = _
  unfold wide_rangedW
  cases ok <;> rfl
theorem r_tdone (V : Int) (hV : InTot V) : wide_total_done (totT V).1 (totT V).2.1 (totT V).2.2.1 = some (fit V, totT V) := by
  show wide_total_doneW stdW _ _ _ = _
  unfold wide_total_doneW
  rw [nn_w (by omega), call_eq (r_ranged _ _)]
  have := tot_fits V hV
  show some ((if (V / 340282366920938463463374607431768211456 == (IntKind.i64.wrap (V / 18446744073709551616)).fdiv (2 ^ min (Int.toNat 63) IntKind.i64.bits)) = true then _ else _), _) = _
  rw [this]
  unfold fit
  by_cases h : In128 V
  · rw [if_pos (decide_eq_true h), if_pos h]
    have e : IntKind.i64.wrap (V / 18446744073709551616) = V / 18446744073709551616 := by unfold In128 at h; exact IntWalk.i64_in _ (by omega)
    show some (((IntKind.i64.wrap (V / 18446744073709551616), V % 18446744073709551616, ()), 0, ()), _) = _
    rw [e]; rfl
  · rw [decide_eq_false h, if_neg (by simp), if_neg h]
def sumW (l : List WideWide') : Int := (l.map wv).sum
theorem sumW_in : ∀ (l : List WideWide'), (∀ w ∈ l, wOk w) → -(170141183460469231731687303715884105728 * (l.length : Int)) ≤ sumW l ∧ sumW l ≤ 170141183460469231731687303715884105728 * (l.length : Int)
  | [], _ => by simp [sumW]
  | x :: l, h => by
    have h1 := wv_in x (h x (by simp))
    have h2 := sumW_in l fun w hw => h w (by simp [hw])
    unfold In128 at h1
    simp only [sumW, List.map_cons, List.sum_cons, List.length_cons] at h2 ⊢
    omega
theorem sumW_tot (l : List WideWide') (h : ∀ w ∈ l, wOk w) (hl : l.length < 9223372036854775807) : InTot (sumW l) := by
  have := sumW_in l h
  unfold InTot; omega
theorem sumW_app (a b : List WideWide') : sumW (a ++ b) = sumW a + sumW b := by unfold sumW; simp
theorem sumW_one (a : WideWide') : sumW [a] = wv a := by unfold sumW; simp
theorem sumW_take (l : List WideWide') (i : Nat) (h : i < l.length) : sumW (l.take (i + 1)) = sumW (l.take i) + wv l[i] := by
  rw [show l.take (i + 1) = l.take i ++ [l[i]] by simp, sumW_app, sumW_one]
theorem r_wAdd (l : List WideWide') (h : ∀ w ∈ l, wOk w) (hl : l.length < 9223372036854775807) : wide_Add l = some (fit (sumW l)) := by
  show wide_AddW stdW l = _
  unfold wide_AddW
  refine loop_list (l := l) (by omega) (fun i s => s = totT (sumW (l.take i))) (fun _ _ => some (fit (sumW l))) (by simp [sumW]; rfl) ?_ ?_
  · rintro _ again rfl
    rw [List.take_length, cnd_end, call_eq (r_tdone _ (sumW_tot l h hl))]
  · rintro i hi _ rfl again ha
    rw [cnd_lt hi, idx_w hi, call_eq (r_tadd _ _ (sumW_tot _ (fun w hw => h w (List.mem_of_mem_take hw)) (by rw [List.length_take]; omega)) (h _ (List.getElem_mem hi)))]
    dsimp only
    rw [i64_s i (by omega)]
    exact ha _ (by rw [sumW_take l i hi])
/-! sign -/
def szOf (z : Int) : WideSize' := (z / 18446744073709551616, z % 18446744073709551616, ())
def w128 (z : Int) : WideWide' := (IntKind.i64.wrap (z / 18446744073709551616), z % 18446744073709551616, ())
theorem w128_in (z : Int) (h : In128 z) : w128 z = wide z := by
  unfold In128 at h; unfold w128 wide; rw [IntWalk.i64_in _ (by omega)]
def absI (z : Int) : Int := if z < 0 then -z else z
theorem r_below (w : WideWide') : wide_Wide_below w = some (decide (w.1 < 0)) := rfl
theorem r_size (x : WideWide') (hx : wOk x) : wide_Wide_size x = some (szOf (absI (wv x))) := by
  unfold wOk at hx
  show wide_Wide_sizeW stdW x = _
  unfold wide_Wide_sizeW
  rw [call_eq (r_below _)]
  by_cases h : x.1 < 0
  · rw [cnd_n (by simp [h]), call_eq (sub64_is (by omega) (by omega) (by omega) (by omega) (by omega)), call_eq (sub64_is (by omega) (by rw [IntKind.wrap_u64]; omega) (by rw [IntKind.wrap_u64]; omega) (by dsimp only; split <;> omega) (by dsimp only; split <;> omega))]
    unfold szOf absI wv
    refine congrArg some (Prod.ext ?_ (Prod.ext ?_ rfl))
    · dsimp only; rw [IntKind.wrap_u64]; split <;> split <;> omega
    · dsimp only; split <;> omega
  · rw [cnd_y (by simp [h])]
    unfold szOf absI wv
    refine congrArg some (Prod.ext ?_ (Prod.ext ?_ rfl))
    · dsimp only; rw [IntKind.wrap_u64]; split <;> omega
    · dsimp only; split <;> omega
theorem lo_fits (z : Int) (hz : 0 ≤ z ∧ z < 340282366920938463463374607431768211456) (h : z / 18446744073709551616 = 9223372036854775808) : ((z % 18446744073709551616) == 0) = decide (In128 (-z)) := by
  by_cases h0 : z % 18446744073709551616 = 0
  · have : In128 (-z) := by unfold In128; omega
    rw [decide_eq_true this]; simp [h0]
  · have : ¬ In128 (-z) := by unfold In128; omega
    rw [decide_eq_false this]; simp [h0]
theorem signed_raw (hi lo : Int) (m : Bool) : wide_size_signed (hi, lo, ()) m = (
    stdW.cnd (!m) (some (((IntKind.i64.wrap hi), lo, ()), ((decide (hi < 9223372036854775808)), ())))
    (stdW.call (sub64 0 lo 0) fun v1 => stdW.call (sub64 0 hi v1.2.1) fun v2 =>
    stdW.cnd (decide (hi < 9223372036854775808)) (some (((IntKind.i64.wrap v2.1), (v1.1, ())), (true, ())))
     (
     stdW.cnd (hi == 9223372036854775808) (some (((IntKind.i64.wrap v2.1), (v1.1, ())), ((lo == 0), ())))
      (some (((IntKind.i64.wrap v2.1), (v1.1, ())), (false, ())))))) := rfl
theorem r_signed (z : Int) (m : Bool) (hz : 0 ≤ z ∧ z < 340282366920938463463374607431768211456) : wide_size_signed (szOf z) m = some (w128 (if m = true then -z else z), decide (In128 (if m = true then -z else z)), ()) := by
  unfold szOf
  rw [signed_raw]
  cases m
  · rw [cnd_y (by rfl)]
    simp only [Bool.false_eq_true, if_false]
    unfold w128
    congr 3
    unfold In128; apply decide_eq_decide.2; omega
  · rw [cnd_n (by rfl), call_eq (sub64_is (by omega) (by omega) (by omega) (by omega) (by omega)), call_eq (sub64_is (by omega) (by omega) (by omega) (by dsimp only; split <;> omega) (by dsimp only; split <;> omega))]
    have e : ((IntKind.i64.wrap ((0 - z / 18446744073709551616 - (if 0 < z % 18446744073709551616 + 0 then 1 else 0)) % 18446744073709551616), ((0 - z % 18446744073709551616 - 0) % 18446744073709551616, ())) : WideWide') = w128 (-z) := by
      rw [wrap_mod_i]; unfold w128
      refine Prod.ext ?_ (Prod.ext ?_ rfl)
      · dsimp only; congr 1; split <;> omega
      · dsimp only; omega
    show _ = some (w128 (-z), decide (In128 (-z)), ())
    rw [← e]
    by_cases h1 : z / 18446744073709551616 < 9223372036854775808
    · rw [cnd_y (decide_eq_true h1)]
      have : In128 (-z) := by unfold In128; omega
      rw [decide_eq_true this]
    · rw [cnd_n (decide_eq_false h1)]
      by_cases h2 : z / 18446744073709551616 = 9223372036854775808
      · rw [cnd_y (by simp [h2]), lo_fits z hz h2]
      · rw [cnd_n (by simp [h2])]
        have : ¬ In128 (-z) := by unfold In128; omega
        rw [decide_eq_false this]
theorem r_wNeg (x : WideWide') (hx : wOk x) : wide_Neg x = some (fit (-wv x)) := by
  show wide_NegW stdW x = _
  unfold wide_NegW
  have hv := wv_in x hx
  have ha : 0 ≤ absI (wv x) ∧ absI (wv x) < 340282366920938463463374607431768211456 := by unfold In128 at hv; unfold absI; split <;> omega
  rw [call_eq (r_size x hx), call_eq (r_below x), call_eq (r_signed _ _ ha), call_eq (r_ranged _ _)]
  have e : (if (!(decide (x.1 < 0))) = true then -absI (wv x) else absI (wv x)) = -wv x := by
    unfold wOk at hx
    by_cases h : x.1 < 0
    · simp only [h, decide_true, Bool.not_true, Bool.false_eq_true, if_false]; unfold absI wv; split <;> omega
    · simp only [h, decide_false, Bool.not_false, if_true]; unfold absI wv; split <;> omega
  dsimp only
  rw [e]
  unfold fit
  by_cases h : In128 (-wv x)
  · rw [if_pos (decide_eq_true h), if_pos h, w128_in _ h]
  · rw [decide_eq_false h, if_neg (by simp), if_neg h]
end Go.Proofs.Ytnldhkhnfodplaa

namespace Go.Proofs.Ytnldhkhnfodplaa
open Go Go.Vc Go.RowKit
/-! ### numbers without bounds: the reference's -/
theorem r_neg {a : BigT} (h : Nb a) (la : a.2.1.length ≤ 1000) : ref01_Neg a = some (big (-(bv a))) := by
  show ref01_NegW stdW a = _
  unfold ref01_NegW
  rw [call_eq (r_trim (nb_nrm h).bits la), neg_is]
theorem r_sub {a b : BigT} (ha : Nb a) (hb : Nb b) (la : a.2.1.length ≤ 900) (lb : b.2.1.length ≤ 900) : ref01_Sub a b = some (big (bv a - bv b)) := by
  show ref01_SubW stdW a b = _
  unfold ref01_SubW
  have e : ∀ z : BigT, (z.1, (z.2.1, ())) = z := fun z => rfl
  rw [e, e, call_eq (r_neg hb (by omega)), e, call_eq (r_add ha (nb_big _) la (by rw [neg_len hb]; exact lb)), e, bv_big]
  congr 2
theorem r_cmp {a b : BigT} (ha : Nb a) (hb : Nb b) (la : a.2.1.length ≤ 900) (lb : b.2.1.length ≤ 900) : ref01_Cmp a b = some (if bv a - bv b = 0 then 0 else if bv a - bv b < 0 then -1 else 1) := by
  show ref01_CmpW stdW a b = _
  unfold ref01_CmpW
  have e : ∀ z : BigT, (z.1, (z.2.1, ())) = z := fun z => rfl
  rw [e, e, call_eq (r_sub ha hb la lb)]
  by_cases h : bv a - bv b = 0
  · rw [cnd_y (by have := (big_len0 (bv a - bv b)).2 h; simp [this]), if_pos h]
  · rw [cnd_n (by have := mt (big_len0 (bv a - bv b)).1 h; simpa using this), if_neg h, cnd_b]
    show (if decide (bv a - bv b < 0) = true then _ else _) = _
    by_cases h2 : bv a - bv b < 0
    · rw [if_pos (by simpa using h2), if_pos h2]
    · rw [if_neg (by simpa using h2), if_neg h2]
theorem r_of {n : Int} (h : I64 n) : ref01_Of n = some (big n) := by
  show ref01_OfW stdW n = _
  unfold I64 at h
  unfold ref01_OfW
  by_cases h0 : 0 ≤ n
  · rw [cnd_y (decide_eq_true h0), u64_id n (by omega)]
    obtain ⟨m, rfl⟩ := Int.eq_ofNat_of_zero_le h0
    rw [call_eq (r_nat m (by omega)), bigS_f]
  · rw [cnd_n (decide_eq_false h0), of_neg (by omega) (by omega)]
    obtain ⟨m, hm⟩ := Int.eq_ofNat_of_zero_le (show 0 ≤ -(n + 1) by omega)
    rw [hm, call_eq (r_nat m (by omega))]
    have hl : (bitsOf m).length ≤ 1000 := bits_len_le (show m < 2 ^ 64 by omega) (by omega)
    show stdW.call (ref01_plus (bitsOf m) [1]) _ = _
    rw [call_eq (r_plus (nrm_bits m) nrm1 hl (by simp)), of_negB (by omega) (by omega) hm.symm]
    rfl
theorem big_dbl {z : Int} (h : z ≠ 0) : big (z * 2) = ((big z).1, 0 :: (big z).2.1, ()) := by
  unfold big
  rw [show (z * 2).natAbs = z.natAbs * 2 by omega, bitsS (show z.natAbs * 2 ≠ 0 by omega), show z.natAbs * 2 % 2 = 0 by omega, show z.natAbs * 2 / 2 = z.natAbs by omega]
  have : decide (z * 2 < 0) = decide (z < 0) := decide_eq_decide.2 (by omega)
  rw [this]; rfl
theorem pow_small {i : Nat} (h : i ≤ 64) : 2 ^ i ≤ 18446744073709551616 := Nat.le_trans (Nat.pow_le_pow_right (by omega) h) (by decide)
theorem len_big2 {z : Int} (h : -170141183460469231731687303715884105728 ≤ z ∧ z ≤ 170141183460469231731687303715884105728) : (big z).2.1.length ≤ 200 := by
  refine len_big z ?_
  have : (2 : Nat) ^ 200 = 1606938044258990275541962092341162602522202993782792835301376 := by decide
  omega
theorem len_big3 {z : Int} (h : -1606938044258990275541962092341162602522202993782792835301375 ≤ z ∧ z ≤ 1606938044258990275541962092341162602522202993782792835301375) : (big z).2.1.length ≤ 900 := by
  refine Nat.le_trans (len_big z ?_) (by decide)
  have : (2 : Nat) ^ 200 = 1606938044258990275541962092341162602522202993782792835301376 := by decide
  omega
theorem r_wide {hi lo : Int} (h : I64 hi) (h0 : 0 ≤ lo) (h1 : lo < 18446744073709551616) : ref01_Wide hi lo = some (big (hi * 18446744073709551616 + lo)) := by
  show ref01_WideW stdW hi lo = _
  unfold ref01_WideW
  rw [call_eq (r_of h)]
  have e : ∀ z : BigT, (z.1, (z.2.1, ())) = z := fun z => rfl
  obtain ⟨m, rfl⟩ := Int.eq_ofNat_of_zero_le h0
  unfold I64 at h
  have hb : ∀ i, i ≤ 64 → -170141183460469231731687303715884105728 ≤ hi * ((2 ^ i : Nat) : Int) ∧ hi * ((2 ^ i : Nat) : Int) ≤ 170141183460469231731687303715884105728 := by
    intro i hi'
    have hp := pow_small hi'
    have hp' : ((2 ^ i : Nat) : Int) ≤ 18446744073709551616 := Int.ofNat_le.2 hp
    have hp0 : (0 : Int) ≤ ((2 ^ i : Nat) : Int) := Int.natCast_nonneg _
    generalize ((2 ^ i : Nat) : Int) = p at *
    constructor
    · have := Int.mul_le_mul_of_nonneg_right (show -9223372036854775808 ≤ hi by omega) hp0
      omega
    · have := Int.mul_le_mul_of_nonneg_right (show hi ≤ 9223372036854775808 by omega) hp0
      omega
  have fin : ∀ z : BigT, z = big (hi * 18446744073709551616) → stdW.call (ref01_Nat (m : Int)) (fun v3 => stdW.call (ref01_Add (z.1, (z.2.1, ())) (v3.1, (v3.2.1, ()))) fun v4 => some ((v4.1, (v4.2.1, ())) : BigT)) = some (big (hi * 18446744073709551616 + m)) := by
    rintro _ rfl
    have h64 := hb 64 (by omega)
    rw [call_eq (r_nat m (by omega)), e, e, bigS_f, call_eq (r_add (nb_big _) (nb_big _) (Nat.le_trans (len_big2 (by simpa using h64)) (by decide)) (Nat.le_trans (len_big2 (by omega)) (by decide))), bv_big, bv_big]
  rw [join_w]
  refine loop_n (N := 64) (by omega) (fun i s => s = big (hi * ((2 ^ i : Nat) : Int))) (some (big (hi * 18446744073709551616 + m))) (by simp) ?_ ?_
  · rintro _ again rfl
    show stdW.cnd (decide ((64 : Int) < 64)) _ _ = _
    rw [cnd_n (by decide)]
    exact fin _ rfl
  · rintro i hi' _ rfl again ha
    rw [cnd_y (decide_eq_true (show (i : Int) < 64 by omega))]
    by_cases hz : hi = 0
    · subst hz
      have : (big (0 * ((2 ^ i : Nat) : Int))) = big (0 * 18446744073709551616) := by simp
      rw [this]
      rw [cnd_n (by simp [big, bits0])]
      exact fin _ rfl
    · have hz2 : hi * ((2 ^ i : Nat) : Int) ≠ 0 := Int.mul_ne_zero hz (by have := Nat.two_pow_pos i; omega)
      have hl : (big (hi * ((2 ^ i : Nat) : Int))).2.1.length ≤ 200 := len_big2 (hb i (by omega))
      rw [cnd_y (by have := mt (big_len0 (hi * ((2 ^ i : Nat) : Int))).1 hz2; simp only [decide_eq_true_eq]; omega)]
      rw [room_w (by simp) (by simp), room_w (by simp only [List.length_cons, List.length_nil]; omega) (by simp only [List.length_cons, List.length_nil]; omega), i64_s i (by omega)]
      refine ha _ ?_
      rw [Nat.pow_succ, Int.natCast_mul, ← Int.mul_assoc]
      exact (big_dbl hz2).symm
theorem r_big {w : WideWide'} (h : wOk w) : law39_big w = some (big (wv w)) := by
  show law39_bigW stdW w = _
  unfold law39_bigW
  unfold wOk at h
  rw [call_eq (r_wide h.1 h.2.1 h.2.2)]
  rfl
end Go.Proofs.Ytnldhkhnfodplaa

namespace Go.Proofs.Ytnldhkhnfodplaa
open Go Go.Vc Go.RowKit
/-! ### sums of lots, of a log -/
def lotZ (k : Int) (x : ALot') : Int := if x.1 = k then x.2.2.1 else 0
def sumL (k : Int) (l : List ALot') : Int := sumBy (lotZ k) l
def okLots (l : List ALot') : Prop := l.length ≤ 20 ∧ ∀ x ∈ l, I64 x.2.2.1
def okRet (r : AReturn') : Prop := I64 r.2.1 ∧ okLots r.2.2.1
abbrev qtyD (d : ADone') : Int := d.1.2.2.2.2.2.2.2.2.2.1
abbrev retD (d : ADone') : List AReturn' := d.2.1.2.2.2.1
abbrev debD (d : ADone') : List ADebit' := d.2.1.2.2.1
def okDebs (l : List ADebit') : Prop := ∀ x ∈ l, I64 x.2.2.1
def okDone (d : ADone') : Prop := I64 (qtyD d) ∧ ((retD d).length ≤ 10 ∧ ∀ r ∈ retD d, okRet r) ∧ ((debD d).length ≤ 20 ∧ okDebs (debD d))
def okLog (l : List ADone') : Prop := l.length ≤ 30 ∧ ∀ d ∈ l, okDone d
theorem fit_in {z : Int} (h : In128 z) : (fit z).1 = wide z := by unfold fit; rw [if_pos h]
theorem lotZ_in {k : Int} {x : ALot'} (h : I64 x.2.2.1) : -9223372036854775808 ≤ lotZ k x ∧ lotZ k x ≤ 9223372036854775808 := by unfold I64 at h; unfold lotZ; split <;> omega
theorem sumL_in {k : Int} {l : List ALot'} (h : okLots l) : -184467440737095516160 ≤ sumL k l ∧ sumL k l ≤ 184467440737095516160 := by
  have := sumBy_in (f := lotZ k) (B := 9223372036854775808) (l := l) fun x hx => lotZ_in (h.2 x hx)
  have h1 := h.1
  unfold sumL; omega
theorem sumW_snoc (ws : List WideWide') (z : Int) : sumW (ws ++ [wide z]) = sumW ws + z := by rw [sumW_app, sumW_one, wv_wide]
theorem oks_snoc {ws : List WideWide'} (h : ∀ w ∈ ws, wOk w) {z : Int} (hz : In128 z) : ∀ w ∈ ws ++ [wide z], wOk w := by
  intro w hw
  rcases List.mem_append.1 hw with hw | hw
  · exact h w hw
  · rw [List.mem_singleton.1 hw]; exact wide_ok z hz
theorem r_lotsSum {k : Int} {l : List ALot'} (h : okLots l) : lots_Sum l k = some (wide (sumL k l)) := by
  show lots_SumW stdW l k = _
  unfold lots_SumW
  have h1 := h.1
  refine loop_list (l := l) (by omega) (fun i s => ∃ ws : List WideWide', s = (ws, ()) ∧ (∀ w ∈ ws, wOk w) ∧ ws.length ≤ i ∧ sumW ws = sumBy (lotZ k) (l.take i)) (fun _ _ => some (wide (sumL k l))) ⟨[], rfl, by simp, by simp, rfl⟩ ?_ ?_
  · rintro _ again ⟨ws, rfl, hw, hl, hs⟩
    rw [List.take_length] at hs
    rw [cnd_end, call_eq (r_wAdd ws hw (by omega)), hs, fit_in (by have := sumL_in (k := k) h; unfold sumL at this; unfold In128; omega)]
    rfl
  · rintro i hi _ ⟨ws, rfl, hw, hl, hs⟩ again ha
    rw [cnd_lt hi, join_w, idx_w hi]
    have hx := h.2 _ (List.getElem_mem hi)
    by_cases hk : l[i].1 = k
    · rw [cnd_y (by simp [hk]), call_eq (r_wOf _ hx), room_w (by simp; omega) (by simp; omega)]
      dsimp only
      rw [i64_s i (by omega)]
      refine ha _ ⟨_, rfl, oks_snoc hw (i64_128 hx), by simp; omega, ?_⟩
      rw [sumW_snoc, sumBy_take _ _ _ hi, hs]
      unfold lotZ; rw [if_pos hk]
    · rw [cnd_n (by simp [hk])]
      dsimp only
      rw [i64_s i (by omega)]
      refine ha _ ⟨ws, rfl, hw, by omega, ?_⟩
      rw [sumBy_take _ _ _ hi, hs]
      unfold lotZ; rw [if_neg hk]; omega
def backZ (k : Int) (r : AReturn') : Int := if k = 0 then r.2.1 else sumL k r.2.2.1
theorem backZ_in {k : Int} {r : AReturn'} (h : okRet r) : -184467440737095516160 ≤ backZ k r ∧ backZ k r ≤ 184467440737095516160 := by
  have h1 := h.1
  unfold I64 at h1
  have h2 := sumL_in (k := k) h.2
  unfold backZ; split <;> omega
theorem r_back {k : Int} {r : AReturn'} (h : okRet r) : audit_back r k = some (wide (backZ k r)) := by
  show audit_backW stdW r k = _
  unfold audit_backW backZ
  by_cases hk : k = 0
  · rw [cnd_y (by simp [hk]), call_eq (r_wOf _ h.1), if_pos hk]
  · rw [cnd_n (by simp [hk]), call_eq (r_lotsSum h.2), if_neg hk]
def goodD (d : ADone') : Bool := d.2.1.1 == 0
theorem r_good {l : List ADone'} (h : l.length ≤ 30) : audit_good l = some (l.filter goodD) := by
  show audit_goodW stdW l = _
  unfold audit_goodW
  refine loop_list (l := l) (by omega) (fun i s => s = ((l.take i).filter goodD, ())) (fun _ _ => some (l.filter goodD)) rfl ?_ ?_
  · rintro _ again rfl
    rw [cnd_end, List.take_length]
  · rintro i hi _ rfl again ha
    have hl : ((l.take i).filter goodD).length ≤ 30 := Nat.le_trans (List.length_filter_le _ _) (by rw [List.length_take]; omega)
    rw [cnd_lt hi, join_w, idx_w hi]
    by_cases hk : l[i].2.1.1 = 0
    · rw [cnd_y (by simp [hk]), room_w (by simp; omega) (by simp; omega)]
      dsimp only
      rw [i64_s i (by omega)]
      refine ha _ ?_
      rw [filter_take _ _ _ hi, if_pos (show goodD l[i] = true by unfold goodD; simp [hk])]
    · rw [cnd_n (by simp [hk])]
      dsimp only
      rw [i64_s i (by omega)]
      refine ha _ ?_
      rw [filter_take _ _ _ hi, if_neg (show ¬ goodD l[i] = true by unfold goodD; simp [hk]), List.append_nil]
/-- what an entry adds to the sum of asset k -/
def opZ (k : Int) (d : ADone') : Int := if d.1.2.2.2.2.2.2.1 = k then (if d.1.1 = 17 then qtyD d else if d.1.1 = 18 then -qtyD d else 0) else 0
def doneZ (k : Int) (d : ADone') : Int := opZ k d - sumBy (backZ k) (retD d)
theorem opZ_in {k : Int} {d : ADone'} (h : okDone d) : -9223372036854775808 ≤ opZ k d ∧ opZ k d ≤ 9223372036854775808 := by
  have h1 := h.1
  unfold I64 at h1
  unfold opZ; split
  · split
    · omega
    · split <;> omega
  · omega
theorem sumR_in {k : Int} {d : ADone'} (h : okDone d) (i : Nat) : -1844674407370955161600 ≤ sumBy (backZ k) ((retD d).take i) ∧ sumBy (backZ k) ((retD d).take i) ≤ 1844674407370955161600 := by
  have := sumBy_in (f := backZ k) (B := 184467440737095516160) (l := (retD d).take i) fun x hx => backZ_in (h.2.1.2 x (List.mem_of_mem_take hx))
  have h1 := h.2.1.1
  have h2 : ((retD d).take i).length ≤ 10 := by rw [List.length_take]; omega
  omega
theorem sumR_in' {k : Int} {d : ADone'} (h : okDone d) : -1844674407370955161600 ≤ sumBy (backZ k) (retD d) ∧ sumBy (backZ k) (retD d) ≤ 1844674407370955161600 := by
  have := sumR_in (k := k) h (retD d).length
  rwa [List.take_length] at this
theorem doneZ_in {k : Int} {d : ADone'} (h : okDone d) : -2000000000000000000000 ≤ doneZ k d ∧ doneZ k d ≤ 2000000000000000000000 := by
  have := opZ_in (k := k) h
  have := sumR_in' (k := k) h
  unfold doneZ; omega
def sumZ (k : Int) (l : List ADone') : Int := sumBy (doneZ k) (l.filter goodD)
theorem sumZ_in {k : Int} {l : List ADone'} (h : okLog l) : -60000000000000000000000 ≤ sumZ k l ∧ sumZ k l ≤ 60000000000000000000000 := by
  have := sumBy_in (f := doneZ k) (B := 2000000000000000000000) (l := l.filter goodD) fun x hx => doneZ_in (h.2 x (List.mem_filter.1 hx).1)
  have h1 := h.1
  have h2 : (l.filter goodD).length ≤ l.length := List.length_filter_le _ _
  unfold sumZ; omega
theorem r_tplus {a b : List WideWide'} (h : b.length + a.length ≤ 1000000) : audit_tally_plus a b = some ((), b ++ a, ()) := by
  show audit_tally_plusW stdW a b = _
  unfold audit_tally_plusW
  rw [room_w (by omega) (by omega)]
theorem r_tless1 {z : Int} {b : List WideWide'} (h : b.length ≤ 1000000 - 1) (hz : In128 z) (hz2 : In128 (-z)) : audit_tally_less [wide z] b = some ((), b ++ [wide (-z)], ()) := by
  show audit_tally_lessW stdW [wide z] b = _
  unfold audit_tally_lessW
  refine loop_list (l := [wide z]) (by simp) (fun i s => s = (if i = 0 then b else b ++ [wide (-z)], ())) (fun _ _ => some ((), b ++ [wide (-z)], ())) rfl ?_ ?_
  · rintro _ again rfl
    rw [cnd_end]; rfl
  · rintro i hi _ rfl again ha
    obtain rfl : i = 0 := by simp at hi; exact hi
    rw [cnd_lt hi, idx_w hi]
    show stdW.call (wide_Neg (wide z)) _ = _
    rw [call_eq (r_wNeg _ (wide_ok z hz)), wv_wide, fit_in hz2]
    rw [call_eq (r_tplus (by simp; omega))]
    dsimp only
    rw [i64_s 0 (by omega)]
    exact ha _ rfl
theorem r_tdone2 {l : List WideWide'} (h : ∀ w ∈ l, wOk w) (hl : l.length ≤ 1000000) : audit_tally_done l = some ((fit (sumW l)).1, l, ()) := by
  show audit_tally_doneW stdW l = _
  unfold audit_tally_doneW
  rw [call_eq (r_wAdd l h (by omega))]
theorem neg128 {z : Int} (h : -184467440737095516160 ≤ z ∧ z ≤ 184467440737095516160) : In128 z ∧ In128 (-z) := by unfold In128; omega
theorem r_auditSum {k : Int} {l : List ADone'} (h : okLog l) : audit_Sum l k = some (wide (sumZ k l)) := by
  show audit_SumW stdW l k = _
  unfold audit_SumW
  have h30 := h.1
  rw [call_eq (r_good h30)]
  have hg : ∀ d ∈ l.filter goodD, okDone d := fun d hd => h.2 d (List.mem_filter.1 hd).1
  have hgl : (l.filter goodD).length ≤ 30 := Nat.le_trans (List.length_filter_le _ _) h30
  have hfin := sumZ_in (k := k) h
  unfold sumZ at hfin ⊢
  generalize l.filter goodD = v1 at *
  refine loop_list (l := v1) (by omega) (fun i s => ∃ ws : List WideWide', s = (v1, (ws, ())) ∧ (∀ w ∈ ws, wOk w) ∧ ws.length ≤ 11 * i ∧ sumW ws = sumBy (doneZ k) (v1.take i)) (fun _ _ => some (wide (sumBy (doneZ k) v1))) ⟨[], rfl, by simp, by simp, rfl⟩ ?_ ?_
  · rintro _ again ⟨ws, rfl, hw, hl, hs⟩
    rw [List.take_length] at hs
    rw [cnd_end, call_eq (r_tdone2 hw (by omega)), hs, fit_in (by unfold In128; omega)]
  · rintro i hi _ ⟨ws, rfl, hw, hl, hs⟩ again ha
    have hd := hg _ (List.getElem_mem hi)
    rw [cnd_lt hi, idx_w hi, nth_w hi, join_w]
    have go : ∀ vs : List WideWide', (∀ w ∈ vs, wOk w) → vs.length ≤ 11 * i + 1 → sumW vs = sumBy (doneZ k) (v1.take i) + opZ k v1[i] →
        stdW.loop (fun (z7 : Int × List ADone' × List WideWide' × Unit) again8 =>
          stdW.cnd (decide (z7.1 < (v1[i].2.1.2.2.2.1.length : Int))) (stdW.idx v1[i].2.1.2.2.2.1 z7.1 fun x9 => stdW.call (audit_back (x9.1, (x9.2.1, (x9.2.2.1, ()))) k) fun v10 => stdW.call (audit_tally_less (v10 :: []) z7.2.2.1) fun v11 => (again8 ((IntKind.i64.wrap (z7.1 + 1)), (z7.2.1, (v11.2.1, ())))))
            ((again ((IntKind.i64.wrap ((i : Int) + 1)), (z7.2.1, (z7.2.2.1, ()))))))
          (0, (v1, (vs, ()))) = some (wide (sumBy (doneZ k) v1)) := by
      intro vs hv hvl hvs
      have h10 := hd.2.1.1
      change (v1[i].2.1.2.2.2.1).length ≤ 10 at h10
      refine loop_list (l := v1[i].2.1.2.2.2.1) (by omega) (fun j s => ∃ us : List WideWide', s = (v1, (us, ())) ∧ (∀ w ∈ us, wOk w) ∧ us.length ≤ 11 * i + 1 + j ∧ sumW us = sumBy (doneZ k) (v1.take i) + opZ k v1[i] - sumBy (backZ k) (v1[i].2.1.2.2.2.1.take j)) (fun _ _ => some (wide (sumBy (doneZ k) v1))) ⟨vs, rfl, hv, by omega, by rw [hvs]; simp [sumBy]⟩ ?_ ?_
      · rintro _ again8 ⟨us, rfl, hu, hul, hus⟩
        rw [List.take_length] at hus
        rw [cnd_end, i64_s i (by omega)]
        refine ha _ ⟨us, rfl, hu, by omega, ?_⟩
        rw [hus, sumBy_take _ _ _ hi]
        unfold doneZ retD; omega
      · rintro j hj _ ⟨us, rfl, hu, hul, hus⟩ again8 ha8
        have hr := hd.2.1.2 _ (List.getElem_mem hj)
        have hb := neg128 (backZ_in (k := k) hr)
        rw [cnd_lt hj, idx_w hj, call_eq (r_back hr), call_eq (r_tless1 (b := us) (by omega) hb.1 hb.2)]
        dsimp only
        rw [i64_s j (by omega)]
        refine ha8 _ ⟨_, rfl, oks_snoc hu hb.2, by simp; omega, ?_⟩
        rw [sumW_snoc, hus, sumBy_take _ _ _ hj]
        omega
    have hq : I64 (qtyD v1[i]) := hd.1
    have hq2 : In128 (-(qtyD v1[i])) := by unfold I64 at hq; unfold In128; omega
    by_cases h1 : v1[i].1.2.2.2.2.2.2.1 = k
    · rw [cnd_n (by simp [h1])]
      by_cases h17 : v1[i].1.1 = 17
      · rw [cnd_y (by simp [h17]), call_eq (r_wOf _ hq), call_eq (r_tplus (b := ws) (by simp only [List.length_cons, List.length_nil]; omega))]
        refine go _ (oks_snoc hw (i64_128 hq)) (by simp; omega) ?_
        rw [sumW_snoc, hs]
        unfold opZ; rw [if_pos h1, if_pos h17]
      · rw [cnd_n (by simp [h17])]
        by_cases h18 : v1[i].1.1 = 18
        · rw [cnd_y (by simp [h18]), call_eq (r_wOf _ hq), call_eq (r_tless1 (b := ws) (by omega) (i64_128 hq) hq2)]
          refine go _ (oks_snoc hw hq2) (by simp; omega) ?_
          rw [sumW_snoc, hs]
          unfold opZ; rw [if_pos h1, if_neg h17, if_pos h18]
        · rw [cnd_n (by simp [h18])]
          refine go ws hw (by omega) ?_
          rw [hs]
          unfold opZ; rw [if_pos h1, if_neg h17, if_neg h18]; omega
    · rw [cnd_y (by simp [h1])]
      refine go ws hw (by omega) ?_
      rw [hs]
      unfold opZ; rw [if_neg h1]; omega
end Go.Proofs.Ytnldhkhnfodplaa

namespace Go.Proofs.Ytnldhkhnfodplaa
open Go Go.Vc Go.RowKit
/-! ### the reference's sums -/
theorem eta2 (z : BigT) : (z.1, (z.2.1, ())) = z := rfl
theorem r_refL {k : Int} {l : List ALot'} (h : okLots l) : ref18_Sum l k = some (big (sumL k l)) := by
  show ref18_SumW stdW l k = _
  unfold ref18_SumW
  have h1 := h.1
  have hb : ∀ i, -184467440737095516160 ≤ sumBy (lotZ k) (l.take i) ∧ sumBy (lotZ k) (l.take i) ≤ 184467440737095516160 := fun i =>
    sumL_in (k := k) (l := l.take i) ⟨by rw [List.length_take]; omega, fun x hx => h.2 x (List.mem_of_mem_take hx)⟩
  refine loop_list (l := l) (by omega) (fun i s => s = big (sumBy (lotZ k) (l.take i))) (fun _ _ => some (big (sumL k l))) (by simp [sumBy, big, bits0]) ?_ ?_
  · rintro _ again rfl
    rw [cnd_end, List.take_length]; rfl
  · rintro i hi _ rfl again ha
    rw [cnd_lt hi, join_w, idx_w hi]
    have hx := h.2 _ (List.getElem_mem hi)
    by_cases hk : l[i].1 = k
    · rw [cnd_y (by simp [hk]), idx_w hi, both_w, call_eq (r_of hx)]
      have hx' := hx
      unfold I64 at hx'
      have hbi := hb i
      rw [call_eq (r_add (nb_big _) (nb_big _) (len_big3 (by omega)) (len_big3 (by omega)))]
      dsimp only
      rw [i64_s i (by omega)]
      refine ha _ ?_
      rw [bv_big, bv_big, sumBy_take _ _ _ hi]
      unfold lotZ; rw [if_pos hk]
    · rw [cnd_n (by simp [hk])]
      dsimp only
      rw [i64_s i (by omega)]
      refine ha _ ?_
      rw [sumBy_take _ _ _ hi]
      have : lotZ k l[i] = 0 := by unfold lotZ; rw [if_neg hk]
      rw [this, Int.add_zero]
def entZ (k : Int) (d : ADone') : Int := if goodD d = true then doneZ k d else 0
theorem entZ_in {k : Int} {d : ADone'} (h : okDone d) : -2000000000000000000000 ≤ entZ k d ∧ entZ k d ≤ 2000000000000000000000 := by
  have := doneZ_in (k := k) h
  unfold entZ; split <;> omega
theorem sumZ_ent (k : Int) (l : List ADone') : sumZ k l = sumBy (entZ k) l := sumBy_filter _ _ _
theorem r_refSum {k : Int} {l : List ADone'} (h : okLog l) : ref39_Sum l k = some (big (sumZ k l)) := by
  show ref39_SumW stdW l k = _
  unfold ref39_SumW
  have h30 := h.1
  rw [sumZ_ent]
  have hb : ∀ i, -60000000000000000000000 ≤ sumBy (entZ k) (l.take i) ∧ sumBy (entZ k) (l.take i) ≤ 60000000000000000000000 := fun i => by
    have := sumBy_in (f := entZ k) (B := 2000000000000000000000) (l := l.take i) fun x hx => entZ_in (h.2 x (List.mem_of_mem_take hx))
    have h2 : (l.take i).length ≤ 30 := by rw [List.length_take]; omega
    omega
  refine loop_list (l := l) (by omega) (fun i s => s = big (sumBy (entZ k) (l.take i))) (fun _ _ => some (big (sumBy (entZ k) l))) (by simp [sumBy, big, bits0]) ?_ ?_
  · rintro _ again rfl
    rw [cnd_end, List.take_length]
  · rintro i hi _ rfl again ha
    have hd := h.2 _ (List.getElem_mem hi)
    have hbi := hb i
    generalize hz0 : sumBy (entZ k) (l.take i) = z0 at *
    rw [cnd_lt hi, join_w, idx_w hi, idx_w hi, both_w]
    by_cases hg : l[i].2.1.1 = 0
    · rw [cnd_n (by simp [hg]), join_w]
      have hgd : goodD l[i] = true := by unfold goodD; simp [hg]
      have h10 := hd.2.1.1
      change (l[i].2.1.2.2.2.1).length ≤ 10 at h10
      have hq : I64 (qtyD l[i]) := hd.1
      have hq' := hq
      unfold I64 at hq'
      have rets : ∀ z1 : Int, (-70000000000000000000000 ≤ z1 ∧ z1 ≤ 70000000000000000000000) → z1 = z0 + opZ k l[i] →
          stdW.loop (fun (z9 : Int × Bool × List (Int) × Unit) again10 =>
            stdW.cnd (decide (z9.1 < (l[i].2.1.2.2.2.1.length : Int))) (
              stdW.join (fun (z11 : Bool × List (Int) × Unit) => (again10 ((IntKind.i64.wrap (z9.1 + 1)), (z11.1, (z11.2.1, ())))))
               fun k12 =>
               stdW.cnd (k == 0) (stdW.idx l[i].2.1.2.2.2.1 z9.1 fun x13 => stdW.both (stdW.call (ref01_Of x13.2.1) fun v14 => stdW.call (ref01_Sub (z9.2.1, (z9.2.2.1, ())) (v14.1, (v14.2.1, ()))) fun v15 => (k12 (v15.1, (v15.2.1, ())))) (stdW.call (ref01_Of x13.2.1) fun v16 => stdW.call (ref01_Sub (z9.2.1, (z9.2.2.1, ())) (v16.1, (v16.2.1, ()))) fun v17 => (k12 (v17.1, (v17.2.1, ())))))
                (stdW.idx l[i].2.1.2.2.2.1 z9.1 fun x18 => stdW.both (stdW.call (ref18_Sum x18.2.2.1 k) fun v19 => stdW.call (ref01_Sub (z9.2.1, (z9.2.2.1, ())) (v19.1, (v19.2.1, ()))) fun v20 => (k12 (v20.1, (v20.2.1, ())))) (stdW.call (ref18_Sum x18.2.2.1 k) fun v21 => stdW.call (ref01_Sub (z9.2.1, (z9.2.2.1, ())) (v21.1, (v21.2.1, ()))) fun v22 => (k12 (v22.1, (v22.2.1, ()))))))
             (again (IntKind.i64.wrap ((i : Int) + 1), (z9.2.1, (z9.2.2.1, ())))))
            (0, ((big z1).1, ((big z1).2.1, ()))) = some (big (sumBy (entZ k) l)) := by
        intro z1 hz1 hz1e
        refine loop_list (l := l[i].2.1.2.2.2.1) (by omega) (fun j s => s = big (z1 - sumBy (backZ k) (l[i].2.1.2.2.2.1.take j))) (fun _ _ => some (big (sumBy (entZ k) l))) (by simp [sumBy]) ?_ ?_
        · rintro _ again10 rfl
          rw [cnd_end, List.take_length, i64_s i (by omega)]
          refine ha _ ?_
          rw [sumBy_take _ _ _ hi, hz0]
          have : entZ k l[i] = opZ k l[i] - sumBy (backZ k) l[i].2.1.2.2.2.1 := by unfold entZ; rw [if_pos hgd]; rfl
          rw [this, hz1e]
          show big _ = big _
          congr 1; omega
        · rintro j hj _ rfl again10 ha10
          have hr := hd.2.1.2 _ (List.getElem_mem hj)
          have hbj := sumR_in (k := k) hd j
          change -1844674407370955161600 ≤ sumBy (backZ k) (l[i].2.1.2.2.2.1.take j) ∧ sumBy (backZ k) (l[i].2.1.2.2.2.1.take j) ≤ 1844674407370955161600 at hbj
          have hbr := backZ_in (k := k) hr
          rw [cnd_lt hj, join_w]
          by_cases hk : k = 0
          · have hc := hr.1
            have hc' := hc
            unfold I64 at hc'
            rw [cnd_y (by simp [hk]), idx_w hj, both_w, call_eq (r_of hc), eta2, eta2, call_eq (r_sub (nb_big _) (nb_big _) (len_big3 (by omega)) (len_big3 (by omega)))]
            dsimp only
            rw [i64_s j (by omega)]
            refine ha10 _ ?_
            rw [bv_big, bv_big, sumBy_take _ _ _ hj]
            have : backZ k l[i].2.1.2.2.2.1[j] = l[i].2.1.2.2.2.1[j].2.1 := by unfold backZ; rw [if_pos hk]
            rw [this]
            show big _ = big _
            congr 1; omega
          · have hs := sumL_in (k := k) hr.2
            rw [cnd_n (by simp [hk]), idx_w hj, both_w, call_eq (r_refL hr.2), eta2, eta2, call_eq (r_sub (nb_big _) (nb_big _) (len_big3 (by omega)) (len_big3 (by omega)))]
            dsimp only
            rw [i64_s j (by omega)]
            refine ha10 _ ?_
            rw [bv_big, bv_big, sumBy_take _ _ _ hj]
            have : backZ k l[i].2.1.2.2.2.1[j] = sumL k l[i].2.1.2.2.2.1[j].2.2.1 := by unfold backZ; rw [if_neg hk]
            rw [this]
            show big _ = big _
            congr 1; omega
      by_cases h1 : l[i].1.2.2.2.2.2.2.1 = k
      · by_cases h17 : l[i].1.1 = 17
        · rw [join_w, cnd_y (by simp [h1])]
          show stdW.cnd _ _ _ = _
          rw [cnd_y (by simp [h17]), both_w, call_eq (r_of hq), eta2, eta2, call_eq (r_add (nb_big _) (nb_big _) (len_big3 (by omega)) (len_big3 (by omega))), bv_big, bv_big]
          show stdW.join _ _ = _
          rw [join_w, join_w, cnd_y (by simp [h1])]
          show stdW.cnd _ _ _ = _
          rw [cnd_n (by simp [h17])]
          refine rets _ (by omega) ?_
          unfold opZ; rw [if_pos h1, if_pos h17]
        · rw [join_w, cnd_y (by simp [h1])]
          show stdW.cnd _ _ _ = _
          rw [cnd_n (by simp [h17])]
          show stdW.join _ _ = _
          rw [join_w, join_w, cnd_y (by simp [h1])]
          show stdW.cnd _ _ _ = _
          by_cases h18 : l[i].1.1 = 18
          · rw [cnd_y (by simp [h18]), both_w, call_eq (r_of hq), eta2, eta2, call_eq (r_sub (nb_big _) (nb_big _) (len_big3 (by omega)) (len_big3 (by omega))), bv_big, bv_big]
            refine rets _ (by omega) ?_
            unfold opZ; rw [if_pos h1, if_neg h17, if_pos h18]; omega
          · rw [cnd_n (by simp [h18])]
            refine rets _ (by omega) ?_
            unfold opZ; rw [if_pos h1, if_neg h17, if_neg h18]; omega
      · rw [join_w, cnd_n (by simp [h1])]
        show stdW.cnd _ _ _ = _
        rw [cnd_n (by rfl)]
        show stdW.join _ _ = _
        rw [join_w, join_w, cnd_n (by simp [h1])]
        show stdW.cnd _ _ _ = _
        rw [cnd_n (by rfl)]
        refine rets _ (by omega) ?_
        unfold opZ; rw [if_neg h1]; omega
    · rw [cnd_y (by simp [hg])]
      have hgd : ¬ goodD l[i] = true := by unfold goodD; simp [hg]
      dsimp only
      rw [i64_s i (by omega)]
      refine ha _ ?_
      rw [sumBy_take _ _ _ hi, hz0]
      have : entZ k l[i] = 0 := by unfold entZ; rw [if_neg hgd]
      rw [this, Int.add_zero]
end Go.Proofs.Ytnldhkhnfodplaa

namespace Go.Proofs.Ytnldhkhnfodplaa
open Go Go.Vc Go.RowKit
/-! ### debits, who paid -/
def debs (l : List ADone') : List ADebit' := (l.filter goodD).flatMap debD
theorem flatMap_take {α γ : Type} (f : α → List γ) (l : List α) (i : Nat) (h : i < l.length) : (l.take (i + 1)).flatMap f = (l.take i).flatMap f ++ f l[i] := by
  rw [show l.take (i + 1) = l.take i ++ [l[i]] by simp, List.flatMap_append]; simp
theorem flatMap_len {α γ : Type} {f : α → List γ} {B : Nat} : ∀ {l : List α}, (∀ x ∈ l, (f x).length ≤ B) → (l.flatMap f).length ≤ B * l.length
  | [], _ => by simp
  | x :: l, h => by
    have h1 := h x (by simp)
    have h2 := flatMap_len (l := l) fun w hw => h w (by simp [hw])
    rw [List.flatMap_cons, List.length_append, List.length_cons, Nat.mul_add]
    omega
theorem debs_len' {l : List ADone'} (h30 : l.length ≤ 30) (h : ∀ d ∈ l, okDone d) : (l.flatMap debD).length ≤ 600 := by
  have := flatMap_len (f := debD) (B := 20) (l := l) fun x hx => (h x hx).2.2.1
  omega
theorem good_ok {l : List ADone'} (h : okLog l) : (l.filter goodD).length ≤ 30 ∧ ∀ d ∈ l.filter goodD, okDone d :=
  ⟨Nat.le_trans (List.length_filter_le _ _) h.1, fun d hd => h.2 d (List.mem_filter.1 hd).1⟩
theorem debs_len {l : List ADone'} (h : okLog l) : (debs l).length ≤ 600 := debs_len' (good_ok h).1 (good_ok h).2
theorem debs_ok {l : List ADone'} (h : okLog l) : okDebs (debs l) := by
  intro x hx
  obtain ⟨d, hd, hx⟩ := List.mem_flatMap.1 hx
  exact ((good_ok h).2 d hd).2.2.2 x hx
theorem r_debits {l : List ADone'} (h : okLog l) : audit_Debits l = some (debs l) := by
  show audit_DebitsW stdW l = _
  unfold audit_DebitsW
  rw [call_eq (r_good h.1)]
  obtain ⟨hgl, hg⟩ := good_ok h
  unfold debs
  generalize l.filter goodD = v1 at *
  refine loop_list (l := v1) (by omega) (fun i s => s = (v1, ((v1.take i).flatMap debD, ()))) (fun _ _ => some (v1.flatMap debD)) (by simp) ?_ ?_
  · rintro _ again rfl
    rw [cnd_end, List.take_length]
  · rintro i hi _ rfl again ha
    have hl := debs_len' (l := v1.take i) (by rw [List.length_take]; omega) fun d hd => hg d (List.mem_of_mem_take hd)
    have h20 : v1[i].2.1.2.2.1.length ≤ 20 := (hg _ (List.getElem_mem hi)).2.2.1
    rw [cnd_lt hi, idx_w hi, nth_w hi]
    show stdW.room (((v1.take i).flatMap debD).length + v1[i].2.1.2.2.1.length) 40 _ = _
    rw [room_w (by omega) (by omega), i64_s i (by omega)]
    refine ha _ ?_
    rw [flatMap_take _ _ _ hi]
theorem r_refDebits {l : List ADone'} (h : okLog l) : ref39_Debits l = some (debs l) := by
  show ref39_DebitsW stdW l = _
  unfold ref39_DebitsW debs
  have h30 := h.1
  refine loop_list (l := l) (by omega) (fun i s => s = (((l.take i).filter goodD).flatMap debD, ())) (fun _ _ => some ((l.filter goodD).flatMap debD)) (by simp) ?_ ?_
  · rintro _ again rfl
    rw [cnd_end, List.take_length]
  · rintro i hi _ rfl again ha
    have hl := debs_len' (l := (l.take i).filter goodD) (Nat.le_trans (List.length_filter_le _ _) (by rw [List.length_take]; omega)) fun d hd => h.2 d (List.mem_of_mem_take (List.mem_filter.1 hd).1)
    have h20 : l[i].2.1.2.2.1.length ≤ 20 := (h.2 _ (List.getElem_mem hi)).2.2.1
    rw [cnd_lt hi, join_w, idx_w hi]
    by_cases hk : l[i].2.1.1 = 0
    · rw [cnd_y (by simp [hk]), idx_w hi]
      show stdW.room ((((l.take i).filter goodD).flatMap debD).length + l[i].2.1.2.2.1.length) 40 _ = _
      rw [room_w (by omega) (by omega)]
      dsimp only
      rw [i64_s i (by omega)]
      refine ha _ ?_
      rw [filter_take _ _ _ hi, if_pos (show goodD l[i] = true by unfold goodD; simp [hk]), List.flatMap_append]
      simp
    · rw [cnd_n (by simp [hk])]
      dsimp only
      rw [i64_s i (by omega)]
      refine ha _ ?_
      rw [filter_take _ _ _ hi, if_neg (show ¬ goodD l[i] = true by unfold goodD; simp [hk]), List.append_nil]
def forZ (u : AUnit') (d : ADebit') : Int := if ((d.2.1.1 == u.1) && (d.2.1.2.1 == u.2.1)) = true then d.2.2.1 else 0
def byZ (u : AUnit') (d : ADebit') : Int := if ((d.1.1 == u.1) && (d.1.2.1 == u.2.1)) = true then d.2.2.1 else 0
theorem forZ_in {u : AUnit'} {d : ADebit'} (h : I64 d.2.2.1) : -9223372036854775808 ≤ forZ u d ∧ forZ u d ≤ 9223372036854775808 := by unfold I64 at h; unfold forZ; split <;> omega
theorem byZ_in {u : AUnit'} {d : ADebit'} (h : I64 d.2.2.1) : -9223372036854775808 ≤ byZ u d ∧ byZ u d ≤ 9223372036854775808 := by unfold I64 at h; unfold byZ; split <;> omega
theorem sumD_in {f : ADebit' → Int} (hf : ∀ d : ADebit', I64 d.2.2.1 → -9223372036854775808 ≤ f d ∧ f d ≤ 9223372036854775808) {v : List ADebit'} (hl : v.length ≤ 600) (h : okDebs v) (i : Nat) :
    -6000000000000000000000 ≤ sumBy f (v.take i) ∧ sumBy f (v.take i) ≤ 6000000000000000000000 := by
  have := sumBy_in (f := f) (B := 9223372036854775808) (l := v.take i) fun x hx => hf x (h x (List.mem_of_mem_take hx))
  have h2 : (v.take i).length ≤ 600 := by rw [List.length_take]; omega
  omega
theorem sumD_in' {f : ADebit' → Int} (hf : ∀ d : ADebit', I64 d.2.2.1 → -9223372036854775808 ≤ f d ∧ f d ≤ 9223372036854775808) {v : List ADebit'} (hl : v.length ≤ 600) (h : okDebs v) :
    -6000000000000000000000 ≤ sumBy f v ∧ sumBy f v ≤ 6000000000000000000000 := by have := sumD_in hf hl h v.length; rwa [List.take_length] at this
theorem r_For {l : List ADone'} {u : AUnit'} (h : okLog l) : audit_For l u = some (wide (sumBy (forZ u) (debs l))) := by
  show audit_ForW stdW l u = _
  unfold audit_ForW
  have hf : ∀ d : ADebit', I64 d.2.2.1 → -9223372036854775808 ≤ forZ u d ∧ forZ u d ≤ 9223372036854775808 := fun d => forZ_in
  have key : audit_amounts_audit_For_1 l u.1 u.2.1 = some (wide (sumBy (forZ u) (debs l)), (u.1, (u.2.1, ()))) := by
    show audit_amounts_audit_For_1W stdW l u.1 u.2.1 = _
    unfold audit_amounts_audit_For_1W
    rw [call_eq (r_debits h)]
    have hl := debs_len h
    have hd := debs_ok h
    generalize debs l = v1 at *
    refine loop_list (l := v1) (by omega) (fun i s => ∃ ws : List WideWide', s = (u.1, (u.2.1, (v1, (ws, ())))) ∧ (∀ w ∈ ws, wOk w) ∧ ws.length ≤ i ∧ sumW ws = sumBy (forZ u) (v1.take i)) (fun _ _ => some (wide (sumBy (forZ u) v1), (u.1, (u.2.1, ())))) ⟨[], rfl, by simp, by simp, rfl⟩ ?_ ?_
    · rintro _ again ⟨ws, rfl, hw, hwl, hs⟩
      rw [List.take_length] at hs
      have := sumD_in' hf hl hd
      rw [cnd_end, call_eq (r_tdone2 (l := ws) hw (by omega)), hs, fit_in (by unfold In128; omega)]
    · rintro i hi _ ⟨ws, rfl, hw, hwl, hs⟩ again ha
      have hx := hd _ (List.getElem_mem hi)
      rw [cnd_lt hi, join_w, idx_w hi, nth_w hi, call_eq (show audit_For_1 v1[i] u.1 u.2.1 = some (((v1[i].2.1.1 == u.1) && (v1[i].2.1.2.1 == u.2.1)), (u.1, (u.2.1, ()))) from rfl)]
      by_cases hk : ((v1[i].2.1.1 == u.1) && (v1[i].2.1.2.1 == u.2.1)) = true
      · rw [cnd_y hk, call_eq (r_wOf _ hx), call_eq (r_tplus (b := ws) (by simp only [List.length_cons, List.length_nil]; omega))]
        dsimp only
        rw [i64_s i (by omega)]
        refine ha _ ⟨_, rfl, oks_snoc hw (i64_128 hx), by simp; omega, ?_⟩
        rw [sumW_snoc, sumBy_take _ _ _ hi, hs]
        unfold forZ; rw [if_pos hk]
      · rw [cnd_n (by simpa using hk)]
        dsimp only
        rw [i64_s i (by omega)]
        refine ha _ ⟨ws, rfl, hw, by omega, ?_⟩
        rw [sumBy_take _ _ _ hi, hs]
        unfold forZ; rw [if_neg hk]; omega
  rw [call_eq key]
theorem r_By {l : List ADone'} {u : AUnit'} (h : okLog l) : audit_By l u = some (wide (sumBy (byZ u) (debs l))) := by
  show audit_ByW stdW l u = _
  unfold audit_ByW
  have hf : ∀ d : ADebit', I64 d.2.2.1 → -9223372036854775808 ≤ byZ u d ∧ byZ u d ≤ 9223372036854775808 := fun d => byZ_in
  have key : audit_amounts_audit_By_1 l u.1 u.2.1 = some (wide (sumBy (byZ u) (debs l)), (u.1, (u.2.1, ()))) := by
    show audit_amounts_audit_By_1W stdW l u.1 u.2.1 = _
    unfold audit_amounts_audit_By_1W
    rw [call_eq (r_debits h)]
    have hl := debs_len h
    have hd := debs_ok h
    generalize debs l = v1 at *
    refine loop_list (l := v1) (by omega) (fun i s => ∃ ws : List WideWide', s = (u.1, (u.2.1, (v1, (ws, ())))) ∧ (∀ w ∈ ws, wOk w) ∧ ws.length ≤ i ∧ sumW ws = sumBy (byZ u) (v1.take i)) (fun _ _ => some (wide (sumBy (byZ u) v1), (u.1, (u.2.1, ())))) ⟨[], rfl, by simp, by simp, rfl⟩ ?_ ?_
    · rintro _ again ⟨ws, rfl, hw, hwl, hs⟩
      rw [List.take_length] at hs
      have := sumD_in' hf hl hd
      rw [cnd_end, call_eq (r_tdone2 (l := ws) hw (by omega)), hs, fit_in (by unfold In128; omega)]
    · rintro i hi _ ⟨ws, rfl, hw, hwl, hs⟩ again ha
      have hx := hd _ (List.getElem_mem hi)
      rw [cnd_lt hi, join_w, idx_w hi, nth_w hi, call_eq (show audit_By_1 v1[i] u.1 u.2.1 = some (((v1[i].1.1 == u.1) && (v1[i].1.2.1 == u.2.1)), (u.1, (u.2.1, ()))) from rfl)]
      by_cases hk : ((v1[i].1.1 == u.1) && (v1[i].1.2.1 == u.2.1)) = true
      · rw [cnd_y hk, call_eq (r_wOf _ hx), call_eq (r_tplus (b := ws) (by simp only [List.length_cons, List.length_nil]; omega))]
        dsimp only
        rw [i64_s i (by omega)]
        refine ha _ ⟨_, rfl, oks_snoc hw (i64_128 hx), by simp; omega, ?_⟩
        rw [sumW_snoc, sumBy_take _ _ _ hi, hs]
        unfold byZ; rw [if_pos hk]
      · rw [cnd_n (by simpa using hk)]
        dsimp only
        rw [i64_s i (by omega)]
        refine ha _ ⟨ws, rfl, hw, by omega, ?_⟩
        rw [sumBy_take _ _ _ hi, hs]
        unfold byZ; rw [if_neg hk]; omega
  rw [call_eq key]
theorem nif {c : Bool} (h : c = true) : notIf false c = true := by subst h; rfl
theorem nifn {c : Bool} (h : ¬ c = true) : notIf false c = false := by cases c <;> first | rfl | exact absurd rfl h
theorem r_paid {l : List ADone'} {u : AUnit'} (h : okLog l) : ref39_Paid l u = some (big (sumBy (forZ u) (debs l)), (big (sumBy (byZ u) (debs l)), ())) := by
  show ref39_PaidW stdW l u = _
  unfold ref39_PaidW
  rw [call_eq (r_refDebits h)]
  have hl := debs_len h
  have hd := debs_ok h
  generalize debs l = v1 at *
  have hf : ∀ d : ADebit', I64 d.2.2.1 → -9223372036854775808 ≤ forZ u d ∧ forZ u d ≤ 9223372036854775808 := fun d => forZ_in
  have hb : ∀ d : ADebit', I64 d.2.2.1 → -9223372036854775808 ≤ byZ u d ∧ byZ u d ≤ 9223372036854775808 := fun d => byZ_in
  refine loop_list (l := v1) (by omega) (fun i s => s = ((big (sumBy (forZ u) (v1.take i))).1, ((big (sumBy (forZ u) (v1.take i))).2.1, ((big (sumBy (byZ u) (v1.take i))).1, ((big (sumBy (byZ u) (v1.take i))).2.1, (v1, ())))))) (fun _ _ => some (big (sumBy (forZ u) v1), (big (sumBy (byZ u) v1), ()))) (by simp [sumBy, big, bits0]) ?_ ?_
  · rintro _ again rfl
    rw [cnd_end, List.take_length]
  · rintro i hi _ rfl again ha
    have hx := hd _ (List.getElem_mem hi)
    have hx' := hx
    unfold I64 at hx'
    have hbf := sumD_in hf hl hd i
    have hbb := sumD_in hb hl hd i
    rw [sumBy_take _ _ _ hi, sumBy_take _ _ _ hi] at ha
    generalize sumBy (forZ u) (v1.take i) = a at *
    generalize sumBy (byZ u) (v1.take i) = b at *
    rw [cnd_lt hi, join_w, join_w]
    have e1 : (if ((v1[i].2.1.1 == u.1) && (v1[i].2.1.2.1 == u.2.1)) = true then v1[i].2.2.1 else 0) = forZ u v1[i] := rfl
    have e2 : (if ((v1[i].1.1 == u.1) && (v1[i].1.2.1 == u.2.1)) = true then v1[i].2.2.1 else 0) = byZ u v1[i] := rfl
    have second : ∀ a2 : Int, a2 = a + forZ u v1[i] → 
        stdW.idx v1 (i : Int) (fun x7 => stdW.nth v1 (Int.toNat (i : Int)) fun x8 => 
     stdW.cnd (Go.Vc.notIf false ((x8.1.1 == u.1) && (x8.1.2.1 == u.2.1))) (stdW.idx v1 (i : Int) fun x9 => stdW.both (stdW.nth v1 (Int.toNat (i : Int)) fun x10 => stdW.call (ref01_Of x10.2.2.1) fun v11 => stdW.call (ref01_Add ((big b).1, ((big b).2.1, ())) (v11.1, (v11.2.1, ()))) fun v12 => (again (IntKind.i64.wrap ((i : Int) + 1), ((big a2).1, ((big a2).2.1, (v12.1, (v12.2.1, (v1, ())))))))) (stdW.nth v1 (Int.toNat (i : Int)) fun x13 => stdW.both (stdW.call (ref01_Of x13.2.2.1) fun v14 => stdW.call (ref01_Add ((big b).1, ((big b).2.1, ())) (v14.1, (v14.2.1, ()))) fun v15 => (again (IntKind.i64.wrap ((i : Int) + 1), ((big a2).1, ((big a2).2.1, (v15.1, (v15.2.1, (v1, ())))))))) (stdW.call (ref01_Of x13.2.2.1) fun v16 => stdW.call (ref01_Add ((big b).1, ((big b).2.1, ())) (v16.1, (v16.2.1, ()))) fun v17 => (again (IntKind.i64.wrap ((i : Int) + 1), ((big a2).1, ((big a2).2.1, (v17.1, (v17.2.1, (v1, ()))))))))))
      ((again (IntKind.i64.wrap ((i : Int) + 1), ((big a2).1, ((big a2).2.1, ((big b).1, ((big b).2.1, (v1, ()))))))))) = some (big (sumBy (forZ u) v1), (big (sumBy (byZ u) v1), ())) := by
      intro a2 ha2
      rw [idx_w hi, nth_w hi]
      by_cases hk : ((v1[i].1.1 == u.1) && (v1[i].1.2.1 == u.2.1)) = true
      · rw [if_pos hk] at e2
        rw [cnd_y (nif hk), idx_w hi, nth_w hi, nth_w hi, both_w, both_w, call_eq (r_of hx), eta2, eta2, call_eq (r_add (nb_big _) (nb_big _) (len_big3 (by omega)) (len_big3 (by omega))), bv_big, bv_big, i64_s i (by omega)]
        refine ha _ ?_
        rw [ha2, ← e2]
      · rw [if_neg hk] at e2
        rw [cnd_n (by simpa [notIf] using hk), i64_s i (by omega)]
        refine ha _ ?_
        rw [ha2, ← e2, Int.add_zero]
    show stdW.idx v1 (i : Int) _ = _
    rw [idx_w hi]
    show stdW.nth v1 (Int.toNat (i : Int)) _ = _
    rw [nth_w hi]
    by_cases hk : ((v1[i].2.1.1 == u.1) && (v1[i].2.1.2.1 == u.2.1)) = true
    · rw [if_pos hk] at e1
      rw [cnd_y (nif hk)]
      show stdW.idx v1 (i : Int) _ = _
      rw [idx_w hi]
      show stdW.both (stdW.nth v1 (Int.toNat (i : Int)) _) (stdW.nth v1 (Int.toNat (i : Int)) _) = _
      rw [nth_w hi, nth_w hi, both_w, both_w, call_eq (r_of hx), eta2, eta2, call_eq (r_add (nb_big _) (nb_big _) (len_big3 (by omega)) (len_big3 (by omega))), bv_big, bv_big]
      exact second _ (by rw [← e1])
    · rw [if_neg hk] at e1
      rw [cnd_n (by simpa [notIf] using hk)]
      exact second _ (by rw [← e1, Int.add_zero])
end Go.Proofs.Ytnldhkhnfodplaa

namespace Go.Proofs.Ytnldhkhnfodplaa
open Go Go.Vc Go.RowKit
/-! ### who went where; sameness; lives; what is few -/
theorem len2 {α : Type} : ∀ {l : List α}, l.length = 2 → ∃ a b, l = [a, b]
  | [a, b], _ => ⟨a, b, rfl⟩
  | [], h => by simp at h
  | [_], h => by simp at h
  | _ :: _ :: _ :: _, h => by simp at h
def portD (d : ADone') : List AChoice' := if d.1.1 = 22 then (match d.2.1.2.1 with | [a, b] => [(d.1.2.2.2.1, ((a, (b, ())), (true, ())))] | _ => []) else []
theorem portD_len (d : ADone') : (portD d).length ≤ 1 := by
  unfold portD; split
  · split <;> simp
  · simp
theorem portD_2 {d : ADone'} {a b : Int} (h : d.1.1 = 22) (h2 : d.2.1.2.1 = [a, b]) : portD d = [(d.1.2.2.2.1, ((a, (b, ())), (true, ())))] := by unfold portD; rw [if_pos h, h2]
theorem portD_n {d : ADone'} (h : ¬ d.1.1 = 22) : portD d = [] := by unfold portD; rw [if_neg h]
theorem portD_l {d : ADone'} (h2 : ¬ d.2.1.2.1.length = 2) : portD d = [] := by
  unfold portD; split
  · split
    · rename_i h3; rw [h3] at h2; exact absurd rfl h2
    · rfl
  · rfl
theorem ports_len {l : List ADone'} (h : l.length ≤ 30) : (l.flatMap portD).length ≤ 30 := by
  have := flatMap_len (f := portD) (B := 1) (l := l) fun x _ => portD_len x
  omega
theorem r_ports {l : List ADone'} (h : okLog l) : audit_Ports l = some ((l.filter goodD).flatMap portD) := by
  show audit_PortsW stdW l = _
  unfold audit_PortsW
  rw [call_eq (r_good h.1)]
  obtain ⟨hgl, hg⟩ := good_ok h
  generalize l.filter goodD = v1 at *
  refine loop_list (l := v1) (by omega) (fun i s => s = (v1, ((v1.take i).flatMap portD, ()))) (fun _ _ => some (v1.flatMap portD)) (by simp) ?_ ?_
  · rintro _ again rfl
    rw [cnd_end, List.take_length]
  · rintro i hi _ rfl again ha
    have hl := ports_len (l := v1.take i) (by rw [List.length_take]; omega)
    rw [cnd_lt hi, join_w, idx_w hi, nth_w hi, join_w]
    have skip : portD v1[i] = [] → again (IntKind.i64.wrap ((i : Int) + 1), (v1, ((v1.take i).flatMap portD, ()))) = some (v1.flatMap portD) := by
      intro hp
      rw [i64_s i (by omega)]
      refine ha _ ?_
      rw [flatMap_take _ _ _ hi, hp, List.append_nil]
    by_cases h22 : v1[i].1.1 = 22
    · rw [cnd_y (by simp [h22])]
      show stdW.cnd _ _ _ = _
      by_cases h2 : v1[i].2.1.2.1.length = 2
      · obtain ⟨a, b, hab⟩ := len2 h2
        rw [cnd_y (by simp [h2])]
        show stdW.idx v1[i].2.1.2.1 0 (fun x9 => stdW.idx v1[i].2.1.2.1 1 fun x10 => stdW.room (((v1.take i).flatMap portD).length + 1) 40 (again (IntKind.i64.wrap ((i : Int) + 1), (v1, (((v1.take i).flatMap portD ++ [(v1[i].1.2.2.2.1, ((x9, (x10, ())), (true, ())))]), ()))))) = _
        rw [hab]
        show stdW.room (((v1.take i).flatMap portD).length + 1) 40 (again (IntKind.i64.wrap ((i : Int) + 1), (v1, (((v1.take i).flatMap portD ++ [(v1[i].1.2.2.2.1, ((a, (b, ())), (true, ())))]), ())))) = _
        rw [room_w (by omega) (by omega), i64_s i (by omega)]
        refine ha _ ?_
        rw [flatMap_take _ _ _ hi, portD_2 h22 hab]
      · rw [cnd_n (by show ((v1[i].2.1.2.1.length : Int) == 2) = false; simp; omega)]
        exact skip (portD_l h2)
    · rw [cnd_n (by simp [h22])]
      show stdW.cnd _ _ _ = _
      rw [cnd_n (by rfl)]
      exact skip (portD_n h22)
theorem r_refPorts {l : List ADone'} (h : okLog l) : ref39_Ports l = some ((l.filter goodD).flatMap portD) := by
  show ref39_PortsW stdW l = _
  unfold ref39_PortsW
  have h30 := h.1
  refine loop_list (l := l) (by omega) (fun i s => s = (((l.take i).filter goodD).flatMap portD, ())) (fun _ _ => some ((l.filter goodD).flatMap portD)) (by simp) ?_ ?_
  · rintro _ again rfl
    rw [cnd_end, List.take_length]
  · rintro i hi _ rfl again ha
    have hl := ports_len (l := (l.take i).filter goodD) (Nat.le_trans (List.length_filter_le _ _) (by rw [List.length_take]; omega))
    rw [cnd_lt hi, join_w, idx_w hi, join_w, idx_w hi]
    have skip : (goodD l[i] = true → portD l[i] = []) → again (IntKind.i64.wrap ((i : Int) + 1), (((l.take i).filter goodD).flatMap portD, ())) = some ((l.filter goodD).flatMap portD) := by
      intro hp
      rw [i64_s i (by omega)]
      refine ha _ ?_
      rw [filter_take _ _ _ hi]
      by_cases hg : goodD l[i] = true
      · rw [if_pos hg, List.flatMap_append]; simp [hp hg]
      · rw [if_neg hg, List.append_nil]
    by_cases hk : l[i].2.1.1 = 0
    · rw [cnd_y (by simp [hk]), idx_w hi]
      by_cases h22 : l[i].1.1 = 22
      · rw [cnd_y (by simp [h22])]
        show stdW.cnd _ _ _ = _
        by_cases h2 : l[i].2.1.2.1.length = 2
        · obtain ⟨a, b, hab⟩ := len2 h2
          rw [cnd_y (by simp [h2])]
          show stdW.idx l (i : Int) (fun x7 => stdW.idx l[i].2.1.2.1 0 fun x8 => stdW.idx l[i].2.1.2.1 1 fun x9 => stdW.room ((((l.take i).filter goodD).flatMap portD).length + 1) 40 (again (IntKind.i64.wrap ((i : Int) + 1), ((((l.take i).filter goodD).flatMap portD ++ [(x7.1.2.2.2.1, ((x8, (x9, ())), (true, ())))]), ())))) = _
          rw [idx_w hi, hab]
          show stdW.room ((((l.take i).filter goodD).flatMap portD).length + 1) 40 (again (IntKind.i64.wrap ((i : Int) + 1), ((((l.take i).filter goodD).flatMap portD ++ [(l[i].1.2.2.2.1, ((a, (b, ())), (true, ())))]), ()))) = _
          rw [room_w (by omega) (by omega), i64_s i (by omega)]
          refine ha _ ?_
          rw [filter_take _ _ _ hi, if_pos (show goodD l[i] = true by unfold goodD; simp [hk]), List.flatMap_append]
          simp [portD_2 h22 hab]
        · rw [cnd_n (by show ((l[i].2.1.2.1.length : Int) == 2) = false; simp; omega)]
          exact skip fun _ => portD_l h2
      · rw [cnd_n (by simp [h22])]
        show stdW.cnd _ _ _ = _
        rw [cnd_n (by rfl)]
        exact skip fun _ => portD_n h22
    · rw [cnd_n (by simp [hk])]
      show stdW.cnd _ _ _ = _
      rw [cnd_n (by rfl)]
      exact skip fun hg => absurd (by unfold goodD at hg; simpa using hg) hk
theorem r_same16 (l : List AChoice') (h : l.length ≤ 1000) : ref16_Same l l = some true := by
  show ref16_SameW stdW l l = _
  unfold ref16_SameW
  rw [cnd_n (by simp)]
  refine loop_list (l := l) (by omega) (fun _ _ => True) (fun _ _ => some true) trivial ?_ ?_
  · rintro _ again _
    rw [cnd_end]
  · rintro i hi _ _ again ha
    rw [cnd_lt hi, idx_w hi, idx_w hi, cnd_n (by simp [notIf]), i64_s i (by omega)]
    exact ha _ trivial
theorem r_same31 (l : List ADebit') (h : l.length ≤ 1000) : ref31_SameDebits l l = some true := by
  show ref31_SameDebitsW stdW l l = _
  unfold ref31_SameDebitsW
  rw [cnd_n (by simp)]
  refine loop_list (l := l) (by omega) (fun _ _ => True) (fun _ _ => some true) trivial ?_ ?_
  · rintro _ again _
    rw [cnd_end]
  · rintro i hi _ _ again ha
    rw [cnd_lt hi, idx_w hi, idx_w hi, cnd_n (by simp [notIf]), i64_s i (by omega)]
    exact ha _ trivial
end Go.Proofs.Ytnldhkhnfodplaa
