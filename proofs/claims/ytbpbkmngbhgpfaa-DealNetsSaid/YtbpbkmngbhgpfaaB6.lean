import Derived.Test.YtbpbkmngbhgpfaaB5
namespace Go.Proofs.Ytbpbkmngbhgpfaa
open Go Go.Vc Go.RowKit
set_option maxRecDepth 100000
@[reducible] def tAUnit : DT := (.pair (.int .i64) (.pair (.int .i64) .unit))
abbrev AUnit' := Int × Int × Unit
@[reducible] def tAFlow : DT := (.pair tAUnit (.pair (.int .i64) .unit))
abbrev AFlow' := AUnit' × Int × Unit
@[reducible] def tAPos : DT := (.pair tAUnit (.pair (.slc tAUnit) .unit))
abbrev APos' := AUnit' × (List AUnit') × Unit
@[reducible] def tWideWide : DT := (.pair (.int .i64) (.pair (.int .u64) .unit))
abbrev WideWide' := Int × Int × Unit
@[reducible] def tNovationref01Big : DT := (.pair .bool (.pair (.slc (.int .u8)) .unit))
abbrev Novationref01Big' := Bool × (List Int) × Unit
@[reducible] def tAInst : DT := (.pair (.int .i64) (.pair (.int .i64) (.pair (.int .i64) (.pair (.int .i64) (.pair (.slc (.int .i64)) .unit)))))
abbrev AInst' := Int × Int × Int × Int × (List Int) × Unit
@[reducible] def tWideSize : DT := (.pair (.int .u64) (.pair (.int .u64) .unit))
abbrev WideSize' := Int × Int × Unit
@[reducible] def tDealDesk : DT := (.pair (.slc tAPos) (.pair (.slc tAFlow) .unit))
abbrev DealDesk' := (List APos') × (List AFlow') × Unit
noncomputable def law17_FewW (W : Wd) (l : List AFlow') : Option (List AFlow') := 
 W.cnd (decide (20 < (l.length : Int))) (W.bnd 20 l.length fun h1 => some (l.take h1))
  (some l)
noncomputable def law17_Few (l : List AFlow') : Option (List AFlow') := law17_FewW stdW l
noncomputable def law17_Few_s : ES := ⟨(.pair (.slc tAFlow) .unit), (.v (.slc tAFlow)), fun x => law17_Few x.1⟩
theorem law17_Few_ok : ECok Try.prog 11 (.es law17_Few_s)   := es_ok (A := (.pair (.slc tAFlow) .unit)) (Q := (.v (.slc tAFlow))) (fun W x => law17_FewW W x.1) [] trivial [] [] [] Try.func11 rfl (by decide +kernel) rfl rfl (fun W x => by kernel_rfl)
noncomputable def acct_LessW (W : Wd) (a : AUnit') (b : AUnit') : Option Bool := 
 W.cnd (a.1 != b.1) (some (decide (a.1 < b.1)))
  (some (decide (a.2.1 < b.2.1)))
noncomputable def acct_Less (a : AUnit') (b : AUnit') : Option Bool := acct_LessW stdW a b
noncomputable def acct_Less_s : ES := ⟨(.pair tAUnit (.pair tAUnit .unit)), (.v .bool), fun x => acct_Less x.1 x.2.1⟩
theorem acct_Less_ok : ECok Try.prog 56 (.es acct_Less_s)   := es_ok (A := (.pair tAUnit (.pair tAUnit .unit))) (Q := (.v .bool)) (fun W x => acct_LessW W x.1 x.2.1) [] trivial [] [] [] Try.func56 rfl (by decide +kernel) rfl rfl (fun W x => by kernel_rfl)
noncomputable def purse_IsW (W : Wd) (l : List AFlow') : Option Bool := 
 W.loop (fun (z1 : Int × Unit) again2 => 
  W.cnd (decide (z1.1 < (l.length : Int))) (W.idx l z1.1 fun x3 => 
   W.join (fun (z4 : Bool × Unit) => 
    W.cnd z4.1 (some false)
     ((again2 ((IntKind.i64.wrap (z1.1 + 1)), ()))))
    fun k5 => 
    W.cnd (x3.2.1 == 0) ((k5 (true, ())))
     (
     W.cnd (decide (0 < z1.1)) (W.idx l (IntKind.i64.wrap (z1.1 - 1)) fun x6 => W.call (acct_Less x6.1 x3.1) fun v7 => (k5 ((!v7), ())))
      ((k5 (false, ())))))
   (some true))
  (0, ())
noncomputable def purse_Is (l : List AFlow') : Option Bool := purse_IsW stdW l
noncomputable def purse_Is_s : ES := ⟨(.pair (.slc tAFlow) .unit), (.v .bool), fun x => purse_Is x.1⟩
theorem purse_Is_ok : ECok Try.prog 16 (.es purse_Is_s)   := es_ok (A := (.pair (.slc tAFlow) .unit)) (Q := (.v .bool)) (fun W x => purse_IsW W x.1) [(56, .es acct_Less_s)] ⟨acct_Less_ok, trivial⟩ [(4, [], (ofL [(0, true), (1, true), (2, true), (3, true), (4, true), (5, true), (6, true), (7, true), (8, true), (9, true), (10, true), (11, true), (12, true), (13, true), (14, true), (15, false), (16, true), (17, true), (18, true)]))] [(500030, ⟨[(30, .t .bool)], [], []⟩)] [(2, ⟨[(7, .t (.int .i64))], [], []⟩)] Try.func16 rfl (by decide +kernel) rfl rfl (fun W x => by kernel_rfl)
noncomputable def purse_amountsW (W : Wd) (l : List AFlow') (u : AUnit') : Option (List Int) := 
 W.loop (fun (z1 : Int × List (Int) × Unit) again2 => 
  W.cnd (decide (z1.1 < (l.length : Int))) (
   W.join (fun (z3 : List (Int) × Unit) => (again2 ((IntKind.i64.wrap (z1.1 + 1)), (z3.1, ()))))
    fun k4 => W.idx l z1.1 fun x5 => 
    W.cnd (Go.Vc.notIf false ((x5.1.1 == u.1) && (x5.1.2.1 == u.2.1))) (W.room (z1.2.1.length + (x5.2.1 :: []).length) 8 ((k4 ((z1.2.1 ++ (x5.2.1 :: [])), ()))))
     ((k4 (z1.2.1, ()))))
   (some z1.2.1))
  (0, ([], ()))
noncomputable def purse_amounts (l : List AFlow') (u : AUnit') : Option (List Int) := purse_amountsW stdW l u
noncomputable def purse_amounts_s : ES := ⟨(.pair (.slc tAFlow) (.pair tAUnit .unit)), (.own 2 (.int .i64)), fun x => purse_amounts x.1 x.2.1⟩
theorem purse_amounts_ok : ECok Try.prog 53 (.es purse_amounts_s)   := es_ok (A := (.pair (.slc tAFlow) (.pair tAUnit .unit))) (Q := (.own 2 (.int .i64))) (fun W x => purse_amountsW W x.1 x.2.1) [] trivial [] [(7, ⟨[(5, .row 1)], [], [.dead, .own 2 (.int .i64)]⟩)] [(3, ⟨[(5, .row 1), (10, .t (.int .i64))], [], [.dead, .own 2 (.int .i64)]⟩)] Try.func53 rfl (by decide +kernel) rfl rfl (fun W x => by kernel_rfl)
noncomputable def wide_OfW (W : Wd) (n : Int) : Option WideWide' := W.nn 63 (some ((Int.fdiv n (2 ^ (Min.min (Int.toNat 63) (Go.IntKind.bits Go.IntKind.i64)))), ((IntKind.u64.wrap n), ())))
noncomputable def wide_Of (n : Int) : Option WideWide' := wide_OfW stdW n
noncomputable def wide_Of_s : ES := ⟨(.pair (.int .i64) .unit), (.v tWideWide), fun x => wide_Of x.1⟩
theorem wide_Of_ok : ECok Try.prog 54 (.es wide_Of_s)   := es_ok (A := (.pair (.int .i64) .unit)) (Q := (.v tWideWide)) (fun W x => wide_OfW W x.1) [] trivial [] [] [] Try.func54 rfl (by decide +kernel) rfl rfl (fun W x => by kernel_rfl)
noncomputable def wide_total_addW (W : Wd) (w : WideWide') (t0 : Int) (t1 : Int) (t2 : Int) : Option (Unit × (Int × Int × Int × Unit)) := W.call (add64 t2 w.2.1 0) fun v1 => W.call (add64 (IntKind.u64.wrap t1) (IntKind.u64.wrap w.1) v1.2.1) fun v2 => W.nn 63 (some ((), ((IntKind.i64.wrap (t0 + (IntKind.i64.wrap ((Int.fdiv w.1 (2 ^ (Min.min (Int.toNat 63) (Go.IntKind.bits Go.IntKind.i64)))) + (IntKind.i64.wrap v2.2.1))))), ((IntKind.i64.wrap v2.1), (v1.1, ())))))
noncomputable def wide_total_add (w : WideWide') (t0 : Int) (t1 : Int) (t2 : Int) : Option (Unit × (Int × Int × Int × Unit)) := wide_total_addW stdW w t0 t1 t2
noncomputable def wide_total_add_s : LS := ⟨[.ptr, .v tWideWide], [⟨127, [.v (.int .i64), .v (.int .i64), .v (.int .u64)]⟩], [⟨127, [.v (.int .i64), .v (.int .i64), .v (.int .u64)]⟩], (.q .unit), fun x => wide_total_add x.1 x.2.1 x.2.2.1 x.2.2.2.1⟩
theorem wide_total_add_ok : ECok Try.prog 84 (.ls wide_total_add_s)   := ls_ok (A := [.ptr, .v tWideWide]) (B := [⟨127, [.v (.int .i64), .v (.int .i64), .v (.int .u64)]⟩]) (E := [⟨127, [.v (.int .i64), .v (.int .i64), .v (.int .u64)]⟩]) (Q := (.q .unit)) (fun W x => wide_total_addW W x.1 x.2.1 x.2.2.1 x.2.2.2.1) [(104, .es add64_s)] ⟨add64_ok, trivial⟩ [(1, [], (ofL [(0, true), (1, true), (2, true), (3, true), (4, true), (5, true), (6, true), (7, false), (8, true), (9, true), (10, true), (11, true), (12, true)])), (2, [], (ofL [(0, true), (1, true), (2, true), (3, true), (4, true), (5, true), (6, true), (7, true), (8, true), (9, true), (10, false), (11, true), (12, true), (13, true), (14, true), (15, true)])), (3, [0], (ofL [(0, true), (1, true), (2, true), (4, true), (5, true), (6, true), (7, true), (8, true), (9, true), (3, false), (10, true), (11, true), (12, true), (13, false)]))] [] [] Try.func84 rfl (by decide +kernel) rfl rfl rfl rfl rfl (fun W x => by kernel_rfl)
noncomputable def wide_rangedW (W : Wd) (w : WideWide') (ok : Bool) : Option (WideWide' × Int × Unit) := 
 W.cnd (!ok) (some ((0, (0, ())), (7, ())))
  (some (w, (0, ())))
noncomputable def wide_ranged (w : WideWide') (ok : Bool) : Option (WideWide' × Int × Unit) := wide_rangedW stdW w ok
noncomputable def wide_ranged_s : ES := ⟨(.pair tWideWide (.pair .bool .unit)), (.pair (.v tWideWide) (.pair (.v (.int .i64)) .unit)), fun x => wide_ranged x.1 x.2.1⟩
theorem wide_ranged_ok : ECok Try.prog 105 (.es wide_ranged_s)   := es_ok (A := (.pair tWideWide (.pair .bool .unit))) (Q := (.pair (.v tWideWide) (.pair (.v (.int .i64)) .unit))) (fun W x => wide_rangedW W x.1 x.2.1) [] trivial [] [] [] Try.func105 rfl (by decide +kernel) rfl rfl (fun W x => by kernel_rfl)
noncomputable def wide_total_doneW (W : Wd) (t0 : Int) (t1 : Int) (t2 : Int) : Option ((WideWide' × Int × Unit) × (Int × Int × Int × Unit)) := W.nn 63 (W.call (wide_ranged (t1, (t2, ())) (t0 == (Int.fdiv t1 (2 ^ (Min.min (Int.toNat 63) (Go.IntKind.bits Go.IntKind.i64)))))) fun v1 => some (v1, (t0, (t1, (t2, ())))))
noncomputable def wide_total_done (t0 : Int) (t1 : Int) (t2 : Int) : Option ((WideWide' × Int × Unit) × (Int × Int × Int × Unit)) := wide_total_doneW stdW t0 t1 t2
noncomputable def wide_total_done_s : LS := ⟨[.ptr], [⟨127, [.v (.int .i64), .v (.int .i64), .v (.int .u64)]⟩], [⟨127, [.v (.int .i64), .v (.int .i64), .v (.int .u64)]⟩], (.q (.pair (.v tWideWide) (.pair (.v (.int .i64)) .unit))), fun x => wide_total_done x.1 x.2.1 x.2.2.1⟩
theorem wide_total_done_ok : ECok Try.prog 85 (.ls wide_total_done_s)   := ls_ok (A := [.ptr]) (B := [⟨127, [.v (.int .i64), .v (.int .i64), .v (.int .u64)]⟩]) (E := [⟨127, [.v (.int .i64), .v (.int .i64), .v (.int .u64)]⟩]) (Q := (.q (.pair (.v tWideWide) (.pair (.v (.int .i64)) .unit)))) (fun W x => wide_total_doneW W x.1 x.2.1 x.2.2.1) [(105, .es wide_ranged_s)] ⟨wide_ranged_ok, trivial⟩ [(1, [1], (ofL [(0, true), (1, true), (2, true), (3, true), (4, true), (5, true), (6, true), (7, true), (8, true), (9, true), (10, true), (11, true), (12, true), (13, true), (14, true), (15, false), (16, true), (17, true), (18, false), (19, true)]))] [] [] Try.func85 rfl (by decide +kernel) rfl rfl rfl rfl rfl (fun W x => by kernel_rfl)
noncomputable def wide_AddW (W : Wd) (l : List WideWide') : Option (WideWide' × Int × Unit) := 
 W.loop (fun (z1 : Int × Int × Int × Int × Unit) again2 => 
  W.cnd (decide (z1.1 < (l.length : Int))) (W.idx l z1.1 fun x3 => W.call (wide_total_add x3 z1.2.1 z1.2.2.1 z1.2.2.2.1) fun v4 => (again2 ((IntKind.i64.wrap (z1.1 + 1)), v4.2)))
   (W.call (wide_total_done z1.2.1 z1.2.2.1 z1.2.2.2.1) fun v5 => some v5.1))
  (0, (0, (0, (0, ()))))
noncomputable def wide_Add (l : List WideWide') : Option (WideWide' × Int × Unit) := wide_AddW stdW l
noncomputable def wide_Add_s : ES := ⟨(.pair (.slc tWideWide) .unit), (.pair (.v tWideWide) (.pair (.v (.int .i64)) .unit)), fun x => wide_Add x.1⟩
theorem wide_Add_ok : ECok Try.prog 55 (.es wide_Add_s)   := es_ok (A := (.pair (.slc tWideWide) .unit)) (Q := (.pair (.v tWideWide) (.pair (.v (.int .i64)) .unit))) (fun W x => wide_AddW W x.1) [(84, .ls wide_total_add_s), (85, .ls wide_total_done_s)] ⟨wide_total_add_ok, wide_total_done_ok, trivial⟩ [] [] [(3, ⟨[(9, .t (.int .i64))], [(1, [.t (.int .i64), .t (.int .i64), .t (.int .u64)])], []⟩)] Try.func55 rfl (by decide +kernel) rfl rfl (fun W x => by kernel_rfl)
noncomputable def wide_IntW (W : Wd) (w : WideWide') : Option (Int × Int × Unit) := W.call (wide_Of (IntKind.i64.wrap w.2.1)) fun v1 => 
 W.cnd (Go.Vc.notIf true ((v1.1 == w.1) && (v1.2.1 == w.2.1))) (some (0, (7, ())))
  (some ((IntKind.i64.wrap w.2.1), (0, ())))
noncomputable def wide_Int (w : WideWide') : Option (Int × Int × Unit) := wide_IntW stdW w
noncomputable def wide_Int_s : ES := ⟨(.pair tWideWide .unit), (.pair (.v (.int .i64)) (.pair (.v (.int .i64)) .unit)), fun x => wide_Int x.1⟩
theorem wide_Int_ok : ECok Try.prog 67 (.es wide_Int_s)   := es_ok (A := (.pair tWideWide .unit)) (Q := (.pair (.v (.int .i64)) (.pair (.v (.int .i64)) .unit))) (fun W x => wide_IntW W x.1) [(54, .es wide_Of_s)] ⟨wide_Of_ok, trivial⟩ [(2, [], (ofL [(0, true), (2, true), (1, false), (3, true)]))] [] [] Try.func67 rfl (by decide +kernel) rfl rfl (fun W x => by kernel_rfl)
noncomputable def fix_narrowW (W : Wd) (w : WideWide') (e : Int) : Option (Int × Int × Unit) := 
 W.cnd (e != 0) (some (0, (e, ())))
  (W.call (wide_Int w) fun v1 => some v1)
noncomputable def fix_narrow (w : WideWide') (e : Int) : Option (Int × Int × Unit) := fix_narrowW stdW w e
noncomputable def fix_narrow_s : ES := ⟨(.pair tWideWide (.pair (.int .i64) .unit)), (.pair (.v (.int .i64)) (.pair (.v (.int .i64)) .unit)), fun x => fix_narrow x.1 x.2.1⟩
theorem fix_narrow_ok : ECok Try.prog 83 (.es fix_narrow_s)   := es_ok (A := (.pair tWideWide (.pair (.int .i64) .unit))) (Q := (.pair (.v (.int .i64)) (.pair (.v (.int .i64)) .unit))) (fun W x => fix_narrowW W x.1 x.2.1) [(67, .es wide_Int_s)] ⟨wide_Int_ok, trivial⟩ [] [] [] Try.func83 rfl (by decide +kernel) rfl rfl (fun W x => by kernel_rfl)
noncomputable def fix_SumW (W : Wd) (l : List Int) : Option (Int × Int × Unit) := W.nn (l.length : Int) (W.room (Int.toNat (l.length : Int)) 16 (
 W.loop (fun (z1 : Int × List (Int × Int × Unit) × Unit) again2 => 
  W.cnd (decide (z1.1 < (l.length : Int))) (W.idx l z1.1 fun x3 => W.call (wide_Of x3) fun v4 => W.room (z1.2.1.length + (v4 :: []).length) 16 ((again2 ((IntKind.i64.wrap (z1.1 + 1)), ((z1.2.1 ++ (v4 :: [])), ())))))
   (W.call (wide_Add z1.2.1) fun v5 => W.call (fix_narrow v5.1 v5.2.1) fun v6 => some v6))
  (0, ([], ()))))
noncomputable def fix_Sum (l : List Int) : Option (Int × Int × Unit) := fix_SumW stdW l
noncomputable def fix_Sum_s : ES := ⟨(.pair (.slc (.int .i64)) .unit), (.pair (.v (.int .i64)) (.pair (.v (.int .i64)) .unit)), fun x => fix_Sum x.1⟩
theorem fix_Sum_ok : ECok Try.prog 52 (.es fix_Sum_s)   := es_ok (A := (.pair (.slc (.int .i64)) .unit)) (Q := (.pair (.v (.int .i64)) (.pair (.v (.int .i64)) .unit))) (fun W x => fix_SumW W x.1) [(54, .es wide_Of_s), (55, .es wide_Add_s), (83, .es fix_narrow_s)] ⟨wide_Of_ok, wide_Add_ok, fix_narrow_ok, trivial⟩ [] [] [(3, ⟨[(4, .row 0), (12, .t (.int .i64))], [], [.own 35 tWideWide]⟩)] Try.func52 rfl (by decide +kernel) rfl rfl (fun W x => by kernel_rfl)
noncomputable def purse_PayW (W : Wd) (l : List AFlow') (flows : List AFlow') : Option ((List AFlow') × Int × Unit) := W.call (purse_Is l) fun v1 => 
 W.cnd (!v1) (some ([], (3, ())))
  (W.call (concatO (l :: (flows :: []))) fun v2 => W.call (namedO v2) fun v3 => 
  W.loop (fun (z4 : Int × List (Int × Int × Unit) × List ((Int × Int × Unit) × Int × Unit) × Unit) again5 => 
   W.cnd (decide (z4.1 < (v3.length : Int))) (
    W.join (fun (z6 : List (Int × Int × Unit) × List ((Int × Int × Unit) × Int × Unit) × Unit) => (again5 ((IntKind.i64.wrap (z4.1 + 1)), (z6.1, (z6.2.1, ())))))
     fun k7 => W.idx z4.2.1 z4.1 fun x8 => W.nth z4.2.1 (Int.toNat z4.1) fun x9 => W.call (purse_amounts v2 x9) fun v10 => W.call (fix_Sum v10) fun v11 => 
     W.cnd (v11.2.1 != 0) (some ([], v11.2))
      (
      W.cnd (v11.1 != 0) (W.room (z4.2.2.1.length + ((x9, (v11.1, ())) :: []).length) 24 ((k7 (z4.2.1, ((z4.2.2.1 ++ ((x9, (v11.1, ())) :: [])), ())))))
       ((k7 (z4.2.1, (z4.2.2.1, ()))))))
    (some (z4.2.2.1, (0, ()))))
   (0, (v3, ([], ()))))
noncomputable def purse_Pay (l : List AFlow') (flows : List AFlow') : Option ((List AFlow') × Int × Unit) := purse_PayW stdW l flows
noncomputable def purse_Pay_s : ES := ⟨(.pair (.slc tAFlow) (.pair (.slc tAFlow) .unit)), (.pair (.own 27 tAFlow) (.pair (.v (.int .i64)) .unit)), fun x => purse_Pay x.1 x.2.1⟩
theorem purse_Pay_ok : ECok Try.prog 12 (.es purse_Pay_s)   := es_ok (A := (.pair (.slc tAFlow) (.pair (.slc tAFlow) .unit))) (Q := (.pair (.own 27 tAFlow) (.pair (.v (.int .i64)) .unit))) (fun W x => purse_PayW W x.1 x.2.1) [(16, .es purse_Is_s), (50, .es concat_s), (51, .es named_s), (53, .es purse_amounts_s), (52, .es fix_Sum_s)] ⟨purse_Is_ok, concat_ok, named_ok, purse_amounts_ok, fix_Sum_ok, trivial⟩ [] [(13, ⟨[(7, .row 5), (20, .row 2)], [], [.dead, .dead, .own 25 tAUnit, .dead, .dead, .own 27 tAFlow]⟩)] [(6, ⟨[(7, .row 5), (20, .row 2), (22, .t (.int .i64))], [], [.dead, .dead, .own 25 tAUnit, .dead, .dead, .own 27 tAFlow]⟩)] Try.func12 rfl (by decide +kernel) rfl rfl (fun W x => by kernel_rfl)
noncomputable def wide_SubW (W : Wd) (a : WideWide') (b : WideWide') : Option (WideWide' × Int × Unit) := W.call (wide_total_add a 0 0 0) fun v1 => W.call (wide_total_add ((Go.bits Go.BinOp.xor Go.IntKind.i64 (if true = true then (-1) else (if true = true then ((2 ^ ((Go.IntKind.bits Go.IntKind.i64) - 1)) - 1) else ((2 ^ (Go.IntKind.bits Go.IntKind.i64)) - 1))) b.1), ((Go.bits Go.BinOp.xor Go.IntKind.u64 (if false = true then (-1) else (if false = true then ((2 ^ ((Go.IntKind.bits Go.IntKind.u64) - 1)) - 1) else ((2 ^ (Go.IntKind.bits Go.IntKind.u64)) - 1))) b.2.1), ())) v1.2.1 v1.2.2.1 v1.2.2.2.1) fun v2 => W.call (wide_Of 1) fun v3 => W.call (wide_total_add v3 v2.2.1 v2.2.2.1 v2.2.2.2.1) fun v4 => W.call (wide_total_done v4.2.1 v4.2.2.1 v4.2.2.2.1) fun v5 => some v5.1
noncomputable def wide_Sub (a : WideWide') (b : WideWide') : Option (WideWide' × Int × Unit) := wide_SubW stdW a b
noncomputable def wide_Sub_s : ES := ⟨(.pair tWideWide (.pair tWideWide .unit)), (.pair (.v tWideWide) (.pair (.v (.int .i64)) .unit)), fun x => wide_Sub x.1 x.2.1⟩
theorem wide_Sub_ok : ECok Try.prog 90 (.es wide_Sub_s)   := es_ok (A := (.pair tWideWide (.pair tWideWide .unit))) (Q := (.pair (.v tWideWide) (.pair (.v (.int .i64)) .unit))) (fun W x => wide_SubW W x.1 x.2.1) [(84, .ls wide_total_add_s), (54, .es wide_Of_s), (85, .ls wide_total_done_s)] ⟨wide_total_add_ok, wide_Of_ok, wide_total_done_ok, trivial⟩ [] [] [] Try.func90 rfl (by decide +kernel) rfl rfl (fun W x => by kernel_rfl)
noncomputable def fix_SubW (W : Wd) (a : Int) (b : Int) : Option (Int × Int × Unit) := W.call (wide_Of a) fun v1 => W.call (wide_Of b) fun v2 => W.call (wide_Sub v1 v2) fun v3 => W.call (fix_narrow v3.1 v3.2.1) fun v4 => some v4
noncomputable def fix_Sub (a : Int) (b : Int) : Option (Int × Int × Unit) := fix_SubW stdW a b
noncomputable def fix_Sub_s : ES := ⟨(.pair (.int .i64) (.pair (.int .i64) .unit)), (.pair (.v (.int .i64)) (.pair (.v (.int .i64)) .unit)), fun x => fix_Sub x.1 x.2.1⟩
theorem fix_Sub_ok : ECok Try.prog 63 (.es fix_Sub_s)   := es_ok (A := (.pair (.int .i64) (.pair (.int .i64) .unit))) (Q := (.pair (.v (.int .i64)) (.pair (.v (.int .i64)) .unit))) (fun W x => fix_SubW W x.1 x.2.1) [(54, .es wide_Of_s), (90, .es wide_Sub_s), (83, .es fix_narrow_s)] ⟨wide_Of_ok, wide_Sub_ok, fix_narrow_ok, trivial⟩ [] [] [] Try.func63 rfl (by decide +kernel) rfl rfl (fun W x => by kernel_rfl)
noncomputable def purse_MoveW (W : Wd) (l : List AFlow') (from_ : AUnit') (to_ : AUnit') (amount : Int) : Option ((List AFlow') × Int × Unit) := W.call (fix_Sub 0 amount) fun v1 => 
 W.join (fun (z2 : Bool × Unit) => 
  W.cnd z2.1 (some ([], v1.2))
   (W.call (purse_Pay l ((from_, (v1.1, ())) :: ((to_, (amount, ())) :: []))) fun v3 => some (v3.1, v3.2)))
  fun k4 => 
  W.cnd (v1.2.1 != 0) (W.call (purse_Is l) fun v5 => (k4 (v5, ())))
   ((k4 (false, ())))
noncomputable def purse_Move (l : List AFlow') (from_ : AUnit') (to_ : AUnit') (amount : Int) : Option ((List AFlow') × Int × Unit) := purse_MoveW stdW l from_ to_ amount
noncomputable def purse_Move_s : ES := ⟨(.pair (.slc tAFlow) (.pair tAUnit (.pair tAUnit (.pair (.int .i64) .unit)))), (.pair (.own 27 tAFlow) (.pair (.v (.int .i64)) .unit)), fun x => purse_Move x.1 x.2.1 x.2.2.1 x.2.2.2.1⟩
theorem purse_Move_ok : ECok Try.prog 24 (.es purse_Move_s)   := es_ok (A := (.pair (.slc tAFlow) (.pair tAUnit (.pair tAUnit (.pair (.int .i64) .unit))))) (Q := (.pair (.own 27 tAFlow) (.pair (.v (.int .i64)) .unit))) (fun W x => purse_MoveW W x.1 x.2.1 x.2.2.1 x.2.2.2.1) [(63, .es fix_Sub_s), (16, .es purse_Is_s), (12, .es purse_Pay_s)] ⟨fix_Sub_ok, purse_Is_ok, purse_Pay_ok, trivial⟩ [] [(500022, ⟨[(22, .t .bool)], [], []⟩)] [] Try.func24 rfl (by decide +kernel) rfl rfl (fun W x => by kernel_rfl)
noncomputable def purse_GetW (W : Wd) (l : List AFlow') (u : AUnit') : Option Int := 
 W.loop (fun (z1 : Int × Unit) again2 => 
  W.cnd (decide (z1.1 < (l.length : Int))) (W.idx l z1.1 fun x3 => 
   W.cnd (Go.Vc.notIf false ((x3.1.1 == u.1) && (x3.1.2.1 == u.2.1))) (some x3.2.1)
    ((again2 ((IntKind.i64.wrap (z1.1 + 1)), ()))))
   (some 0))
  (0, ())
noncomputable def purse_Get (l : List AFlow') (u : AUnit') : Option Int := purse_GetW stdW l u
noncomputable def purse_Get_s : ES := ⟨(.pair (.slc tAFlow) (.pair tAUnit .unit)), (.v (.int .i64)), fun x => purse_Get x.1 x.2.1⟩
theorem purse_Get_ok : ECok Try.prog 18 (.es purse_Get_s)   := es_ok (A := (.pair (.slc tAFlow) (.pair tAUnit .unit))) (Q := (.v (.int .i64))) (fun W x => purse_GetW W x.1 x.2.1) [] trivial [] [] [(2, ⟨[(9, .t (.int .i64))], [], []⟩)] Try.func18 rfl (by decide +kernel) rfl rfl (fun W x => by kernel_rfl)
noncomputable def ref01_NatW (W : Wd) (u : Int) : Option Novationref01Big' := 
 W.loop (fun (z1 : Int × List (Int) × Unit) again2 => 
  W.cnd (decide (0 < z1.1)) (W.nz 2 (W.room (z1.2.1.length + ((IntKind.u8.wrap (Int.tmod z1.1 2)) :: []).length) 1 (W.nz 2 ((again2 ((IntKind.u64.wrap (Int.tdiv z1.1 2)), ((z1.2.1 ++ ((IntKind.u8.wrap (Int.tmod z1.1 2)) :: [])), ())))))))
   (some (false, (z1.2.1, ()))))
  (u, ([], ()))
noncomputable def ref01_Nat (u : Int) : Option Novationref01Big' := ref01_NatW stdW u
noncomputable def ref01_Nat_s : ES := ⟨(.pair (.int .u64) .unit), (.v tNovationref01Big), fun x => ref01_Nat x.1⟩
theorem ref01_Nat_ok : ECok Try.prog 59 (.es ref01_Nat_s)   := es_ok (A := (.pair (.int .u64) .unit)) (Q := (.v tNovationref01Big)) (fun W x => ref01_NatW W x.1) [] trivial [] [] [(2, ⟨[(0, .t (.int .u64)), (3, .row 1)], [], [.dead, .own 5 (.int .u8)]⟩)] Try.func59 rfl (by decide +kernel) rfl rfl (fun W x => by kernel_rfl)
noncomputable def ref01_plusW (W : Wd) (a : List Int) (b : List Int) : Option (List Int) := 
 W.loop (fun (z1 : Int × Int × List (Int) × Unit) again2 => 
  W.join (fun (z3 : List (Int) × Unit) => 
   W.join (fun (z4 : Int × List (Int) × Unit) => 
    W.join (fun (z5 : Int × List (Int) × Unit) => W.nz 2 (W.room (z5.2.1.length + ((Int.tmod z5.1 2) :: []).length) 1 (W.nz 2 ((again2 ((IntKind.u8.wrap (Int.tdiv z5.1 2)), ((IntKind.i64.wrap (z1.2.1 + 1)), ((z5.2.1 ++ ((Int.tmod z5.1 2) :: [])), ()))))))))
     fun k6 => 
     W.cnd (decide (z1.2.1 < (b.length : Int))) (W.idx b z1.2.1 fun x7 => (k6 ((IntKind.u8.wrap (z4.1 + x7)), (z4.2.1, ()))))
      ((k6 (z4.1, (z4.2.1, ())))))
    fun k8 => 
    W.cnd (decide (z1.2.1 < (a.length : Int))) (W.idx a z1.2.1 fun x9 => (k8 ((IntKind.u8.wrap (z1.1 + x9)), (z3.1, ()))))
     ((k8 (z1.1, (z3.1, ())))))
   fun k10 => 
   W.cnd (decide (z1.2.1 < (a.length : Int))) ((k10 (z1.2.2.1, ())))
    (
    W.cnd (decide (z1.2.1 < (b.length : Int))) ((k10 (z1.2.2.1, ())))
     (
     W.join (fun (z11 : List (Int) × Unit) => some z11.1)
      fun k12 => 
      W.cnd (decide (0 < z1.1)) (W.room (z1.2.2.1.length + (z1.1 :: []).length) 1 ((k12 ((z1.2.2.1 ++ (z1.1 :: [])), ()))))
       ((k12 (z1.2.2.1, ()))))))
  (0, (0, ([], ())))
noncomputable def ref01_plus (a : List Int) (b : List Int) : Option (List Int) := ref01_plusW stdW a b
noncomputable def ref01_plus_s : ES := ⟨(.pair (.slc (.int .u8)) (.pair (.slc (.int .u8)) .unit)), (.own 5 (.int .u8)), fun x => ref01_plus x.1 x.2.1⟩
theorem ref01_plus_ok : ECok Try.prog 77 (.es ref01_plus_s)   := es_ok (A := (.pair (.slc (.int .u8)) (.pair (.slc (.int .u8)) .unit))) (Q := (.own 5 (.int .u8))) (fun W x => ref01_plusW W x.1 x.2.1) [] trivial [] [(6, ⟨[(5, .row 1)], [], [.dead, .own 5 (.int .u8)]⟩), (8, ⟨[(5, .row 1), (6, .t (.int .u8))], [], [.dead, .own 5 (.int .u8)]⟩), (10, ⟨[(5, .row 1), (6, .t (.int .u8))], [], [.dead, .own 5 (.int .u8)]⟩), (14, ⟨[(5, .row 1)], [], [.dead, .own 5 (.int .u8)]⟩)] [(4, ⟨[(5, .row 1), (6, .t (.int .u8)), (7, .t (.int .i64))], [], [.dead, .own 5 (.int .u8)]⟩)] Try.func77 rfl (by decide +kernel) rfl rfl (fun W x => by kernel_rfl)
noncomputable def ref01_OfW (W : Wd) (n : Int) : Option Novationref01Big' := 
 W.cnd (decide (0 ≤ n)) (W.call (ref01_Nat (IntKind.u64.wrap n)) fun v1 => some (v1.1, (v1.2.1, ())))
  (W.call (ref01_Nat (IntKind.u64.wrap (IntKind.i64.wrap (0 - (IntKind.i64.wrap (n + 1)))))) fun v2 => W.call (ref01_plus v2.2.1 (1 :: [])) fun v3 => some (true, (v3, ())))
noncomputable def ref01_Of (n : Int) : Option Novationref01Big' := ref01_OfW stdW n
noncomputable def ref01_Of_s : ES := ⟨(.pair (.int .i64) .unit), (.v tNovationref01Big), fun x => ref01_Of x.1⟩
theorem ref01_Of_ok : ECok Try.prog 43 (.es ref01_Of_s)   := es_ok (A := (.pair (.int .i64) .unit)) (Q := (.v tNovationref01Big)) (fun W x => ref01_OfW W x.1) [(59, .es ref01_Nat_s), (77, .es ref01_plus_s)] ⟨ref01_Nat_ok, ref01_plus_ok, trivial⟩ [] [] [] Try.func43 rfl (by decide +kernel) rfl rfl (fun W x => by kernel_rfl)
noncomputable def ref01_trimW (W : Wd) (neg : Bool) (b : List Int) : Option Novationref01Big' := 
 W.join (fun (z1 : Int × Unit) => 
  W.cnd neg (W.bnd z1.1 b.length fun h2 => some ((decide (0 < z1.1)), ((b.take h2), ())))
   (W.bnd z1.1 b.length fun h3 => some (false, ((b.take h3), ()))))
  fun k4 => 
  W.loop (fun (z5 : Int × Unit) again6 => 
   W.cnd (decide (0 < z5.1)) (W.idx b (IntKind.i64.wrap (z5.1 - 1)) fun x7 => 
    W.cnd (x7 == 0) ((again6 ((IntKind.i64.wrap (z5.1 - 1)), ())))
     ((k4 z5)))
    ((k4 z5)))
   ((b.length : Int), ())
noncomputable def ref01_trim (neg : Bool) (b : List Int) : Option Novationref01Big' := ref01_trimW stdW neg b
noncomputable def ref01_trim_s : ES := ⟨(.pair .bool (.pair (.slc (.int .u8)) .unit)), (.v tNovationref01Big), fun x => ref01_trim x.1 x.2.1⟩
theorem ref01_trim_ok : ECok Try.prog 86 (.es ref01_trim_s)   := es_ok (A := (.pair .bool (.pair (.slc (.int .u8)) .unit))) (Q := (.v tNovationref01Big)) (fun W x => ref01_trimW W x.1 x.2.1) [] trivial [] [(4, ⟨[(5, .t (.int .i64))], [], []⟩)] [(2, ⟨[(5, .t (.int .i64))], [], []⟩)] Try.func86 rfl (by decide +kernel) rfl rfl (fun W x => by kernel_rfl)
noncomputable def ref01_lessW (W : Wd) (a : List Int) (b : List Int) : Option Bool := 
 W.cnd ((a.length : Int) != (b.length : Int)) (some (decide ((a.length : Int) < (b.length : Int))))
  (
  W.loop (fun (z1 : Int × Unit) again2 => 
   W.cnd (decide (0 < z1.1)) (W.idx a (IntKind.i64.wrap (z1.1 - 1)) fun x3 => W.idx b (IntKind.i64.wrap (z1.1 - 1)) fun x4 => 
    W.cnd (x3 != x4) (W.idx a (IntKind.i64.wrap (z1.1 - 1)) fun x5 => W.idx b (IntKind.i64.wrap (z1.1 - 1)) fun x6 => some (decide (x5 < x6)))
     ((again2 ((IntKind.i64.wrap (z1.1 - 1)), ()))))
    (some false))
   ((a.length : Int), ()))
noncomputable def ref01_less (a : List Int) (b : List Int) : Option Bool := ref01_lessW stdW a b
noncomputable def ref01_less_s : ES := ⟨(.pair (.slc (.int .u8)) (.pair (.slc (.int .u8)) .unit)), (.v .bool), fun x => ref01_less x.1 x.2.1⟩
theorem ref01_less_ok : ECok Try.prog 87 (.es ref01_less_s)   := es_ok (A := (.pair (.slc (.int .u8)) (.pair (.slc (.int .u8)) .unit))) (Q := (.v .bool)) (fun W x => ref01_lessW W x.1 x.2.1) [] trivial [(6, [], (ofL [(0, true), (1, true), (2, true), (3, true), (4, true), (5, true), (6, true), (7, true), (8, true), (9, true), (10, true)])), (7, [], (ofL [(0, true), (1, true), (2, true), (3, true), (4, true), (5, true), (6, true), (7, true), (8, true), (9, true), (10, true), (11, true)]))] [] [(4, ⟨[(5, .t (.int .i64))], [], []⟩)] Try.func87 rfl (by decide +kernel) rfl rfl (fun W x => by kernel_rfl)
noncomputable def ref01_minusW (W : Wd) (a : List Int) (b : List Int) : Option (List Int) := 
 W.loop (fun (z1 : Int × Int × List (Int) × Unit) again2 => 
  W.cnd (decide (z1.2.1 < (a.length : Int))) (
   W.join (fun (z3 : Int × List (Int) × Unit) => W.idx a z1.2.1 fun x4 => 
    W.join (fun (z5 : Int × List (Int) × Unit) => W.nz 2 (W.room (z5.2.1.length + ((Int.tmod (IntKind.u8.wrap ((IntKind.u8.wrap (x4 + 2)) - z3.1)) 2) :: []).length) 1 ((again2 (z5.1, ((IntKind.i64.wrap (z1.2.1 + 1)), ((z5.2.1 ++ ((Int.tmod (IntKind.u8.wrap ((IntKind.u8.wrap (x4 + 2)) - z3.1)) 2) :: [])), ())))))))
     fun k6 => 
     W.cnd (decide ((IntKind.u8.wrap ((IntKind.u8.wrap (x4 + 2)) - z3.1)) < 2)) ((k6 (1, (z3.2.1, ()))))
      ((k6 (0, (z3.2.1, ())))))
    fun k7 => 
    W.cnd (decide (z1.2.1 < (b.length : Int))) (W.idx b z1.2.1 fun x8 => (k7 ((IntKind.u8.wrap (z1.1 + x8)), (z1.2.2.1, ()))))
     ((k7 (z1.1, (z1.2.2.1, ())))))
   (some z1.2.2.1))
  (0, (0, ([], ())))
noncomputable def ref01_minus (a : List Int) (b : List Int) : Option (List Int) := ref01_minusW stdW a b
noncomputable def ref01_minus_s : ES := ⟨(.pair (.slc (.int .u8)) (.pair (.slc (.int .u8)) .unit)), (.own 5 (.int .u8)), fun x => ref01_minus x.1 x.2.1⟩
theorem ref01_minus_ok : ECok Try.prog 88 (.es ref01_minus_s)   := es_ok (A := (.pair (.slc (.int .u8)) (.pair (.slc (.int .u8)) .unit))) (Q := (.own 5 (.int .u8))) (fun W x => ref01_minusW W x.1 x.2.1) [] trivial [] [(9, ⟨[(5, .row 1), (8, .t (.int .u8))], [], [.dead, .own 5 (.int .u8)]⟩), (13, ⟨[(5, .row 1), (6, .t (.int .u8))], [], [.dead, .own 5 (.int .u8)]⟩)] [(4, ⟨[(5, .row 1), (6, .t (.int .u8)), (7, .t (.int .i64))], [], [.dead, .own 5 (.int .u8)]⟩)] Try.func88 rfl (by decide +kernel) rfl rfl (fun W x => by kernel_rfl)
noncomputable def ref01_AddW (W : Wd) (a : Novationref01Big') (b : Novationref01Big') : Option Novationref01Big' := 
 W.cnd (Go.Vc.notIf false (a.1 == b.1)) (W.call (ref01_plus a.2.1 b.2.1) fun v1 => W.call (ref01_trim a.1 v1) fun v2 => some (v2.1, (v2.2.1, ())))
  (W.call (ref01_less a.2.1 b.2.1) fun v3 => 
  W.cnd v3 (W.call (ref01_minus b.2.1 a.2.1) fun v4 => W.call (ref01_trim b.1 v4) fun v5 => some (v5.1, (v5.2.1, ())))
   (W.call (ref01_minus a.2.1 b.2.1) fun v6 => W.call (ref01_trim a.1 v6) fun v7 => some (v7.1, (v7.2.1, ()))))
noncomputable def ref01_Add (a : Novationref01Big') (b : Novationref01Big') : Option Novationref01Big' := ref01_AddW stdW a b
noncomputable def ref01_Add_s : ES := ⟨(.pair tNovationref01Big (.pair tNovationref01Big .unit)), (.v tNovationref01Big), fun x => ref01_Add x.1 x.2.1⟩
theorem ref01_Add_ok : ECok Try.prog 58 (.es ref01_Add_s)   := es_ok (A := (.pair tNovationref01Big (.pair tNovationref01Big .unit))) (Q := (.v tNovationref01Big)) (fun W x => ref01_AddW W x.1 x.2.1) [(77, .es ref01_plus_s), (86, .es ref01_trim_s), (87, .es ref01_less_s), (88, .es ref01_minus_s)] ⟨ref01_plus_ok, ref01_trim_ok, ref01_less_ok, ref01_minus_ok, trivial⟩ [(2, [2], (ofL [(0, true), (1, true), (2, true), (3, true), (4, true), (5, true), (6, false), (7, false), (8, false)])), (4, [2], (ofL [(0, true), (1, true), (2, true), (3, true), (4, true), (5, true), (6, false), (7, false), (8, false)])), (5, [2], (ofL [(0, true), (1, true), (2, true), (3, true), (4, true), (5, true), (6, false), (7, false), (8, false)]))] [] [] Try.func58 rfl (by decide +kernel) rfl rfl (fun W x => by kernel_rfl)
noncomputable def ref01_NegW (W : Wd) (a : Novationref01Big') : Option Novationref01Big' := W.call (ref01_trim (!a.1) a.2.1) fun v1 => some (v1.1, (v1.2.1, ()))
noncomputable def ref01_Neg (a : Novationref01Big') : Option Novationref01Big' := ref01_NegW stdW a
noncomputable def ref01_Neg_s : ES := ⟨(.pair tNovationref01Big .unit), (.v tNovationref01Big), fun x => ref01_Neg x.1⟩
theorem ref01_Neg_ok : ECok Try.prog 76 (.es ref01_Neg_s)   := es_ok (A := (.pair tNovationref01Big .unit)) (Q := (.v tNovationref01Big)) (fun W x => ref01_NegW W x.1) [(86, .es ref01_trim_s)] ⟨ref01_trim_ok, trivial⟩ [] [] [] Try.func76 rfl (by decide +kernel) rfl rfl (fun W x => by kernel_rfl)
noncomputable def ref01_SubW (W : Wd) (a : Novationref01Big') (b : Novationref01Big') : Option Novationref01Big' := W.call (ref01_Neg (b.1, (b.2.1, ()))) fun v1 => W.call (ref01_Add (a.1, (a.2.1, ())) (v1.1, (v1.2.1, ()))) fun v2 => some (v2.1, (v2.2.1, ()))
noncomputable def ref01_Sub (a : Novationref01Big') (b : Novationref01Big') : Option Novationref01Big' := ref01_SubW stdW a b
noncomputable def ref01_Sub_s : ES := ⟨(.pair tNovationref01Big (.pair tNovationref01Big .unit)), (.v tNovationref01Big), fun x => ref01_Sub x.1 x.2.1⟩
theorem ref01_Sub_ok : ECok Try.prog 42 (.es ref01_Sub_s)   := es_ok (A := (.pair tNovationref01Big (.pair tNovationref01Big .unit))) (Q := (.v tNovationref01Big)) (fun W x => ref01_SubW W x.1 x.2.1) [(76, .es ref01_Neg_s), (58, .es ref01_Add_s)] ⟨ref01_Neg_ok, ref01_Add_ok, trivial⟩ [(1, [2], (ofL [(0, true), (1, true), (2, false), (3, false), (4, false)]))] [] [] Try.func42 rfl (by decide +kernel) rfl rfl (fun W x => by kernel_rfl)
noncomputable def ref01_CmpW (W : Wd) (a : Novationref01Big') (b : Novationref01Big') : Option Int := W.call (ref01_Sub (a.1, (a.2.1, ())) (b.1, (b.2.1, ()))) fun v1 => 
 W.cnd ((v1.2.1.length : Int) == 0) (some 0)
  (
  W.cnd v1.1 (some (-1))
   (some 1))
noncomputable def ref01_Cmp (a : Novationref01Big') (b : Novationref01Big') : Option Int := ref01_CmpW stdW a b
noncomputable def ref01_Cmp_s : ES := ⟨(.pair tNovationref01Big (.pair tNovationref01Big .unit)), (.v (.int .i64)), fun x => ref01_Cmp x.1 x.2.1⟩
theorem ref01_Cmp_ok : ECok Try.prog 20 (.es ref01_Cmp_s)   := es_ok (A := (.pair tNovationref01Big (.pair tNovationref01Big .unit))) (Q := (.v (.int .i64))) (fun W x => ref01_CmpW W x.1 x.2.1) [(42, .es ref01_Sub_s)] ⟨ref01_Sub_ok, trivial⟩ [] [] [] Try.func20 rfl (by decide +kernel) rfl rfl (fun W x => by kernel_rfl)
noncomputable def law11_FewW (W : Wd) (l : List AUnit') : Option (List AUnit') := 
 W.cnd (decide (12 < (l.length : Int))) (W.bnd 12 l.length fun h1 => some (l.take h1))
  (some l)
noncomputable def law11_Few (l : List AUnit') : Option (List AUnit') := law11_FewW stdW l
noncomputable def law11_Few_s : ES := ⟨(.pair (.slc tAUnit) .unit), (.v (.slc tAUnit)), fun x => law11_Few x.1⟩
theorem law11_Few_ok : ECok Try.prog 26 (.es law11_Few_s)   := es_ok (A := (.pair (.slc tAUnit) .unit)) (Q := (.v (.slc tAUnit))) (fun W x => law11_FewW W x.1) [] trivial [] [] [] Try.func26 rfl (by decide +kernel) rfl rfl (fun W x => by kernel_rfl)
noncomputable def law19_FewW (W : Wd) (l : List APos') : Option (List APos') := 
 W.join (fun (z1 : List ((Int × Int × Unit) × List (Int × Int × Unit) × Unit) × Unit) => some z1.1)
  fun k2 => 
  W.loop (fun (z3 : Int × List ((Int × Int × Unit) × List (Int × Int × Unit) × Unit) × Unit) again4 => 
   W.cnd (decide (z3.1 < (l.length : Int))) (
    W.cnd (decide (z3.1 < 12)) (W.idx l z3.1 fun x5 => W.idx l z3.1 fun x6 => W.call (law11_Few x6.2.1) fun v7 => W.room (z3.2.1.length + ((x5.1, (v7, ())) :: []).length) 40 ((again4 ((IntKind.i64.wrap (z3.1 + 1)), ((z3.2.1 ++ ((x5.1, (v7, ())) :: [])), ())))))
     ((k2 (z3.2.1, ()))))
    ((k2 (z3.2.1, ()))))
   (0, ([], ()))
noncomputable def law19_Few (l : List APos') : Option (List APos') := law19_FewW stdW l
noncomputable def law19_Few_s : ES := ⟨(.pair (.slc tAPos) .unit), (.own 103 tAPos), fun x => law19_Few x.1⟩
theorem law19_Few_ok : ECok Try.prog 27 (.es law19_Few_s)   := es_ok (A := (.pair (.slc tAPos) .unit)) (Q := (.own 103 tAPos)) (fun W x => law19_FewW W x.1) [(26, .es law11_Few_s)] ⟨law11_Few_ok, trivial⟩ [(5, [], (ofL [(0, true), (1, true), (2, true), (3, true), (4, true), (5, true), (6, true), (7, true), (8, true), (9, true), (10, true), (11, false), (12, true), (13, false), (14, false), (15, true)]))] [(6, ⟨[(3, .row 1)], [], [.dead, .own 103 tAPos]⟩)] [(3, ⟨[(3, .row 1), (4, .t (.int .i64))], [], [.dead, .own 103 tAPos]⟩)] Try.func27 rfl (by decide +kernel) rfl rfl (fun W x => by kernel_rfl)
noncomputable def vec_IsW (W : Wd) (l : List AUnit') : Option Bool := 
 W.loop (fun (z1 : Int × Int × Unit) again2 => 
  W.cnd (decide (z1.2.1 < (l.length : Int))) (W.idx l z1.2.1 fun x3 => 
   W.join (fun (z4 : Bool × Unit) => 
    W.cnd z4.1 (some false)
     ((again2 (x3.1, ((IntKind.i64.wrap (z1.2.1 + 1)), ())))))
    fun k5 => 
    W.cnd (decide (x3.1 ≤ z1.1)) ((k5 (true, ())))
     (
     W.cnd (decide (8 < x3.1)) ((k5 (true, ())))
      ((k5 ((x3.2.1 == 0), ())))))
   (some true))
  (0, (0, ()))
noncomputable def vec_Is (l : List AUnit') : Option Bool := vec_IsW stdW l
noncomputable def vec_Is_s : ES := ⟨(.pair (.slc tAUnit) .unit), (.v .bool), fun x => vec_Is x.1⟩
theorem vec_Is_ok : ECok Try.prog 65 (.es vec_Is_s)   := es_ok (A := (.pair (.slc tAUnit) .unit)) (Q := (.v .bool)) (fun W x => vec_IsW W x.1) [] trivial [] [(500025, ⟨[(25, .t .bool)], [], []⟩)] [(3, ⟨[(3, .t (.int .i64)), (8, .t (.int .i64))], [], []⟩)] Try.func65 rfl (by decide +kernel) rfl rfl (fun W x => by kernel_rfl)
noncomputable def wide_Wide_belowW (W : Wd) (w : WideWide') : Option Bool := some (decide (w.1 < 0))
noncomputable def wide_Wide_below (w : WideWide') : Option Bool := wide_Wide_belowW stdW w
noncomputable def wide_Wide_below_s : ES := ⟨(.pair tWideWide .unit), (.v .bool), fun x => wide_Wide_below x.1⟩
theorem wide_Wide_below_ok : ECok Try.prog 112 (.es wide_Wide_below_s)   := es_ok (A := (.pair tWideWide .unit)) (Q := (.v .bool)) (fun W x => wide_Wide_belowW W x.1) [] trivial [] [] [] Try.func112 rfl (by decide +kernel) rfl rfl (fun W x => by kernel_rfl)
noncomputable def wide_Wide_sizeW (W : Wd) (w : WideWide') : Option WideSize' := W.call (wide_Wide_below w) fun v1 => 
 W.cnd (!v1) (some ((IntKind.u64.wrap w.1), w.2))
  (W.call (sub64 0 w.2.1 0) fun v2 => W.call (sub64 0 (IntKind.u64.wrap w.1) v2.2.1) fun v3 => some (v3.1, (v2.1, ())))
noncomputable def wide_Wide_size (w : WideWide') : Option WideSize' := wide_Wide_sizeW stdW w
noncomputable def wide_Wide_size_s : ES := ⟨(.pair tWideWide .unit), (.v tWideSize), fun x => wide_Wide_size x.1⟩
theorem wide_Wide_size_ok : ECok Try.prog 109 (.es wide_Wide_size_s)   := es_ok (A := (.pair tWideWide .unit)) (Q := (.v tWideSize)) (fun W x => wide_Wide_sizeW W x.1) [(112, .es wide_Wide_below_s), (138, .es sub64_s)] ⟨wide_Wide_below_ok, sub64_ok, trivial⟩ [] [] [] Try.func109 rfl (by decide +kernel) rfl rfl (fun W x => by kernel_rfl)
noncomputable def math_bits_Mul64W (W : Wd) (x : Int) (y : Int) : Option (Int × Int × Unit) := W.nn 32 (W.nn 32 (W.nn 32 (W.nn 32 (W.nn 32 (some ((IntKind.u64.wrap ((IntKind.u64.wrap ((IntKind.u64.wrap ((Int.fdiv x (2 ^ (Min.min (Int.toNat 32) (Go.IntKind.bits Go.IntKind.u64)))) * (Int.fdiv y (2 ^ (Min.min (Int.toNat 32) (Go.IntKind.bits Go.IntKind.u64)))))) + (Int.fdiv (IntKind.u64.wrap ((IntKind.u64.wrap ((Int.fdiv x (2 ^ (Min.min (Int.toNat 32) (Go.IntKind.bits Go.IntKind.u64)))) * (Go.bits Go.BinOp.and Go.IntKind.u64 y 4294967295))) + (Int.fdiv (IntKind.u64.wrap ((Go.bits Go.BinOp.and Go.IntKind.u64 x 4294967295) * (Go.bits Go.BinOp.and Go.IntKind.u64 y 4294967295))) (2 ^ (Min.min (Int.toNat 32) (Go.IntKind.bits Go.IntKind.u64)))))) (2 ^ (Min.min (Int.toNat 32) (Go.IntKind.bits Go.IntKind.u64)))))) + (Int.fdiv (IntKind.u64.wrap ((Go.bits Go.BinOp.and Go.IntKind.u64 (IntKind.u64.wrap ((IntKind.u64.wrap ((Int.fdiv x (2 ^ (Min.min (Int.toNat 32) (Go.IntKind.bits Go.IntKind.u64)))) * (Go.bits Go.BinOp.and Go.IntKind.u64 y 4294967295))) + (Int.fdiv (IntKind.u64.wrap ((Go.bits Go.BinOp.and Go.IntKind.u64 x 4294967295) * (Go.bits Go.BinOp.and Go.IntKind.u64 y 4294967295))) (2 ^ (Min.min (Int.toNat 32) (Go.IntKind.bits Go.IntKind.u64)))))) 4294967295) + (IntKind.u64.wrap ((Go.bits Go.BinOp.and Go.IntKind.u64 x 4294967295) * (Int.fdiv y (2 ^ (Min.min (Int.toNat 32) (Go.IntKind.bits Go.IntKind.u64)))))))) (2 ^ (Min.min (Int.toNat 32) (Go.IntKind.bits Go.IntKind.u64)))))), ((IntKind.u64.wrap (x * y)), ())))))))
noncomputable def math_bits_Mul64 (x : Int) (y : Int) : Option (Int × Int × Unit) := math_bits_Mul64W stdW x y
noncomputable def math_bits_Mul64_s : ES := ⟨(.pair (.int .u64) (.pair (.int .u64) .unit)), (.pair (.v (.int .u64)) (.pair (.v (.int .u64)) .unit)), fun x => math_bits_Mul64 x.1 x.2.1⟩
theorem math_bits_Mul64_ok : ECok Try.prog 110 (.es math_bits_Mul64_s)   := es_ok (A := (.pair (.int .u64) (.pair (.int .u64) .unit))) (Q := (.pair (.v (.int .u64)) (.pair (.v (.int .u64)) .unit))) (fun W x => math_bits_Mul64W W x.1 x.2.1) [] trivial [] [] [] Try.func110 rfl (by decide +kernel) rfl rfl (fun W x => by kernel_rfl)
noncomputable def wide_size_signedW (W : Wd) (s : WideSize') (minus : Bool) : Option (WideWide' × Bool × Unit) := 
 W.cnd (!minus) (some (((IntKind.i64.wrap s.1), s.2), ((decide (s.1 < 9223372036854775808)), ())))
  (W.call (sub64 0 s.2.1 0) fun v1 => W.call (sub64 0 s.1 v1.2.1) fun v2 => 
  W.cnd (decide (s.1 < 9223372036854775808)) (some (((IntKind.i64.wrap v2.1), (v1.1, ())), (true, ())))
   (
   W.cnd (s.1 == 9223372036854775808) (some (((IntKind.i64.wrap v2.1), (v1.1, ())), ((s.2.1 == 0), ())))
    (some (((IntKind.i64.wrap v2.1), (v1.1, ())), (false, ())))))
noncomputable def wide_size_signed (s : WideSize') (minus : Bool) : Option (WideWide' × Bool × Unit) := wide_size_signedW stdW s minus
noncomputable def wide_size_signed_s : ES := ⟨(.pair tWideSize (.pair .bool .unit)), (.pair (.v tWideWide) (.pair (.v .bool) .unit)), fun x => wide_size_signed x.1 x.2.1⟩
theorem wide_size_signed_ok : ECok Try.prog 111 (.es wide_size_signed_s)   := es_ok (A := (.pair tWideSize (.pair .bool .unit))) (Q := (.pair (.v tWideWide) (.pair (.v .bool) .unit))) (fun W x => wide_size_signedW W x.1 x.2.1) [(138, .es sub64_s)] ⟨sub64_ok, trivial⟩ [(2, [1], (ofL [(0, true), (1, true), (2, true), (3, true), (4, true), (5, true), (6, true), (7, true), (8, true), (9, false), (10, true)])), (5, [1], (ofL [(0, true), (1, true), (2, true), (3, true), (4, true), (5, true), (6, true), (7, true), (8, true), (9, true), (10, true), (11, true), (12, true), (13, true), (14, true), (15, true), (16, true), (17, false), (18, true)]))] [] [] Try.func111 rfl (by decide +kernel) rfl rfl (fun W x => by kernel_rfl)
noncomputable def wide_MulW (W : Wd) (a : Int) (b : Int) : Option WideWide' := W.call (wide_Of a) fun v1 => W.call (wide_Of b) fun v2 => W.call (wide_Wide_size v1) fun v3 => W.call (wide_Wide_size v2) fun v4 => W.call (math_bits_Mul64 v3.2.1 v4.2.1) fun v5 => W.both (W.call (wide_Wide_below v1) fun v6 => W.both (W.call (wide_Wide_below v2) fun v7 => W.both (W.call (wide_size_signed v5 (Go.Vc.notIf true (v6 == v7))) fun v8 => some v8.1) (W.call (wide_size_signed v5 (Go.Vc.notIf true (v6 == v7))) fun v9 => some v9.1)) (W.call (wide_Wide_below v2) fun v10 => W.call (wide_size_signed v5 (Go.Vc.notIf true (v6 == v10))) fun v11 => some v11.1)) (W.call (wide_Wide_below v1) fun v12 => W.call (wide_Wide_below v2) fun v13 => W.call (wide_size_signed v5 (Go.Vc.notIf true (v12 == v13))) fun v14 => some v14.1)
noncomputable def wide_Mul (a : Int) (b : Int) : Option WideWide' := wide_MulW stdW a b
noncomputable def wide_Mul_s : ES := ⟨(.pair (.int .i64) (.pair (.int .i64) .unit)), (.v tWideWide), fun x => wide_Mul x.1 x.2.1⟩
theorem wide_Mul_ok : ECok Try.prog 94 (.es wide_Mul_s)   := es_ok (A := (.pair (.int .i64) (.pair (.int .i64) .unit))) (Q := (.v tWideWide)) (fun W x => wide_MulW W x.1 x.2.1) [(54, .es wide_Of_s), (109, .es wide_Wide_size_s), (110, .es math_bits_Mul64_s), (112, .es wide_Wide_below_s), (111, .es wide_size_signed_s)] ⟨wide_Of_ok, wide_Wide_size_ok, math_bits_Mul64_ok, wide_Wide_below_ok, wide_size_signed_ok, trivial⟩ [(2, [], (ofL [(0, true), (3, true), (1, false), (2, true), (4, false), (5, true), (6, false), (7, true), (8, true), (9, true), (10, true), (11, true)])), (3, [], (.rd 0 (.rd 1 (.rd 2 (.rd 3 (.rd 5 (.two 4 12 (.two 6 12 (.rd 7 (.two 8 12 (ofL [(9, true), (10, true), (11, true), (12, false), (13, false), (14, true)]) (ofL [(8, false), (9, true), (10, true), (11, true), (13, false), (14, true)]))) (ofL [(6, false), (7, true), (8, false), (9, true), (10, true), (11, true), (13, false), (14, true)])) (ofL [(4, false), (6, false), (7, true), (8, false), (9, true), (10, true), (11, true), (13, false), (14, true)]))))))))] [] [] Try.func94 rfl (by decide +kernel) rfl rfl (fun W x => by kernel_rfl)
noncomputable def wide_TimesW (W : Wd) (w : WideWide') (n : Int) : Option (WideWide' × Int × Unit) := W.call (wide_Wide_size w) fun v1 => W.call (wide_Of n) fun v2 => W.call (wide_Wide_size v2) fun v3 => W.call (math_bits_Mul64 v1.1 v3.2.1) fun v4 => W.call (math_bits_Mul64 v1.2.1 v3.2.1) fun v5 => W.call (add64 v4.2.1 v5.1 0) fun v6 => W.call (wide_Wide_below w) fun v7 => W.call (wide_size_signed (v6.1, v5.2) (Go.Vc.notIf true (v7 == (decide (n < 0))))) fun v8 => 
 W.cnd v8.2.1 (
  W.cnd (v4.1 == 0) (W.call (wide_ranged v8.1 (v6.2.1 == 0)) fun v9 => some v9)
   (W.call (wide_ranged v8.1 false) fun v10 => some v10))
  (W.call (wide_ranged v8.1 false) fun v11 => some v11)
noncomputable def wide_Times (w : WideWide') (n : Int) : Option (WideWide' × Int × Unit) := wide_TimesW stdW w n
noncomputable def wide_Times_s : ES := ⟨(.pair tWideWide (.pair (.int .i64) .unit)), (.pair (.v tWideWide) (.pair (.v (.int .i64)) .unit)), fun x => wide_Times x.1 x.2.1⟩
theorem wide_Times_ok : ECok Try.prog 93 (.es wide_Times_s)   := es_ok (A := (.pair tWideWide (.pair (.int .i64) .unit))) (Q := (.pair (.v tWideWide) (.pair (.v (.int .i64)) .unit))) (fun W x => wide_TimesW W x.1 x.2.1) [(109, .es wide_Wide_size_s), (54, .es wide_Of_s), (110, .es math_bits_Mul64_s), (104, .es add64_s), (112, .es wide_Wide_below_s), (111, .es wide_size_signed_s), (105, .es wide_ranged_s)] ⟨wide_Wide_size_ok, wide_Of_ok, math_bits_Mul64_ok, add64_ok, wide_Wide_below_ok, wide_size_signed_ok, wide_ranged_ok, trivial⟩ [] [] [] Try.func93 rfl (by decide +kernel) rfl rfl (fun W x => by kernel_rfl)
noncomputable def ref01_MulW (W : Wd) (a : Novationref01Big') (b : Novationref01Big') : Option Novationref01Big' := W.room a.2.1.length 1 (
 W.loop (fun (z1 : List (Int) × List (Int) × Int × Unit) again2 => 
  W.cnd (decide (z1.2.2.1 < (b.2.1.length : Int))) (
   W.join (fun (z3 : List (Int) × Unit) => W.room (0 :: []).length 1 (W.room ((0 :: []).length + z1.2.1.length) 1 ((again2 (z3.1, (((0 :: []) ++ z1.2.1), ((IntKind.i64.wrap (z1.2.2.1 + 1)), ())))))))
    fun k4 => W.idx b.2.1 z1.2.2.1 fun x5 => 
    W.cnd (x5 == 1) (W.call (ref01_plus z1.1 z1.2.1) fun v6 => (k4 (v6, ())))
     ((k4 (z1.1, ()))))
   (W.call (ref01_trim (Go.Vc.notIf true (a.1 == b.1)) z1.1) fun v7 => some (v7.1, (v7.2.1, ()))))
  ([], (a.2.1, (0, ()))))
noncomputable def ref01_Mul (a : Novationref01Big') (b : Novationref01Big') : Option Novationref01Big' := ref01_MulW stdW a b
noncomputable def ref01_Mul_s : ES := ⟨(.pair tNovationref01Big (.pair tNovationref01Big .unit)), (.v tNovationref01Big), fun x => ref01_Mul x.1 x.2.1⟩
theorem ref01_Mul_ok : ECok Try.prog 78 (.es ref01_Mul_s)   := es_ok (A := (.pair tNovationref01Big (.pair tNovationref01Big .unit))) (Q := (.v tNovationref01Big)) (fun W x => ref01_MulW W x.1 x.2.1) [(77, .es ref01_plus_s), (86, .es ref01_trim_s)] ⟨ref01_plus_ok, ref01_trim_ok, trivial⟩ [] [(8, ⟨[(5, .t (.slc (.int .u8)))], [], []⟩)] [(4, ⟨[(5, .t (.slc (.int .u8))), (6, .t (.slc (.int .u8))), (7, .t (.int .i64))], [], []⟩)] Try.func78 rfl (by decide +kernel) rfl rfl (fun W x => by kernel_rfl)
noncomputable def ref13_GainW (W : Wd) (i : AInst') (qty : Int) (from_ : Int) (to_ : Int) : Option Novationref01Big' := W.call (ref01_Of qty) fun v1 => W.call (ref01_Of i.2.1) fun v2 => W.call (ref01_Mul (v1.1, (v1.2.1, ())) (v2.1, (v2.2.1, ()))) fun v3 => W.call (ref01_Of to_) fun v4 => W.call (ref01_Of from_) fun v5 => W.call (ref01_Sub (v4.1, (v4.2.1, ())) (v5.1, (v5.2.1, ()))) fun v6 => W.call (ref01_Mul (v3.1, (v3.2.1, ())) (v6.1, (v6.2.1, ()))) fun v7 => some (v7.1, (v7.2.1, ()))
noncomputable def ref13_Gain (i : AInst') (qty : Int) (from_ : Int) (to_ : Int) : Option Novationref01Big' := ref13_GainW stdW i qty from_ to_
noncomputable def ref13_Gain_s : ES := ⟨(.pair tAInst (.pair (.int .i64) (.pair (.int .i64) (.pair (.int .i64) .unit)))), (.v tNovationref01Big), fun x => ref13_Gain x.1 x.2.1 x.2.2.1 x.2.2.2.1⟩
theorem ref13_Gain_ok : ECok Try.prog 44 (.es ref13_Gain_s)   := es_ok (A := (.pair tAInst (.pair (.int .i64) (.pair (.int .i64) (.pair (.int .i64) .unit))))) (Q := (.v tNovationref01Big)) (fun W x => ref13_GainW W x.1 x.2.1 x.2.2.1 x.2.2.2.1) [(43, .es ref01_Of_s), (78, .es ref01_Mul_s), (42, .es ref01_Sub_s)] ⟨ref01_Of_ok, ref01_Mul_ok, ref01_Sub_ok, trivial⟩ [(1, [1], (ofL [(0, true), (2, true), (3, true), (6, true), (8, true), (1, false), (4, false), (5, false), (7, false), (9, false), (10, false), (11, false), (12, false)]))] [] [] Try.func44 rfl (by decide +kernel) rfl rfl (fun W x => by kernel_rfl)
noncomputable def book_IsW (W : Wd) (l : List APos') : Option Bool := 
 W.loop (fun (z1 : Int × Unit) again2 => 
  W.cnd (decide (z1.1 < (l.length : Int))) (W.idx l z1.1 fun x3 => 
   W.join (fun (z4 : Bool × Unit) => 
    W.cnd z4.1 (some false)
     ((again2 ((IntKind.i64.wrap (z1.1 + 1)), ()))))
    fun k5 => 
    W.cnd ((x3.2.1.length : Int) == 0) (W.both ((k5 (true, ()))) ((k5 (true, ()))))
     (W.call (vec_Is x3.2.1) fun v6 => 
     W.cnd (!v6) (W.both ((k5 (true, ()))) ((k5 (true, ()))))
      (
      W.cnd (decide (0 < z1.1)) (W.idx l (IntKind.i64.wrap (z1.1 - 1)) fun x7 => W.both (W.call (acct_Less x7.1 x3.1) fun v8 => (k5 ((!v8), ()))) (W.call (acct_Less x7.1 x3.1) fun v9 => (k5 ((!v9), ()))))
       (W.both ((k5 (false, ()))) ((k5 (false, ())))))))
   (some true))
  (0, ())
noncomputable def book_Is (l : List APos') : Option Bool := book_IsW stdW l
noncomputable def book_Is_s : ES := ⟨(.pair (.slc tAPos) .unit), (.v .bool), fun x => book_Is x.1⟩
theorem book_Is_ok : ECok Try.prog 35 (.es book_Is_s)   := es_ok (A := (.pair (.slc tAPos) .unit)) (Q := (.v .bool)) (fun W x => book_IsW W x.1) [(65, .es vec_Is_s), (56, .es acct_Less_s)] ⟨vec_Is_ok, acct_Less_ok, trivial⟩ [(4, [], (.rd 0 (.rd 1 (.rd 2 (.rd 3 (.rd 4 (.rd 5 (.rd 6 (.op 7 (.rd 8 (.rd 9 (.rd 10 (.rd 11 (.rd 12 (.rd 13 (.rd 14 (.rd 15 (.rd 16 (.rd 17 (.rd 18 (.rd 20 (.two 19 21 (ofL [(21, false), (22, false), (23, true), (24, true), (25, true)]) (ofL [(19, false), (22, false), (23, true), (24, true), (25, true)])))))))))))))))))))))))] [(500037, ⟨[(37, .t .bool)], [], []⟩)] [(2, ⟨[(7, .t (.int .i64))], [], []⟩)] Try.func35 rfl (by decide +kernel) rfl rfl (fun W x => by kernel_rfl)
noncomputable def vec_GetW (W : Wd) (l : List AUnit') (inst : Int) : Option Int := 
 W.loop (fun (z1 : Int × Unit) again2 => 
  W.cnd (decide (z1.1 < (l.length : Int))) (W.idx l z1.1 fun x3 => 
   W.cnd (x3.1 == inst) (some x3.2.1)
    ((again2 ((IntKind.i64.wrap (z1.1 + 1)), ()))))
   (some 0))
  (0, ())
noncomputable def vec_Get (l : List AUnit') (inst : Int) : Option Int := vec_GetW stdW l inst
noncomputable def vec_Get_s : ES := ⟨(.pair (.slc tAUnit) (.pair (.int .i64) .unit)), (.v (.int .i64)), fun x => vec_Get x.1 x.2.1⟩
theorem vec_Get_ok : ECok Try.prog 97 (.es vec_Get_s)   := es_ok (A := (.pair (.slc tAUnit) (.pair (.int .i64) .unit))) (Q := (.v (.int .i64))) (fun W x => vec_GetW W x.1 x.2.1) [] trivial [] [] [(2, ⟨[(9, .t (.int .i64))], [], []⟩)] Try.func97 rfl (by decide +kernel) rfl rfl (fun W x => by kernel_rfl)
noncomputable def law21_FewW (W : Wd) (l : List APos') (p : List AFlow') : Option DealDesk' := W.call (law19_Few l) fun v1 => W.call (law17_Few p) fun v2 => some (v1, (v2, ()))
noncomputable def law21_Few (l : List APos') (p : List AFlow') : Option DealDesk' := law21_FewW stdW l p
noncomputable def law21_Few_s : ES := ⟨(.pair (.slc tAPos) (.pair (.slc tAFlow) .unit)), (.v tDealDesk), fun x => law21_Few x.1 x.2.1⟩
theorem law21_Few_ok : ECok Try.prog 37 (.es law21_Few_s)   := es_ok (A := (.pair (.slc tAPos) (.pair (.slc tAFlow) .unit))) (Q := (.v tDealDesk)) (fun W x => law21_FewW W x.1 x.2.1) [(27, .es law19_Few_s), (11, .es law17_Few_s)] ⟨law19_Few_ok, law17_Few_ok, trivial⟩ [] [] [] Try.func37 rfl (by decide +kernel) rfl rfl (fun W x => by kernel_rfl)
noncomputable def law21_oneW (W : Wd) (i : AInst') : Option AInst' := 
 W.join (fun (z1 : Int × Int × Int × Int × List (Int) × Unit) => some (z1.1, (z1.2.1, (z1.2.2.1, (z1.2.2.2.1, (z1.2.2.2.2.1, ()))))))
  fun k2 => 
  W.cnd (decide (9 < (i.2.2.2.2.1.length : Int))) (W.bnd 9 i.2.2.2.2.1.length fun h3 => (k2 (i.1, (i.2.1, (i.2.2.1, (i.2.2.2.1, ((i.2.2.2.2.1.take h3), ())))))))
   ((k2 (i.1, (i.2.1, (i.2.2.1, (i.2.2.2.1, (i.2.2.2.2.1, ())))))))
noncomputable def law21_one (i : AInst') : Option AInst' := law21_oneW stdW i
noncomputable def law21_one_s : ES := ⟨(.pair tAInst .unit), (.v tAInst), fun x => law21_one x.1⟩
theorem law21_one_ok : ECok Try.prog 38 (.es law21_one_s)   := es_ok (A := (.pair tAInst .unit)) (Q := (.v tAInst)) (fun W x => law21_oneW W x.1) [] trivial [] [(3, ⟨[], [(0, [.t (.int .i64), .t (.int .i64), .t (.int .i64), .t (.int .i64), .t (.slc (.int .i64))])], []⟩)] [] Try.func38 rfl (by decide +kernel) rfl rfl (fun W x => by kernel_rfl)
noncomputable def deal_IsW (W : Wd) (d : DealDesk') : Option Bool := W.call (book_Is d.1) fun v1 => 
 W.cnd v1 (W.call (purse_Is d.2.1) fun v2 => some v2)
  (some false)
noncomputable def deal_Is (d : DealDesk') : Option Bool := deal_IsW stdW d
noncomputable def deal_Is_s : ES := ⟨(.pair tDealDesk .unit), (.v .bool), fun x => deal_Is x.1⟩
theorem deal_Is_ok : ECok Try.prog 47 (.es deal_Is_s)   := es_ok (A := (.pair tDealDesk .unit)) (Q := (.v .bool)) (fun W x => deal_IsW W x.1) [(35, .es book_Is_s), (16, .es purse_Is_s)] ⟨book_Is_ok, purse_Is_ok, trivial⟩ [] [] [] Try.func47 rfl (by decide +kernel) rfl rfl (fun W x => by kernel_rfl)
noncomputable def inst_pricedW (W : Wd) (p : Int) : Option Bool := 
 W.cnd (decide (0 ≤ p)) (some (decide (p ≤ 2147483647)))
  (some false)
noncomputable def inst_priced (p : Int) : Option Bool := inst_pricedW stdW p
noncomputable def inst_priced_s : ES := ⟨(.pair (.int .i64) .unit), (.v .bool), fun x => inst_priced x.1⟩
theorem inst_priced_ok : ECok Try.prog 99 (.es inst_priced_s)   := es_ok (A := (.pair (.int .i64) .unit)) (Q := (.v .bool)) (fun W x => inst_pricedW W x.1) [] trivial [] [] [] Try.func99 rfl (by decide +kernel) rfl rfl (fun W x => by kernel_rfl)
noncomputable def inst_farW (W : Wd) (m : Int) : Option Bool := 
 W.cnd (decide (m < (-2147483647))) (some true)
  (some (decide (2147483647 < m)))
noncomputable def inst_far (m : Int) : Option Bool := inst_farW stdW m
noncomputable def inst_far_s : ES := ⟨(.pair (.int .i64) .unit), (.v .bool), fun x => inst_far x.1⟩
theorem inst_far_ok : ECok Try.prog 117 (.es inst_far_s)   := es_ok (A := (.pair (.int .i64) .unit)) (Q := (.v .bool)) (fun W x => inst_farW W x.1) [] trivial [] [] [] Try.func117 rfl (by decide +kernel) rfl rfl (fun W x => by kernel_rfl)
noncomputable def slices_IndexFuncint64_int64_inst_farW (W : Wd) (s : List Int) : Option (Int × (Unit)) := 
 W.loop (fun (z1 : Int × Unit) again2 => 
  W.cnd (decide (z1.1 < (s.length : Int))) (W.idx s z1.1 fun x3 => W.call (inst_far x3) fun v4 => 
   W.cnd v4 (some z1)
    ((again2 ((IntKind.i64.wrap (z1.1 + 1)), ()))))
   (some ((-1), ())))
  (0, ())
noncomputable def slices_IndexFuncint64_int64_inst_far (s : List Int) : Option (Int × (Unit)) := slices_IndexFuncint64_int64_inst_farW stdW s
noncomputable def slices_IndexFuncint64_int64_inst_far_s : LS := ⟨[.v (.slc (.int .i64)), .fn 117 0], [], [], (.q (.v (.int .i64))), fun x => slices_IndexFuncint64_int64_inst_far x.1⟩
theorem slices_IndexFuncint64_int64_inst_far_ok : ECok Try.prog 141 (.ls slices_IndexFuncint64_int64_inst_far_s)   := ls_ok (A := [.v (.slc (.int .i64)), .fn 117 0]) (B := []) (E := []) (Q := (.q (.v (.int .i64)))) (fun W x => slices_IndexFuncint64_int64_inst_farW W x.1) [(117, .es inst_far_s)] ⟨inst_far_ok, trivial⟩ [] [] [(2, ⟨[(8, .t (.int .i64))], [], []⟩)] Try.func141 rfl (by decide +kernel) rfl rfl rfl rfl rfl (fun W x => by kernel_rfl)
noncomputable def slices_ContainsFuncint64_int64_inst_farW (W : Wd) (s : List Int) : Option (Bool × (Unit)) := W.call (slices_IndexFuncint64_int64_inst_far s) fun v1 => some ((decide (0 ≤ v1.1)), ())
noncomputable def slices_ContainsFuncint64_int64_inst_far (s : List Int) : Option (Bool × (Unit)) := slices_ContainsFuncint64_int64_inst_farW stdW s
noncomputable def slices_ContainsFuncint64_int64_inst_far_s : LS := ⟨[.v (.slc (.int .i64)), .fn 117 0], [], [], (.q (.v .bool)), fun x => slices_ContainsFuncint64_int64_inst_far x.1⟩
theorem slices_ContainsFuncint64_int64_inst_far_ok : ECok Try.prog 116 (.ls slices_ContainsFuncint64_int64_inst_far_s)   := ls_ok (A := [.v (.slc (.int .i64)), .fn 117 0]) (B := []) (E := []) (Q := (.q (.v .bool))) (fun W x => slices_ContainsFuncint64_int64_inst_farW W x.1) [(141, .ls slices_IndexFuncint64_int64_inst_far_s)] ⟨slices_IndexFuncint64_int64_inst_far_ok, trivial⟩ [] [] [] Try.func116 rfl (by decide +kernel) rfl rfl rfl rfl rfl (fun W x => by kernel_rfl)
noncomputable def inst_CheckW (W : Wd) (i : AInst') : Option Int := 
 W.join (fun (z1 : Bool × Unit) => 
  W.join (fun (z2 : Bool × Unit) => 
   W.cnd z2.1 (some 2)
    (some 0))
   fun k3 => 
   W.cnd (!z1.1) ((k3 (true, ())))
    (W.call (inst_priced i.2.2.1) fun v4 => 
    W.cnd (!v4) ((k3 (true, ())))
     (W.call (inst_priced i.2.2.2.1) fun v5 => 
     W.cnd (!v5) ((k3 (true, ())))
      (
      W.cnd (decide (8 < (i.2.2.2.2.1.length : Int))) ((k3 (true, ())))
       (W.call (slices_ContainsFuncint64_int64_inst_far i.2.2.2.2.1) fun v6 => (k3 v6))))))
  fun k7 => 
  W.cnd (decide (1 ≤ i.1)) (
   W.cnd (decide (i.1 ≤ 8)) (
    W.cnd (decide (1 ≤ i.2.1)) ((k7 ((decide (i.2.1 ≤ 65536)), ())))
     ((k7 (false, ()))))
    ((k7 (false, ()))))
   ((k7 (false, ())))
noncomputable def inst_Check (i : AInst') : Option Int := inst_CheckW stdW i
noncomputable def inst_Check_s : ES := ⟨(.pair tAInst .unit), (.v (.int .i64)), fun x => inst_Check x.1⟩
theorem inst_Check_ok : ECok Try.prog 98 (.es inst_Check_s)   := es_ok (A := (.pair tAInst .unit)) (Q := (.v (.int .i64))) (fun W x => inst_CheckW W x.1) [(99, .es inst_priced_s), (116, .ls slices_ContainsFuncint64_int64_inst_far_s)] ⟨inst_priced_ok, slices_ContainsFuncint64_int64_inst_far_ok, trivial⟩ [] [(2, ⟨[(3, .t .bool)], [], []⟩), (500046, ⟨[(46, .t .bool)], [], []⟩)] [] Try.func98 rfl (by decide +kernel) rfl rfl (fun W x => by kernel_rfl)
noncomputable def deal_rightW (W : Wd) (i : AInst') (qty : Int) (price : Int) : Option Bool := W.call (inst_Check (i.1, (i.2.1, (i.2.2.1, (i.2.2.2.1, (i.2.2.2.2.1, ())))))) fun v1 => 
 W.cnd (v1 == 0) (
  W.cnd (decide (0 ≤ price)) (
   W.cnd (decide (price ≤ 2147483647)) (
    W.cnd (qty != 0) (
     W.cnd (decide ((-1099511627776) ≤ qty)) (some (decide (qty ≤ 1099511627776)))
      (some false))
     (some false))
    (some false))
   (some false))
  (some false)
noncomputable def deal_right (i : AInst') (qty : Int) (price : Int) : Option Bool := deal_rightW stdW i qty price
noncomputable def deal_right_s : ES := ⟨(.pair tAInst (.pair (.int .i64) (.pair (.int .i64) .unit))), (.v .bool), fun x => deal_right x.1 x.2.1 x.2.2.1⟩
theorem deal_right_ok : ECok Try.prog 73 (.es deal_right_s)   := es_ok (A := (.pair tAInst (.pair (.int .i64) (.pair (.int .i64) .unit)))) (Q := (.v .bool)) (fun W x => deal_rightW W x.1 x.2.1 x.2.2.1) [(98, .es inst_Check_s)] ⟨inst_Check_ok, trivial⟩ [] [] [] Try.func73 rfl (by decide +kernel) rfl rfl (fun W x => by kernel_rfl)
noncomputable def inst_GainW (W : Wd) (i : AInst') (qty : Int) (from_ : Int) (to_ : Int) : Option (Int × Int × Unit) := 
 W.join (fun (z1 : Bool × Unit) => 
  W.cnd z1.1 (some (0, (2, ())))
   (W.call (wide_Mul (IntKind.i64.wrap (to_ - from_)) i.2.1) fun v2 => W.call (wide_Times v2 qty) fun v3 => 
   W.cnd (v3.2.1 != 0) (some (0, v3.2))
    (W.call (wide_Int v3.1) fun v4 => some v4)))
  fun k5 => W.call (inst_Check (i.1, (i.2.1, (i.2.2.1, (i.2.2.2.1, (i.2.2.2.2.1, ())))))) fun v6 => 
  W.cnd (v6 != 0) ((k5 (true, ())))
   (W.call (inst_priced from_) fun v7 => 
   W.cnd (!v7) ((k5 (true, ())))
    (W.call (inst_priced to_) fun v8 => (k5 ((!v8), ()))))
noncomputable def inst_Gain (i : AInst') (qty : Int) (from_ : Int) (to_ : Int) : Option (Int × Int × Unit) := inst_GainW stdW i qty from_ to_
noncomputable def inst_Gain_s : ES := ⟨(.pair tAInst (.pair (.int .i64) (.pair (.int .i64) (.pair (.int .i64) .unit)))), (.pair (.v (.int .i64)) (.pair (.v (.int .i64)) .unit)), fun x => inst_Gain x.1 x.2.1 x.2.2.1 x.2.2.2.1⟩
theorem inst_Gain_ok : ECok Try.prog 74 (.es inst_Gain_s)   := es_ok (A := (.pair tAInst (.pair (.int .i64) (.pair (.int .i64) (.pair (.int .i64) .unit))))) (Q := (.pair (.v (.int .i64)) (.pair (.v (.int .i64)) .unit))) (fun W x => inst_GainW W x.1 x.2.1 x.2.2.1 x.2.2.2.1) [(98, .es inst_Check_s), (99, .es inst_priced_s), (94, .es wide_Mul_s), (93, .es wide_Times_s), (67, .es wide_Int_s)] ⟨inst_Check_ok, inst_priced_ok, wide_Mul_ok, wide_Times_ok, wide_Int_ok, trivial⟩ [] [(500024, ⟨[(24, .t .bool)], [], []⟩)] [] Try.func74 rfl (by decide +kernel) rfl rfl (fun W x => by kernel_rfl)
noncomputable def vec_noneW (W : Wd) (l : List AUnit') : Option Bool := W.call (vec_Is l) fun v1 => some (!v1)
noncomputable def vec_none (l : List AUnit') : Option Bool := vec_noneW stdW l
noncomputable def vec_none_s : ES := ⟨(.pair (.slc tAUnit) .unit), (.v .bool), fun x => vec_none x.1⟩
theorem vec_none_ok : ECok Try.prog 118 (.es vec_none_s)   := es_ok (A := (.pair (.slc tAUnit) .unit)) (Q := (.v .bool)) (fun W x => vec_noneW W x.1) [(65, .es vec_Is_s)] ⟨vec_Is_ok, trivial⟩ [] [] [] Try.func118 rfl (by decide +kernel) rfl rfl (fun W x => by kernel_rfl)
noncomputable def vec_NegW (W : Wd) (l : List AUnit') : Option ((List AUnit') × Int × Unit) := W.call (vec_none l) fun v1 => 
 W.cnd v1 (some ([], (3, ())))
  (
  W.loop (fun (z2 : Int × List (Int × Int × Unit) × Unit) again3 => 
   W.cnd (decide (z2.1 < (l.length : Int))) (W.idx l z2.1 fun x4 => W.call (fix_Sub 0 x4.2.1) fun v5 => 
    W.cnd (v5.2.1 != 0) (some ([], v5.2))
     (W.room (z2.2.1.length + ((x4.1, (v5.1, ())) :: []).length) 16 ((again3 ((IntKind.i64.wrap (z2.1 + 1)), ((z2.2.1 ++ ((x4.1, (v5.1, ())) :: [])), ()))))))
    (some (z2.2.1, (0, ()))))
   (0, ([], ())))
noncomputable def vec_Neg (l : List AUnit') : Option ((List AUnit') × Int × Unit) := vec_NegW stdW l
noncomputable def vec_Neg_s : ES := ⟨(.pair (.slc tAUnit) .unit), (.pair (.own 106 tAUnit) (.pair (.v (.int .i64)) .unit)), fun x => vec_Neg x.1⟩
theorem vec_Neg_ok : ECok Try.prog 100 (.es vec_Neg_s)   := es_ok (A := (.pair (.slc tAUnit) .unit)) (Q := (.pair (.own 106 tAUnit) (.pair (.v (.int .i64)) .unit))) (fun W x => vec_NegW W x.1) [(118, .es vec_none_s), (63, .es fix_Sub_s)] ⟨vec_none_ok, fix_Sub_ok, trivial⟩ [] [] [(5, ⟨[(4, .row 1), (13, .t (.int .i64))], [], [.dead, .own 106 tAUnit]⟩)] Try.func100 rfl (by decide +kernel) rfl rfl (fun W x => by kernel_rfl)
noncomputable def slices_Cloneapi_Leg_api_LegW (W : Wd) (s : List AUnit') : Option (List AUnit') := W.nilq (List.isEmpty s) fun g1 => 
 W.cnd (Go.Vc.notIf false g1) (some [])
  (W.room ((0 : Nat) + s.length) 16 (some ([] ++ s)))
noncomputable def slices_Cloneapi_Leg_api_Leg (s : List AUnit') : Option (List AUnit') := slices_Cloneapi_Leg_api_LegW stdW s
noncomputable def slices_Cloneapi_Leg_api_Leg_s : ES := ⟨(.pair (.slc tAUnit) .unit), (.own 106 tAUnit), fun x => slices_Cloneapi_Leg_api_Leg x.1⟩
theorem slices_Cloneapi_Leg_api_Leg_ok : ECok Try.prog 79 (.es slices_Cloneapi_Leg_api_Leg_s)   := es_ok (A := (.pair (.slc tAUnit) .unit)) (Q := (.own 106 tAUnit)) (fun W x => slices_Cloneapi_Leg_api_LegW W x.1) [] trivial [] [] [] Try.func79 rfl (by decide +kernel) rfl rfl (fun W x => by kernel_rfl)
noncomputable def book_OfW (W : Wd) (l : List APos') (u : AUnit') : Option (List AUnit') := 
 W.loop (fun (z1 : Int × Unit) again2 => 
  W.cnd (decide (z1.1 < (l.length : Int))) (W.idx l z1.1 fun x3 => 
   W.cnd (Go.Vc.notIf false ((x3.1.1 == u.1) && (x3.1.2.1 == u.2.1))) (W.call (slices_Cloneapi_Leg_api_Leg x3.2.1) fun v4 => some v4)
    ((again2 ((IntKind.i64.wrap (z1.1 + 1)), ()))))
   (some []))
  (0, ())
noncomputable def book_Of (l : List APos') (u : AUnit') : Option (List AUnit') := book_OfW stdW l u
noncomputable def book_Of_s : ES := ⟨(.pair (.slc tAPos) (.pair tAUnit .unit)), (.own 106 tAUnit), fun x => book_Of x.1 x.2.1⟩
theorem book_Of_ok : ECok Try.prog 49 (.es book_Of_s)   := es_ok (A := (.pair (.slc tAPos) (.pair tAUnit .unit))) (Q := (.own 106 tAUnit)) (fun W x => book_OfW W x.1 x.2.1) [(79, .es slices_Cloneapi_Leg_api_Leg_s)] ⟨slices_Cloneapi_Leg_api_Leg_ok, trivial⟩ [] [] [(2, ⟨[(9, .t (.int .i64))], [], []⟩)] Try.func49 rfl (by decide +kernel) rfl rfl (fun W x => by kernel_rfl)
noncomputable def slices_IndexFuncapi_Leg_api_Leg_vec_noneW (W : Wd) (s : List (List AUnit')) : Option (Int × (Unit)) := 
 W.loop (fun (z1 : Int × Unit) again2 => 
  W.cnd (decide (z1.1 < (s.length : Int))) (W.idx s z1.1 fun x3 => W.call (vec_none x3) fun v4 => 
   W.cnd v4 (some z1)
    ((again2 ((IntKind.i64.wrap (z1.1 + 1)), ()))))
   (some ((-1), ())))
  (0, ())
noncomputable def slices_IndexFuncapi_Leg_api_Leg_vec_none (s : List (List AUnit')) : Option (Int × (Unit)) := slices_IndexFuncapi_Leg_api_Leg_vec_noneW stdW s
noncomputable def slices_IndexFuncapi_Leg_api_Leg_vec_none_s : LS := ⟨[.v (.slc (.slc tAUnit)), .fn 118 0], [], [], (.q (.v (.int .i64))), fun x => slices_IndexFuncapi_Leg_api_Leg_vec_none x.1⟩
theorem slices_IndexFuncapi_Leg_api_Leg_vec_none_ok : ECok Try.prog 150 (.ls slices_IndexFuncapi_Leg_api_Leg_vec_none_s)   := ls_ok (A := [.v (.slc (.slc tAUnit)), .fn 118 0]) (B := []) (E := []) (Q := (.q (.v (.int .i64)))) (fun W x => slices_IndexFuncapi_Leg_api_Leg_vec_noneW W x.1) [(118, .es vec_none_s)] ⟨vec_none_ok, trivial⟩ [] [] [(2, ⟨[(8, .t (.int .i64))], [], []⟩)] Try.func150 rfl (by decide +kernel) rfl rfl rfl rfl rfl (fun W x => by kernel_rfl)
noncomputable def slices_ContainsFuncapi_Leg_api_Leg_vec_noneW (W : Wd) (s : List (List AUnit')) : Option (Bool × (Unit)) := W.call (slices_IndexFuncapi_Leg_api_Leg_vec_none s) fun v1 => some ((decide (0 ≤ v1.1)), ())
noncomputable def slices_ContainsFuncapi_Leg_api_Leg_vec_none (s : List (List AUnit')) : Option (Bool × (Unit)) := slices_ContainsFuncapi_Leg_api_Leg_vec_noneW stdW s
noncomputable def slices_ContainsFuncapi_Leg_api_Leg_vec_none_s : LS := ⟨[.v (.slc (.slc tAUnit)), .fn 118 0], [], [], (.q (.v .bool)), fun x => slices_ContainsFuncapi_Leg_api_Leg_vec_none x.1⟩
theorem slices_ContainsFuncapi_Leg_api_Leg_vec_none_ok : ECok Try.prog 142 (.ls slices_ContainsFuncapi_Leg_api_Leg_vec_none_s)   := ls_ok (A := [.v (.slc (.slc tAUnit)), .fn 118 0]) (B := []) (E := []) (Q := (.q (.v .bool))) (fun W x => slices_ContainsFuncapi_Leg_api_Leg_vec_noneW W x.1) [(150, .ls slices_IndexFuncapi_Leg_api_Leg_vec_none_s)] ⟨slices_IndexFuncapi_Leg_api_Leg_vec_none_ok, trivial⟩ [] [] [] Try.func142 rfl (by decide +kernel) rfl rfl rfl rfl rfl (fun W x => by kernel_rfl)
noncomputable def vec_AddW (W : Wd) (l : List (List AUnit')) : Option ((List AUnit') × Int × Unit) := W.call (slices_ContainsFuncapi_Leg_api_Leg_vec_none l) fun v1 => 
 W.cnd v1.1 (some ([], (3, ())))
  (
  W.loop (fun (z2 : Int × List (Int × Int × Unit) × Unit) again3 => 
   W.cnd (decide (z2.1 ≤ 8)) (
    W.join (fun (z4 : List (Int × Int × Unit) × Unit) => (again3 ((IntKind.i64.wrap (z2.1 + 1)), (z4.1, ()))))
     fun k5 => 
     W.loop (fun (z6 : Int × List (Int × Int × Unit) × List (Int) × Unit) again7 => 
      W.cnd (decide (z6.1 < (l.length : Int))) (W.idx l z6.1 fun x8 => W.call (vec_Get x8 z2.1) fun v9 => W.room (z6.2.2.1.length + (v9 :: []).length) 8 ((again7 ((IntKind.i64.wrap (z6.1 + 1)), (z6.2.1, ((z6.2.2.1 ++ (v9 :: [])), ()))))))
       (W.call (fix_Sum z6.2.2.1) fun v10 => 
       W.cnd (v10.2.1 != 0) (some ([], v10.2))
        (
        W.cnd (v10.1 != 0) (W.room (z6.2.1.length + ((z2.1, (v10.1, ())) :: []).length) 16 ((k5 ((z6.2.1 ++ ((z2.1, (v10.1, ())) :: [])), ()))))
         ((k5 (z6.2.1, ()))))))
      (0, (z2.2.1, ([], ()))))
    (some (z2.2.1, (0, ()))))
   (1, ([], ())))
noncomputable def vec_Add (l : List (List AUnit')) : Option ((List AUnit') × Int × Unit) := vec_AddW stdW l
noncomputable def vec_Add_s : ES := ⟨(.pair (.slc (.slc tAUnit)) .unit), (.pair (.own 106 tAUnit) (.pair (.v (.int .i64)) .unit)), fun x => vec_Add x.1⟩
theorem vec_Add_ok : ECok Try.prog 119 (.es vec_Add_s)   := es_ok (A := (.pair (.slc (.slc tAUnit)) .unit)) (Q := (.pair (.own 106 tAUnit) (.pair (.v (.int .i64)) .unit))) (fun W x => vec_AddW W x.1) [(142, .ls slices_ContainsFuncapi_Leg_api_Leg_vec_none_s), (97, .es vec_Get_s), (52, .es fix_Sum_s)] ⟨slices_ContainsFuncapi_Leg_api_Leg_vec_none_ok, vec_Get_ok, fix_Sum_ok, trivial⟩ [] [(6, ⟨[(4, .row 3)], [], [.dead, .dead, .dead, .own 106 tAUnit]⟩)] [(5, ⟨[(4, .row 3), (5, .t (.int .i64))], [], [.dead, .dead, .dead, .own 106 tAUnit]⟩), (9, ⟨[(4, .row 3), (6, .row 5), (19, .t (.int .i64))], [], [.dead, .dead, .dead, .own 106 tAUnit, .dead, .own 2 (.int .i64)]⟩)] Try.func119 rfl (by decide +kernel) rfl rfl (fun W x => by kernel_rfl)
noncomputable def book_placeW (W : Wd) (l : List APos') (u : AUnit') : Option (Int × Bool × Unit) := 
 W.loop (fun (z1 : Int × Unit) again2 => 
  W.cnd (decide (z1.1 < (l.length : Int))) (W.idx l z1.1 fun x3 => W.call (acct_Less x3.1 u) fun v4 => 
   W.cnd (!v4) (some (z1.1, ((Go.Vc.notIf false ((x3.1.1 == u.1) && (x3.1.2.1 == u.2.1))), ())))
    ((again2 ((IntKind.i64.wrap (z1.1 + 1)), ()))))
   (some ((l.length : Int), (false, ()))))
  (0, ())
noncomputable def book_place (l : List APos') (u : AUnit') : Option (Int × Bool × Unit) := book_placeW stdW l u
noncomputable def book_place_s : ES := ⟨(.pair (.slc tAPos) (.pair tAUnit .unit)), (.pair (.v (.int .i64)) (.pair (.v .bool) .unit)), fun x => book_place x.1 x.2.1⟩
theorem book_place_ok : ECok Try.prog 120 (.es book_place_s)   := es_ok (A := (.pair (.slc tAPos) (.pair tAUnit .unit))) (Q := (.pair (.v (.int .i64)) (.pair (.v .bool) .unit))) (fun W x => book_placeW W x.1 x.2.1) [(56, .es acct_Less_s)] ⟨acct_Less_ok, trivial⟩ [(5, [], (ofL [(0, true), (1, true), (2, true), (3, true), (4, true), (5, true), (6, true)]))] [] [(2, ⟨[(10, .t (.int .i64))], [], []⟩)] Try.func120 rfl (by decide +kernel) rfl rfl (fun W x => by kernel_rfl)
noncomputable def book_copiedW (W : Wd) (l : List APos') : Option (List APos') := 
 W.loop (fun (z1 : Int × List ((Int × Int × Unit) × List (Int × Int × Unit) × Unit) × Unit) again2 => 
  W.cnd (decide (z1.1 < (l.length : Int))) (W.idx l z1.1 fun x3 => W.call (slices_Cloneapi_Leg_api_Leg x3.2.1) fun v4 => W.room (z1.2.1.length + ((x3.1, (v4, ())) :: []).length) 40 ((again2 ((IntKind.i64.wrap (z1.1 + 1)), ((z1.2.1 ++ ((x3.1, (v4, ())) :: [])), ())))))
   (some z1.2.1))
  (0, ([], ()))
noncomputable def book_copied (l : List APos') : Option (List APos') := book_copiedW stdW l
noncomputable def book_copied_s : ES := ⟨(.pair (.slc tAPos) .unit), (.own 103 tAPos), fun x => book_copied x.1⟩
theorem book_copied_ok : ECok Try.prog 121 (.es book_copied_s)   := es_ok (A := (.pair (.slc tAPos) .unit)) (Q := (.own 103 tAPos)) (fun W x => book_copiedW W x.1) [(79, .es slices_Cloneapi_Leg_api_Leg_s)] ⟨slices_Cloneapi_Leg_api_Leg_ok, trivial⟩ [(5, [], (ofL [(0, true), (1, true), (2, true), (3, true), (4, true), (5, false), (6, true), (7, false), (8, false), (9, true)]))] [] [(3, ⟨[(3, .row 2), (8, .t (.int .i64))], [], [.dead, .dead, .own 103 tAPos]⟩)] Try.func121 rfl (by decide +kernel) rfl rfl (fun W x => by kernel_rfl)
noncomputable def book_ShiftW (W : Wd) (l : List APos') (u : AUnit') (legs : List AUnit') : Option ((List APos') × Int × Unit) := W.call (book_Is l) fun v1 => 
 W.cnd (!v1) (some ([], (3, ())))
  (W.call (book_Of l u) fun v2 => W.call (vec_Add (v2 :: (legs :: []))) fun v3 => 
  W.cnd (v3.2.1 != 0) (some ([], v3.2))
   (W.call (book_place l u) fun v4 => W.call (book_copied l) fun v5 => 
   W.join (fun (z6 : List (Int × Int × Unit) × List ((Int × Int × Unit) × List (Int × Int × Unit) × Unit) × Unit) => 
    W.join (fun (z7 : List ((Int × Int × Unit) × List (Int × Int × Unit) × Unit) × Unit) => some (z7.1, (0, ())))
     fun k8 => 
     W.cnd (decide (0 < (z6.1.length : Int))) (W.call (insO z6.2.1 v4.1 ((u, (z6.1, ())) :: [])) fun v9 => (k8 (v9.1, ())))
      ((k8 (z6.2.1, ()))))
    fun k10 => 
    W.cnd v4.2.1 (W.call (delO v5 v4.1 (IntKind.i64.wrap (v4.1 + 1))) fun v11 => (k10 (v3.1, (v11.1, ()))))
     ((k10 (v3.1, (v5, ()))))))
noncomputable def book_Shift (l : List APos') (u : AUnit') (legs : List AUnit') : Option ((List APos') × Int × Unit) := book_ShiftW stdW l u legs
noncomputable def book_Shift_s : ES := ⟨(.pair (.slc tAPos) (.pair tAUnit (.pair (.slc tAUnit) .unit))), (.pair (.own 103 tAPos) (.pair (.v (.int .i64)) .unit)), fun x => book_Shift x.1 x.2.1 x.2.2.1⟩
theorem book_Shift_ok : ECok Try.prog 101 (.es book_Shift_s)   := es_ok (A := (.pair (.slc tAPos) (.pair tAUnit (.pair (.slc tAUnit) .unit)))) (Q := (.pair (.own 103 tAPos) (.pair (.v (.int .i64)) .unit))) (fun W x => book_ShiftW W x.1 x.2.1 x.2.2.1) [(35, .es book_Is_s), (49, .es book_Of_s), (119, .es vec_Add_s), (120, .es book_place_s), (121, .es book_copied_s), (122, .ls delete_s), (123, .ls insert_s)] ⟨book_Is_ok, book_Of_ok, vec_Add_ok, book_place_ok, book_copied_ok, delete_ok, insert_ok, trivial⟩ [] [(10, ⟨[(8, .row 2), (12, .row 3)], [], [.dead, .dead, .own 106 tAUnit, .own 103 tAPos]⟩), (12, ⟨[(12, .row 3)], [], [.dead, .dead, .dead, .own 103 tAPos]⟩)] [] Try.func101 rfl (by decide +kernel) rfl rfl (fun W x => by kernel_rfl)
noncomputable def book_MoveW (W : Wd) (l : List APos') (from_ : AUnit') (to_ : AUnit') (legs : List AUnit') : Option ((List APos') × Int × Unit) := W.call (book_Is l) fun v1 => 
 W.cnd (!v1) (some ([], (3, ())))
  (W.call (vec_Neg legs) fun v2 => 
  W.cnd (v2.2.1 != 0) (some ([], v2.2))
   (W.call (book_Shift l from_ v2.1) fun v3 => 
   W.cnd (v3.2.1 != 0) (some ([], v3.2))
    (W.call (book_Shift v3.1 to_ legs) fun v4 => some (v4.1, v4.2))))
noncomputable def book_Move (l : List APos') (from_ : AUnit') (to_ : AUnit') (legs : List AUnit') : Option ((List APos') × Int × Unit) := book_MoveW stdW l from_ to_ legs
noncomputable def book_Move_s : ES := ⟨(.pair (.slc tAPos) (.pair tAUnit (.pair tAUnit (.pair (.slc tAUnit) .unit)))), (.pair (.own 103 tAPos) (.pair (.v (.int .i64)) .unit)), fun x => book_Move x.1 x.2.1 x.2.2.1 x.2.2.2.1⟩
theorem book_Move_ok : ECok Try.prog 75 (.es book_Move_s)   := es_ok (A := (.pair (.slc tAPos) (.pair tAUnit (.pair tAUnit (.pair (.slc tAUnit) .unit))))) (Q := (.pair (.own 103 tAPos) (.pair (.v (.int .i64)) .unit))) (fun W x => book_MoveW W x.1 x.2.1 x.2.2.1 x.2.2.2.1) [(35, .es book_Is_s), (100, .es vec_Neg_s), (101, .es book_Shift_s)] ⟨book_Is_ok, vec_Neg_ok, book_Shift_ok, trivial⟩ [] [] [] Try.func75 rfl (by decide +kernel) rfl rfl (fun W x => by kernel_rfl)
noncomputable def deal_AtW (W : Wd) (d : DealDesk') (i : AInst') (from_ : AUnit') (to_ : AUnit') (qty : Int) (price : Int) : Option (DealDesk' × Int × Unit) := W.call (deal_Is (d.1, (d.2.1, ()))) fun v1 => 
 W.cnd (!v1) (some (([], ([], ())), (3, ())))
  (W.call (deal_right (i.1, (i.2.1, (i.2.2.1, (i.2.2.2.1, (i.2.2.2.2.1, ()))))) qty price) fun v2 => 
  W.cnd (!v2) (some (([], ([], ())), (2, ())))
   (
   W.cnd (Go.Vc.notIf false ((from_.1 == to_.1) && (from_.2.1 == to_.2.1))) (some (([], ([], ())), (24, ())))
    (W.call (inst_Gain (i.1, (i.2.1, (i.2.2.1, (i.2.2.2.1, (i.2.2.2.2.1, ()))))) qty price i.2.2.1) fun v3 => 
    W.cnd (v3.2.1 != 0) (some (([], ([], ())), v3.2))
     (W.call (book_Move d.1 from_ to_ ((i.1, (qty, ())) :: [])) fun v4 => 
     W.cnd (v4.2.1 != 0) (some (([], ([], ())), v4.2))
      (W.call (purse_Move d.2.1 from_ to_ v3.1) fun v5 => 
      W.cnd (v5.2.1 != 0) (some (([], ([], ())), v5.2))
       (some ((v4.1, (v5.1, ())), (0, ()))))))))
noncomputable def deal_At (d : DealDesk') (i : AInst') (from_ : AUnit') (to_ : AUnit') (qty : Int) (price : Int) : Option (DealDesk' × Int × Unit) := deal_AtW stdW d i from_ to_ qty price
noncomputable def deal_At_s : ES := ⟨(.pair tDealDesk (.pair tAInst (.pair tAUnit (.pair tAUnit (.pair (.int .i64) (.pair (.int .i64) .unit)))))), (.pair (.v tDealDesk) (.pair (.v (.int .i64)) .unit)), fun x => deal_At x.1 x.2.1 x.2.2.1 x.2.2.2.1 x.2.2.2.2.1 x.2.2.2.2.2.1⟩
theorem deal_At_ok : ECok Try.prog 39 (.es deal_At_s)   := es_ok (A := (.pair tDealDesk (.pair tAInst (.pair tAUnit (.pair tAUnit (.pair (.int .i64) (.pair (.int .i64) .unit))))))) (Q := (.pair (.v tDealDesk) (.pair (.v (.int .i64)) .unit))) (fun W x => deal_AtW W x.1 x.2.1 x.2.2.1 x.2.2.2.1 x.2.2.2.2.1 x.2.2.2.2.2.1) [(47, .es deal_Is_s), (73, .es deal_right_s), (74, .es inst_Gain_s), (75, .es book_Move_s), (24, .es purse_Move_s)] ⟨deal_Is_ok, deal_right_ok, inst_Gain_ok, book_Move_ok, purse_Move_ok, trivial⟩ [] [] [] Try.func39 rfl (by decide +kernel) rfl rfl (fun W x => by kernel_rfl)
noncomputable def ref11_SameW (W : Wd) (a : List AUnit') (b : List AUnit') : Option Bool := 
 W.cnd ((a.length : Int) != (b.length : Int)) (some false)
  (
  W.loop (fun (z1 : Int × Unit) again2 => 
   W.cnd (decide (z1.1 < (a.length : Int))) (W.idx a z1.1 fun x3 => W.idx b z1.1 fun x4 => 
    W.cnd (Go.Vc.notIf true ((x3.1 == x4.1) && (x3.2.1 == x4.2.1))) (some false)
     ((again2 ((IntKind.i64.wrap (z1.1 + 1)), ()))))
    (some true))
   (0, ()))
noncomputable def ref11_Same (a : List AUnit') (b : List AUnit') : Option Bool := ref11_SameW stdW a b
noncomputable def ref11_Same_s : ES := ⟨(.pair (.slc tAUnit) (.pair (.slc tAUnit) .unit)), (.v .bool), fun x => ref11_Same x.1 x.2.1⟩
theorem ref11_Same_ok : ECok Try.prog 48 (.es ref11_Same_s)   := es_ok (A := (.pair (.slc tAUnit) (.pair (.slc tAUnit) .unit))) (Q := (.v .bool)) (fun W x => ref11_SameW W x.1 x.2.1) [] trivial [(6, [], (ofL [(0, true), (1, true), (2, true), (3, true), (4, true), (5, true), (6, true), (7, true), (8, true)]))] [] [(4, ⟨[(5, .t (.int .i64))], [], []⟩)] Try.func48 rfl (by decide +kernel) rfl rfl (fun W x => by kernel_rfl)
noncomputable def law21_livesW (W : Wd) : Option Bool := W.call (deal_At ([], ([], ())) (1, (10, (7, (0, ([], ()))))) (1, (0, ())) (2, (0, ())) 3 5) fun v1 => 
 W.cnd (v1.2.1 == 0) (W.call (purse_Get v1.1.2.1 (2, (0, ()))) fun v2 => 
  W.cnd (v2 == 60) (W.call (purse_Get v1.1.2.1 (1, (0, ()))) fun v3 => 
   W.cnd (v3 == (-60)) (W.call (book_Of v1.1.1 (2, (0, ()))) fun v4 => W.call (ref11_Same v4 ((1, (3, ())) :: [])) fun v5 => some v5)
    (some false))
   (some false))
  (some false)
noncomputable def law21_lives : Option Bool := law21_livesW stdW
noncomputable def law21_lives_s : ES := ⟨.unit, (.v .bool), fun x => law21_lives ⟩
theorem law21_lives_ok : ECok Try.prog 40 (.es law21_lives_s)   := es_ok (A := .unit) (Q := (.v .bool)) (fun W x => law21_livesW W ) [(39, .es deal_At_s), (18, .es purse_Get_s), (49, .es book_Of_s), (48, .es ref11_Same_s)] ⟨deal_At_ok, purse_Get_ok, book_Of_ok, ref11_Same_ok, trivial⟩ [] [] [] Try.func40 rfl (by decide +kernel) rfl rfl (fun W x => by kernel_rfl)
noncomputable def ref19_SameW (W : Wd) (a : List APos') (b : List APos') : Option Bool := 
 W.cnd ((a.length : Int) != (b.length : Int)) (some false)
  (
  W.loop (fun (z1 : Int × Unit) again2 => 
   W.cnd (decide (z1.1 < (a.length : Int))) (
    W.join (fun (z3 : Bool × Unit) => 
     W.cnd z3.1 (some false)
      ((again2 ((IntKind.i64.wrap (z1.1 + 1)), ()))))
     fun k4 => W.idx a z1.1 fun x5 => W.idx b z1.1 fun x6 => 
     W.cnd (Go.Vc.notIf true ((x5.1.1 == x6.1.1) && (x5.1.2.1 == x6.1.2.1))) ((k4 (true, ())))
      (W.idx a z1.1 fun x7 => W.idx b z1.1 fun x8 => W.call (ref11_Same x7.2.1 x8.2.1) fun v9 => (k4 ((!v9), ()))))
    (some true))
   (0, ()))
noncomputable def ref19_Same (a : List APos') (b : List APos') : Option Bool := ref19_SameW stdW a b
noncomputable def ref19_Same_s : ES := ⟨(.pair (.slc tAPos) (.pair (.slc tAPos) .unit)), (.v .bool), fun x => ref19_Same x.1 x.2.1⟩
theorem ref19_Same_ok : ECok Try.prog 41 (.es ref19_Same_s)   := es_ok (A := (.pair (.slc tAPos) (.pair (.slc tAPos) .unit))) (Q := (.v .bool)) (fun W x => ref19_SameW W x.1 x.2.1) [(48, .es ref11_Same_s)] ⟨ref11_Same_ok, trivial⟩ [(6, [], (ofL [(0, true), (1, true), (2, true), (3, true), (4, true), (5, true), (6, true), (7, true), (8, true), (9, true), (10, true), (11, true), (12, true), (13, true), (14, true), (15, true), (16, true), (17, true), (18, true), (19, true), (20, true), (21, true), (22, false), (23, true), (24, true)]))] [(500041, ⟨[(41, .t .bool)], [], []⟩)] [(4, ⟨[(5, .t (.int .i64))], [], []⟩)] Try.func41 rfl (by decide +kernel) rfl rfl (fun W x => by kernel_rfl)
noncomputable def law21_DealNetsW (W : Wd) (l : List APos') (p : List AFlow') (i : AInst') (from_ : AUnit') (to_ : AUnit') (qty : Int) (buy : Int) (sell : Int) : Option Bool := W.both (W.call (law21_Few l p) fun v1 => W.both (W.both (W.call (law21_one (i.1, (i.2.1, (i.2.2.1, (i.2.2.2.1, (i.2.2.2.2.1, ())))))) fun v2 => W.call (deal_At (v1.1, (v1.2.1, ())) (v2.1, (v2.2.1, (v2.2.2.1, (v2.2.2.2.1, (v2.2.2.2.2.1, ()))))) from_ to_ qty buy) fun v3 => 
    W.cnd (v3.2.1 != 0) (W.call (law21_lives) fun v4 => some v4)
     (W.call (deal_At (v3.1.1, (v3.1.2.1, ())) (v2.1, (v2.2.1, (v2.2.2.1, (v2.2.2.2.1, (v2.2.2.2.2.1, ()))))) to_ from_ qty sell) fun v5 => 
     W.cnd (v5.2.1 != 0) (W.call (law21_lives) fun v6 => some v6)
      (W.call (ref19_Same v5.1.1 v1.1) fun v7 => 
      W.cnd (!v7) (some false)
       (W.both (W.call (purse_Get v5.1.2.1 to_) fun v8 => W.both (W.call (ref01_Of v8) fun v9 => W.both (W.call (purse_Get v1.2.1 to_) fun v10 => W.both (W.call (ref01_Of v10) fun v11 => W.both (W.call (ref01_Sub (v9.1, (v9.2.1, ())) (v11.1, (v11.2.1, ()))) fun v12 => W.call (ref13_Gain (v2.1, (v2.2.1, (v2.2.2.1, (v2.2.2.2.1, (v2.2.2.2.2.1, ()))))) qty buy sell) fun v13 => W.call (ref01_Cmp (v12.1, (v12.2.1, ())) (v13.1, (v13.2.1, ()))) fun v14 => 
            W.cnd (v14 == 0) (W.call (law21_lives) fun v15 => some v15)
             (some false)) (W.call (ref01_Sub (v9.1, (v9.2.1, ())) (v11.1, (v11.2.1, ()))) fun v16 => W.call (ref13_Gain (v2.1, (v2.2.1, (v2.2.2.1, (v2.2.2.2.1, (v2.2.2.2.2.1, ()))))) qty buy sell) fun v17 => W.call (ref01_Cmp (v16.1, (v16.2.1, ())) (v17.1, (v17.2.1, ()))) fun v18 => 
            W.cnd (v18 == 0) (W.call (law21_lives) fun v19 => some v19)
             (some false))) (W.call (ref01_Of v10) fun v20 => W.call (ref01_Sub (v9.1, (v9.2.1, ())) (v20.1, (v20.2.1, ()))) fun v21 => W.call (ref13_Gain (v2.1, (v2.2.1, (v2.2.2.1, (v2.2.2.2.1, (v2.2.2.2.2.1, ()))))) qty buy sell) fun v22 => W.call (ref01_Cmp (v21.1, (v21.2.1, ())) (v22.1, (v22.2.1, ()))) fun v23 => 
           W.cnd (v23 == 0) (W.call (law21_lives) fun v24 => some v24)
            (some false))) (W.call (purse_Get v1.2.1 to_) fun v25 => W.call (ref01_Of v25) fun v26 => W.call (ref01_Sub (v9.1, (v9.2.1, ())) (v26.1, (v26.2.1, ()))) fun v27 => W.call (ref13_Gain (v2.1, (v2.2.1, (v2.2.2.1, (v2.2.2.2.1, (v2.2.2.2.2.1, ()))))) qty buy sell) fun v28 => W.call (ref01_Cmp (v27.1, (v27.2.1, ())) (v28.1, (v28.2.1, ()))) fun v29 => 
          W.cnd (v29 == 0) (W.call (law21_lives) fun v30 => some v30)
           (some false))) (W.call (ref01_Of v8) fun v31 => W.call (purse_Get v1.2.1 to_) fun v32 => W.call (ref01_Of v32) fun v33 => W.call (ref01_Sub (v31.1, (v31.2.1, ())) (v33.1, (v33.2.1, ()))) fun v34 => W.call (ref13_Gain (v2.1, (v2.2.1, (v2.2.2.1, (v2.2.2.2.1, (v2.2.2.2.2.1, ()))))) qty buy sell) fun v35 => W.call (ref01_Cmp (v34.1, (v34.2.1, ())) (v35.1, (v35.2.1, ()))) fun v36 => 
         W.cnd (v36 == 0) (W.call (law21_lives) fun v37 => some v37)
          (some false))) (W.call (purse_Get v5.1.2.1 to_) fun v38 => W.call (ref01_Of v38) fun v39 => W.call (purse_Get v1.2.1 to_) fun v40 => W.call (ref01_Of v40) fun v41 => W.call (ref01_Sub (v39.1, (v39.2.1, ())) (v41.1, (v41.2.1, ()))) fun v42 => W.call (ref13_Gain (v2.1, (v2.2.1, (v2.2.2.1, (v2.2.2.2.1, (v2.2.2.2.2.1, ()))))) qty buy sell) fun v43 => W.call (ref01_Cmp (v42.1, (v42.2.1, ())) (v43.1, (v43.2.1, ()))) fun v44 => 
        W.cnd (v44 == 0) (W.call (law21_lives) fun v45 => some v45)
         (some false)))))) (W.call (law21_one (i.1, (i.2.1, (i.2.2.1, (i.2.2.2.1, (i.2.2.2.2.1, ())))))) fun v46 => W.call (deal_At (v1.1, (v1.2.1, ())) (v46.1, (v46.2.1, (v46.2.2.1, (v46.2.2.2.1, (v46.2.2.2.2.1, ()))))) from_ to_ qty buy) fun v47 => 
    W.cnd (v47.2.1 != 0) (W.call (law21_lives) fun v48 => some v48)
     (W.call (deal_At (v47.1.1, (v47.1.2.1, ())) (v46.1, (v46.2.1, (v46.2.2.1, (v46.2.2.2.1, (v46.2.2.2.2.1, ()))))) to_ from_ qty sell) fun v49 => 
     W.cnd (v49.2.1 != 0) (W.call (law21_lives) fun v50 => some v50)
      (W.call (ref19_Same v49.1.1 v1.1) fun v51 => 
      W.cnd (!v51) (some false)
       (W.both (W.call (purse_Get v49.1.2.1 to_) fun v52 => W.both (W.call (ref01_Of v52) fun v53 => W.both (W.call (purse_Get v1.2.1 to_) fun v54 => W.both (W.call (ref01_Of v54) fun v55 => W.both (W.call (ref01_Sub (v53.1, (v53.2.1, ())) (v55.1, (v55.2.1, ()))) fun v56 => W.call (ref13_Gain (v46.1, (v46.2.1, (v46.2.2.1, (v46.2.2.2.1, (v46.2.2.2.2.1, ()))))) qty buy sell) fun v57 => W.call (ref01_Cmp (v56.1, (v56.2.1, ())) (v57.1, (v57.2.1, ()))) fun v58 => 
            W.cnd (v58 == 0) (W.call (law21_lives) fun v59 => some v59)
             (some false)) (W.call (ref01_Sub (v53.1, (v53.2.1, ())) (v55.1, (v55.2.1, ()))) fun v60 => W.call (ref13_Gain (v46.1, (v46.2.1, (v46.2.2.1, (v46.2.2.2.1, (v46.2.2.2.2.1, ()))))) qty buy sell) fun v61 => W.call (ref01_Cmp (v60.1, (v60.2.1, ())) (v61.1, (v61.2.1, ()))) fun v62 => 
            W.cnd (v62 == 0) (W.call (law21_lives) fun v63 => some v63)
             (some false))) (W.call (ref01_Of v54) fun v64 => W.call (ref01_Sub (v53.1, (v53.2.1, ())) (v64.1, (v64.2.1, ()))) fun v65 => W.call (ref13_Gain (v46.1, (v46.2.1, (v46.2.2.1, (v46.2.2.2.1, (v46.2.2.2.2.1, ()))))) qty buy sell) fun v66 => W.call (ref01_Cmp (v65.1, (v65.2.1, ())) (v66.1, (v66.2.1, ()))) fun v67 => 
           W.cnd (v67 == 0) (W.call (law21_lives) fun v68 => some v68)
            (some false))) (W.call (purse_Get v1.2.1 to_) fun v69 => W.call (ref01_Of v69) fun v70 => W.call (ref01_Sub (v53.1, (v53.2.1, ())) (v70.1, (v70.2.1, ()))) fun v71 => W.call (ref13_Gain (v46.1, (v46.2.1, (v46.2.2.1, (v46.2.2.2.1, (v46.2.2.2.2.1, ()))))) qty buy sell) fun v72 => W.call (ref01_Cmp (v71.1, (v71.2.1, ())) (v72.1, (v72.2.1, ()))) fun v73 => 
          W.cnd (v73 == 0) (W.call (law21_lives) fun v74 => some v74)
           (some false))) (W.call (ref01_Of v52) fun v75 => W.call (purse_Get v1.2.1 to_) fun v76 => W.call (ref01_Of v76) fun v77 => W.call (ref01_Sub (v75.1, (v75.2.1, ())) (v77.1, (v77.2.1, ()))) fun v78 => W.call (ref13_Gain (v46.1, (v46.2.1, (v46.2.2.1, (v46.2.2.2.1, (v46.2.2.2.2.1, ()))))) qty buy sell) fun v79 => W.call (ref01_Cmp (v78.1, (v78.2.1, ())) (v79.1, (v79.2.1, ()))) fun v80 => 
         W.cnd (v80 == 0) (W.call (law21_lives) fun v81 => some v81)
          (some false))) (W.call (purse_Get v49.1.2.1 to_) fun v82 => W.call (ref01_Of v82) fun v83 => W.call (purse_Get v1.2.1 to_) fun v84 => W.call (ref01_Of v84) fun v85 => W.call (ref01_Sub (v83.1, (v83.2.1, ())) (v85.1, (v85.2.1, ()))) fun v86 => W.call (ref13_Gain (v46.1, (v46.2.1, (v46.2.2.1, (v46.2.2.2.1, (v46.2.2.2.2.1, ()))))) qty buy sell) fun v87 => W.call (ref01_Cmp (v86.1, (v86.2.1, ())) (v87.1, (v87.2.1, ()))) fun v88 => 
        W.cnd (v88 == 0) (W.call (law21_lives) fun v89 => some v89)
         (some false))))))) (W.call (law21_one (i.1, (i.2.1, (i.2.2.1, (i.2.2.2.1, (i.2.2.2.2.1, ())))))) fun v90 => W.call (deal_At (v1.1, (v1.2.1, ())) (v90.1, (v90.2.1, (v90.2.2.1, (v90.2.2.2.1, (v90.2.2.2.2.1, ()))))) from_ to_ qty buy) fun v91 => 
   W.cnd (v91.2.1 != 0) (W.call (law21_lives) fun v92 => some v92)
    (W.call (deal_At (v91.1.1, (v91.1.2.1, ())) (v90.1, (v90.2.1, (v90.2.2.1, (v90.2.2.2.1, (v90.2.2.2.2.1, ()))))) to_ from_ qty sell) fun v93 => 
    W.cnd (v93.2.1 != 0) (W.call (law21_lives) fun v94 => some v94)
     (W.call (ref19_Same v93.1.1 v1.1) fun v95 => 
     W.cnd (!v95) (some false)
      (W.both (W.call (purse_Get v93.1.2.1 to_) fun v96 => W.both (W.call (ref01_Of v96) fun v97 => W.both (W.call (purse_Get v1.2.1 to_) fun v98 => W.both (W.call (ref01_Of v98) fun v99 => W.both (W.call (ref01_Sub (v97.1, (v97.2.1, ())) (v99.1, (v99.2.1, ()))) fun v100 => W.call (ref13_Gain (v90.1, (v90.2.1, (v90.2.2.1, (v90.2.2.2.1, (v90.2.2.2.2.1, ()))))) qty buy sell) fun v101 => W.call (ref01_Cmp (v100.1, (v100.2.1, ())) (v101.1, (v101.2.1, ()))) fun v102 => 
           W.cnd (v102 == 0) (W.call (law21_lives) fun v103 => some v103)
            (some false)) (W.call (ref01_Sub (v97.1, (v97.2.1, ())) (v99.1, (v99.2.1, ()))) fun v104 => W.call (ref13_Gain (v90.1, (v90.2.1, (v90.2.2.1, (v90.2.2.2.1, (v90.2.2.2.2.1, ()))))) qty buy sell) fun v105 => W.call (ref01_Cmp (v104.1, (v104.2.1, ())) (v105.1, (v105.2.1, ()))) fun v106 => 
           W.cnd (v106 == 0) (W.call (law21_lives) fun v107 => some v107)
            (some false))) (W.call (ref01_Of v98) fun v108 => W.call (ref01_Sub (v97.1, (v97.2.1, ())) (v108.1, (v108.2.1, ()))) fun v109 => W.call (ref13_Gain (v90.1, (v90.2.1, (v90.2.2.1, (v90.2.2.2.1, (v90.2.2.2.2.1, ()))))) qty buy sell) fun v110 => W.call (ref01_Cmp (v109.1, (v109.2.1, ())) (v110.1, (v110.2.1, ()))) fun v111 => 
          W.cnd (v111 == 0) (W.call (law21_lives) fun v112 => some v112)
           (some false))) (W.call (purse_Get v1.2.1 to_) fun v113 => W.call (ref01_Of v113) fun v114 => W.call (ref01_Sub (v97.1, (v97.2.1, ())) (v114.1, (v114.2.1, ()))) fun v115 => W.call (ref13_Gain (v90.1, (v90.2.1, (v90.2.2.1, (v90.2.2.2.1, (v90.2.2.2.2.1, ()))))) qty buy sell) fun v116 => W.call (ref01_Cmp (v115.1, (v115.2.1, ())) (v116.1, (v116.2.1, ()))) fun v117 => 
         W.cnd (v117 == 0) (W.call (law21_lives) fun v118 => some v118)
          (some false))) (W.call (ref01_Of v96) fun v119 => W.call (purse_Get v1.2.1 to_) fun v120 => W.call (ref01_Of v120) fun v121 => W.call (ref01_Sub (v119.1, (v119.2.1, ())) (v121.1, (v121.2.1, ()))) fun v122 => W.call (ref13_Gain (v90.1, (v90.2.1, (v90.2.2.1, (v90.2.2.2.1, (v90.2.2.2.2.1, ()))))) qty buy sell) fun v123 => W.call (ref01_Cmp (v122.1, (v122.2.1, ())) (v123.1, (v123.2.1, ()))) fun v124 => 
        W.cnd (v124 == 0) (W.call (law21_lives) fun v125 => some v125)
         (some false))) (W.call (purse_Get v93.1.2.1 to_) fun v126 => W.call (ref01_Of v126) fun v127 => W.call (purse_Get v1.2.1 to_) fun v128 => W.call (ref01_Of v128) fun v129 => W.call (ref01_Sub (v127.1, (v127.2.1, ())) (v129.1, (v129.2.1, ()))) fun v130 => W.call (ref13_Gain (v90.1, (v90.2.1, (v90.2.2.1, (v90.2.2.2.1, (v90.2.2.2.2.1, ()))))) qty buy sell) fun v131 => W.call (ref01_Cmp (v130.1, (v130.2.1, ())) (v131.1, (v131.2.1, ()))) fun v132 => 
       W.cnd (v132 == 0) (W.call (law21_lives) fun v133 => some v133)
        (some false))))))) (W.both (W.both (W.call (law21_Few l p) fun v134 => W.both (W.call (law21_one (i.1, (i.2.1, (i.2.2.1, (i.2.2.2.1, (i.2.2.2.2.1, ())))))) fun v135 => W.call (deal_At (v134.1, (v134.2.1, ())) (v135.1, (v135.2.1, (v135.2.2.1, (v135.2.2.2.1, (v135.2.2.2.2.1, ()))))) from_ to_ qty buy) fun v136 => 
     W.cnd (v136.2.1 != 0) (W.call (law21_lives) fun v137 => some v137)
      (W.call (deal_At (v136.1.1, (v136.1.2.1, ())) (v135.1, (v135.2.1, (v135.2.2.1, (v135.2.2.2.1, (v135.2.2.2.2.1, ()))))) to_ from_ qty sell) fun v138 => 
      W.cnd (v138.2.1 != 0) (W.call (law21_lives) fun v139 => some v139)
       (W.call (ref19_Same v138.1.1 v134.1) fun v140 => 
       W.cnd (!v140) (some false)
        (W.both (W.call (purse_Get v138.1.2.1 to_) fun v141 => W.both (W.call (ref01_Of v141) fun v142 => W.both (W.call (purse_Get v134.2.1 to_) fun v143 => W.both (W.call (ref01_Of v143) fun v144 => W.both (W.call (ref01_Sub (v142.1, (v142.2.1, ())) (v144.1, (v144.2.1, ()))) fun v145 => W.call (ref13_Gain (v135.1, (v135.2.1, (v135.2.2.1, (v135.2.2.2.1, (v135.2.2.2.2.1, ()))))) qty buy sell) fun v146 => W.call (ref01_Cmp (v145.1, (v145.2.1, ())) (v146.1, (v146.2.1, ()))) fun v147 => 
             W.cnd (v147 == 0) (W.call (law21_lives) fun v148 => some v148)
              (some false)) (W.call (ref01_Sub (v142.1, (v142.2.1, ())) (v144.1, (v144.2.1, ()))) fun v149 => W.call (ref13_Gain (v135.1, (v135.2.1, (v135.2.2.1, (v135.2.2.2.1, (v135.2.2.2.2.1, ()))))) qty buy sell) fun v150 => W.call (ref01_Cmp (v149.1, (v149.2.1, ())) (v150.1, (v150.2.1, ()))) fun v151 => 
             W.cnd (v151 == 0) (W.call (law21_lives) fun v152 => some v152)
              (some false))) (W.call (ref01_Of v143) fun v153 => W.call (ref01_Sub (v142.1, (v142.2.1, ())) (v153.1, (v153.2.1, ()))) fun v154 => W.call (ref13_Gain (v135.1, (v135.2.1, (v135.2.2.1, (v135.2.2.2.1, (v135.2.2.2.2.1, ()))))) qty buy sell) fun v155 => W.call (ref01_Cmp (v154.1, (v154.2.1, ())) (v155.1, (v155.2.1, ()))) fun v156 => 
            W.cnd (v156 == 0) (W.call (law21_lives) fun v157 => some v157)
             (some false))) (W.call (purse_Get v134.2.1 to_) fun v158 => W.call (ref01_Of v158) fun v159 => W.call (ref01_Sub (v142.1, (v142.2.1, ())) (v159.1, (v159.2.1, ()))) fun v160 => W.call (ref13_Gain (v135.1, (v135.2.1, (v135.2.2.1, (v135.2.2.2.1, (v135.2.2.2.2.1, ()))))) qty buy sell) fun v161 => W.call (ref01_Cmp (v160.1, (v160.2.1, ())) (v161.1, (v161.2.1, ()))) fun v162 => 
           W.cnd (v162 == 0) (W.call (law21_lives) fun v163 => some v163)
            (some false))) (W.call (ref01_Of v141) fun v164 => W.call (purse_Get v134.2.1 to_) fun v165 => W.call (ref01_Of v165) fun v166 => W.call (ref01_Sub (v164.1, (v164.2.1, ())) (v166.1, (v166.2.1, ()))) fun v167 => W.call (ref13_Gain (v135.1, (v135.2.1, (v135.2.2.1, (v135.2.2.2.1, (v135.2.2.2.2.1, ()))))) qty buy sell) fun v168 => W.call (ref01_Cmp (v167.1, (v167.2.1, ())) (v168.1, (v168.2.1, ()))) fun v169 => 
          W.cnd (v169 == 0) (W.call (law21_lives) fun v170 => some v170)
           (some false))) (W.call (purse_Get v138.1.2.1 to_) fun v171 => W.call (ref01_Of v171) fun v172 => W.call (purse_Get v134.2.1 to_) fun v173 => W.call (ref01_Of v173) fun v174 => W.call (ref01_Sub (v172.1, (v172.2.1, ())) (v174.1, (v174.2.1, ()))) fun v175 => W.call (ref13_Gain (v135.1, (v135.2.1, (v135.2.2.1, (v135.2.2.2.1, (v135.2.2.2.2.1, ()))))) qty buy sell) fun v176 => W.call (ref01_Cmp (v175.1, (v175.2.1, ())) (v176.1, (v176.2.1, ()))) fun v177 => 
         W.cnd (v177 == 0) (W.call (law21_lives) fun v178 => some v178)
          (some false)))))) (W.call (law21_one (i.1, (i.2.1, (i.2.2.1, (i.2.2.2.1, (i.2.2.2.2.1, ())))))) fun v179 => W.call (deal_At (v134.1, (v134.2.1, ())) (v179.1, (v179.2.1, (v179.2.2.1, (v179.2.2.2.1, (v179.2.2.2.2.1, ()))))) from_ to_ qty buy) fun v180 => 
     W.cnd (v180.2.1 != 0) (W.call (law21_lives) fun v181 => some v181)
      (W.call (deal_At (v180.1.1, (v180.1.2.1, ())) (v179.1, (v179.2.1, (v179.2.2.1, (v179.2.2.2.1, (v179.2.2.2.2.1, ()))))) to_ from_ qty sell) fun v182 => 
      W.cnd (v182.2.1 != 0) (W.call (law21_lives) fun v183 => some v183)
       (W.call (ref19_Same v182.1.1 v134.1) fun v184 => 
       W.cnd (!v184) (some false)
        (W.both (W.call (purse_Get v182.1.2.1 to_) fun v185 => W.both (W.call (ref01_Of v185) fun v186 => W.both (W.call (purse_Get v134.2.1 to_) fun v187 => W.both (W.call (ref01_Of v187) fun v188 => W.both (W.call (ref01_Sub (v186.1, (v186.2.1, ())) (v188.1, (v188.2.1, ()))) fun v189 => W.call (ref13_Gain (v179.1, (v179.2.1, (v179.2.2.1, (v179.2.2.2.1, (v179.2.2.2.2.1, ()))))) qty buy sell) fun v190 => W.call (ref01_Cmp (v189.1, (v189.2.1, ())) (v190.1, (v190.2.1, ()))) fun v191 => 
             W.cnd (v191 == 0) (W.call (law21_lives) fun v192 => some v192)
              (some false)) (W.call (ref01_Sub (v186.1, (v186.2.1, ())) (v188.1, (v188.2.1, ()))) fun v193 => W.call (ref13_Gain (v179.1, (v179.2.1, (v179.2.2.1, (v179.2.2.2.1, (v179.2.2.2.2.1, ()))))) qty buy sell) fun v194 => W.call (ref01_Cmp (v193.1, (v193.2.1, ())) (v194.1, (v194.2.1, ()))) fun v195 => 
             W.cnd (v195 == 0) (W.call (law21_lives) fun v196 => some v196)
              (some false))) (W.call (ref01_Of v187) fun v197 => W.call (ref01_Sub (v186.1, (v186.2.1, ())) (v197.1, (v197.2.1, ()))) fun v198 => W.call (ref13_Gain (v179.1, (v179.2.1, (v179.2.2.1, (v179.2.2.2.1, (v179.2.2.2.2.1, ()))))) qty buy sell) fun v199 => W.call (ref01_Cmp (v198.1, (v198.2.1, ())) (v199.1, (v199.2.1, ()))) fun v200 => 
            W.cnd (v200 == 0) (W.call (law21_lives) fun v201 => some v201)
             (some false))) (W.call (purse_Get v134.2.1 to_) fun v202 => W.call (ref01_Of v202) fun v203 => W.call (ref01_Sub (v186.1, (v186.2.1, ())) (v203.1, (v203.2.1, ()))) fun v204 => W.call (ref13_Gain (v179.1, (v179.2.1, (v179.2.2.1, (v179.2.2.2.1, (v179.2.2.2.2.1, ()))))) qty buy sell) fun v205 => W.call (ref01_Cmp (v204.1, (v204.2.1, ())) (v205.1, (v205.2.1, ()))) fun v206 => 
           W.cnd (v206 == 0) (W.call (law21_lives) fun v207 => some v207)
            (some false))) (W.call (ref01_Of v185) fun v208 => W.call (purse_Get v134.2.1 to_) fun v209 => W.call (ref01_Of v209) fun v210 => W.call (ref01_Sub (v208.1, (v208.2.1, ())) (v210.1, (v210.2.1, ()))) fun v211 => W.call (ref13_Gain (v179.1, (v179.2.1, (v179.2.2.1, (v179.2.2.2.1, (v179.2.2.2.2.1, ()))))) qty buy sell) fun v212 => W.call (ref01_Cmp (v211.1, (v211.2.1, ())) (v212.1, (v212.2.1, ()))) fun v213 => 
          W.cnd (v213 == 0) (W.call (law21_lives) fun v214 => some v214)
           (some false))) (W.call (purse_Get v182.1.2.1 to_) fun v215 => W.call (ref01_Of v215) fun v216 => W.call (purse_Get v134.2.1 to_) fun v217 => W.call (ref01_Of v217) fun v218 => W.call (ref01_Sub (v216.1, (v216.2.1, ())) (v218.1, (v218.2.1, ()))) fun v219 => W.call (ref13_Gain (v179.1, (v179.2.1, (v179.2.2.1, (v179.2.2.2.1, (v179.2.2.2.2.1, ()))))) qty buy sell) fun v220 => W.call (ref01_Cmp (v219.1, (v219.2.1, ())) (v220.1, (v220.2.1, ()))) fun v221 => 
         W.cnd (v221 == 0) (W.call (law21_lives) fun v222 => some v222)
          (some false))))))) (W.call (law21_Few l p) fun v223 => W.call (law21_one (i.1, (i.2.1, (i.2.2.1, (i.2.2.2.1, (i.2.2.2.2.1, ())))))) fun v224 => W.call (deal_At (v223.1, (v223.2.1, ())) (v224.1, (v224.2.1, (v224.2.2.1, (v224.2.2.2.1, (v224.2.2.2.2.1, ()))))) from_ to_ qty buy) fun v225 => 
    W.cnd (v225.2.1 != 0) (W.call (law21_lives) fun v226 => some v226)
     (W.call (deal_At (v225.1.1, (v225.1.2.1, ())) (v224.1, (v224.2.1, (v224.2.2.1, (v224.2.2.2.1, (v224.2.2.2.2.1, ()))))) to_ from_ qty sell) fun v227 => 
     W.cnd (v227.2.1 != 0) (W.call (law21_lives) fun v228 => some v228)
      (W.call (ref19_Same v227.1.1 v223.1) fun v229 => 
      W.cnd (!v229) (some false)
       (W.both (W.call (purse_Get v227.1.2.1 to_) fun v230 => W.both (W.call (ref01_Of v230) fun v231 => W.both (W.call (purse_Get v223.2.1 to_) fun v232 => W.both (W.call (ref01_Of v232) fun v233 => W.both (W.call (ref01_Sub (v231.1, (v231.2.1, ())) (v233.1, (v233.2.1, ()))) fun v234 => W.call (ref13_Gain (v224.1, (v224.2.1, (v224.2.2.1, (v224.2.2.2.1, (v224.2.2.2.2.1, ()))))) qty buy sell) fun v235 => W.call (ref01_Cmp (v234.1, (v234.2.1, ())) (v235.1, (v235.2.1, ()))) fun v236 => 
            W.cnd (v236 == 0) (W.call (law21_lives) fun v237 => some v237)
             (some false)) (W.call (ref01_Sub (v231.1, (v231.2.1, ())) (v233.1, (v233.2.1, ()))) fun v238 => W.call (ref13_Gain (v224.1, (v224.2.1, (v224.2.2.1, (v224.2.2.2.1, (v224.2.2.2.2.1, ()))))) qty buy sell) fun v239 => W.call (ref01_Cmp (v238.1, (v238.2.1, ())) (v239.1, (v239.2.1, ()))) fun v240 => 
            W.cnd (v240 == 0) (W.call (law21_lives) fun v241 => some v241)
             (some false))) (W.call (ref01_Of v232) fun v242 => W.call (ref01_Sub (v231.1, (v231.2.1, ())) (v242.1, (v242.2.1, ()))) fun v243 => W.call (ref13_Gain (v224.1, (v224.2.1, (v224.2.2.1, (v224.2.2.2.1, (v224.2.2.2.2.1, ()))))) qty buy sell) fun v244 => W.call (ref01_Cmp (v243.1, (v243.2.1, ())) (v244.1, (v244.2.1, ()))) fun v245 => 
           W.cnd (v245 == 0) (W.call (law21_lives) fun v246 => some v246)
            (some false))) (W.call (purse_Get v223.2.1 to_) fun v247 => W.call (ref01_Of v247) fun v248 => W.call (ref01_Sub (v231.1, (v231.2.1, ())) (v248.1, (v248.2.1, ()))) fun v249 => W.call (ref13_Gain (v224.1, (v224.2.1, (v224.2.2.1, (v224.2.2.2.1, (v224.2.2.2.2.1, ()))))) qty buy sell) fun v250 => W.call (ref01_Cmp (v249.1, (v249.2.1, ())) (v250.1, (v250.2.1, ()))) fun v251 => 
          W.cnd (v251 == 0) (W.call (law21_lives) fun v252 => some v252)
           (some false))) (W.call (ref01_Of v230) fun v253 => W.call (purse_Get v223.2.1 to_) fun v254 => W.call (ref01_Of v254) fun v255 => W.call (ref01_Sub (v253.1, (v253.2.1, ())) (v255.1, (v255.2.1, ()))) fun v256 => W.call (ref13_Gain (v224.1, (v224.2.1, (v224.2.2.1, (v224.2.2.2.1, (v224.2.2.2.2.1, ()))))) qty buy sell) fun v257 => W.call (ref01_Cmp (v256.1, (v256.2.1, ())) (v257.1, (v257.2.1, ()))) fun v258 => 
         W.cnd (v258 == 0) (W.call (law21_lives) fun v259 => some v259)
          (some false))) (W.call (purse_Get v227.1.2.1 to_) fun v260 => W.call (ref01_Of v260) fun v261 => W.call (purse_Get v223.2.1 to_) fun v262 => W.call (ref01_Of v262) fun v263 => W.call (ref01_Sub (v261.1, (v261.2.1, ())) (v263.1, (v263.2.1, ()))) fun v264 => W.call (ref13_Gain (v224.1, (v224.2.1, (v224.2.2.1, (v224.2.2.2.1, (v224.2.2.2.2.1, ()))))) qty buy sell) fun v265 => W.call (ref01_Cmp (v264.1, (v264.2.1, ())) (v265.1, (v265.2.1, ()))) fun v266 => 
        W.cnd (v266 == 0) (W.call (law21_lives) fun v267 => some v267)
         (some false))))))) (W.both (W.call (law21_Few l p) fun v268 => W.call (law21_one (i.1, (i.2.1, (i.2.2.1, (i.2.2.2.1, (i.2.2.2.2.1, ())))))) fun v269 => W.call (deal_At (v268.1, (v268.2.1, ())) (v269.1, (v269.2.1, (v269.2.2.1, (v269.2.2.2.1, (v269.2.2.2.2.1, ()))))) from_ to_ qty buy) fun v270 => 
    W.cnd (v270.2.1 != 0) (W.call (law21_lives) fun v271 => some v271)
     (W.call (deal_At (v270.1.1, (v270.1.2.1, ())) (v269.1, (v269.2.1, (v269.2.2.1, (v269.2.2.2.1, (v269.2.2.2.2.1, ()))))) to_ from_ qty sell) fun v272 => 
     W.cnd (v272.2.1 != 0) (W.call (law21_lives) fun v273 => some v273)
      (W.call (ref19_Same v272.1.1 v268.1) fun v274 => 
      W.cnd (!v274) (some false)
       (W.both (W.call (purse_Get v272.1.2.1 to_) fun v275 => W.both (W.call (ref01_Of v275) fun v276 => W.both (W.call (purse_Get v268.2.1 to_) fun v277 => W.both (W.call (ref01_Of v277) fun v278 => W.both (W.call (ref01_Sub (v276.1, (v276.2.1, ())) (v278.1, (v278.2.1, ()))) fun v279 => W.call (ref13_Gain (v269.1, (v269.2.1, (v269.2.2.1, (v269.2.2.2.1, (v269.2.2.2.2.1, ()))))) qty buy sell) fun v280 => W.call (ref01_Cmp (v279.1, (v279.2.1, ())) (v280.1, (v280.2.1, ()))) fun v281 => 
            W.cnd (v281 == 0) (W.call (law21_lives) fun v282 => some v282)
             (some false)) (W.call (ref01_Sub (v276.1, (v276.2.1, ())) (v278.1, (v278.2.1, ()))) fun v283 => W.call (ref13_Gain (v269.1, (v269.2.1, (v269.2.2.1, (v269.2.2.2.1, (v269.2.2.2.2.1, ()))))) qty buy sell) fun v284 => W.call (ref01_Cmp (v283.1, (v283.2.1, ())) (v284.1, (v284.2.1, ()))) fun v285 => 
            W.cnd (v285 == 0) (W.call (law21_lives) fun v286 => some v286)
             (some false))) (W.call (ref01_Of v277) fun v287 => W.call (ref01_Sub (v276.1, (v276.2.1, ())) (v287.1, (v287.2.1, ()))) fun v288 => W.call (ref13_Gain (v269.1, (v269.2.1, (v269.2.2.1, (v269.2.2.2.1, (v269.2.2.2.2.1, ()))))) qty buy sell) fun v289 => W.call (ref01_Cmp (v288.1, (v288.2.1, ())) (v289.1, (v289.2.1, ()))) fun v290 => 
           W.cnd (v290 == 0) (W.call (law21_lives) fun v291 => some v291)
            (some false))) (W.call (purse_Get v268.2.1 to_) fun v292 => W.call (ref01_Of v292) fun v293 => W.call (ref01_Sub (v276.1, (v276.2.1, ())) (v293.1, (v293.2.1, ()))) fun v294 => W.call (ref13_Gain (v269.1, (v269.2.1, (v269.2.2.1, (v269.2.2.2.1, (v269.2.2.2.2.1, ()))))) qty buy sell) fun v295 => W.call (ref01_Cmp (v294.1, (v294.2.1, ())) (v295.1, (v295.2.1, ()))) fun v296 => 
          W.cnd (v296 == 0) (W.call (law21_lives) fun v297 => some v297)
           (some false))) (W.call (ref01_Of v275) fun v298 => W.call (purse_Get v268.2.1 to_) fun v299 => W.call (ref01_Of v299) fun v300 => W.call (ref01_Sub (v298.1, (v298.2.1, ())) (v300.1, (v300.2.1, ()))) fun v301 => W.call (ref13_Gain (v269.1, (v269.2.1, (v269.2.2.1, (v269.2.2.2.1, (v269.2.2.2.2.1, ()))))) qty buy sell) fun v302 => W.call (ref01_Cmp (v301.1, (v301.2.1, ())) (v302.1, (v302.2.1, ()))) fun v303 => 
         W.cnd (v303 == 0) (W.call (law21_lives) fun v304 => some v304)
          (some false))) (W.call (purse_Get v272.1.2.1 to_) fun v305 => W.call (ref01_Of v305) fun v306 => W.call (purse_Get v268.2.1 to_) fun v307 => W.call (ref01_Of v307) fun v308 => W.call (ref01_Sub (v306.1, (v306.2.1, ())) (v308.1, (v308.2.1, ()))) fun v309 => W.call (ref13_Gain (v269.1, (v269.2.1, (v269.2.2.1, (v269.2.2.2.1, (v269.2.2.2.2.1, ()))))) qty buy sell) fun v310 => W.call (ref01_Cmp (v309.1, (v309.2.1, ())) (v310.1, (v310.2.1, ()))) fun v311 => 
        W.cnd (v311 == 0) (W.call (law21_lives) fun v312 => some v312)
         (some false)))))) (W.call (law21_Few l p) fun v313 => W.call (law21_one (i.1, (i.2.1, (i.2.2.1, (i.2.2.2.1, (i.2.2.2.2.1, ())))))) fun v314 => W.call (deal_At (v313.1, (v313.2.1, ())) (v314.1, (v314.2.1, (v314.2.2.1, (v314.2.2.2.1, (v314.2.2.2.2.1, ()))))) from_ to_ qty buy) fun v315 => 
    W.cnd (v315.2.1 != 0) (W.call (law21_lives) fun v316 => some v316)
     (W.call (deal_At (v315.1.1, (v315.1.2.1, ())) (v314.1, (v314.2.1, (v314.2.2.1, (v314.2.2.2.1, (v314.2.2.2.2.1, ()))))) to_ from_ qty sell) fun v317 => 
     W.cnd (v317.2.1 != 0) (W.call (law21_lives) fun v318 => some v318)
      (W.call (ref19_Same v317.1.1 v313.1) fun v319 => 
      W.cnd (!v319) (some false)
       (W.both (W.call (purse_Get v317.1.2.1 to_) fun v320 => W.both (W.call (ref01_Of v320) fun v321 => W.both (W.call (purse_Get v313.2.1 to_) fun v322 => W.both (W.call (ref01_Of v322) fun v323 => W.both (W.call (ref01_Sub (v321.1, (v321.2.1, ())) (v323.1, (v323.2.1, ()))) fun v324 => W.call (ref13_Gain (v314.1, (v314.2.1, (v314.2.2.1, (v314.2.2.2.1, (v314.2.2.2.2.1, ()))))) qty buy sell) fun v325 => W.call (ref01_Cmp (v324.1, (v324.2.1, ())) (v325.1, (v325.2.1, ()))) fun v326 => 
            W.cnd (v326 == 0) (W.call (law21_lives) fun v327 => some v327)
             (some false)) (W.call (ref01_Sub (v321.1, (v321.2.1, ())) (v323.1, (v323.2.1, ()))) fun v328 => W.call (ref13_Gain (v314.1, (v314.2.1, (v314.2.2.1, (v314.2.2.2.1, (v314.2.2.2.2.1, ()))))) qty buy sell) fun v329 => W.call (ref01_Cmp (v328.1, (v328.2.1, ())) (v329.1, (v329.2.1, ()))) fun v330 => 
            W.cnd (v330 == 0) (W.call (law21_lives) fun v331 => some v331)
             (some false))) (W.call (ref01_Of v322) fun v332 => W.call (ref01_Sub (v321.1, (v321.2.1, ())) (v332.1, (v332.2.1, ()))) fun v333 => W.call (ref13_Gain (v314.1, (v314.2.1, (v314.2.2.1, (v314.2.2.2.1, (v314.2.2.2.2.1, ()))))) qty buy sell) fun v334 => W.call (ref01_Cmp (v333.1, (v333.2.1, ())) (v334.1, (v334.2.1, ()))) fun v335 => 
           W.cnd (v335 == 0) (W.call (law21_lives) fun v336 => some v336)
            (some false))) (W.call (purse_Get v313.2.1 to_) fun v337 => W.call (ref01_Of v337) fun v338 => W.call (ref01_Sub (v321.1, (v321.2.1, ())) (v338.1, (v338.2.1, ()))) fun v339 => W.call (ref13_Gain (v314.1, (v314.2.1, (v314.2.2.1, (v314.2.2.2.1, (v314.2.2.2.2.1, ()))))) qty buy sell) fun v340 => W.call (ref01_Cmp (v339.1, (v339.2.1, ())) (v340.1, (v340.2.1, ()))) fun v341 => 
          W.cnd (v341 == 0) (W.call (law21_lives) fun v342 => some v342)
           (some false))) (W.call (ref01_Of v320) fun v343 => W.call (purse_Get v313.2.1 to_) fun v344 => W.call (ref01_Of v344) fun v345 => W.call (ref01_Sub (v343.1, (v343.2.1, ())) (v345.1, (v345.2.1, ()))) fun v346 => W.call (ref13_Gain (v314.1, (v314.2.1, (v314.2.2.1, (v314.2.2.2.1, (v314.2.2.2.2.1, ()))))) qty buy sell) fun v347 => W.call (ref01_Cmp (v346.1, (v346.2.1, ())) (v347.1, (v347.2.1, ()))) fun v348 => 
         W.cnd (v348 == 0) (W.call (law21_lives) fun v349 => some v349)
          (some false))) (W.call (purse_Get v317.1.2.1 to_) fun v350 => W.call (ref01_Of v350) fun v351 => W.call (purse_Get v313.2.1 to_) fun v352 => W.call (ref01_Of v352) fun v353 => W.call (ref01_Sub (v351.1, (v351.2.1, ())) (v353.1, (v353.2.1, ()))) fun v354 => W.call (ref13_Gain (v314.1, (v314.2.1, (v314.2.2.1, (v314.2.2.2.1, (v314.2.2.2.2.1, ()))))) qty buy sell) fun v355 => W.call (ref01_Cmp (v354.1, (v354.2.1, ())) (v355.1, (v355.2.1, ()))) fun v356 => 
        W.cnd (v356 == 0) (W.call (law21_lives) fun v357 => some v357)
         (some false))))))))
noncomputable def law21_DealNets (l : List APos') (p : List AFlow') (i : AInst') (from_ : AUnit') (to_ : AUnit') (qty : Int) (buy : Int) (sell : Int) : Option Bool := law21_DealNetsW stdW l p i from_ to_ qty buy sell
noncomputable def law21_DealNets_s : ES := ⟨(.pair (.slc tAPos) (.pair (.slc tAFlow) (.pair tAInst (.pair tAUnit (.pair tAUnit (.pair (.int .i64) (.pair (.int .i64) (.pair (.int .i64) .unit)))))))), (.v .bool), fun x => law21_DealNets x.1 x.2.1 x.2.2.1 x.2.2.2.1 x.2.2.2.2.1 x.2.2.2.2.2.1 x.2.2.2.2.2.2.1 x.2.2.2.2.2.2.2.1⟩
theorem law21_DealNets_ok : ECok Try.prog 9 (.es law21_DealNets_s)   := es_ok (A := (.pair (.slc tAPos) (.pair (.slc tAFlow) (.pair tAInst (.pair tAUnit (.pair tAUnit (.pair (.int .i64) (.pair (.int .i64) (.pair (.int .i64) .unit))))))))) (Q := (.v .bool)) (fun W x => law21_DealNetsW W x.1 x.2.1 x.2.2.1 x.2.2.2.1 x.2.2.2.2.1 x.2.2.2.2.2.1 x.2.2.2.2.2.2.1 x.2.2.2.2.2.2.2.1) [(37, .es law21_Few_s), (38, .es law21_one_s), (39, .es deal_At_s), (40, .es law21_lives_s), (41, .es ref19_Same_s), (18, .es purse_Get_s), (43, .es ref01_Of_s), (42, .es ref01_Sub_s), (44, .es ref13_Gain_s), (20, .es ref01_Cmp_s)] ⟨law21_Few_ok, law21_one_ok, deal_At_ok, law21_lives_ok, ref19_Same_ok, purse_Get_ok, ref01_Of_ok, ref01_Sub_ok, ref13_Gain_ok, ref01_Cmp_ok, trivial⟩ [(1, [0], (.rd 0 (.rd 1 (.three 2 3 5 (.two 3 5 (.two 4 5 (ofL [(5, false), (6, false), (7, false)]) (ofL [(4, false), (6, false), (7, false)])) (ofL [(3, false), (4, false), (6, false), (7, false)])) (.two 2 5 (.two 4 5 (ofL [(5, false), (6, false), (7, false)]) (ofL [(4, false), (6, false), (7, false)])) (ofL [(2, false), (4, false), (6, false), (7, false)])) (.two 2 3 (ofL [(3, false), (4, false), (6, false), (7, false)]) (ofL [(2, false), (4, false), (6, false), (7, false)])))))), (10, [], (.rd 0 (.rd 1 (.rd 2 (.rd 5 (.rd 6 (.rd 7 (.two 3 11 (.two 4 11 (.two 8 11 (.two 9 11 (.two 10 11 (ofL [(11, false), (12, false)]) (ofL [(10, false), (12, false)])) (ofL [(9, false), (10, false), (12, false)])) (ofL [(8, false), (9, false), (10, false), (12, false)])) (ofL [(4, false), (8, false), (9, false), (10, false), (12, false)])) (ofL [(3, false), (4, false), (8, false), (9, false), (10, false), (12, false)]))))))))), (11, [], (ofL [(0, true), (1, true), (2, true), (3, true), (4, true), (5, false), (6, false), (7, true), (8, true), (9, false), (10, true), (11, true)]))] [] [] Try.func9 rfl (by decide +kernel) rfl rfl (fun W x => by kernel_rfl)
end Go.Proofs.Ytbpbkmngbhgpfaa

namespace Go.Proofs.Ytbpbkmngbhgpfaa
open Go Go.Vc Go.RowKit
theorem r_nat (u : Nat) (hu : u < 18446744073709551616) : ref01_Nat (u : Int) = some (bigS false u) := nat_is u hu
theorem r_plus {xs ys : List Int} (hx : Nrm xs) (hy : Nrm ys) (lx : xs.length ≤ 1000) (ly : ys.length ≤ 1000) : ref01_plus xs ys = some (bitsOf (valB xs + valB ys)) := plus_is hx hy lx ly
theorem r_less {xs ys : List Int} (hx : Nrm xs) (hy : Nrm ys) (lx : xs.length ≤ 1000) (ly : ys.length ≤ 1000) : ref01_less xs ys = some (decide (valB xs < valB ys)) := less_is hx hy lx ly
theorem r_minus {xs ys : List Int} (hx : Nrm xs) (hy : Nrm ys) (lx : xs.length ≤ 1000) (hle : valB ys ≤ valB xs) : ref01_minus xs ys = some (bitsK xs.length (valB xs - valB ys)) := minus_is hx hy lx hle
theorem r_trim {g : Bool} {xs : List Int} (h : bitL xs) (lx : xs.length ≤ 1000) : ref01_trim g xs = some (bigS g (valB xs)) := trim_is h lx
end Go.Proofs.Ytbpbkmngbhgpfaa

namespace Go.Proofs.Ytbpbkmngbhgpfaa
open Go Go.Vc Go.RowKit
theorem bits_len_le {n k K : Nat} (h : n < 2 ^ k) (hk : k ≤ K) : (bitsOf n).length ≤ K := Nat.le_trans (bits_len k n h) hk
theorem pw {a b k : Nat} (ha : a < 2 ^ k) (hb : b < 2 ^ k) : a + b < 2 ^ (k + 1) := by rw [Nat.pow_succ]; omega
theorem call_eq {α β : Type} {o : Option α} {a : α} (h : o = some a) (K : α → Option β) : stdW.call o K = K a := by subst h; rfl
theorem valB_lt' {xs : List Int} (h : Nrm xs) {k : Nat} (hl : xs.length ≤ k) : valB xs < 2 ^ k := Nat.lt_of_lt_of_le (valB_lt xs h.bits) (Nat.pow_le_pow_right (by omega) hl)
theorem sum_len {a b : List Int} (ha : Nrm a) (hb : Nrm b) {k : Nat} (la : a.length ≤ k) (lb : b.length ≤ k) : (bitsOf (valB a + valB b)).length ≤ k + 1 := bits_len_le (pw (valB_lt' ha la) (valB_lt' hb lb)) (Nat.le_refl _)
theorem r_add {x y : BigT} (hx : Nb x) (hy : Nb y) (lx : x.2.1.length ≤ 900) (ly : y.2.1.length ≤ 900) : ref01_Add x y = some (big (bv x + bv y)) := by
  show ref01_AddW stdW x y = _
  have nx := nb_nrm hx
  have ny := nb_nrm hy
  unfold ref01_AddW
  have eta : ∀ z : BigT, (some (z.1, (z.2.1, ())) : Option BigT) = some z := fun z => rfl
  by_cases h : x.1 = y.1
  · have e : notIf false (x.1 == y.1) = true := by simp [notIf, h]
    have hs : (bitsOf (valB x.2.1 + valB y.2.1)).length ≤ 1000 := Nat.le_trans (sum_len nx ny lx ly) (by omega)
    rw [e]
    show (stdW.call _ _ : Option BigT) = _
    rw [call_eq (r_plus nx ny (by omega) (by omega)), call_eq (r_trim (bitL_bits _) hs), eta, add_same h]
  · have e : notIf false (x.1 == y.1) = false := by simp [notIf, h]
    rw [e]
    show (stdW.call _ _ : Option BigT) = _
    rw [call_eq (r_less nx ny (by omega) (by omega))]
    by_cases hl : valB x.2.1 < valB y.2.1
    · rw [decide_eq_true hl]
      show (stdW.call _ _ : Option BigT) = _
      rw [call_eq (r_minus ny nx (by omega) (by omega)), call_eq (r_trim (bitL_K _ _) (by rw [len_K]; omega)), eta, add_less ny h hl]
    · rw [decide_eq_false hl]
      show (stdW.call _ _ : Option BigT) = _
      rw [call_eq (r_minus nx ny (by omega) (by omega)), call_eq (r_trim (bitL_K _ _) (by rw [len_K]; omega)), eta, add_more nx h hl]
end Go.Proofs.Ytbpbkmngbhgpfaa

namespace Go.Vc
open Go Go.RowKit
variable {β : Type}
/-! ### loops over a list -/
theorem loop_list {α S : Type} {l : List α} (hl : l.length ≤ 9223372036854775807) {f : Int × S → (Int × S → Option β) → Option β} (Inv : Nat → S → Prop) (g : List α → S → Option β) {s0 : S} (h0 : Inv 0 s0)
    (hend : ∀ s (again : Int × S → Option β), Inv l.length s → f ((l.length : Int), s) again = g [] s)
    (hstep : ∀ i (h : i < l.length) s, Inv i s → ∀ again : Int × S → Option β, (∀ s', Inv (i + 1) s' → again (((i + 1 : Nat) : Int), s') = g (l.drop (i + 1)) s') → f ((i : Int), s) again = g (l[i] :: l.drop (i + 1)) s) :
    stdW.loop f (0, s0) = g l s0 := by
  refine (loop_std (fun z => (l.length + 1) - z.1.toNat) (fun z => ∃ i : Nat, z.1 = (i : Int) ∧ i ≤ l.length ∧ Inv i z.2) (fun z => g (l.drop z.1.toNat) z.2) ⟨0, rfl, by omega, h0⟩ (by show l.length + 1 - 0 < _; omega) ?_).trans ?_
  · rintro ⟨z, s⟩ ⟨i, hi, hle, hs⟩ again ha
    dsimp only at hi hs
    subst hi
    simp only [Int.toNat_natCast]
    by_cases h : i < l.length
    · rw [drop_cons' l i h]
      refine hstep i h s hs again fun s' hs' => ?_
      have := ha (((i + 1 : Nat) : Int), s') ⟨i + 1, rfl, by omega, hs'⟩ (by simp only [Int.toNat_natCast]; omega)
      simpa only [Int.toNat_natCast] using this
    · obtain rfl : i = l.length := by omega
      rw [List.drop_length]
      exact hend s again hs
  · simp
theorem cnd_lt {i n : Nat} (h : i < n) (a b : Option β) : stdW.cnd (decide ((i : Int) < (n : Int))) a b = a := by rw [decide_eq_true (by omega)]; rfl
theorem cnd_end {n : Nat} (a b : Option β) : stdW.cnd (decide ((n : Int) < (n : Int))) a b = b := by rw [decide_eq_false (by omega)]; rfl
theorem cnd_b {c : Bool} (a b : Option β) : stdW.cnd c a b = if c = true then a else b := by cases c <;> rfl
theorem cnd_y {c : Bool} (h : c = true) (a b : Option β) : stdW.cnd c a b = a := by subst h; rfl
theorem cnd_n {c : Bool} (h : c = false) (a b : Option β) : stdW.cnd c a b = b := by subst h; rfl
theorem idx_w {α : Type} {l : List α} {i : Nat} (h : i < l.length) (K : α → Option β) : stdW.idx l (i : Int) K = K l[i] := idx_eq h K
theorem nth_w {α : Type} {l : List α} {i : Nat} (h : i < l.length) (K : α → Option β) : stdW.nth l (Int.toNat (i : Int)) K = K l[i] := by
  show idxR l _ K = _
  unfold idxR
  rw [Int.toNat_natCast, List.getElem?_eq_getElem h]
theorem room_w {n b : Nat} (h : n ≤ 281474976710656) (h2 : n * b ≤ 140737488355328) (K : Option β) : stdW.room n b K = K := room_eq h h2 K
theorem nn_w {b : Int} (h : 0 ≤ b) (K : Option β) : stdW.nn b K = K := nn_eq h K
theorem both_w (a : Option β) : stdW.both a a = a := both_eq a
theorem join_w {X : Type} (k : X → Option β) (f : (X → Option β) → Option β) : stdW.join k f = f k := rfl
theorem bnd_w {i : Int} {n : Nat} (h : 0 ≤ i) (h2 : i ≤ n) (K : Nat → Option β) : stdW.bnd i n K = K i.toNat := bnd_eq h h2 K
theorem i64_s (i : Nat) (h : i < 9223372036854775807) : IntKind.i64.wrap ((i : Int) + 1) = ((i + 1 : Nat) : Int) := i64_succ i h
end Go.Vc
namespace Go.Vc
variable {β : Type}
/-- a loop that counts up to N -/
theorem loop_n {S : Type} {N : Nat} (hN : N < 9223372036854775807) {f : Int × S → (Int × S → Option β) → Option β} (Inv : Nat → S → Prop) (r : Option β) {s0 : S} (h0 : Inv 0 s0)
    (hend : ∀ s (again : Int × S → Option β), Inv N s → f (((N : Nat) : Int), s) again = r)
    (hstep : ∀ i, i < N → ∀ s, Inv i s → ∀ again : Int × S → Option β, (∀ s', Inv (i + 1) s' → again (((i + 1 : Nat) : Int), s') = r) → f ((i : Int), s) again = r) :
    stdW.loop f (0, s0) = r := by
  refine (loop_std (fun z => (N + 1) - z.1.toNat) (fun z => ∃ i : Nat, z.1 = (i : Int) ∧ i ≤ N ∧ Inv i z.2) (fun _ => r) ⟨0, rfl, by omega, h0⟩ (by show N + 1 - 0 < _; omega) ?_)
  rintro ⟨z, s⟩ ⟨i, hi, hle, hs⟩ again ha
  dsimp only at hi hs
  subst hi
  by_cases h : i < N
  · refine hstep i h s hs again fun s' hs' => ?_
    exact ha (((i + 1 : Nat) : Int), s') ⟨i + 1, rfl, by omega, hs'⟩ (by simp only [Int.toNat_natCast]; omega)
  · obtain rfl : i = N := by omega
    exact hend s again hs
/-! ### sums -/
def sumBy {α : Type} (f : α → Int) (l : List α) : Int := (l.map f).sum
theorem sumBy_nil {α : Type} (f : α → Int) : sumBy f [] = 0 := rfl
theorem sumBy_cons {α : Type} (f : α → Int) (x : α) (l : List α) : sumBy f (x :: l) = f x + sumBy f l := by simp [sumBy]
theorem sumBy_app {α : Type} (f : α → Int) (a b : List α) : sumBy f (a ++ b) = sumBy f a + sumBy f b := by simp [sumBy]
theorem sumBy_in {α : Type} {f : α → Int} {B : Int} : ∀ {l : List α}, (∀ x ∈ l, -B ≤ f x ∧ f x ≤ B) → -(B * (l.length : Int)) ≤ sumBy f l ∧ sumBy f l ≤ B * (l.length : Int)
  | [], _ => by simp [sumBy]
  | x :: l, h => by
    have h1 := h x (by simp)
    have h2 := sumBy_in (l := l) fun w hw => h w (by simp [hw])
    rw [sumBy_cons, List.length_cons, Int.natCast_add, Int.mul_add]
    omega
theorem filter_take {α : Type} (p : α → Bool) (l : List α) (i : Nat) (h : i < l.length) : (l.take (i + 1)).filter p = (l.take i).filter p ++ (if p l[i] = true then [l[i]] else []) := by
  rw [show l.take (i + 1) = l.take i ++ [l[i]] by simp, List.filter_append]
  congr 1
  by_cases hp : p l[i] = true <;> simp [hp]
end Go.Vc


namespace Go.Proofs.Ytbpbkmngbhgpfaa
open Go Go.Vc Go.RowKit
/-! ### numbers of 128 bits, by their values -/
def wv (w : WideWide') : Int := w.1 * 18446744073709551616 + w.2.1
def wOk (w : WideWide') : Prop := (-9223372036854775808 ≤ w.1 ∧ w.1 ≤ 9223372036854775807) ∧ (0 ≤ w.2.1 ∧ w.2.1 < 18446744073709551616)
def wide (z : Int) : WideWide' := (z / 18446744073709551616, z % 18446744073709551616, ())
def In128 (z : Int) : Prop := -170141183460469231731687303715884105728 ≤ z ∧ z < 170141183460469231731687303715884105728
instance (z : Int) : Decidable (In128 z) := by unfold In128; infer_instance
theorem wv_wide (z : Int) : wv (wide z) = z := by unfold wide wv; simp only; omega
theorem wv_in (w : WideWide') (h : wOk w) : In128 (wv w) := by unfold wOk at h; unfold In128 wv; omega
theorem wide_ok (z : Int) (h : In128 z) : wOk (wide z) := by unfold In128 at h; unfold wOk wide; simp only; omega
theorem wide_inj {a b : Int} (h : wide a = wide b) : a = b := by rw [← wv_wide a, h, wv_wide]
theorem shr63 (n : Int) (h : -9223372036854775808 ≤ n ∧ n ≤ 9223372036854775807) : n.fdiv (2 ^ min (Int.toNat 63) IntKind.i64.bits) = n / 18446744073709551616 := by
  have e : (2 : Int) ^ min (Int.toNat 63) IntKind.i64.bits = 9223372036854775808 := by decide +kernel
  rw [e, Int.fdiv_eq_ediv_of_nonneg _ (by omega)]; omega
def fit (z : Int) : WideWide' × Int × Unit := if In128 z then (wide z, 0, ()) else ((0, 0, ()), 7, ())
def I64 (n : Int) : Prop := -9223372036854775808 ≤ n ∧ n ≤ 9223372036854775807
theorem i64_128 {n : Int} (h : I64 n) : In128 n := by unfold I64 at h; unfold In128; omega
theorem r_wOf (n : Int) (h : I64 n) : wide_Of n = some (wide n) := by
  show wide_OfW stdW n = _
  unfold wide_OfW
  rw [nn_w (by omega), shr63 n h, IntKind.wrap_u64]; rfl
/-! a running sum -/
def totT (V : Int) : Int × Int × Int × Unit := (V / 340282366920938463463374607431768211456, IntKind.i64.wrap (V / 18446744073709551616), V % 18446744073709551616, ())
def InTot (V : Int) : Prop := -1569275433846670190958947355801916604025588861116008628224 ≤ V ∧ V < 1569275433846670190958947355801916604025588861116008628224
theorem wrap_wrap_u (z : Int) : IntKind.u64.wrap (IntKind.i64.wrap z) = z % 18446744073709551616 := by
  rw [IntKind.wrap_u64, IntKind.wrap_i64]; omega
theorem wrap_mod_i (z : Int) : IntKind.i64.wrap (z % 18446744073709551616) = IntKind.i64.wrap z := by
  rw [IntKind.wrap_i64, IntKind.wrap_i64]; omega
theorem tot_next (V x y : Int) (hV : InTot V) (hx : -9223372036854775808 ≤ x ∧ x ≤ 9223372036854775807) (hy : 0 ≤ y ∧ y < 18446744073709551616) :
    ((IntKind.i64.wrap (V / 340282366920938463463374607431768211456 + IntKind.i64.wrap (x.fdiv (2 ^ min (Int.toNat 63) IntKind.i64.bits) + IntKind.i64.wrap ((IntKind.u64.wrap (IntKind.i64.wrap (V / 18446744073709551616)) + IntKind.u64.wrap x + (V % 18446744073709551616 + y + 0) / 18446744073709551616) / 18446744073709551616))),
      IntKind.i64.wrap ((IntKind.u64.wrap (IntKind.i64.wrap (V / 18446744073709551616)) + IntKind.u64.wrap x + (V % 18446744073709551616 + y + 0) / 18446744073709551616) % 18446744073709551616),
      (V % 18446744073709551616 + y + 0) % 18446744073709551616, ()) : Int × Int × Int × Unit) = totT (V + (x * 18446744073709551616 + y)) := by
  unfold InTot at hV
  rw [wrap_wrap_u, wrap_mod_i, shr63 x hx, IntKind.wrap_u64]
  have e1 : (V + (x * 18446744073709551616 + y)) / 18446744073709551616 = V / 18446744073709551616 + x + (V % 18446744073709551616 + y + 0) / 18446744073709551616 := by omega
  have e0 : (V + (x * 18446744073709551616 + y)) / 340282366920938463463374607431768211456 = (V / 18446744073709551616 + x + (V % 18446744073709551616 + y + 0) / 18446744073709551616) / 18446744073709551616 := by omega
  have e3 : V / 340282366920938463463374607431768211456 = V / 18446744073709551616 / 18446744073709551616 := by omega
  unfold totT
  rw [e1, e0, e3]
  have hc : 0 ≤ (V % 18446744073709551616 + y + 0) / 18446744073709551616 ∧ (V % 18446744073709551616 + y + 0) / 18446744073709551616 ≤ 1 := by omega
  generalize (V % 18446744073709551616 + y + 0) / 18446744073709551616 = c at *
  have hu : -92233720368547758080000000000000000000 ≤ V / 18446744073709551616 ∧ V / 18446744073709551616 < 92233720368547758080000000000000000000 := by omega
  generalize V / 18446744073709551616 = u at *
  have f1 : (V + (x * 18446744073709551616 + y)) % 18446744073709551616 = (V % 18446744073709551616 + y + 0) % 18446744073709551616 := by omega
  rw [f1]
  have g2 : (u % 18446744073709551616 + x % 18446744073709551616 + c) / 18446744073709551616 ≤ 2 ∧ 0 ≤ (u % 18446744073709551616 + x % 18446744073709551616 + c) / 18446744073709551616 := by omega
  have g1 : IntKind.i64.wrap ((u % 18446744073709551616 + x % 18446744073709551616 + c) / 18446744073709551616) = (u % 18446744073709551616 + x % 18446744073709551616 + c) / 18446744073709551616 := IntWalk.i64_in _ (by omega)
  rw [g1]
  have g3 : IntKind.i64.wrap (x / 18446744073709551616 + (u % 18446744073709551616 + x % 18446744073709551616 + c) / 18446744073709551616) = x / 18446744073709551616 + (u % 18446744073709551616 + x % 18446744073709551616 + c) / 18446744073709551616 := IntWalk.i64_in _ (by omega)
  rw [g3]
  have g4 : u / 18446744073709551616 + (x / 18446744073709551616 + (u % 18446744073709551616 + x % 18446744073709551616 + c) / 18446744073709551616) = (u + x + c) / 18446744073709551616 := by omega
  rw [g4]
  have g5 : IntKind.i64.wrap ((u + x + c) / 18446744073709551616) = (u + x + c) / 18446744073709551616 := IntWalk.i64_in _ (by omega)
  rw [g5]
  have g6 : IntKind.i64.wrap (u % 18446744073709551616 + x % 18446744073709551616 + c) = IntKind.i64.wrap (u + x + c) := by rw [IntKind.wrap_i64, IntKind.wrap_i64]; omega
  rw [g6]
theorem add64_is {x y c : Int} (hx : 0 ≤ x) (hy : 0 ≤ y) (hc0 : 0 ≤ c) (hc : c ≤ 1) : add64 x y c = some ((x + y + c) % 18446744073709551616, (x + y + c) / 18446744073709551616, ()) := by unfold add64; rw [if_pos ⟨hx, hy, hc0, hc⟩]
theorem sub64_is {x y b : Int} (hx : 0 ≤ x) (hy : 0 ≤ y) (hy2 : y < 18446744073709551616) (hb0 : 0 ≤ b) (hb : b ≤ 1) : sub64 x y b = some ((x - y - b) % 18446744073709551616, if x < y + b then 1 else 0, ()) := by unfold sub64; rw [if_pos ⟨hx, hy, hy2, hb0, hb⟩]
theorem r_tadd (V : Int) (x : WideWide') (hV : InTot V) (hx : wOk x) : wide_total_add x (totT V).1 (totT V).2.1 (totT V).2.2.1 = some ((), totT (V + wv x)) := by
  unfold wOk at hx
  show wide_total_addW stdW x (V / 340282366920938463463374607431768211456) (IntKind.i64.wrap (V / 18446744073709551616)) (V % 18446744073709551616) = _
  unfold wide_total_addW wv
  rw [← tot_next V x.1 x.2.1 hV hx.1 hx.2]
  have hV' := hV
  unfold InTot at hV'
  rw [call_eq (add64_is (by omega) (by omega) (by omega) (by omega)), call_eq (add64_is (by rw [IntKind.wrap_u64]; omega) (by rw [IntKind.wrap_u64]; omega) (by show 0 ≤ (V % 18446744073709551616 + x.2.1 + 0) / 18446744073709551616; omega) (by show (V % 18446744073709551616 + x.2.1 + 0) / 18446744073709551616 ≤ 1; omega)), nn_w (by omega)]
theorem tot_fits (V : Int) (hV : InTot V) : (V / 340282366920938463463374607431768211456 == (IntKind.i64.wrap (V / 18446744073709551616)).fdiv (2 ^ min (Int.toNat 63) IntKind.i64.bits)) = decide (In128 V) := by
  have hr : -9223372036854775808 ≤ IntKind.i64.wrap (V / 18446744073709551616) ∧ IntKind.i64.wrap (V / 18446744073709551616) ≤ 9223372036854775807 := by
    rw [IntKind.wrap_i64]; omega
  rw [shr63 _ hr]
  unfold InTot at hV
  by_cases h : In128 V
  · rw [decide_eq_true h]
    unfold In128 at h
    rw [IntWalk.i64_in _ (by omega)]
    first | (simp; done) | (simp; omega) | skip
  · rw [decide_eq_false h]
    unfold In128 at h
    rw [IntKind.wrap_i64]
    simp; omega
theorem r_ranged (w : WideWide') (ok : Bool) : wide_ranged w ok = some (if ok = true then (w, 0, ()) else ((0, 0, ()), 7, ())) := by
  show wide_rangedW stdW w ok = _
  unfold wide_rangedW
  cases ok <;> rfl
theorem r_tdone (V : Int) (hV : InTot V) : wide_total_done (totT V).1 (totT V).2.1 (totT V).2.2.1 = some (fit V, totT V) := by
  show wide_total_doneW stdW _ _ _ = _
  unfold wide_total_doneW
  rw [nn_w (by omega), call_eq (r_ranged _ _)]
  have := tot_fits V hV
  show some ((if (V / 340282366920938463463374607431768211456 == (IntKind.i64.wrap (V / 18446744073709551616)).fdiv (2 ^ min (Int.toNat 63) IntKind.i64.bits)) = true then _ else _), _) = _
  rw [this]
  unfold fit
  by_cases h : In128 V
  · rw [if_pos (decide_eq_true h), if_pos h]
    have e : IntKind.i64.wrap (V / 18446744073709551616) = V / 18446744073709551616 := by unfold In128 at h; exact IntWalk.i64_in _ (by omega)
    show some (((IntKind.i64.wrap (V / 18446744073709551616), V % 18446744073709551616, ()), 0, ()), _) = _
    rw [e]; rfl
  · rw [decide_eq_false h, if_neg (by simp), if_neg h]
def sumW (l : List WideWide') : Int := (l.map wv).sum
theorem sumW_in : ∀ (l : List WideWide'), (∀ w ∈ l, wOk w) → -(170141183460469231731687303715884105728 * (l.length : Int)) ≤ sumW l ∧ sumW l ≤ 170141183460469231731687303715884105728 * (l.length : Int)
  | [], _ => by simp [sumW]
  | x :: l, h => by
    have h1 := wv_in x (h x (by simp))
    have h2 := sumW_in l fun w hw => h w (by simp [hw])
    unfold In128 at h1
    simp only [sumW, List.map_cons, List.sum_cons, List.length_cons] at h2 ⊢
    omega
theorem sumW_tot (l : List WideWide') (h : ∀ w ∈ l, wOk w) (hl : l.length < 9223372036854775807) : InTot (sumW l) := by
  have := sumW_in l h
  unfold InTot; omega
theorem sumW_app (a b : List WideWide') : sumW (a ++ b) = sumW a + sumW b := by unfold sumW; simp
theorem sumW_one (a : WideWide') : sumW [a] = wv a := by unfold sumW; simp
theorem sumW_take (l : List WideWide') (i : Nat) (h : i < l.length) : sumW (l.take (i + 1)) = sumW (l.take i) + wv l[i] := by
  rw [show l.take (i + 1) = l.take i ++ [l[i]] by simp, sumW_app, sumW_one]
theorem r_wAdd (l : List WideWide') (h : ∀ w ∈ l, wOk w) (hl : l.length < 9223372036854775807) : wide_Add l = some (fit (sumW l)) := by
  show wide_AddW stdW l = _
  unfold wide_AddW
  refine loop_list (l := l) (by omega) (fun i s => s = totT (sumW (l.take i))) (fun _ _ => some (fit (sumW l))) (by simp [sumW]; rfl) ?_ ?_
  · rintro _ again rfl
    rw [List.take_length, cnd_end, call_eq (r_tdone _ (sumW_tot l h hl))]
  · rintro i hi _ rfl again ha
    rw [cnd_lt hi, idx_w hi, call_eq (r_tadd _ _ (sumW_tot _ (fun w hw => h w (List.mem_of_mem_take hw)) (by rw [List.length_take]; omega)) (h _ (List.getElem_mem hi)))]
    dsimp only
    rw [i64_s i (by omega)]
    exact ha _ (by rw [sumW_take l i hi])
end Go.Proofs.Ytbpbkmngbhgpfaa

namespace Go.Proofs.Ytbpbkmngbhgpfaa
open Go Go.Vc Go.RowKit
/-! ### numbers without bounds: the reference's -/
theorem r_neg {a : BigT} (h : Nb a) (la : a.2.1.length ≤ 1000) : ref01_Neg a = some (big (-(bv a))) := by
  show ref01_NegW stdW a = _
  unfold ref01_NegW
  rw [call_eq (r_trim (nb_nrm h).bits la), neg_is]
theorem r_sub {a b : BigT} (ha : Nb a) (hb : Nb b) (la : a.2.1.length ≤ 900) (lb : b.2.1.length ≤ 900) : ref01_Sub a b = some (big (bv a - bv b)) := by
  show ref01_SubW stdW a b = _
  unfold ref01_SubW
  have e : ∀ z : BigT, (z.1, (z.2.1, ())) = z := fun z => rfl
  rw [e, e, call_eq (r_neg hb (by omega)), e, call_eq (r_add ha (nb_big _) la (by rw [neg_len hb]; exact lb)), e, bv_big]
  congr 2
theorem r_cmp {a b : BigT} (ha : Nb a) (hb : Nb b) (la : a.2.1.length ≤ 900) (lb : b.2.1.length ≤ 900) : ref01_Cmp a b = some (if bv a - bv b = 0 then 0 else if bv a - bv b < 0 then -1 else 1) := by
  show ref01_CmpW stdW a b = _
  unfold ref01_CmpW
  have e : ∀ z : BigT, (z.1, (z.2.1, ())) = z := fun z => rfl
  rw [e, e, call_eq (r_sub ha hb la lb)]
  by_cases h : bv a - bv b = 0
  · rw [cnd_y (by have := (big_len0 (bv a - bv b)).2 h; simp [this]), if_pos h]
  · rw [cnd_n (by have := mt (big_len0 (bv a - bv b)).1 h; simpa using this), if_neg h, cnd_b]
    show (if decide (bv a - bv b < 0) = true then _ else _) = _
    by_cases h2 : bv a - bv b < 0
    · rw [if_pos (by simpa using h2), if_pos h2]
    · rw [if_neg (by simpa using h2), if_neg h2]
theorem r_of {n : Int} (h : I64 n) : ref01_Of n = some (big n) := by
  show ref01_OfW stdW n = _
  unfold I64 at h
  unfold ref01_OfW
  by_cases h0 : 0 ≤ n
  · rw [cnd_y (decide_eq_true h0), u64_id n (by omega)]
    obtain ⟨m, rfl⟩ := Int.eq_ofNat_of_zero_le h0
    rw [call_eq (r_nat m (by omega)), bigS_f]
  · rw [cnd_n (decide_eq_false h0), of_neg (by omega) (by omega)]
    obtain ⟨m, hm⟩ := Int.eq_ofNat_of_zero_le (show 0 ≤ -(n + 1) by omega)
    rw [hm, call_eq (r_nat m (by omega))]
    have hl : (bitsOf m).length ≤ 1000 := bits_len_le (show m < 2 ^ 64 by omega) (by omega)
    show stdW.call (ref01_plus (bitsOf m) [1]) _ = _
    rw [call_eq (r_plus (nrm_bits m) nrm1 hl (by simp)), of_negB (by omega) (by omega) hm.symm]
    rfl
theorem len_big2 {z : Int} (h : -170141183460469231731687303715884105728 ≤ z ∧ z ≤ 170141183460469231731687303715884105728) : (big z).2.1.length ≤ 200 := by
  refine len_big z ?_
  have : (2 : Nat) ^ 200 = 1606938044258990275541962092341162602522202993782792835301376 := by decide
  omega
end Go.Proofs.Ytbpbkmngbhgpfaa

namespace Go.Proofs.Ytbpbkmngbhgpfaa
open Go Go.Vc Go.RowKit
/-! ### numbers: what fits, what it is -/
def sml (z : Int) : Prop := -170141183460469231731687303715884105728 ≤ z ∧ z ≤ 170141183460469231731687303715884105728
instance (z : Int) : Decidable (I64 z) := by unfold I64; infer_instance
/-! 64 bits of 128 -/
def fits64 (z : Int) : Int × Int × Unit := if I64 z then (z, 0, ()) else (0, 7, ())
theorem nif_t (c : Bool) : notIf true c = !c := by cases c <;> rfl
theorem nif_f (c : Bool) : notIf false c = c := by cases c <;> rfl
theorem r_wInt {z : Int} (h : In128 z) : wide_Int (wide z) = some (fits64 z) := by
  show wide_IntW stdW (wide z) = _
  unfold wide_IntW
  have hw : IntKind.i64.wrap (wide z).2.1 = IntKind.i64.wrap z := wrap_mod_i z
  have hI : I64 (IntKind.i64.wrap z) := by unfold I64; rw [IntKind.wrap_i64]; omega
  rw [hw, call_eq (r_wOf _ hI), nif_t]
  unfold fits64
  by_cases hz : I64 z
  · have e : IntKind.i64.wrap z = z := by unfold I64 at hz; exact IntWalk.i64_in _ (by omega)
    rw [if_pos hz, e, cnd_n (by simp)]
  · rw [if_neg hz, cnd_y ?_]
    rw [Bool.not_eq_true']
    cases hc : ((wide (IntKind.i64.wrap z)).1 == (wide z).1 && (wide (IntKind.i64.wrap z)).2.1 == (wide z).2.1) with
    | false => rfl
    | true =>
      simp only [Bool.and_eq_true, beq_iff_eq] at hc
      have : wide (IntKind.i64.wrap z) = wide z := Prod.ext hc.1 (Prod.ext hc.2 rfl)
      exact absurd (wide_inj this ▸ hI) hz
theorem r_narrow0 {z : Int} (h : In128 z) : fix_narrow (wide z) 0 = some (fits64 z) := by
  show fix_narrowW stdW (wide z) 0 = _
  unfold fix_narrowW
  rw [cnd_n (by decide), call_eq (r_wInt h)]
theorem sum_in {l : List Int} (h : ∀ x ∈ l, I64 x) : -(9223372036854775808 * (l.length : Int)) ≤ l.sum ∧ l.sum ≤ 9223372036854775808 * (l.length : Int) := by
  have := sumBy_in (f := fun x : Int => x) (B := 9223372036854775808) (l := l) (fun x hx => by have := h x hx; unfold I64 at this; omega)
  simpa [sumBy] using this
theorem sumW_wide (l : List Int) : sumW (l.map wide) = l.sum := by
  unfold sumW
  rw [List.map_map]
  have : (wv ∘ wide) = id := funext wv_wide
  rw [this, List.map_id]
theorem wides_ok {l : List Int} (h : ∀ x ∈ l, I64 x) : ∀ w ∈ l.map wide, wOk w := by
  intro w hw
  obtain ⟨x, hx, rfl⟩ := List.mem_map.1 hw
  exact wide_ok _ (i64_128 (h x hx))
theorem sum128 {l : List Int} (h : ∀ x ∈ l, I64 x) (hl : l.length ≤ 1000000) : In128 l.sum := by
  have := sum_in h; unfold In128; omega
theorem r_wSum {l : List Int} (h : ∀ x ∈ l, I64 x) (hl : l.length ≤ 1000000) : wide_Add (l.map wide) = some (wide l.sum, 0, ()) := by
  rw [r_wAdd _ (wides_ok h) (by rw [List.length_map]; omega), sumW_wide]
  unfold fit; rw [if_pos (sum128 h hl)]
theorem r_fSum {l : List Int} (h : ∀ x ∈ l, I64 x) (hl : l.length ≤ 1000000) : fix_Sum l = some (fits64 l.sum) := by
  show fix_SumW stdW l = _
  unfold fix_SumW
  rw [nn_w (by omega), room_w (by simp; omega) (by simp; omega)]
  refine loop_n (N := l.length) (by omega) (fun i s => s = ((l.take i).map wide, ())) (some (fits64 l.sum)) rfl ?_ ?_
  · rintro _ again rfl
    rw [cnd_end, List.take_length, call_eq (r_wSum h hl), call_eq (r_narrow0 (sum128 h hl))]
  · rintro i hi _ rfl again ha
    rw [cnd_lt hi, idx_w hi, call_eq (r_wOf _ (h _ (List.getElem_mem hi))), i64_s i (by omega), room_w (by simp; omega) (by simp; omega)]
    refine ha _ ?_
    rw [List.take_succ_eq_append_getElem hi, List.map_append]; rfl
end Go.Proofs.Ytbpbkmngbhgpfaa

namespace Go.Proofs.Ytbpbkmngbhgpfaa
open Go Go.Vc Go.RowKit
theorem join_g {X β : Type} {k0 : X → Option β} {f : (X → Option β) → Option β} {r : Option β} (h : ∀ k, k = k0 → f k = r) : stdW.join k0 f = r := h k0 rfl
/-! ### purses: which are, what each unit has, what there is in all -/
theorem r_lessA (a b : AUnit') : acct_Less a b = some (decide (ltA a b)) := by
  show acct_LessW stdW a b = _
  unfold acct_LessW
  by_cases h : a.1 = b.1
  · rw [cnd_n (by simp [h])]
    congr 1; refine decide_eq_decide.2 ?_; unfold ltA; omega
  · rw [cnd_y (by simp [h])]
    congr 1; refine decide_eq_decide.2 ?_; unfold ltA; omega
def PInv (l : List AFlow') : Prop := (∀ x ∈ l, x.2.1 ≠ 0) ∧ SrtA (l.map (·.1))
instance (l : List AFlow') : Decidable (PInv l) := by unfold PInv SrtA; infer_instance
def isP (l : List AFlow') : Bool := decide (PInv l)
theorem isP_bad0 {l : List AFlow'} {i : Nat} (hi : i < l.length) (h : l[i].2.1 = 0) : isP l = false :=
  decide_eq_false fun hp => hp.1 _ (List.getElem_mem hi) h
theorem isP_bad1 {l : List AFlow'} {i : Nat} (hi : i < l.length) (h0 : 0 < i) (h : ¬ ltA (l[i - 1]'(by omega)).1 l[i].1) : isP l = false :=
  decide_eq_false fun hp => h (by
    have := List.pairwise_iff_getElem.1 hp.2 (i - 1) i (by simp; omega) (by simpa using hi) (by omega)
    simpa using this)
theorem isP_next {l : List AFlow'} {i : Nat} (hi : i < l.length) (inv : PInv (l.take i)) (h1 : l[i].2.1 ≠ 0) (h2 : ∀ h0 : 0 < i, ltA (l[i - 1]'(by omega)).1 l[i].1) : PInv (l.take (i + 1)) := by
  rw [List.take_succ_eq_append_getElem hi]
  refine ⟨fun x hx => ?_, ?_⟩
  · rcases List.mem_append.1 hx with hx | hx
    · exact inv.1 x hx
    · simp at hx; rw [hx]; exact h1
  · show SrtA ((l.take i ++ [l[i]]).map (·.1))
    rw [List.map_append]
    refine List.pairwise_append.2 ⟨inv.2, by simp, fun a ha b hb => ?_⟩
    simp only [List.map_cons, List.map_nil, List.mem_singleton] at hb
    subst hb
    obtain ⟨k, hk, hka⟩ := List.mem_iff_getElem.1 ha
    have hk' : k < i := by simp at hk; omega
    have h3 := h2 (by omega)
    by_cases hki : k = i - 1
    · subst hki; rw [← hka]; simpa using h3
    · have h4 := List.pairwise_iff_getElem.1 inv.2 k (i - 1) (by simpa using hk) (by simp; omega) (by omega)
      rw [hka] at h4
      refine ltA_tr h4 ?_
      simpa using h3
theorem isP_end {l : List AFlow'} (h : PInv (l.take l.length)) : isP l = true := by rw [List.take_length] at h; exact decide_eq_true h
theorem r_is {l : List AFlow'} (hl : l.length ≤ 1000000) : purse_Is l = some (isP l) := by
  show purse_IsW stdW l = _
  unfold purse_IsW
  refine loop_n (N := l.length) (by omega) (fun i _ => PInv (l.take i)) (some (isP l)) (by simp [PInv]) ?_ ?_
  · rintro _ again h
    rw [cnd_end, isP_end h]
  · rintro i hi _ inv again ha
    rw [cnd_lt hi, idx_w hi]
    refine join_g fun k hk => ?_
    have kt : k (true, ()) = some false := by subst hk; rfl
    have kf : k (false, ()) = again (((i + 1 : Nat) : Int), ()) := by rw [← i64_s i (by omega)]; subst hk; rfl
    clear hk
    by_cases h1 : l[i].2.1 = 0
    · rw [cnd_y (by simpa using h1), kt, isP_bad0 hi h1]
    · rw [cnd_n (by simpa using h1)]
      by_cases h0 : 0 < i
      · rw [cnd_y (decide_eq_true (by omega)), i64_pred i h0 (by rw [maxLen_eq]; omega), idx_w (by omega), call_eq (r_lessA _ _)]
        by_cases h2 : ltA (l[i - 1]'(by omega)).1 l[i].1
        · rw [decide_eq_true h2]
          exact kf.trans (ha _ (isP_next hi inv h1 fun _ => h2))
        · rw [decide_eq_false h2, isP_bad1 hi h0 h2]; exact kt
      · rw [cnd_n (decide_eq_false (by omega))]
        exact kf.trans (ha _ (isP_next hi inv h1 fun h => absurd h h0))
theorem eqA (a b : AUnit') : (a.1 == b.1 && a.2.1 == b.2.1) = decide (a = b) := by
  by_cases h : a = b
  · subst h; simp
  · rw [decide_eq_false h]
    cases hc : (a.1 == b.1 && a.2.1 == b.2.1) with
    | false => rfl
    | true => simp only [Bool.and_eq_true, beq_iff_eq] at hc; exact absurd (extA hc.1 hc.2) h
def getP : List AFlow' → AUnit' → Int
  | [], _ => 0
  | x :: l, u => if x.1 = u then x.2.1 else getP l u
theorem r_get {l : List AFlow'} {u : AUnit'} (hl : l.length ≤ 1000000) : purse_Get l u = some (getP l u) := by
  show purse_GetW stdW l u = _
  unfold purse_GetW
  refine loop_list (l := l) (by omega) (fun _ _ => True) (fun l _ => some (getP l u)) trivial ?_ ?_
  · rintro _ again _
    rw [cnd_end]; rfl
  · rintro i hi _ _ again ha
    rw [cnd_lt hi, idx_w hi, nif_f, eqA]
    unfold getP
    by_cases h : l[i].1 = u
    · rw [cnd_y (decide_eq_true h), if_pos h]
    · rw [cnd_n (decide_eq_false h), if_neg h, i64_s i (by omega)]
      exact ha _ trivial
def amt (x : AFlow') : Int := x.2.1
def okF (l : List AFlow') : Prop := ∀ x ∈ l, I64 (amt x)
theorem okF.take {l : List AFlow'} (h : okF l) (i : Nat) : okF (l.take i) := fun x hx => h x (List.mem_of_mem_take hx)
theorem i64_sml {n : Int} (h : I64 n) : sml n := by unfold I64 at h; unfold sml; omega
end Go.Proofs.Ytbpbkmngbhgpfaa

namespace Go.Proofs.Ytbpbkmngbhgpfaa
open Go Go.Vc Go.RowKit
/-! ### a purse behind some flows -/
def ofFlow (u : AUnit') (x : AFlow') : Bool := decide (x.1 = u)
def amts (l : List AFlow') (u : AUnit') : List Int := (l.filter (ofFlow u)).map amt
def sumU (l : List AFlow') (u : AUnit') : Int := (amts l u).sum
theorem amts_len (l : List AFlow') (u : AUnit') : (amts l u).length ≤ l.length := by
  unfold amts; rw [List.length_map]; exact List.length_filter_le _ _
theorem amts_ok {l : List AFlow'} (h : okF l) (u : AUnit') : ∀ x ∈ amts l u, I64 x := by
  intro x hx
  obtain ⟨y, hy, rfl⟩ := List.mem_map.1 hx
  exact h y (List.mem_filter.1 hy).1
theorem amts_take (l : List AFlow') (u : AUnit') (i : Nat) (h : i < l.length) : amts (l.take (i + 1)) u = amts (l.take i) u ++ (if l[i].1 = u then [l[i].2.1] else []) := by
  unfold amts
  rw [filter_take _ _ _ h, List.map_append]
  unfold ofFlow
  by_cases hu : l[i].1 = u <;> simp [hu, amt]
theorem r_amounts {l : List AFlow'} {u : AUnit'} (hl : l.length ≤ 1000000) : purse_amounts l u = some (amts l u) := by
  show purse_amountsW stdW l u = _
  unfold purse_amountsW
  refine loop_n (N := l.length) (by omega) (fun i s => s = (amts (l.take i) u, ())) (some (amts l u)) rfl ?_ ?_
  · rintro _ again rfl
    rw [cnd_end, List.take_length]
  · rintro i hi _ rfl again ha
    rw [cnd_lt hi]
    refine join_g fun k hk => ?_
    have kk : ∀ v : List Int, k (v, ()) = again (((i + 1 : Nat) : Int), (v, ())) := by intro v; rw [← i64_s i (by omega)]; subst hk; rfl
    clear hk
    have hlen := amts_len (l.take i) u
    rw [List.length_take] at hlen
    rw [idx_w hi, nif_f, eqA]
    by_cases h : l[i].1 = u
    · rw [cnd_y (decide_eq_true h), room_w (by simp; omega) (by simp; omega), kk]
      refine ha _ ?_
      rw [amts_take _ _ _ hi, if_pos h]
    · rw [cnd_n (decide_eq_false h), kk]
      refine ha _ ?_
      rw [amts_take _ _ _ hi, if_neg h, List.append_nil]
def payGo (all : List AFlow') : List AUnit' → List AFlow' → List AFlow' × Int × Unit
  | [], acc => (acc, 0, ())
  | u :: us, acc => if I64 (sumU all u) then (if sumU all u ≠ 0 then payGo all us (acc ++ [(u, sumU all u, ())]) else payGo all us acc) else ([], 7, ())
def payP (l fl : List AFlow') : List AFlow' × Int × Unit := if isP l = true then payGo (l ++ fl) (unitsOf (l ++ fl)) [] else ([], 3, ())
theorem units_len (l : List AFlow') : (unitsOf l).length ≤ l.length := by
  unfold unitsOf
  rw [List.length_map, srt_len]
  exact Nat.le_trans (uniq_len _) (by simp)
theorem r_pay {l fl : List AFlow'} (h : okF l) (hf : okF fl) (hl : l.length + fl.length ≤ 1000000) : purse_Pay l fl = some (payP l fl) := by
  show purse_PayW stdW l fl = _
  unfold purse_PayW payP
  rw [call_eq (r_is (by omega))]
  by_cases hp : isP l = true
  · rw [hp, cnd_n (by decide), if_pos rfl]
    have hall : okF (l ++ fl) := fun x hx => (List.mem_append.1 hx).elim (h x) (hf x)
    have e1 : concatO (l :: (fl :: [])) = some (l ++ fl) := by
      unfold concatO
      rw [show (l :: (fl :: [])).flatten = l ++ fl by simp, if_pos (by rw [List.length_append]; omega)]
    have hlen : (l ++ fl).length ≤ 1000000 := by rw [List.length_append]; exact hl
    have e2 : namedO (l ++ fl) = some (unitsOf (l ++ fl)) := by unfold namedO; rw [if_pos (by omega)]
    rw [call_eq e1, call_eq e2]
    have hul := units_len (l ++ fl)
    generalize l ++ fl = all at *
    generalize unitsOf all = us at *
    refine loop_list (l := us) (by omega) (fun i (s : List AUnit' × List AFlow' × Unit) => s.1 = us ∧ s.2.1.length ≤ i) (fun us' (s : List AUnit' × List AFlow' × Unit) => some (payGo all us' s.2.1)) ⟨rfl, Nat.le_refl _⟩ ?_ ?_
    · rintro ⟨_, acc, ⟨⟩⟩ again ⟨rfl, _⟩
      rw [cnd_end]; rfl
    · rintro i hi ⟨us', acc, ⟨⟩⟩ ⟨hus, hacc⟩ again ha
      have hus : us = us' := hus.symm
      subst hus
      simp only at hacc
      rw [cnd_lt hi]
      refine join_g fun k hk => ?_
      have kk : ∀ v : List AFlow', k (us, (v, ())) = again (((i + 1 : Nat) : Int), (us, (v, ()))) := by intro v; rw [← i64_s i (by omega)]; subst hk; rfl
      clear hk
      show stdW.idx us (i : Int) _ = _
      rw [idx_w hi]
      show stdW.nth us (Int.toNat (i : Int)) _ = _
      rw [nth_w hi, call_eq (r_amounts hlen)]
      show _ = some (payGo all (us[i] :: us.drop (i + 1)) acc)
      rw [payGo]
      have e3 := r_fSum (amts_ok hall us[i]) (Nat.le_trans (amts_len _ _) hlen)
      change fix_Sum (amts all us[i]) = some (if I64 (sumU all us[i]) then (sumU all us[i], 0, ()) else (0, 7, ())) at e3
      by_cases hI : I64 (sumU all us[i])
      · rw [if_pos hI] at e3
        rw [if_pos hI, call_eq e3]
        show stdW.cnd ((0 : Int) != 0) _ (stdW.cnd (sumU all us[i] != 0) (stdW.room (acc.length + 1) 24 (k (us, (acc ++ [(us[i], sumU all us[i], ())], ())))) (k (us, (acc, ())))) = _
        rw [cnd_n (by decide)]
        by_cases h0 : sumU all us[i] = 0
        · rw [if_neg (by simp [h0]), cnd_n (by simp [h0])]
          exact (kk acc).trans (ha _ ⟨rfl, by simp only; omega⟩)
        · rw [if_pos h0, cnd_y (by simp [h0]), room_w (by omega) (by omega)]
          exact (kk (acc ++ [(us[i], sumU all us[i], ())])).trans (ha _ ⟨rfl, by simp; omega⟩)
      · rw [if_neg hI] at e3
        rw [if_neg hI, call_eq e3]
        show stdW.cnd ((7 : Int) != 0) (some ([], (7, ()))) _ = _
        rw [cnd_y (by decide)]
  · have hp : isP l = false := by simpa using hp
    rw [hp, cnd_y (by decide), if_neg (by simp)]
end Go.Proofs.Ytbpbkmngbhgpfaa

namespace Go.Proofs.Ytbpbkmngbhgpfaa
open Go Go.Vc Go.RowKit
/-! ### flows may come in any order -/
theorem payGo_congr {a b : List AFlow'} (h : ∀ u, sumU a u = sumU b u) : ∀ (us : List AUnit') (acc : List AFlow'), payGo a us acc = payGo b us acc
  | [], _ => rfl
  | u :: us, acc => by
    unfold payGo
    rw [h u, payGo_congr h us, payGo_congr h us]
theorem payGo_len (all : List AFlow') : ∀ (us : List AUnit') (acc : List AFlow'), (payGo all us acc).1.length ≤ acc.length + us.length
  | [], acc => by simp [payGo]
  | u :: us, acc => by
    unfold payGo
    split
    · split
      · have := payGo_len all us (acc ++ [(u, sumU all u, ())]); simp at this ⊢; omega
      · have := payGo_len all us acc; simp at this ⊢; omega
    · simp
theorem payP_len (l f : List AFlow') : (payP l f).1.length ≤ l.length + f.length := by
  unfold payP
  split
  · have := payGo_len (l ++ f) (unitsOf (l ++ f)) []
    have h2 := units_len (l ++ f)
    simp at this h2 ⊢; omega
  · simp
theorem r_few17 (l : List AFlow') (hl : l.length ≤ 9223372036854775807) : law17_Few l = some (l.take 20) := by
  show law17_FewW stdW l = _
  unfold law17_FewW
  by_cases h : 20 < l.length
  · rw [cnd_y (decide_eq_true (by omega)), bnd_w (by omega) (by omega)]; rfl
  · rw [cnd_n (decide_eq_false (by omega)), List.take_of_length_le (by omega)]
end Go.Proofs.Ytbpbkmngbhgpfaa

namespace Go.Proofs.Ytbpbkmngbhgpfaa
open Go Go.Vc Go.RowKit
/-- a loop whose state is known round by round -/
theorem loop_at {X β : Type} {N : Nat} (hN : N < 9223372036854775808) {f : X → (X → Option β) → Option β} (st : Nat → X) (r : Option β)
    (hend : ∀ again : X → Option β, f (st N) again = r) (hstep : ∀ i, i < N → ∀ again : X → Option β, again (st (i + 1)) = r → f (st i) again = r) : stdW.loop f (st 0) = r := by
  have key : ∀ n i, i ≤ N → N - i < n → loopF n f (st i) = r := by
    intro n
    induction n with
    | zero => intro i _ h; omega
    | succ n ih =>
      intro i hi hn
      show f (st i) (loopF n f) = r
      by_cases h : i < N
      · exact hstep i h _ (ih (i + 1) (by omega) (by omega))
      · have : i = N := by omega
        subst this; exact hend _
  show loopF FU f (st 0) = r
  exact key FU 0 (Nat.zero_le _) (by rw [FU_eq]; omega)
/-! ### the reference's units -/
end Go.Proofs.Ytbpbkmngbhgpfaa

namespace Go.Proofs.Ytbpbkmngbhgpfaa
open Go Go.Vc Go.RowKit
theorem loop_az {X β : Type} {N : Nat} (hN : N < 9223372036854775808) {f : X → (X → Option β) → Option β} (st : Nat → X) (r : Option β) {z0 : X} (hz : z0 = st 0)
    (hend : ∀ again : X → Option β, f (st N) again = r) (hstep : ∀ i, i < N → ∀ again : X → Option β, again (st (i + 1)) = r → f (st i) again = r) : stdW.loop f z0 = r := by
  subst hz; exact loop_at hN st r hend hstep
/-! ### the reference's purse behind some flows -/
end Go.Proofs.Ytbpbkmngbhgpfaa

namespace Go.Proofs.Ytbpbkmngbhgpfaa
open Go Go.Vc Go.RowKit
theorem r_cmpB {a b : Int} (ha : sml a) (hb : sml b) : ref01_Cmp (big a) (big b) = some (if a - b = 0 then 0 else if a - b < 0 then -1 else 1) := by
  unfold sml at *
  have := r_cmp (nb_big a) (nb_big b) (Nat.le_trans (len_big2 ha) (by decide)) (Nat.le_trans (len_big2 hb) (by decide))
  rwa [bv_big, bv_big] at this
/-! ### what a payment leaves -/
theorem payGo_ok (all : List AFlow') : ∀ (us : List AUnit') (acc : List AFlow'), (payGo all us acc).2.1 = 0 →
    (payGo all us acc).1 = acc ++ (us.filter fun u => decide (sumU all u ≠ 0)).map (fun u => (u, sumU all u, ())) ∧ ∀ u ∈ us, I64 (sumU all u)
  | [], acc, _ => by simp [payGo]
  | u :: us, acc, h => by
    unfold payGo at h ⊢
    by_cases hI : I64 (sumU all u)
    · rw [if_pos hI] at h ⊢
      by_cases h0 : sumU all u ≠ 0
      · rw [if_pos h0] at h ⊢
        obtain ⟨h1, h2⟩ := payGo_ok all us _ h
        refine ⟨?_, fun x hx => ?_⟩
        · rw [h1, List.filter_cons, if_pos (by simpa using h0)]; simp
        · rcases List.mem_cons.1 hx with rfl | hx
          · exact hI
          · exact h2 x hx
      · rw [if_neg h0] at h ⊢
        obtain ⟨h1, h2⟩ := payGo_ok all us _ h
        refine ⟨?_, fun x hx => ?_⟩
        · rw [h1, List.filter_cons, if_neg (by simpa using h0)]
        · rcases List.mem_cons.1 hx with rfl | hx
          · exact hI
          · exact h2 x hx
    · rw [if_neg hI] at h; simp at h
theorem sumU_cons (x : AFlow') (l : List AFlow') (u : AUnit') : sumU (x :: l) u = (if x.1 = u then amt x else 0) + sumU l u := by
  unfold sumU amts ofFlow
  rw [List.filter_cons]
  by_cases h : x.1 = u <;> simp [h]
theorem sumU_app (a b : List AFlow') (u : AUnit') : sumU (a ++ b) u = sumU a u + sumU b u := by
  unfold sumU amts; rw [List.filter_append, List.map_append, List.sum_append]
theorem sumU_none {l : List AFlow'} {u : AUnit'} (h : ∀ x ∈ l, x.1 ≠ u) : sumU l u = 0 := by
  induction l with
  | nil => rfl
  | cons x l ih => rw [sumU_cons, if_neg (h x (by simp)), ih fun y hy => h y (by simp [hy])]; rfl
theorem one_of {us : List AUnit'} (hn : us.Nodup) {v : AUnit'} (z : Int) : sumBy (fun u => if v = u then z else 0) us = if v ∈ us then z else 0 := by
  induction us with
  | nil => rfl
  | cons u us ih =>
    obtain ⟨h1, h2⟩ := List.nodup_cons.1 hn
    rw [sumBy_cons, ih h2]
    by_cases hv : v = u
    · subst hv; rw [if_pos rfl, if_neg h1, if_pos (by simp)]; omega
    · rw [if_neg hv]
      by_cases hm : v ∈ us
      · rw [if_pos hm, if_pos (by simp [hm])]; omega
      · rw [if_neg hm, if_neg (by simp [hm, hv])]; rfl
theorem sumBy_add {α : Type} (f g : α → Int) (l : List α) : sumBy (fun x => f x + g x) l = sumBy f l + sumBy g l := by
  induction l with
  | nil => rfl
  | cons x l ih => rw [sumBy_cons, sumBy_cons, sumBy_cons, ih]; omega
theorem sum_units : ∀ (l : List AFlow') {us : List AUnit'}, us.Nodup → (∀ x ∈ l, x.1 ∈ us) → sumBy (sumU l) us = sumBy amt l
  | [], us, _, _ => by
    have : ∀ us : List AUnit', sumBy (sumU []) us = 0 := by
      intro us; induction us with
      | nil => rfl
      | cons u us ih => rw [sumBy_cons, ih]; rfl
    rw [this]; rfl
  | x :: l, us, hn, h => by
    have e : sumU (x :: l) = fun u => (if x.1 = u then amt x else 0) + sumU l u := funext (sumU_cons x l)
    rw [e, sumBy_add, one_of hn, if_pos (h x (by simp)), sum_units l hn fun y hy => h y (by simp [hy]), sumBy_cons]
def resP (all : List AFlow') (us : List AUnit') : List AFlow' := (us.filter fun u => decide (sumU all u ≠ 0)).map fun u => (u, sumU all u, ())
theorem srt_nd {us : List AUnit'} (h : SrtA us) : us.Nodup := List.Pairwise.imp (fun {a b} (hab : ltA a b) (e : a = b) => by subst e; exact ltA_irr _ hab) h
theorem resP_sum (all : List AFlow') : sumBy amt (resP all (unitsOf all)) = sumBy amt all := by
  have e : ∀ us : List AUnit', sumBy amt (resP all us) = sumBy (sumU all) us := by
    intro us
    induction us with
    | nil => rfl
    | cons u us ih =>
      unfold resP at ih ⊢
      rw [List.filter_cons, sumBy_cons, ← ih]
      by_cases h : sumU all u = 0
      · rw [if_neg (by simp [h]), h]; omega
      · rw [if_pos (by simp [h]), List.map_cons, sumBy_cons]; rfl
  rw [e, sum_units all (srt_nd (units_srt all)) fun x hx => (units_mem all x.1).2 ⟨x, hx, rfl⟩]
theorem resP_is {all : List AFlow'} {us : List AUnit'} (h : SrtA us) : isP (resP all us) = true := by
  refine decide_eq_true ⟨fun x hx => ?_, ?_⟩
  · obtain ⟨u, hu, rfl⟩ := List.mem_map.1 hx
    simpa using (List.mem_filter.1 hu).2
  · unfold resP
    rw [List.map_map]
    have : ((fun x : AFlow' => x.1) ∘ fun u => ((u, sumU all u, ()) : AFlow')) = id := rfl
    rw [this, List.map_id]
    exact h.filter _
theorem getP_none {l : List AFlow'} {u : AUnit'} (h : ∀ x ∈ l, x.1 ≠ u) : getP l u = 0 := by
  induction l with
  | nil => rfl
  | cons x l ih => rw [getP, if_neg (h x (by simp)), ih fun y hy => h y (by simp [hy])]
theorem getP_sum : ∀ {l : List AFlow'}, (l.map (·.1)).Nodup → ∀ u, getP l u = sumU l u
  | [], _, u => rfl
  | x :: l, h, u => by
    obtain ⟨h1, h2⟩ := List.nodup_cons.1 h
    rw [getP, sumU_cons]
    by_cases hu : x.1 = u
    · rw [if_pos hu, if_pos hu, sumU_none fun y hy e => h1 (List.mem_map.2 ⟨y, hy, e.trans hu.symm⟩)]
      show amt x = _; omega
    · rw [if_neg hu, if_neg hu, getP_sum h2]; omega
theorem isP_nd {l : List AFlow'} (h : isP l = true) : (l.map (·.1)).Nodup := srt_nd (of_decide_eq_true h).2
theorem resP_get (all : List AFlow') (u : AUnit') : getP (resP all (unitsOf all)) u = sumU all u := by
  by_cases h0 : sumU all u = 0
  · rw [h0]
    refine getP_none fun x hx e => ?_
    obtain ⟨v, hv, rfl⟩ := List.mem_map.1 hx
    have := (List.mem_filter.1 hv).2
    simp only [decide_eq_true_eq] at this
    exact this (by rw [show v = u from e]; exact h0)
  · rw [getP_sum (isP_nd (resP_is (units_srt all)))]
    have hu : u ∈ unitsOf all := by
      rw [units_mem]
      by_cases hx : ∃ x ∈ all, x.1 = u
      · exact hx
      · exact absurd (sumU_none fun x hx' e => hx ⟨x, hx', e⟩) h0
    have key : ∀ us : List AUnit', us.Nodup → sumU (resP all us) u = if u ∈ us then sumU all u else 0 := by
      intro us
      induction us with
      | nil => intro _; rfl
      | cons v us ih =>
        intro hn
        obtain ⟨h1, h2⟩ := List.nodup_cons.1 hn
        have ih := ih h2
        unfold resP at ih ⊢
        rw [List.filter_cons]
        by_cases hv : v = u
        · subst hv
          rw [if_pos (by simpa using h0), List.map_cons, sumU_cons, ih, if_neg h1, if_pos rfl, if_pos (by simp)]
          show sumU all v + 0 = _; omega
        · have e : (if u ∈ v :: us then sumU all u else 0) = if u ∈ us then sumU all u else 0 := by
            by_cases hm : u ∈ us
            · rw [if_pos hm, if_pos (by simp [hm])]
            · rw [if_neg hm, if_neg (by simp [hm, Ne.symm hv])]
          rw [e, ← ih]
          by_cases hz : sumU all v = 0
          · rw [if_neg (by simp [hz])]
          · rw [if_pos (by simp [hz]), List.map_cons, sumU_cons, if_neg hv]; omega
    rw [key _ (srt_nd (units_srt all)), if_pos hu]
end Go.Proofs.Ytbpbkmngbhgpfaa

namespace Go.Proofs.Ytbpbkmngbhgpfaa
open Go Go.Vc Go.RowKit
theorem payP_ok {l f : List AFlow'} (h : (payP l f).2.1 = 0) : isP l = true ∧ (payP l f).1 = resP (l ++ f) (unitsOf (l ++ f)) ∧ ∀ u ∈ unitsOf (l ++ f), I64 (sumU (l ++ f) u) := by
  unfold payP at h ⊢
  by_cases hp : isP l = true
  · rw [if_pos hp] at h ⊢
    obtain ⟨h1, h2⟩ := payGo_ok _ _ _ h
    exact ⟨hp, by rw [h1, List.nil_append]; rfl, h2⟩
  · rw [if_neg hp] at h; simp at h
theorem resP_ok {all : List AFlow'} {us : List AUnit'} (h : ∀ u ∈ us, I64 (sumU all u)) : okF (resP all us) := by
  intro x hx
  obtain ⟨u, hu, rfl⟩ := List.mem_map.1 hx
  exact h u (List.mem_filter.1 hu).1
end Go.Proofs.Ytbpbkmngbhgpfaa

namespace Go.Proofs.Ytbpbkmngbhgpfaa
open Go Go.Vc Go.RowKit
/-! sign -/
def szOf (z : Int) : WideSize' := (z / 18446744073709551616, z % 18446744073709551616, ())
def w128 (z : Int) : WideWide' := (IntKind.i64.wrap (z / 18446744073709551616), z % 18446744073709551616, ())
theorem w128_in (z : Int) (h : In128 z) : w128 z = wide z := by
  unfold In128 at h; unfold w128 wide; rw [IntWalk.i64_in _ (by omega)]
def absI (z : Int) : Int := if z < 0 then -z else z
theorem r_below (w : WideWide') : wide_Wide_below w = some (decide (w.1 < 0)) := rfl
theorem r_size (x : WideWide') (hx : wOk x) : wide_Wide_size x = some (szOf (absI (wv x))) := by
  unfold wOk at hx
  show wide_Wide_sizeW stdW x = _
  unfold wide_Wide_sizeW
  rw [call_eq (r_below _)]
  by_cases h : x.1 < 0
  · rw [cnd_n (by simp [h]), call_eq (sub64_is (by omega) (by omega) (by omega) (by omega) (by omega)), call_eq (sub64_is (by omega) (by rw [IntKind.wrap_u64]; omega) (by rw [IntKind.wrap_u64]; omega) (by dsimp only; split <;> omega) (by dsimp only; split <;> omega))]
    unfold szOf absI wv
    refine congrArg some (Prod.ext ?_ (Prod.ext ?_ rfl))
    · dsimp only; rw [IntKind.wrap_u64]; split <;> split <;> omega
    · dsimp only; split <;> omega
  · rw [cnd_y (by simp [h])]
    unfold szOf absI wv
    refine congrArg some (Prod.ext ?_ (Prod.ext ?_ rfl))
    · dsimp only; rw [IntKind.wrap_u64]; split <;> omega
    · dsimp only; split <;> omega
theorem lo_fits (z : Int) (hz : 0 ≤ z ∧ z < 340282366920938463463374607431768211456) (h : z / 18446744073709551616 = 9223372036854775808) : ((z % 18446744073709551616) == 0) = decide (In128 (-z)) := by
  by_cases h0 : z % 18446744073709551616 = 0
  · have : In128 (-z) := by unfold In128; omega
    rw [decide_eq_true this]; simp [h0]
  · have : ¬ In128 (-z) := by unfold In128; omega
    rw [decide_eq_false this]; simp [h0]
theorem signed_raw (hi lo : Int) (m : Bool) : wide_size_signed (hi, lo, ()) m = (
    stdW.cnd (!m) (some (((IntKind.i64.wrap hi), lo, ()), ((decide (hi < 9223372036854775808)), ())))
    (stdW.call (sub64 0 lo 0) fun v1 => stdW.call (sub64 0 hi v1.2.1) fun v2 =>
    stdW.cnd (decide (hi < 9223372036854775808)) (some (((IntKind.i64.wrap v2.1), (v1.1, ())), (true, ())))
     (
     stdW.cnd (hi == 9223372036854775808) (some (((IntKind.i64.wrap v2.1), (v1.1, ())), ((lo == 0), ())))
      (some (((IntKind.i64.wrap v2.1), (v1.1, ())), (false, ())))))) := rfl
theorem r_signed (z : Int) (m : Bool) (hz : 0 ≤ z ∧ z < 340282366920938463463374607431768211456) : wide_size_signed (szOf z) m = some (w128 (if m = true then -z else z), decide (In128 (if m = true then -z else z)), ()) := by
  unfold szOf
  rw [signed_raw]
  cases m
  · rw [cnd_y (by rfl)]
    simp only [Bool.false_eq_true, if_false]
    unfold w128
    congr 3
    unfold In128; apply decide_eq_decide.2; omega
  · rw [cnd_n (by rfl), call_eq (sub64_is (by omega) (by omega) (by omega) (by omega) (by omega)), call_eq (sub64_is (by omega) (by omega) (by omega) (by dsimp only; split <;> omega) (by dsimp only; split <;> omega))]
    have e : ((IntKind.i64.wrap ((0 - z / 18446744073709551616 - (if 0 < z % 18446744073709551616 + 0 then 1 else 0)) % 18446744073709551616), ((0 - z % 18446744073709551616 - 0) % 18446744073709551616, ())) : WideWide') = w128 (-z) := by
      rw [wrap_mod_i]; unfold w128
      refine Prod.ext ?_ (Prod.ext ?_ rfl)
      · dsimp only; congr 1; split <;> omega
      · dsimp only; omega
    show _ = some (w128 (-z), decide (In128 (-z)), ())
    rw [← e]
    by_cases h1 : z / 18446744073709551616 < 9223372036854775808
    · rw [cnd_y (decide_eq_true h1)]
      have : In128 (-z) := by unfold In128; omega
      rw [decide_eq_true this]
    · rw [cnd_n (decide_eq_false h1)]
      by_cases h2 : z / 18446744073709551616 = 9223372036854775808
      · rw [cnd_y (by simp [h2]), lo_fits z hz h2]
      · rw [cnd_n (by simp [h2])]
        have : ¬ In128 (-z) := by unfold In128; omega
        rw [decide_eq_false this]

/-! products of 64 bits -/
theorem and32 (a : Int) (h : 0 ≤ a ∧ a < 18446744073709551616) : bits .and .u64 a 4294967295 = a % 4294967296 := by
  obtain ⟨n, rfl⟩ := Int.eq_ofNat_of_zero_le h.1
  show IntKind.u64.wrap (((BitVec.ofInt 64 ((n : Nat) : Int) &&& BitVec.ofInt 64 4294967295).toNat : Nat) : Int) = _
  rw [BitVec.toNat_and, BitVec.toNat_ofInt, BitVec.toNat_ofInt]
  have e1 : (((n : Nat) : Int) % ((2 ^ 64 : Nat) : Int)).toNat = n := by
    have : ((2 ^ 64 : Nat) : Int) = 18446744073709551616 := by decide
    omega
  have e2 : ((4294967295 : Int) % ((2 ^ 64 : Nat) : Int)).toNat = 2 ^ 32 - 1 := by decide
  rw [e1, e2, Nat.and_two_pow_sub_one_eq_mod, IntKind.wrap_u64]
  have : (2 : Nat) ^ 32 = 4294967296 := by decide
  rw [this]; omega
theorem fdiv32 (a : Int) (h : 0 ≤ a) : Int.fdiv a (2 ^ (Min.min (Int.toNat 32) (IntKind.bits .u64))) = a / 4294967296 := by
  have e : (2 : Int) ^ (Min.min (Int.toNat 32) (IntKind.bits .u64)) = 4294967296 := by decide +kernel
  rw [e, Int.fdiv_eq_ediv_of_nonneg _ (by omega)]
theorem mul_bd {a b : Int} (ha : 0 ≤ a ∧ a < 4294967296) (hb : 0 ≤ b ∧ b < 4294967296) : 0 ≤ a * b ∧ a * b ≤ 18446744065119617025 := by
  refine ⟨Int.mul_nonneg ha.1 hb.1, ?_⟩
  have h1 : a * b ≤ 4294967295 * b := Int.mul_le_mul_of_nonneg_right (by omega) hb.1
  omega
theorem r_mul64 {x y : Int} (hx : 0 ≤ x ∧ x < 18446744073709551616) (hy : 0 ≤ y ∧ y < 18446744073709551616) : math_bits_Mul64 x y = some (x * y / 18446744073709551616, x * y % 18446744073709551616, ()) := by
  show math_bits_Mul64W stdW x y = _
  unfold math_bits_Mul64W
  rw [nn_w (by omega), nn_w (by omega), nn_w (by omega), nn_w (by omega), nn_w (by omega)]
  simp only [fdiv32 x hx.1, fdiv32 y hy.1, and32 x hx, and32 y hy]
  have hx1 : 0 ≤ x / 4294967296 ∧ x / 4294967296 < 4294967296 := by omega
  have hx0 : 0 ≤ x % 4294967296 ∧ x % 4294967296 < 4294967296 := by omega
  have hy1 : 0 ≤ y / 4294967296 ∧ y / 4294967296 < 4294967296 := by omega
  have hy0 : 0 ≤ y % 4294967296 ∧ y % 4294967296 < 4294967296 := by omega
  have ex : x = x / 4294967296 * 4294967296 + x % 4294967296 := by omega
  have ey : y = y / 4294967296 * 4294967296 + y % 4294967296 := by omega
  have exy : x * y = (x / 4294967296) * (y / 4294967296) * 18446744073709551616 + ((x / 4294967296) * (y % 4294967296) + (x % 4294967296) * (y / 4294967296)) * 4294967296 + (x % 4294967296) * (y % 4294967296) := by
    generalize x / 4294967296 = x1 at *
    generalize x % 4294967296 = x0 at *
    generalize y / 4294967296 = y1 at *
    generalize y % 4294967296 = y0 at *
    rw [ex, ey, Int.add_mul, Int.mul_add, Int.mul_add]
    have a1 : x1 * 4294967296 * (y1 * 4294967296) = x1 * y1 * 18446744073709551616 := by
      rw [Int.mul_assoc, Int.mul_left_comm 4294967296, ← Int.mul_assoc]; rfl
    have a2 : x1 * 4294967296 * y0 = x1 * y0 * 4294967296 := by rw [Int.mul_assoc, Int.mul_comm 4294967296, ← Int.mul_assoc]
    have a3 : x0 * (y1 * 4294967296) = x0 * y1 * 4294967296 := by rw [← Int.mul_assoc]
    rw [a1, a2, a3, Int.add_mul]; omega
  have hD := mul_bd hx1 hy1
  have hB := mul_bd hx1 hy0
  have hC := mul_bd hx0 hy1
  have hA := mul_bd hx0 hy0
  rw [exy]
  generalize (x / 4294967296) * (y / 4294967296) = D at *
  generalize (x / 4294967296) * (y % 4294967296) = B at *
  generalize (x % 4294967296) * (y / 4294967296) = C at *
  generalize (x % 4294967296) * (y % 4294967296) = A at *
  have w1 : IntKind.u64.wrap A = A := by rw [IntKind.wrap_u64]; omega
  have w2 : IntKind.u64.wrap B = B := by rw [IntKind.wrap_u64]; omega
  have w3 : IntKind.u64.wrap C = C := by rw [IntKind.wrap_u64]; omega
  have w4 : IntKind.u64.wrap D = D := by rw [IntKind.wrap_u64]; omega
  rw [w1, w2, w3, w4, fdiv32 A (by omega)]
  have w5 : IntKind.u64.wrap (B + A / 4294967296) = B + A / 4294967296 := by rw [IntKind.wrap_u64]; omega
  rw [w5, fdiv32 _ (by omega), and32 _ (by omega)]
  have w6 : IntKind.u64.wrap ((B + A / 4294967296) % 4294967296 + C) = (B + A / 4294967296) % 4294967296 + C := by rw [IntKind.wrap_u64]; omega
  rw [w6, fdiv32 _ (by omega)]
  have w7 : IntKind.u64.wrap (D + (B + A / 4294967296) / 4294967296) = D + (B + A / 4294967296) / 4294967296 := by rw [IntKind.wrap_u64]; omega
  rw [w7, IntKind.wrap_u64, IntKind.wrap_u64]
  congr 1
  refine Prod.ext ?_ (Prod.ext ?_ rfl)
  · show (D + (B + A / 4294967296) / 4294967296 + ((B + A / 4294967296) % 4294967296 + C) / 4294967296) % 18446744073709551616 = _; omega
  · first | rfl | (show _ % 18446744073709551616 = _; omega)
end Go.Proofs.Ytbpbkmngbhgpfaa

namespace Go.Proofs.Ytbpbkmngbhgpfaa
open Go Go.Vc Go.RowKit
/-! ### what a move makes of a leg -/
theorem absI_mul (a b : Int) : (if (decide (a < 0) != decide (b < 0)) = true then -(absI a * absI b) else absI a * absI b) = a * b := by
  unfold absI
  by_cases ha : a < 0 <;> by_cases hb : b < 0 <;> simp [ha, hb, Int.neg_mul, Int.mul_neg]
theorem abs_bd {a : Int} (h : I64 a) : 0 ≤ absI a ∧ absI a ≤ 9223372036854775808 := by unfold I64 at h; unfold absI; split <;> omega
theorem prod_bd {a b A B : Int} (ha : 0 ≤ a ∧ a ≤ A) (hb : 0 ≤ b ∧ b ≤ B) : 0 ≤ a * b ∧ a * b ≤ A * B :=
  ⟨Int.mul_nonneg ha.1 hb.1, Int.mul_le_mul ha.2 hb.2 hb.1 (by omega)⟩
theorem wide_lt0 (z : Int) : decide ((wide z).1 < 0) = decide (z < 0) := by
  refine decide_eq_decide.2 ?_
  show z / 18446744073709551616 < 0 ↔ _; omega
theorem both_of {β : Type} {a b r : Option β} (ha : a = r) (hb : b = r) : stdW.both a b = r := by rw [ha, hb]; exact both_w r
theorem r_wMul {a b : Int} (ha : I64 a) (hb : I64 b) : wide_Mul a b = some (wide (a * b)) := by
  show wide_MulW stdW a b = _
  unfold wide_MulW
  have xa := abs_bd ha
  have xb := abs_bd hb
  have s1 := r_size (wide a) (wide_ok a (i64_128 ha))
  have s2 := r_size (wide b) (wide_ok b (i64_128 hb))
  rw [wv_wide] at s1 s2
  have hp := prod_bd xa xb
  have m1 : math_bits_Mul64 (szOf (absI a)).2.1 (szOf (absI b)).2.1 = some (szOf (absI a * absI b)) := by
    show math_bits_Mul64 (absI a % 18446744073709551616) (absI b % 18446744073709551616) = _
    rw [Int.emod_eq_of_lt xa.1 (by omega), Int.emod_eq_of_lt xb.1 (by omega), r_mul64 (by omega) (by omega)]; rfl
  rw [call_eq (r_wOf a ha), call_eq (r_wOf b hb), call_eq s1, call_eq s2, call_eq m1]
  have hz : 0 ≤ absI a * absI b ∧ absI a * absI b < 340282366920938463463374607431768211456 := by
    have : (9223372036854775808 : Int) * 9223372036854775808 = 85070591730234615865843651857942052864 := by decide
    omega
  have g : (stdW.call (wide_size_signed (szOf (absI a * absI b)) (notIf true (decide ((wide a).1 < 0) == decide ((wide b).1 < 0)))) fun v8 => some v8.1) = some (wide (a * b)) := by
    have e1 : notIf true (decide (a < 0) == decide (b < 0)) = (decide (a < 0) != decide (b < 0)) := by rw [nif_t]; rfl
    rw [wide_lt0, wide_lt0, e1, call_eq (r_signed _ _ hz), absI_mul]
    show some (w128 (a * b)) = _
    rw [w128_in]
    have := absI_mul a b
    have h2 : (9223372036854775808 : Int) * 9223372036854775808 = 85070591730234615865843651857942052864 := by decide
    unfold In128
    split at this <;> omega
  refine both_of ?_ ?_
  · rw [call_eq (r_below _)]
    refine both_of ?_ ?_
    · rw [call_eq (r_below _), both_w]; exact g
    · rw [call_eq (r_below _)]; exact g
  · rw [call_eq (r_below _), call_eq (r_below _)]; exact g
theorem r_wTimes {v n : Int} (hv : I64 v) (hn : I64 n) : wide_Times (wide v) n = some (wide (v * n), 0, ()) := by
  show wide_TimesW stdW (wide v) n = _
  unfold wide_TimesW
  have xa := abs_bd hv
  have xb := abs_bd hn
  have s1 := r_size (wide v) (wide_ok v (i64_128 hv))
  have s2 := r_size (wide n) (wide_ok n (i64_128 hn))
  rw [wv_wide] at s1 s2
  have hp := prod_bd xa xb
  have hc : (9223372036854775808 : Int) * 9223372036854775808 = 85070591730234615865843651857942052864 := by decide
  have e0 : (szOf (absI v)).1 = 0 := by show absI v / 18446744073709551616 = 0; omega
  have e1 : (szOf (absI v)).2.1 = absI v := by show absI v % 18446744073709551616 = _; omega
  have e2 : (szOf (absI n)).2.1 = absI n := by show absI n % 18446744073709551616 = _; omega
  rw [call_eq s1, call_eq (r_wOf n hn), call_eq s2, e0, e1, e2, call_eq (r_mul64 (x := 0) (by omega) (by omega)), call_eq (r_mul64 (x := absI v) (by omega) (by omega)), Int.zero_mul]
  have a1 : add64 (0 % 18446744073709551616 : Int) (absI v * absI n / 18446744073709551616) 0 = some (absI v * absI n / 18446744073709551616, 0, ()) := by
    rw [add64_is (by omega) (by omega) (by omega) (by omega)]
    congr 1
    refine Prod.ext ?_ (Prod.ext ?_ rfl)
    · show ((0 : Int) % 18446744073709551616 + absI v * absI n / 18446744073709551616 + 0) % 18446744073709551616 = absI v * absI n / 18446744073709551616; omega
    · show ((0 : Int) % 18446744073709551616 + absI v * absI n / 18446744073709551616 + 0) / 18446744073709551616 = 0; omega
  show stdW.call (add64 (0 % 18446744073709551616 : Int) (absI v * absI n / 18446744073709551616) 0) _ = _
  rw [call_eq a1, call_eq (r_below _), wide_lt0]
  have e3 : notIf true (decide (v < 0) == decide (n < 0)) = (decide (v < 0) != decide (n < 0)) := by rw [nif_t]; rfl
  show stdW.call (wide_size_signed (szOf (absI v * absI n)) (notIf true (decide (v < 0) == decide (n < 0)))) _ = _
  have hI : In128 (v * n) := by
    have := absI_mul v n
    unfold In128
    split at this <;> omega
  rw [e3, call_eq (r_signed _ _ (by omega)), absI_mul]
  show stdW.cnd (decide (In128 (v * n))) (stdW.cnd ((0 / 18446744073709551616 : Int) == 0) (stdW.call (wide_ranged (w128 (v * n)) ((0 : Int) == 0)) fun v9 => some v9) _) _ = _
  rw [cnd_y (decide_eq_true hI), cnd_y (by decide), call_eq (r_ranged _ _), w128_in _ hI]
  rfl
theorem nilq_w {β : Type} (e : Bool) (f : Bool → Option β) : stdW.nilq e f = nilF e f := rfl
end Go.Proofs.Ytbpbkmngbhgpfaa

namespace Go.Proofs.Ytbpbkmngbhgpfaa
open Go Go.Vc Go.RowKit
/-- a loop of which something is said -/
theorem loop_P {X β : Type} {f : X → (X → Option β) → Option β} (Q : Option β → Prop) (μ : X → Nat) (R : X → Prop) {z : X} (hz : R z) (hm : μ z < 18446744073709551616)
    (h : ∀ z, R z → ∀ again : X → Option β, (∀ z', R z' → μ z' < μ z → Q (again z')) → Q (f z again)) : Q (stdW.loop f z) := by
  have key : ∀ n z, R z → μ z < n → Q (loopF n f z) := by
    intro n
    induction n with
    | zero => intro z _ h; omega
    | succ n ih => intro z hz hm; exact h z hz _ fun z' hz' hm' => ih z' hz' (by omega)
  exact key FU z hz (by rw [FU_eq]; exact hm)
/-- a loop whose state is known round by round, as long as something holds -/
theorem loop_ai {X β : Type} {N : Nat} (hN : N < 9223372036854775808) {f : X → (X → Option β) → Option β} (st : Nat → X) (Inv : Nat → Prop) (r : Option β) {z0 : X} (hz : z0 = st 0) (h0 : Inv 0)
    (hend : Inv N → ∀ again : X → Option β, f (st N) again = r) (hstep : ∀ i, i < N → Inv i → ∀ again : X → Option β, (Inv (i + 1) → again (st (i + 1)) = r) → f (st i) again = r) : stdW.loop f z0 = r := by
  subst hz
  have key : ∀ n i, i ≤ N → N - i < n → Inv i → loopF n f (st i) = r := by
    intro n
    induction n with
    | zero => intro i _ h; omega
    | succ n ih =>
      intro i hi hn hv
      show f (st i) (loopF n f) = r
      by_cases h : i < N
      · exact hstep i h hv _ fun hv' => ih (i + 1) (by omega) (by omega) hv'
      · have : i = N := by omega
        subst this; exact hend hv _
  show loopF FU f (st 0) = r
  exact key FU 0 (Nat.zero_le _) (by rw [FU_eq]; omega) h0
theorem join_gP {X β : Type} {Q : Option β → Prop} {k0 : X → Option β} {f : (X → Option β) → Option β} (h : ∀ k, k = k0 → Q (f k)) : Q (stdW.join k0 f) := h k0 rfl
/-! ### tables of instruments -/
end Go.Proofs.Ytbpbkmngbhgpfaa

namespace Go.Proofs.Ytbpbkmngbhgpfaa
open Go Go.Vc Go.RowKit
/-! ### vectors, books -/
abbrev Leg := AUnit'
def VInv (l : List Leg) : Prop := (∀ x ∈ l, (1 ≤ x.1 ∧ x.1 ≤ 8) ∧ x.2.1 ≠ 0) ∧ (l.map (·.1)).Pairwise (· < ·)
instance (l : List Leg) : Decidable (VInv l) := by unfold VInv; infer_instance
def isV (l : List Leg) : Bool := decide (VInv l)
theorem isV_bad {l : List Leg} {i : Nat} (hi : i < l.length) (h : ¬ ((1 ≤ l[i].1 ∧ l[i].1 ≤ 8) ∧ l[i].2.1 ≠ 0)) : isV l = false :=
  decide_eq_false fun hp => h (hp.1 _ (List.getElem_mem hi))
theorem isV_bad1 {l : List Leg} {i : Nat} (hi : i < l.length) (h0 : 0 < i) (h : ¬ (l[i - 1]'(by omega)).1 < l[i].1) : isV l = false :=
  decide_eq_false fun hp => h (by
    have := List.pairwise_iff_getElem.1 hp.2 (i - 1) i (by simp; omega) (by simpa using hi) (by omega)
    simpa using this)
theorem isV_next {l : List Leg} {i : Nat} (hi : i < l.length) (inv : VInv (l.take i)) (h1 : (1 ≤ l[i].1 ∧ l[i].1 ≤ 8) ∧ l[i].2.1 ≠ 0) (h2 : ∀ h0 : 0 < i, (l[i - 1]'(by omega)).1 < l[i].1) : VInv (l.take (i + 1)) := by
  rw [List.take_succ_eq_append_getElem hi]
  refine ⟨fun x hx => ?_, ?_⟩
  · rcases List.mem_append.1 hx with hx | hx
    · exact inv.1 x hx
    · simp only [List.mem_singleton] at hx; rw [hx]; exact h1
  · show ((l.take i ++ [l[i]]).map (·.1)).Pairwise (· < ·)
    rw [List.map_append]
    refine List.pairwise_append.2 ⟨inv.2, by simp, fun a ha b hb => ?_⟩
    simp only [List.map_cons, List.map_nil, List.mem_singleton] at hb
    subst hb
    obtain ⟨k, hk, hka⟩ := List.mem_iff_getElem.1 ha
    have hk' : k < i := by simp at hk; omega
    have h3 := h2 (by omega)
    by_cases hki : k = i - 1
    · subst hki; rw [← hka]; simpa using h3
    · have h4 := List.pairwise_iff_getElem.1 inv.2 k (i - 1) (by simpa using hk) (by simp; omega) (by omega)
      rw [hka] at h4
      refine Int.lt_trans h4 ?_
      simpa using h3
theorem isV_end {l : List Leg} (h : VInv (l.take l.length)) : isV l = true := by rw [List.take_length] at h; exact decide_eq_true h
def lastV (l : List Leg) (i : Nat) : Int := if h : 0 < i ∧ i ≤ l.length then (l[i - 1]'(by omega)).1 else 0
theorem lastV_s {l : List Leg} {i : Nat} (h : i < l.length) : lastV l (i + 1) = l[i].1 := by
  unfold lastV; rw [dif_pos ⟨by omega, by omega⟩]; rfl
theorem r_isV {l : List Leg} (hl : l.length ≤ 1000000) : vec_Is l = some (isV l) := by
  show vec_IsW stdW l = _
  unfold vec_IsW
  refine loop_ai (N := l.length) (by omega) (fun i => (lastV l i, ((i : Int), ()))) (fun i => VInv (l.take i)) (some (isV l)) (by unfold lastV; simp) (by simp [VInv]) ?_ ?_
  · intro h again
    show stdW.cnd (decide ((l.length : Int) < (l.length : Int))) _ _ = _
    rw [cnd_end, isV_end h]
  · intro i hi inv again ha
    show stdW.cnd (decide ((i : Int) < (l.length : Int))) (stdW.idx l (i : Int) _) _ = _
    rw [cnd_lt hi, idx_w hi]
    refine join_g fun k hk => ?_
    have kt : k (true, ()) = some false := by subst hk; rfl
    have kf : k (false, ()) = again (lastV l (i + 1), (((i + 1 : Nat) : Int), ())) := by rw [← i64_s i (by omega), lastV_s hi]; subst hk; rfl
    clear hk
    show stdW.cnd (decide (l[i].1 ≤ lastV l i)) _ _ = _
    by_cases h1 : l[i].1 ≤ lastV l i
    · rw [cnd_y (decide_eq_true h1), kt]
      unfold lastV at h1
      by_cases h0 : 0 < i
      · rw [dif_pos ⟨h0, by omega⟩] at h1
        rw [isV_bad1 hi h0 (by omega)]
      · rw [dif_neg (by omega)] at h1
        rw [isV_bad hi (by omega)]
    · rw [cnd_n (decide_eq_false h1)]
      by_cases h2 : 8 < l[i].1
      · rw [cnd_y (decide_eq_true h2), kt, isV_bad hi (by omega)]
      · rw [cnd_n (decide_eq_false h2)]
        by_cases h3 : l[i].2.1 = 0
        · rw [show (l[i].2.1 == 0) = true by simpa using h3, kt, isV_bad hi (by simp [h3])]
        · rw [show (l[i].2.1 == 0) = false by simpa using h3, kf]
          have hpos : 1 ≤ l[i].1 := by
            unfold lastV at h1
            by_cases h0 : 0 < i
            · rw [dif_pos ⟨h0, by omega⟩] at h1
              have := (inv.1 (l[i - 1]'(by omega)) (List.mem_iff_getElem.2 ⟨i - 1, by simp; omega, by simp⟩)).1.1
              omega
            · rw [dif_neg (by omega)] at h1; omega
          refine ha (isV_next hi inv ⟨⟨hpos, by omega⟩, h3⟩ fun h0 => ?_)
          unfold lastV at h1
          rw [dif_pos ⟨h0, by omega⟩] at h1; omega
/-! what moves make -/
theorem mul_abs {a b A B : Int} (ha : -A ≤ a ∧ a ≤ A) (hb : -B ≤ b ∧ b ≤ B) : -(A * B) ≤ a * b ∧ a * b ≤ A * B := by
  have h1 : a.natAbs ≤ A.toNat := by omega
  have h2 : b.natAbs ≤ B.toNat := by omega
  have h3 : (a * b).natAbs ≤ A.toNat * B.toNat := by rw [Int.natAbs_mul]; exact Nat.mul_le_mul h1 h2
  have h4 : ((A.toNat * B.toNat : Nat) : Int) = A * B := by
    rw [Int.natCast_mul, Int.toNat_of_nonneg (by omega), Int.toNat_of_nonneg (by omega)]
  omega
def okL (l : List Leg) : Prop := ∀ x ∈ l, I64 x.2.1
end Go.Proofs.Ytbpbkmngbhgpfaa
