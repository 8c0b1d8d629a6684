import Derived.Test.YtbpbkmngbhgpfaaB5
namespace Go.Proofs.Ytbpbkmngbhgpfaa
open Go Go.Vc Go.RowKit
set_option maxRecDepth 100000
@[reducible] def tAUnit : DT := (.pair (.int .i64) (.pair (.int .i64) .unit))
abbrev AUnit' := Int × Int × Unit
@[reducible] def tAFlow : DT := (.pair tAUnit (.pair (.int .i64) .unit))
abbrev AFlow' := AUnit' × Int × Unit
@[reducible] def tWideWide : DT := (.pair (.int .i64) (.pair (.int .u64) .unit))
abbrev WideWide' := Int × Int × Unit
@[reducible] def tWideTotal : DT := (.pair (.int .i64) (.pair tWideWide .unit))
abbrev WideTotal' := Int × WideWide' × Unit
@[reducible] def tNovationref01Big : DT := (.pair .bool (.pair (.slc (.int .u8)) .unit))
abbrev Novationref01Big' := Bool × (List Int) × Unit
@[reducible] def tAInst : DT := (.pair (.int .i64) (.pair (.int .i64) (.pair (.int .i64) (.pair (.int .i64) (.pair (.slc (.int .i64)) .unit)))))
abbrev AInst' := Int × Int × Int × Int × (List Int) × Unit
@[reducible] def tAPos : DT := (.pair tAUnit (.pair (.slc tAUnit) .unit))
abbrev APos' := AUnit' × (List AUnit') × Unit
@[reducible] def tWideSize : DT := (.pair (.int .u64) (.pair (.int .u64) .unit))
abbrev WideSize' := Int × Int × Unit
noncomputable def law17_FewW (W : Wd) (l : List AFlow') : Option (List AFlow') := 
 W.cnd (decide (20 < (l.length : Int))) (W.bnd 20 l.length fun h1 => some (l.take h1))
  (some l)
noncomputable def law17_Few (l : List AFlow') : Option (List AFlow') := law17_FewW stdW l
noncomputable def law17_Few_s : ES := ⟨(.pair (.slc tAFlow) .unit), (.v (.slc tAFlow)), fun x => law17_Few x.1⟩
theorem law17_Few_ok : ECok Try.prog 11 (.es law17_Few_s)   := es_ok (A := (.pair (.slc tAFlow) .unit)) (Q := (.v (.slc tAFlow))) (fun W x => law17_FewW W x.1) [] trivial [] [] [] Try.func11 rfl (by decide +kernel) rfl rfl (fun W x => by kernel_rfl)
noncomputable def acct_LessW (W : Wd) (a : AUnit') (b : AUnit') : Option Bool := 
 W.cnd (a.1 != b.1) (some (decide (a.1 < b.1)))
  (some (decide (a.2.1 < b.2.1)))
noncomputable def acct_Less (a : AUnit') (b : AUnit') : Option Bool := acct_LessW stdW a b
noncomputable def acct_Less_s : ES := ⟨(.pair tAUnit (.pair tAUnit .unit)), (.v .bool), fun x => acct_Less x.1 x.2.1⟩
theorem acct_Less_ok : ECok Try.prog 56 (.es acct_Less_s)   := es_ok (A := (.pair tAUnit (.pair tAUnit .unit))) (Q := (.v .bool)) (fun W x => acct_LessW W x.1 x.2.1) [] trivial [] [] [] Try.func56 rfl (by decide +kernel) rfl rfl (fun W x => by kernel_rfl)
noncomputable def purse_IsW (W : Wd) (l : List AFlow') : Option Bool := 
 W.loop (fun (z1 : Int × Unit) again2 => 
  W.cnd (decide (z1.1 < (l.length : Int))) (W.idx l z1.1 fun x3 => 
   W.join (fun (z4 : Bool × Unit) => 
    W.cnd z4.1 (some false)
     ((again2 ((IntKind.i64.wrap (z1.1 + 1)), ()))))
    fun k5 => 
    W.cnd (x3.2.1 == 0) ((k5 (true, ())))
     (
     W.cnd (decide (0 < z1.1)) (W.idx l (IntKind.i64.wrap (z1.1 - 1)) fun x6 => W.call (acct_Less x6.1 x3.1) fun v7 => (k5 ((!v7), ())))
      ((k5 (false, ())))))
   (some true))
  (0, ())
noncomputable def purse_Is (l : List AFlow') : Option Bool := purse_IsW stdW l
noncomputable def purse_Is_s : ES := ⟨(.pair (.slc tAFlow) .unit), (.v .bool), fun x => purse_Is x.1⟩
theorem purse_Is_ok : ECok Try.prog 16 (.es purse_Is_s)   := es_ok (A := (.pair (.slc tAFlow) .unit)) (Q := (.v .bool)) (fun W x => purse_IsW W x.1) [(56, .es acct_Less_s)] ⟨acct_Less_ok, trivial⟩ [(4, [], (ofL [(0, true), (1, true), (2, true), (3, true), (4, true), (5, true), (6, true), (7, true), (8, true), (9, true), (10, true), (11, true), (12, true), (13, true), (14, true), (15, false), (16, true), (17, true), (18, true)]))] [(500030, ⟨[(30, .t .bool)], [], []⟩)] [(2, ⟨[(7, .t (.int .i64))], [], []⟩)] Try.func16 rfl (by decide +kernel) rfl rfl (fun W x => by kernel_rfl)
noncomputable def purse_amountsW (W : Wd) (l : List AFlow') (u : AUnit') : Option (List Int) := 
 W.loop (fun (z1 : Int × List (Int) × Unit) again2 => 
  W.cnd (decide (z1.1 < (l.length : Int))) (
   W.join (fun (z3 : List (Int) × Unit) => (again2 ((IntKind.i64.wrap (z1.1 + 1)), (z3.1, ()))))
    fun k4 => W.idx l z1.1 fun x5 => 
    W.cnd (Go.Vc.notIf false ((x5.1.1 == u.1) && (x5.1.2.1 == u.2.1))) (W.room (z1.2.1.length + (x5.2.1 :: []).length) 8 ((k4 ((z1.2.1 ++ (x5.2.1 :: [])), ()))))
     ((k4 (z1.2.1, ()))))
   (some z1.2.1))
  (0, ([], ()))
noncomputable def purse_amounts (l : List AFlow') (u : AUnit') : Option (List Int) := purse_amountsW stdW l u
noncomputable def purse_amounts_s : ES := ⟨(.pair (.slc tAFlow) (.pair tAUnit .unit)), (.own 2 (.int .i64)), fun x => purse_amounts x.1 x.2.1⟩
theorem purse_amounts_ok : ECok Try.prog 53 (.es purse_amounts_s)   := es_ok (A := (.pair (.slc tAFlow) (.pair tAUnit .unit))) (Q := (.own 2 (.int .i64))) (fun W x => purse_amountsW W x.1 x.2.1) [] trivial [] [(7, ⟨[(5, .row 1)], [], [.dead, .own 2 (.int .i64)]⟩)] [(3, ⟨[(5, .row 1), (10, .t (.int .i64))], [], [.dead, .own 2 (.int .i64)]⟩)] Try.func53 rfl (by decide +kernel) rfl rfl (fun W x => by kernel_rfl)
noncomputable def wide_OfW (W : Wd) (n : Int) : Option WideWide' := W.nn 63 (some ((Int.fdiv n (2 ^ (Min.min (Int.toNat 63) (Go.IntKind.bits Go.IntKind.i64)))), ((IntKind.u64.wrap n), ())))
noncomputable def wide_Of (n : Int) : Option WideWide' := wide_OfW stdW n
noncomputable def wide_Of_s : ES := ⟨(.pair (.int .i64) .unit), (.v tWideWide), fun x => wide_Of x.1⟩
theorem wide_Of_ok : ECok Try.prog 54 (.es wide_Of_s)   := es_ok (A := (.pair (.int .i64) .unit)) (Q := (.v tWideWide)) (fun W x => wide_OfW W x.1) [] trivial [] [] [] Try.func54 rfl (by decide +kernel) rfl rfl (fun W x => by kernel_rfl)
noncomputable def wide_total_addW (W : Wd) (w : WideWide') (t0 : Int) (t1 : Int) (t2 : Int) : Option (Unit × (Int × Int × Int × Unit)) := W.call (add64 t2 w.2.1 0) fun v1 => W.call (add64 (IntKind.u64.wrap t1) (IntKind.u64.wrap w.1) v1.2.1) fun v2 => W.nn 63 (some ((), ((IntKind.i64.wrap (t0 + (IntKind.i64.wrap ((Int.fdiv w.1 (2 ^ (Min.min (Int.toNat 63) (Go.IntKind.bits Go.IntKind.i64)))) + (IntKind.i64.wrap v2.2.1))))), ((IntKind.i64.wrap v2.1), (v1.1, ())))))
noncomputable def wide_total_add (w : WideWide') (t0 : Int) (t1 : Int) (t2 : Int) : Option (Unit × (Int × Int × Int × Unit)) := wide_total_addW stdW w t0 t1 t2
noncomputable def wide_total_add_s : LS := ⟨[.ptr, .v tWideWide], [⟨127, [.v (.int .i64), .v (.int .i64), .v (.int .u64)]⟩], [⟨127, [.v (.int .i64), .v (.int .i64), .v (.int .u64)]⟩], (.q .unit), fun x => wide_total_add x.1 x.2.1 x.2.2.1 x.2.2.2.1⟩
theorem wide_total_add_ok : ECok Try.prog 84 (.ls wide_total_add_s)   := ls_ok (A := [.ptr, .v tWideWide]) (B := [⟨127, [.v (.int .i64), .v (.int .i64), .v (.int .u64)]⟩]) (E := [⟨127, [.v (.int .i64), .v (.int .i64), .v (.int .u64)]⟩]) (Q := (.q .unit)) (fun W x => wide_total_addW W x.1 x.2.1 x.2.2.1 x.2.2.2.1) [(104, .es add64_s)] ⟨add64_ok, trivial⟩ [(1, [], (ofL [(0, true), (1, true), (2, true), (3, true), (4, true), (5, true), (6, true), (7, false), (8, true), (9, true), (10, true), (11, true), (12, true)])), (2, [], (ofL [(0, true), (1, true), (2, true), (3, true), (4, true), (5, true), (6, true), (7, true), (8, true), (9, true), (10, false), (11, true), (12, true), (13, true), (14, true), (15, true)])), (3, [0], (ofL [(0, true), (1, true), (2, true), (4, true), (5, true), (6, true), (7, true), (8, true), (9, true), (3, false), (10, true), (11, true), (12, true), (13, false)]))] [] [] Try.func84 rfl (by decide +kernel) rfl rfl rfl rfl rfl (fun W x => by kernel_rfl)
noncomputable def wide_rangedW (W : Wd) (w : WideWide') (ok : Bool) : Option (WideWide' × Int × Unit) := 
 W.cnd (!ok) (some ((0, (0, ())), (7, ())))
  (some (w, (0, ())))
noncomputable def wide_ranged (w : WideWide') (ok : Bool) : Option (WideWide' × Int × Unit) := wide_rangedW stdW w ok
noncomputable def wide_ranged_s : ES := ⟨(.pair tWideWide (.pair .bool .unit)), (.pair (.v tWideWide) (.pair (.v (.int .i64)) .unit)), fun x => wide_ranged x.1 x.2.1⟩
theorem wide_ranged_ok : ECok Try.prog 105 (.es wide_ranged_s)   := es_ok (A := (.pair tWideWide (.pair .bool .unit))) (Q := (.pair (.v tWideWide) (.pair (.v (.int .i64)) .unit))) (fun W x => wide_rangedW W x.1 x.2.1) [] trivial [] [] [] Try.func105 rfl (by decide +kernel) rfl rfl (fun W x => by kernel_rfl)
noncomputable def wide_total_doneW (W : Wd) (t0 : Int) (t1 : Int) (t2 : Int) : Option ((WideWide' × Int × Unit) × (Int × Int × Int × Unit)) := W.nn 63 (W.call (wide_ranged (t1, (t2, ())) (t0 == (Int.fdiv t1 (2 ^ (Min.min (Int.toNat 63) (Go.IntKind.bits Go.IntKind.i64)))))) fun v1 => some (v1, (t0, (t1, (t2, ())))))
noncomputable def wide_total_done (t0 : Int) (t1 : Int) (t2 : Int) : Option ((WideWide' × Int × Unit) × (Int × Int × Int × Unit)) := wide_total_doneW stdW t0 t1 t2
noncomputable def wide_total_done_s : LS := ⟨[.ptr], [⟨127, [.v (.int .i64), .v (.int .i64), .v (.int .u64)]⟩], [⟨127, [.v (.int .i64), .v (.int .i64), .v (.int .u64)]⟩], (.q (.pair (.v tWideWide) (.pair (.v (.int .i64)) .unit))), fun x => wide_total_done x.1 x.2.1 x.2.2.1⟩
theorem wide_total_done_ok : ECok Try.prog 85 (.ls wide_total_done_s)   := ls_ok (A := [.ptr]) (B := [⟨127, [.v (.int .i64), .v (.int .i64), .v (.int .u64)]⟩]) (E := [⟨127, [.v (.int .i64), .v (.int .i64), .v (.int .u64)]⟩]) (Q := (.q (.pair (.v tWideWide) (.pair (.v (.int .i64)) .unit)))) (fun W x => wide_total_doneW W x.1 x.2.1 x.2.2.1) [(105, .es wide_ranged_s)] ⟨wide_ranged_ok, trivial⟩ [(1, [1], (ofL [(0, true), (1, true), (2, true), (3, true), (4, true), (5, true), (6, true), (7, true), (8, true), (9, true), (10, true), (11, true), (12, true), (13, true), (14, true), (15, false), (16, true), (17, true), (18, false), (19, true)]))] [] [] Try.func85 rfl (by decide +kernel) rfl rfl rfl rfl rfl (fun W x => by kernel_rfl)
noncomputable def wide_AddW (W : Wd) (l : List WideWide') : Option (WideWide' × Int × Unit) := 
 W.loop (fun (z1 : Int × Int × Int × Int × Unit) again2 => 
  W.cnd (decide (z1.1 < (l.length : Int))) (W.idx l z1.1 fun x3 => W.call (wide_total_add x3 z1.2.1 z1.2.2.1 z1.2.2.2.1) fun v4 => (again2 ((IntKind.i64.wrap (z1.1 + 1)), v4.2)))
   (W.call (wide_total_done z1.2.1 z1.2.2.1 z1.2.2.2.1) fun v5 => some v5.1))
  (0, (0, (0, (0, ()))))
noncomputable def wide_Add (l : List WideWide') : Option (WideWide' × Int × Unit) := wide_AddW stdW l
noncomputable def wide_Add_s : ES := ⟨(.pair (.slc tWideWide) .unit), (.pair (.v tWideWide) (.pair (.v (.int .i64)) .unit)), fun x => wide_Add x.1⟩
theorem wide_Add_ok : ECok Try.prog 55 (.es wide_Add_s)   := es_ok (A := (.pair (.slc tWideWide) .unit)) (Q := (.pair (.v tWideWide) (.pair (.v (.int .i64)) .unit))) (fun W x => wide_AddW W x.1) [(84, .ls wide_total_add_s), (85, .ls wide_total_done_s)] ⟨wide_total_add_ok, wide_total_done_ok, trivial⟩ [] [] [(3, ⟨[(9, .t (.int .i64))], [(1, [.t (.int .i64), .t (.int .i64), .t (.int .u64)])], []⟩)] Try.func55 rfl (by decide +kernel) rfl rfl (fun W x => by kernel_rfl)
noncomputable def wide_IntW (W : Wd) (w : WideWide') : Option (Int × Int × Unit) := W.call (wide_Of (IntKind.i64.wrap w.2.1)) fun v1 => 
 W.cnd (Go.Vc.notIf true ((v1.1 == w.1) && (v1.2.1 == w.2.1))) (some (0, (7, ())))
  (some ((IntKind.i64.wrap w.2.1), (0, ())))
noncomputable def wide_Int (w : WideWide') : Option (Int × Int × Unit) := wide_IntW stdW w
noncomputable def wide_Int_s : ES := ⟨(.pair tWideWide .unit), (.pair (.v (.int .i64)) (.pair (.v (.int .i64)) .unit)), fun x => wide_Int x.1⟩
theorem wide_Int_ok : ECok Try.prog 67 (.es wide_Int_s)   := es_ok (A := (.pair tWideWide .unit)) (Q := (.pair (.v (.int .i64)) (.pair (.v (.int .i64)) .unit))) (fun W x => wide_IntW W x.1) [(54, .es wide_Of_s)] ⟨wide_Of_ok, trivial⟩ [(2, [], (ofL [(0, true), (2, true), (1, false), (3, true)]))] [] [] Try.func67 rfl (by decide +kernel) rfl rfl (fun W x => by kernel_rfl)
noncomputable def fix_narrowW (W : Wd) (w : WideWide') (e : Int) : Option (Int × Int × Unit) := 
 W.cnd (e != 0) (some (0, (e, ())))
  (W.call (wide_Int w) fun v1 => some v1)
noncomputable def fix_narrow (w : WideWide') (e : Int) : Option (Int × Int × Unit) := fix_narrowW stdW w e
noncomputable def fix_narrow_s : ES := ⟨(.pair tWideWide (.pair (.int .i64) .unit)), (.pair (.v (.int .i64)) (.pair (.v (.int .i64)) .unit)), fun x => fix_narrow x.1 x.2.1⟩
theorem fix_narrow_ok : ECok Try.prog 83 (.es fix_narrow_s)   := es_ok (A := (.pair tWideWide (.pair (.int .i64) .unit))) (Q := (.pair (.v (.int .i64)) (.pair (.v (.int .i64)) .unit))) (fun W x => fix_narrowW W x.1 x.2.1) [(67, .es wide_Int_s)] ⟨wide_Int_ok, trivial⟩ [] [] [] Try.func83 rfl (by decide +kernel) rfl rfl (fun W x => by kernel_rfl)
noncomputable def fix_SumW (W : Wd) (l : List Int) : Option (Int × Int × Unit) := W.nn (l.length : Int) (W.room (Int.toNat (l.length : Int)) 16 (
 W.loop (fun (z1 : Int × List (Int × Int × Unit) × Unit) again2 => 
  W.cnd (decide (z1.1 < (l.length : Int))) (W.idx l z1.1 fun x3 => W.call (wide_Of x3) fun v4 => W.room (z1.2.1.length + (v4 :: []).length) 16 ((again2 ((IntKind.i64.wrap (z1.1 + 1)), ((z1.2.1 ++ (v4 :: [])), ())))))
   (W.call (wide_Add z1.2.1) fun v5 => W.call (fix_narrow v5.1 v5.2.1) fun v6 => some v6))
  (0, ([], ()))))
noncomputable def fix_Sum (l : List Int) : Option (Int × Int × Unit) := fix_SumW stdW l
noncomputable def fix_Sum_s : ES := ⟨(.pair (.slc (.int .i64)) .unit), (.pair (.v (.int .i64)) (.pair (.v (.int .i64)) .unit)), fun x => fix_Sum x.1⟩
theorem fix_Sum_ok : ECok Try.prog 52 (.es fix_Sum_s)   := es_ok (A := (.pair (.slc (.int .i64)) .unit)) (Q := (.pair (.v (.int .i64)) (.pair (.v (.int .i64)) .unit))) (fun W x => fix_SumW W x.1) [(54, .es wide_Of_s), (55, .es wide_Add_s), (83, .es fix_narrow_s)] ⟨wide_Of_ok, wide_Add_ok, fix_narrow_ok, trivial⟩ [] [] [(3, ⟨[(4, .row 0), (12, .t (.int .i64))], [], [.own 35 tWideWide]⟩)] Try.func52 rfl (by decide +kernel) rfl rfl (fun W x => by kernel_rfl)
noncomputable def purse_PayW (W : Wd) (l : List AFlow') (flows : List AFlow') : Option ((List AFlow') × Int × Unit) := W.call (purse_Is l) fun v1 => 
 W.cnd (!v1) (some ([], (3, ())))
  (W.call (concatO (l :: (flows :: []))) fun v2 => W.call (namedO v2) fun v3 => 
  W.loop (fun (z4 : Int × List (Int × Int × Unit) × List ((Int × Int × Unit) × Int × Unit) × Unit) again5 => 
   W.cnd (decide (z4.1 < (v3.length : Int))) (
    W.join (fun (z6 : List (Int × Int × Unit) × List ((Int × Int × Unit) × Int × Unit) × Unit) => (again5 ((IntKind.i64.wrap (z4.1 + 1)), (z6.1, (z6.2.1, ())))))
     fun k7 => W.idx z4.2.1 z4.1 fun x8 => W.nth z4.2.1 (Int.toNat z4.1) fun x9 => W.call (purse_amounts v2 x9) fun v10 => W.call (fix_Sum v10) fun v11 => 
     W.cnd (v11.2.1 != 0) (some ([], v11.2))
      (
      W.cnd (v11.1 != 0) (W.room (z4.2.2.1.length + ((x9, (v11.1, ())) :: []).length) 24 ((k7 (z4.2.1, ((z4.2.2.1 ++ ((x9, (v11.1, ())) :: [])), ())))))
       ((k7 (z4.2.1, (z4.2.2.1, ()))))))
    (some (z4.2.2.1, (0, ()))))
   (0, (v3, ([], ()))))
noncomputable def purse_Pay (l : List AFlow') (flows : List AFlow') : Option ((List AFlow') × Int × Unit) := purse_PayW stdW l flows
noncomputable def purse_Pay_s : ES := ⟨(.pair (.slc tAFlow) (.pair (.slc tAFlow) .unit)), (.pair (.own 27 tAFlow) (.pair (.v (.int .i64)) .unit)), fun x => purse_Pay x.1 x.2.1⟩
theorem purse_Pay_ok : ECok Try.prog 12 (.es purse_Pay_s)   := es_ok (A := (.pair (.slc tAFlow) (.pair (.slc tAFlow) .unit))) (Q := (.pair (.own 27 tAFlow) (.pair (.v (.int .i64)) .unit))) (fun W x => purse_PayW W x.1 x.2.1) [(16, .es purse_Is_s), (50, .es concat_s), (51, .es named_s), (53, .es purse_amounts_s), (52, .es fix_Sum_s)] ⟨purse_Is_ok, concat_ok, named_ok, purse_amounts_ok, fix_Sum_ok, trivial⟩ [] [(13, ⟨[(7, .row 5), (20, .row 2)], [], [.dead, .dead, .own 25 tAUnit, .dead, .dead, .own 27 tAFlow]⟩)] [(6, ⟨[(7, .row 5), (20, .row 2), (22, .t (.int .i64))], [], [.dead, .dead, .own 25 tAUnit, .dead, .dead, .own 27 tAFlow]⟩)] Try.func12 rfl (by decide +kernel) rfl rfl (fun W x => by kernel_rfl)
noncomputable def ref17_SameW (W : Wd) (a : List AFlow') (b : List AFlow') : Option Bool := 
 W.cnd ((a.length : Int) != (b.length : Int)) (some false)
  (
  W.loop (fun (z1 : Int × Unit) again2 => 
   W.cnd (decide (z1.1 < (a.length : Int))) (W.idx a z1.1 fun x3 => W.idx b z1.1 fun x4 => 
    W.cnd (Go.Vc.notIf true ((x3.1.1 == x4.1.1) && ((x3.1.2.1 == x4.1.2.1) && (x3.2.1 == x4.2.1)))) (some false)
     ((again2 ((IntKind.i64.wrap (z1.1 + 1)), ()))))
    (some true))
   (0, ()))
noncomputable def ref17_Same (a : List AFlow') (b : List AFlow') : Option Bool := ref17_SameW stdW a b
noncomputable def ref17_Same_s : ES := ⟨(.pair (.slc tAFlow) (.pair (.slc tAFlow) .unit)), (.v .bool), fun x => ref17_Same x.1 x.2.1⟩
theorem ref17_Same_ok : ECok Try.prog 13 (.es ref17_Same_s)   := es_ok (A := (.pair (.slc tAFlow) (.pair (.slc tAFlow) .unit))) (Q := (.v .bool)) (fun W x => ref17_SameW W x.1 x.2.1) [] trivial [(6, [], (ofL [(0, true), (1, true), (2, true), (3, true), (4, true), (5, true), (6, true), (7, true), (8, true)]))] [] [(4, ⟨[(5, .t (.int .i64))], [], []⟩)] Try.func13 rfl (by decide +kernel) rfl rfl (fun W x => by kernel_rfl)
noncomputable def purse_GetW (W : Wd) (l : List AFlow') (u : AUnit') : Option Int := 
 W.loop (fun (z1 : Int × Unit) again2 => 
  W.cnd (decide (z1.1 < (l.length : Int))) (W.idx l z1.1 fun x3 => 
   W.cnd (Go.Vc.notIf false ((x3.1.1 == u.1) && (x3.1.2.1 == u.2.1))) (some x3.2.1)
    ((again2 ((IntKind.i64.wrap (z1.1 + 1)), ()))))
   (some 0))
  (0, ())
noncomputable def purse_Get (l : List AFlow') (u : AUnit') : Option Int := purse_GetW stdW l u
noncomputable def purse_Get_s : ES := ⟨(.pair (.slc tAFlow) (.pair tAUnit .unit)), (.v (.int .i64)), fun x => purse_Get x.1 x.2.1⟩
theorem purse_Get_ok : ECok Try.prog 18 (.es purse_Get_s)   := es_ok (A := (.pair (.slc tAFlow) (.pair tAUnit .unit))) (Q := (.v (.int .i64))) (fun W x => purse_GetW W x.1 x.2.1) [] trivial [] [] [(2, ⟨[(9, .t (.int .i64))], [], []⟩)] Try.func18 rfl (by decide +kernel) rfl rfl (fun W x => by kernel_rfl)
noncomputable def purse_TotalW (W : Wd) (l : List AFlow') : Option WideWide' := 
 W.loop (fun (z1 : Int × List (Int × Int × Unit) × Unit) again2 => 
  W.cnd (decide (z1.1 < (l.length : Int))) (W.idx l z1.1 fun x3 => W.call (wide_Of x3.2.1) fun v4 => W.room (z1.2.1.length + (v4 :: []).length) 16 ((again2 ((IntKind.i64.wrap (z1.1 + 1)), ((z1.2.1 ++ (v4 :: [])), ())))))
   (W.call (wide_Add z1.2.1) fun v5 => some v5.1))
  (0, ([], ()))
noncomputable def purse_Total (l : List AFlow') : Option WideWide' := purse_TotalW stdW l
noncomputable def purse_Total_s : ES := ⟨(.pair (.slc tAFlow) .unit), (.v tWideWide), fun x => purse_Total x.1⟩
theorem purse_Total_ok : ECok Try.prog 15 (.es purse_Total_s)   := es_ok (A := (.pair (.slc tAFlow) .unit)) (Q := (.v tWideWide)) (fun W x => purse_TotalW W x.1) [(54, .es wide_Of_s), (55, .es wide_Add_s)] ⟨wide_Of_ok, wide_Add_ok, trivial⟩ [] [] [(3, ⟨[(3, .row 1), (10, .t (.int .i64))], [], [.dead, .own 35 tWideWide]⟩)] Try.func15 rfl (by decide +kernel) rfl rfl (fun W x => by kernel_rfl)
noncomputable def ref15_LessW (W : Wd) (a : AUnit') (b : AUnit') : Option Bool := 
 W.cnd (decide (a.1 < b.1)) (some true)
  (
  W.cnd (a.1 == b.1) (some (decide (a.2.1 < b.2.1)))
   (some false))
noncomputable def ref15_Less (a : AUnit') (b : AUnit') : Option Bool := ref15_LessW stdW a b
noncomputable def ref15_Less_s : ES := ⟨(.pair tAUnit (.pair tAUnit .unit)), (.v .bool), fun x => ref15_Less x.1 x.2.1⟩
theorem ref15_Less_ok : ECok Try.prog 57 (.es ref15_Less_s)   := es_ok (A := (.pair tAUnit (.pair tAUnit .unit))) (Q := (.v .bool)) (fun W x => ref15_LessW W x.1 x.2.1) [] trivial [] [] [] Try.func57 rfl (by decide +kernel) rfl rfl (fun W x => by kernel_rfl)
noncomputable def ref17_IsW (W : Wd) (l : List AFlow') : Option Bool := 
 W.loop (fun (z1 : Int × Unit) again2 => 
  W.cnd (decide (z1.1 < (l.length : Int))) (
   W.join (fun (z3 : Bool × Unit) => 
    W.cnd z3.1 (some false)
     ((again2 ((IntKind.i64.wrap (z1.1 + 1)), ()))))
    fun k4 => W.idx l z1.1 fun x5 => 
    W.cnd (x5.2.1 == 0) ((k4 (true, ())))
     (
     W.cnd (decide (0 < z1.1)) (W.idx l (IntKind.i64.wrap (z1.1 - 1)) fun x6 => W.idx l z1.1 fun x7 => W.call (ref15_Less x6.1 x7.1) fun v8 => (k4 ((!v8), ())))
      ((k4 (false, ())))))
   (some true))
  (0, ())
noncomputable def ref17_Is (l : List AFlow') : Option Bool := ref17_IsW stdW l
noncomputable def ref17_Is_s : ES := ⟨(.pair (.slc tAFlow) .unit), (.v .bool), fun x => ref17_Is x.1⟩
theorem ref17_Is_ok : ECok Try.prog 17 (.es ref17_Is_s)   := es_ok (A := (.pair (.slc tAFlow) .unit)) (Q := (.v .bool)) (fun W x => ref17_IsW W x.1) [(57, .es ref15_Less_s)] ⟨ref15_Less_ok, trivial⟩ [(4, [], (ofL [(0, true), (1, true), (2, true), (3, true), (4, true), (5, true), (6, true), (7, true), (8, true), (9, true), (10, true), (11, true), (12, true), (13, true), (14, true), (15, true), (16, true), (17, true), (18, true), (19, true), (20, true), (21, false), (22, true), (23, true), (24, true)]))] [(500034, ⟨[(34, .t .bool)], [], []⟩)] [(2, ⟨[(3, .t (.int .i64))], [], []⟩)] Try.func17 rfl (by decide +kernel) rfl rfl (fun W x => by kernel_rfl)
noncomputable def ref17_GetW (W : Wd) (l : List AFlow') (u : AUnit') : Option Int := 
 W.loop (fun (z1 : Int × Unit) again2 => 
  W.cnd (decide (z1.1 < (l.length : Int))) (W.idx l z1.1 fun x3 => 
   W.cnd (Go.Vc.notIf false ((x3.1.1 == u.1) && (x3.1.2.1 == u.2.1))) (W.idx l z1.1 fun x4 => some x4.2.1)
    ((again2 ((IntKind.i64.wrap (z1.1 + 1)), ()))))
   (some 0))
  (0, ())
noncomputable def ref17_Get (l : List AFlow') (u : AUnit') : Option Int := ref17_GetW stdW l u
noncomputable def ref17_Get_s : ES := ⟨(.pair (.slc tAFlow) (.pair tAUnit .unit)), (.v (.int .i64)), fun x => ref17_Get x.1 x.2.1⟩
theorem ref17_Get_ok : ECok Try.prog 19 (.es ref17_Get_s)   := es_ok (A := (.pair (.slc tAFlow) (.pair tAUnit .unit))) (Q := (.v (.int .i64))) (fun W x => ref17_GetW W x.1 x.2.1) [] trivial [(4, [], (ofL [(0, true), (1, true), (2, true), (3, true), (4, true), (5, true), (6, true)]))] [] [(2, ⟨[(5, .t (.int .i64))], [], []⟩)] Try.func19 rfl (by decide +kernel) rfl rfl (fun W x => by kernel_rfl)
noncomputable def ref01_NatW (W : Wd) (u : Int) : Option Novationref01Big' := 
 W.loop (fun (z1 : Int × List (Int) × Unit) again2 => 
  W.cnd (decide (0 < z1.1)) (W.nz 2 (W.room (z1.2.1.length + ((IntKind.u8.wrap (Int.tmod z1.1 2)) :: []).length) 1 (W.nz 2 ((again2 ((IntKind.u64.wrap (Int.tdiv z1.1 2)), ((z1.2.1 ++ ((IntKind.u8.wrap (Int.tmod z1.1 2)) :: [])), ())))))))
   (some (false, (z1.2.1, ()))))
  (u, ([], ()))
noncomputable def ref01_Nat (u : Int) : Option Novationref01Big' := ref01_NatW stdW u
noncomputable def ref01_Nat_s : ES := ⟨(.pair (.int .u64) .unit), (.v tNovationref01Big), fun x => ref01_Nat x.1⟩
theorem ref01_Nat_ok : ECok Try.prog 59 (.es ref01_Nat_s)   := es_ok (A := (.pair (.int .u64) .unit)) (Q := (.v tNovationref01Big)) (fun W x => ref01_NatW W x.1) [] trivial [] [] [(2, ⟨[(0, .t (.int .u64)), (3, .row 1)], [], [.dead, .own 5 (.int .u8)]⟩)] Try.func59 rfl (by decide +kernel) rfl rfl (fun W x => by kernel_rfl)
noncomputable def ref01_plusW (W : Wd) (a : List Int) (b : List Int) : Option (List Int) := 
 W.loop (fun (z1 : Int × Int × List (Int) × Unit) again2 => 
  W.join (fun (z3 : List (Int) × Unit) => 
   W.join (fun (z4 : Int × List (Int) × Unit) => 
    W.join (fun (z5 : Int × List (Int) × Unit) => W.nz 2 (W.room (z5.2.1.length + ((Int.tmod z5.1 2) :: []).length) 1 (W.nz 2 ((again2 ((IntKind.u8.wrap (Int.tdiv z5.1 2)), ((IntKind.i64.wrap (z1.2.1 + 1)), ((z5.2.1 ++ ((Int.tmod z5.1 2) :: [])), ()))))))))
     fun k6 => 
     W.cnd (decide (z1.2.1 < (b.length : Int))) (W.idx b z1.2.1 fun x7 => (k6 ((IntKind.u8.wrap (z4.1 + x7)), (z4.2.1, ()))))
      ((k6 (z4.1, (z4.2.1, ())))))
    fun k8 => 
    W.cnd (decide (z1.2.1 < (a.length : Int))) (W.idx a z1.2.1 fun x9 => (k8 ((IntKind.u8.wrap (z1.1 + x9)), (z3.1, ()))))
     ((k8 (z1.1, (z3.1, ())))))
   fun k10 => 
   W.cnd (decide (z1.2.1 < (a.length : Int))) ((k10 (z1.2.2.1, ())))
    (
    W.cnd (decide (z1.2.1 < (b.length : Int))) ((k10 (z1.2.2.1, ())))
     (
     W.join (fun (z11 : List (Int) × Unit) => some z11.1)
      fun k12 => 
      W.cnd (decide (0 < z1.1)) (W.room (z1.2.2.1.length + (z1.1 :: []).length) 1 ((k12 ((z1.2.2.1 ++ (z1.1 :: [])), ()))))
       ((k12 (z1.2.2.1, ()))))))
  (0, (0, ([], ())))
noncomputable def ref01_plus (a : List Int) (b : List Int) : Option (List Int) := ref01_plusW stdW a b
noncomputable def ref01_plus_s : ES := ⟨(.pair (.slc (.int .u8)) (.pair (.slc (.int .u8)) .unit)), (.own 5 (.int .u8)), fun x => ref01_plus x.1 x.2.1⟩
theorem ref01_plus_ok : ECok Try.prog 77 (.es ref01_plus_s)   := es_ok (A := (.pair (.slc (.int .u8)) (.pair (.slc (.int .u8)) .unit))) (Q := (.own 5 (.int .u8))) (fun W x => ref01_plusW W x.1 x.2.1) [] trivial [] [(6, ⟨[(5, .row 1)], [], [.dead, .own 5 (.int .u8)]⟩), (8, ⟨[(5, .row 1), (6, .t (.int .u8))], [], [.dead, .own 5 (.int .u8)]⟩), (10, ⟨[(5, .row 1), (6, .t (.int .u8))], [], [.dead, .own 5 (.int .u8)]⟩), (14, ⟨[(5, .row 1)], [], [.dead, .own 5 (.int .u8)]⟩)] [(4, ⟨[(5, .row 1), (6, .t (.int .u8)), (7, .t (.int .i64))], [], [.dead, .own 5 (.int .u8)]⟩)] Try.func77 rfl (by decide +kernel) rfl rfl (fun W x => by kernel_rfl)
noncomputable def ref01_OfW (W : Wd) (n : Int) : Option Novationref01Big' := 
 W.cnd (decide (0 ≤ n)) (W.call (ref01_Nat (IntKind.u64.wrap n)) fun v1 => some (v1.1, (v1.2.1, ())))
  (W.call (ref01_Nat (IntKind.u64.wrap (IntKind.i64.wrap (0 - (IntKind.i64.wrap (n + 1)))))) fun v2 => W.call (ref01_plus v2.2.1 (1 :: [])) fun v3 => some (true, (v3, ())))
noncomputable def ref01_Of (n : Int) : Option Novationref01Big' := ref01_OfW stdW n
noncomputable def ref01_Of_s : ES := ⟨(.pair (.int .i64) .unit), (.v tNovationref01Big), fun x => ref01_Of x.1⟩
theorem ref01_Of_ok : ECok Try.prog 43 (.es ref01_Of_s)   := es_ok (A := (.pair (.int .i64) .unit)) (Q := (.v tNovationref01Big)) (fun W x => ref01_OfW W x.1) [(59, .es ref01_Nat_s), (77, .es ref01_plus_s)] ⟨ref01_Nat_ok, ref01_plus_ok, trivial⟩ [] [] [] Try.func43 rfl (by decide +kernel) rfl rfl (fun W x => by kernel_rfl)
noncomputable def ref01_trimW (W : Wd) (neg : Bool) (b : List Int) : Option Novationref01Big' := 
 W.join (fun (z1 : Int × Unit) => 
  W.cnd neg (W.bnd z1.1 b.length fun h2 => some ((decide (0 < z1.1)), ((b.take h2), ())))
   (W.bnd z1.1 b.length fun h3 => some (false, ((b.take h3), ()))))
  fun k4 => 
  W.loop (fun (z5 : Int × Unit) again6 => 
   W.cnd (decide (0 < z5.1)) (W.idx b (IntKind.i64.wrap (z5.1 - 1)) fun x7 => 
    W.cnd (x7 == 0) ((again6 ((IntKind.i64.wrap (z5.1 - 1)), ())))
     ((k4 z5)))
    ((k4 z5)))
   ((b.length : Int), ())
noncomputable def ref01_trim (neg : Bool) (b : List Int) : Option Novationref01Big' := ref01_trimW stdW neg b
noncomputable def ref01_trim_s : ES := ⟨(.pair .bool (.pair (.slc (.int .u8)) .unit)), (.v tNovationref01Big), fun x => ref01_trim x.1 x.2.1⟩
theorem ref01_trim_ok : ECok Try.prog 86 (.es ref01_trim_s)   := es_ok (A := (.pair .bool (.pair (.slc (.int .u8)) .unit))) (Q := (.v tNovationref01Big)) (fun W x => ref01_trimW W x.1 x.2.1) [] trivial [] [(4, ⟨[(5, .t (.int .i64))], [], []⟩)] [(2, ⟨[(5, .t (.int .i64))], [], []⟩)] Try.func86 rfl (by decide +kernel) rfl rfl (fun W x => by kernel_rfl)
noncomputable def ref01_lessW (W : Wd) (a : List Int) (b : List Int) : Option Bool := 
 W.cnd ((a.length : Int) != (b.length : Int)) (some (decide ((a.length : Int) < (b.length : Int))))
  (
  W.loop (fun (z1 : Int × Unit) again2 => 
   W.cnd (decide (0 < z1.1)) (W.idx a (IntKind.i64.wrap (z1.1 - 1)) fun x3 => W.idx b (IntKind.i64.wrap (z1.1 - 1)) fun x4 => 
    W.cnd (x3 != x4) (W.idx a (IntKind.i64.wrap (z1.1 - 1)) fun x5 => W.idx b (IntKind.i64.wrap (z1.1 - 1)) fun x6 => some (decide (x5 < x6)))
     ((again2 ((IntKind.i64.wrap (z1.1 - 1)), ()))))
    (some false))
   ((a.length : Int), ()))
noncomputable def ref01_less (a : List Int) (b : List Int) : Option Bool := ref01_lessW stdW a b
noncomputable def ref01_less_s : ES := ⟨(.pair (.slc (.int .u8)) (.pair (.slc (.int .u8)) .unit)), (.v .bool), fun x => ref01_less x.1 x.2.1⟩
theorem ref01_less_ok : ECok Try.prog 87 (.es ref01_less_s)   := es_ok (A := (.pair (.slc (.int .u8)) (.pair (.slc (.int .u8)) .unit))) (Q := (.v .bool)) (fun W x => ref01_lessW W x.1 x.2.1) [] trivial [(6, [], (ofL [(0, true), (1, true), (2, true), (3, true), (4, true), (5, true), (6, true), (7, true), (8, true), (9, true), (10, true)])), (7, [], (ofL [(0, true), (1, true), (2, true), (3, true), (4, true), (5, true), (6, true), (7, true), (8, true), (9, true), (10, true), (11, true)]))] [] [(4, ⟨[(5, .t (.int .i64))], [], []⟩)] Try.func87 rfl (by decide +kernel) rfl rfl (fun W x => by kernel_rfl)
noncomputable def ref01_minusW (W : Wd) (a : List Int) (b : List Int) : Option (List Int) := 
 W.loop (fun (z1 : Int × Int × List (Int) × Unit) again2 => 
  W.cnd (decide (z1.2.1 < (a.length : Int))) (
   W.join (fun (z3 : Int × List (Int) × Unit) => W.idx a z1.2.1 fun x4 => 
    W.join (fun (z5 : Int × List (Int) × Unit) => W.nz 2 (W.room (z5.2.1.length + ((Int.tmod (IntKind.u8.wrap ((IntKind.u8.wrap (x4 + 2)) - z3.1)) 2) :: []).length) 1 ((again2 (z5.1, ((IntKind.i64.wrap (z1.2.1 + 1)), ((z5.2.1 ++ ((Int.tmod (IntKind.u8.wrap ((IntKind.u8.wrap (x4 + 2)) - z3.1)) 2) :: [])), ())))))))
     fun k6 => 
     W.cnd (decide ((IntKind.u8.wrap ((IntKind.u8.wrap (x4 + 2)) - z3.1)) < 2)) ((k6 (1, (z3.2.1, ()))))
      ((k6 (0, (z3.2.1, ())))))
    fun k7 => 
    W.cnd (decide (z1.2.1 < (b.length : Int))) (W.idx b z1.2.1 fun x8 => (k7 ((IntKind.u8.wrap (z1.1 + x8)), (z1.2.2.1, ()))))
     ((k7 (z1.1, (z1.2.2.1, ())))))
   (some z1.2.2.1))
  (0, (0, ([], ())))
noncomputable def ref01_minus (a : List Int) (b : List Int) : Option (List Int) := ref01_minusW stdW a b
noncomputable def ref01_minus_s : ES := ⟨(.pair (.slc (.int .u8)) (.pair (.slc (.int .u8)) .unit)), (.own 5 (.int .u8)), fun x => ref01_minus x.1 x.2.1⟩
theorem ref01_minus_ok : ECok Try.prog 88 (.es ref01_minus_s)   := es_ok (A := (.pair (.slc (.int .u8)) (.pair (.slc (.int .u8)) .unit))) (Q := (.own 5 (.int .u8))) (fun W x => ref01_minusW W x.1 x.2.1) [] trivial [] [(9, ⟨[(5, .row 1), (8, .t (.int .u8))], [], [.dead, .own 5 (.int .u8)]⟩), (13, ⟨[(5, .row 1), (6, .t (.int .u8))], [], [.dead, .own 5 (.int .u8)]⟩)] [(4, ⟨[(5, .row 1), (6, .t (.int .u8)), (7, .t (.int .i64))], [], [.dead, .own 5 (.int .u8)]⟩)] Try.func88 rfl (by decide +kernel) rfl rfl (fun W x => by kernel_rfl)
noncomputable def ref01_AddW (W : Wd) (a : Novationref01Big') (b : Novationref01Big') : Option Novationref01Big' := 
 W.cnd (Go.Vc.notIf false (a.1 == b.1)) (W.call (ref01_plus a.2.1 b.2.1) fun v1 => W.call (ref01_trim a.1 v1) fun v2 => some (v2.1, (v2.2.1, ())))
  (W.call (ref01_less a.2.1 b.2.1) fun v3 => 
  W.cnd v3 (W.call (ref01_minus b.2.1 a.2.1) fun v4 => W.call (ref01_trim b.1 v4) fun v5 => some (v5.1, (v5.2.1, ())))
   (W.call (ref01_minus a.2.1 b.2.1) fun v6 => W.call (ref01_trim a.1 v6) fun v7 => some (v7.1, (v7.2.1, ()))))
noncomputable def ref01_Add (a : Novationref01Big') (b : Novationref01Big') : Option Novationref01Big' := ref01_AddW stdW a b
noncomputable def ref01_Add_s : ES := ⟨(.pair tNovationref01Big (.pair tNovationref01Big .unit)), (.v tNovationref01Big), fun x => ref01_Add x.1 x.2.1⟩
theorem ref01_Add_ok : ECok Try.prog 58 (.es ref01_Add_s)   := es_ok (A := (.pair tNovationref01Big (.pair tNovationref01Big .unit))) (Q := (.v tNovationref01Big)) (fun W x => ref01_AddW W x.1 x.2.1) [(77, .es ref01_plus_s), (86, .es ref01_trim_s), (87, .es ref01_less_s), (88, .es ref01_minus_s)] ⟨ref01_plus_ok, ref01_trim_ok, ref01_less_ok, ref01_minus_ok, trivial⟩ [(2, [2], (ofL [(0, true), (1, true), (2, true), (3, true), (4, true), (5, true), (6, false), (7, false), (8, false)])), (4, [2], (ofL [(0, true), (1, true), (2, true), (3, true), (4, true), (5, true), (6, false), (7, false), (8, false)])), (5, [2], (ofL [(0, true), (1, true), (2, true), (3, true), (4, true), (5, true), (6, false), (7, false), (8, false)]))] [] [] Try.func58 rfl (by decide +kernel) rfl rfl (fun W x => by kernel_rfl)
noncomputable def ref01_WideW (W : Wd) (hi : Int) (lo : Int) : Option Novationref01Big' := W.call (ref01_Of hi) fun v1 => 
 W.join (fun (z2 : Bool × List (Int) × Unit) => W.call (ref01_Nat lo) fun v3 => W.call (ref01_Add (z2.1, (z2.2.1, ())) (v3.1, (v3.2.1, ()))) fun v4 => some (v4.1, (v4.2.1, ())))
  fun k5 => 
  W.loop (fun (z6 : Int × Bool × List (Int) × Unit) again7 => 
   W.cnd (decide (z6.1 < 64)) (
    W.cnd (decide (0 < (z6.2.2.1.length : Int))) (W.room (0 :: []).length 1 (W.room ((0 :: []).length + z6.2.2.1.length) 1 ((again7 ((IntKind.i64.wrap (z6.1 + 1)), (z6.2.1, (((0 :: []) ++ z6.2.2.1), ())))))))
     ((k5 (z6.2.1, (z6.2.2.1, ())))))
    ((k5 (z6.2.1, (z6.2.2.1, ())))))
   (0, (v1.1, (v1.2.1, ())))
noncomputable def ref01_Wide (hi : Int) (lo : Int) : Option Novationref01Big' := ref01_WideW stdW hi lo
noncomputable def ref01_Wide_s : ES := ⟨(.pair (.int .i64) (.pair (.int .u64) .unit)), (.v tNovationref01Big), fun x => ref01_Wide x.1 x.2.1⟩
theorem ref01_Wide_ok : ECok Try.prog 21 (.es ref01_Wide_s)   := es_ok (A := (.pair (.int .i64) (.pair (.int .u64) .unit))) (Q := (.v tNovationref01Big)) (fun W x => ref01_WideW W x.1 x.2.1) [(43, .es ref01_Of_s), (59, .es ref01_Nat_s), (58, .es ref01_Add_s)] ⟨ref01_Of_ok, ref01_Nat_ok, ref01_Add_ok, trivial⟩ [(8, [0], (ofL [(0, true), (1, true), (2, false), (3, false), (4, false)]))] [(8, ⟨[], [(1, [.t .bool, .t (.slc (.int .u8))])], []⟩)] [(3, ⟨[(6, .t (.int .i64))], [(1, [.t .bool, .t (.slc (.int .u8))])], []⟩)] Try.func21 rfl (by decide +kernel) rfl rfl (fun W x => by kernel_rfl)
noncomputable def ref17_TotalW (W : Wd) (l : List AFlow') : Option Novationref01Big' := 
 W.loop (fun (z1 : Int × Bool × List (Int) × Unit) again2 => 
  W.cnd (decide (z1.1 < (l.length : Int))) (
   W.join (fun (z3 : Bool × List (Int) × Unit) => (again2 ((IntKind.i64.wrap (z1.1 + 1)), (z3.1, (z3.2.1, ())))))
    fun k4 => W.idx l z1.1 fun x5 => W.both (W.call (ref01_Of x5.2.1) fun v6 => W.call (ref01_Add (z1.2.1, (z1.2.2.1, ())) (v6.1, (v6.2.1, ()))) fun v7 => (k4 (v7.1, (v7.2.1, ())))) (W.call (ref01_Of x5.2.1) fun v8 => W.call (ref01_Add (z1.2.1, (z1.2.2.1, ())) (v8.1, (v8.2.1, ()))) fun v9 => (k4 (v9.1, (v9.2.1, ())))))
   (some (z1.2.1, (z1.2.2.1, ()))))
  (0, (false, ([], ())))
noncomputable def ref17_Total (l : List AFlow') : Option Novationref01Big' := ref17_TotalW stdW l
noncomputable def ref17_Total_s : ES := ⟨(.pair (.slc tAFlow) .unit), (.v tNovationref01Big), fun x => ref17_Total x.1⟩
theorem ref17_Total_ok : ECok Try.prog 22 (.es ref17_Total_s)   := es_ok (A := (.pair (.slc tAFlow) .unit)) (Q := (.v tNovationref01Big)) (fun W x => ref17_TotalW W x.1) [(43, .es ref01_Of_s), (58, .es ref01_Add_s)] ⟨ref01_Of_ok, ref01_Add_ok, trivial⟩ [(5, [1], (.rd 1 (.rd 2 (.rd 3 (.rd 4 (.rd 5 (.two 0 6 (ofL [(6, false), (7, false), (8, false)]) (ofL [(0, false), (7, false), (8, false)]))))))))] [(4, ⟨[], [(1, [.t .bool, .t (.slc (.int .u8))])], []⟩)] [(3, ⟨[(4, .t (.int .i64))], [(1, [.t .bool, .t (.slc (.int .u8))])], []⟩)] Try.func22 rfl (by decide +kernel) rfl rfl (fun W x => by kernel_rfl)
noncomputable def ref01_NegW (W : Wd) (a : Novationref01Big') : Option Novationref01Big' := W.call (ref01_trim (!a.1) a.2.1) fun v1 => some (v1.1, (v1.2.1, ()))
noncomputable def ref01_Neg (a : Novationref01Big') : Option Novationref01Big' := ref01_NegW stdW a
noncomputable def ref01_Neg_s : ES := ⟨(.pair tNovationref01Big .unit), (.v tNovationref01Big), fun x => ref01_Neg x.1⟩
theorem ref01_Neg_ok : ECok Try.prog 76 (.es ref01_Neg_s)   := es_ok (A := (.pair tNovationref01Big .unit)) (Q := (.v tNovationref01Big)) (fun W x => ref01_NegW W x.1) [(86, .es ref01_trim_s)] ⟨ref01_trim_ok, trivial⟩ [] [] [] Try.func76 rfl (by decide +kernel) rfl rfl (fun W x => by kernel_rfl)
noncomputable def ref01_SubW (W : Wd) (a : Novationref01Big') (b : Novationref01Big') : Option Novationref01Big' := W.call (ref01_Neg (b.1, (b.2.1, ()))) fun v1 => W.call (ref01_Add (a.1, (a.2.1, ())) (v1.1, (v1.2.1, ()))) fun v2 => some (v2.1, (v2.2.1, ()))
noncomputable def ref01_Sub (a : Novationref01Big') (b : Novationref01Big') : Option Novationref01Big' := ref01_SubW stdW a b
noncomputable def ref01_Sub_s : ES := ⟨(.pair tNovationref01Big (.pair tNovationref01Big .unit)), (.v tNovationref01Big), fun x => ref01_Sub x.1 x.2.1⟩
theorem ref01_Sub_ok : ECok Try.prog 42 (.es ref01_Sub_s)   := es_ok (A := (.pair tNovationref01Big (.pair tNovationref01Big .unit))) (Q := (.v tNovationref01Big)) (fun W x => ref01_SubW W x.1 x.2.1) [(76, .es ref01_Neg_s), (58, .es ref01_Add_s)] ⟨ref01_Neg_ok, ref01_Add_ok, trivial⟩ [(1, [2], (ofL [(0, true), (1, true), (2, false), (3, false), (4, false)]))] [] [] Try.func42 rfl (by decide +kernel) rfl rfl (fun W x => by kernel_rfl)
noncomputable def ref01_CmpW (W : Wd) (a : Novationref01Big') (b : Novationref01Big') : Option Int := W.call (ref01_Sub (a.1, (a.2.1, ())) (b.1, (b.2.1, ()))) fun v1 => 
 W.cnd ((v1.2.1.length : Int) == 0) (some 0)
  (
  W.cnd v1.1 (some (-1))
   (some 1))
noncomputable def ref01_Cmp (a : Novationref01Big') (b : Novationref01Big') : Option Int := ref01_CmpW stdW a b
noncomputable def ref01_Cmp_s : ES := ⟨(.pair tNovationref01Big (.pair tNovationref01Big .unit)), (.v (.int .i64)), fun x => ref01_Cmp x.1 x.2.1⟩
theorem ref01_Cmp_ok : ECok Try.prog 20 (.es ref01_Cmp_s)   := es_ok (A := (.pair tNovationref01Big (.pair tNovationref01Big .unit))) (Q := (.v (.int .i64))) (fun W x => ref01_CmpW W x.1 x.2.1) [(42, .es ref01_Sub_s)] ⟨ref01_Sub_ok, trivial⟩ [] [] [] Try.func20 rfl (by decide +kernel) rfl rfl (fun W x => by kernel_rfl)
noncomputable def ref17_UnitsW (W : Wd) (l : List AFlow') : Option (List AUnit') := 
 W.loop (fun (z1 : List (Int × Int × Unit) × Int × Unit) again2 => 
  W.cnd (decide (z1.2.1 < (l.length : Int))) (
   W.join (fun (z3 : List (Int × Int × Unit) × Unit) => (again2 (z3.1, ((IntKind.i64.wrap (z1.2.1 + 1)), ()))))
    fun k4 => W.idx l z1.2.1 fun x5 => 
    W.loop (fun (z6 : Int × Bool × Int × Unit) again7 => 
     W.cnd (decide (z6.2.2.1 < (z1.1.length : Int))) (
      W.join (fun (z8 : Int × Bool × Unit) => (again7 (z8.1, (z8.2.1, ((IntKind.i64.wrap (z6.2.2.1 + 1)), ())))))
       fun k9 => 
       W.join (fun (z10 : Bool × Unit) => W.idx z1.1 z6.2.2.1 fun x11 => W.call (ref15_Less x11 x5.1) fun v12 => 
        W.cnd v12 ((k9 ((IntKind.i64.wrap (z6.2.2.1 + 1)), z10)))
         ((k9 (z6.1, z10))))
        fun k13 => 
        W.cnd z6.2.1 ((k13 (true, ())))
         (W.idx z1.1 z6.2.2.1 fun x14 => (k13 ((Go.Vc.notIf false ((x14.1 == x5.1.1) && (x14.2.1 == x5.1.2.1))), ()))))
      (
      W.cnd (!z6.2.1) (W.bnd z6.1 z1.1.length fun h15 => W.room (z1.1.take h15).length 16 (W.room ((z1.1.take h15).length + (x5.1 :: []).length) 16 (W.bnd z6.1 z1.1.length fun h16 => W.room (((z1.1.take h15) ++ (x5.1 :: [])).length + ((z1.1.take z1.1.length).drop h16).length) 16 ((k4 ((((z1.1.take h15) ++ (x5.1 :: [])) ++ ((z1.1.take z1.1.length).drop h16)), ()))))))
       ((k4 (z1.1, ())))))
     (0, (false, (0, ()))))
   (some z1.1))
  ([], (0, ()))
noncomputable def ref17_Units (l : List AFlow') : Option (List AUnit') := ref17_UnitsW stdW l
noncomputable def ref17_Units_s : ES := ⟨(.pair (.slc tAFlow) .unit), (.v (.slc tAUnit)), fun x => ref17_Units x.1⟩
theorem ref17_Units_ok : ECok Try.prog 60 (.es ref17_Units_s)   := es_ok (A := (.pair (.slc tAFlow) .unit)) (Q := (.v (.slc tAUnit))) (fun W x => ref17_UnitsW W x.1) [(57, .es ref15_Less_s)] ⟨ref15_Less_ok, trivial⟩ [(11, [], (ofL [(0, true), (1, true), (2, true), (3, true), (4, true), (5, true), (6, true), (7, true), (8, true), (9, true)])), (12, [], (ofL [(0, true), (1, true), (2, true), (3, true), (4, true), (5, false)]))] [(4, ⟨[(3, .t (.slc tAUnit))], [], []⟩), (10, ⟨[(6, .t (.int .i64)), (7, .t .bool)], [], []⟩), (12, ⟨[(7, .t .bool)], [], []⟩)] [(3, ⟨[(3, .t (.slc tAUnit)), (4, .t (.int .i64))], [], []⟩), (9, ⟨[(6, .t (.int .i64)), (7, .t .bool), (8, .t (.int .i64))], [], []⟩)] Try.func60 rfl (by decide +kernel) rfl rfl (fun W x => by kernel_rfl)
noncomputable def ref01_WithinW (W : Wd) (a : Novationref01Big') (n : Int) : Option Bool := 
 W.join (fun (z1 : Bool × List (Int) × Unit) => some (decide ((z1.2.1.length : Int) < n)))
  fun k2 => 
  W.cnd a.1 (W.both (W.call (ref01_Nat 1) fun v3 => W.call (ref01_Add (a.1, (a.2.1, ())) (v3.1, (v3.2.1, ()))) fun v4 => (k2 (v4.1, (v4.2.1, ())))) (W.call (ref01_Nat 1) fun v5 => W.call (ref01_Add (a.1, (a.2.1, ())) (v5.1, (v5.2.1, ()))) fun v6 => (k2 (v6.1, (v6.2.1, ())))))
   ((k2 (a.1, (a.2.1, ()))))
noncomputable def ref01_Within (a : Novationref01Big') (n : Int) : Option Bool := ref01_WithinW stdW a n
noncomputable def ref01_Within_s : ES := ⟨(.pair tNovationref01Big (.pair (.int .i64) .unit)), (.v .bool), fun x => ref01_Within x.1 x.2.1⟩
theorem ref01_Within_ok : ECok Try.prog 89 (.es ref01_Within_s)   := es_ok (A := (.pair tNovationref01Big (.pair (.int .i64) .unit))) (Q := (.v .bool)) (fun W x => ref01_WithinW W x.1 x.2.1) [(59, .es ref01_Nat_s), (58, .es ref01_Add_s)] ⟨ref01_Nat_ok, ref01_Add_ok, trivial⟩ [(2, [0], (.two 0 1 (ofL [(1, false), (2, false), (3, false)]) (ofL [(0, false), (2, false), (3, false)])))] [(3, ⟨[], [(0, [.t .bool, .t (.slc (.int .u8))])], []⟩)] [] Try.func89 rfl (by decide +kernel) rfl rfl (fun W x => by kernel_rfl)
noncomputable def ref01_FitsW (W : Wd) (a : Novationref01Big') : Option Bool := W.call (ref01_Within (a.1, (a.2.1, ())) 64) fun v1 => some v1
noncomputable def ref01_Fits (a : Novationref01Big') : Option Bool := ref01_FitsW stdW a
noncomputable def ref01_Fits_s : ES := ⟨(.pair tNovationref01Big .unit), (.v .bool), fun x => ref01_Fits x.1⟩
theorem ref01_Fits_ok : ECok Try.prog 61 (.es ref01_Fits_s)   := es_ok (A := (.pair tNovationref01Big .unit)) (Q := (.v .bool)) (fun W x => ref01_FitsW W x.1) [(89, .es ref01_Within_s)] ⟨ref01_Within_ok, trivial⟩ [] [] [] Try.func61 rfl (by decide +kernel) rfl rfl (fun W x => by kernel_rfl)
noncomputable def ref01_IntW (W : Wd) (a : Novationref01Big') : Option Int := 
 W.loop (fun (z1 : Int × Int × Unit) again2 => 
  W.cnd (decide (0 < z1.2.1)) (
   W.join (fun (z3 : Int × Unit) => (again2 (z3.1, ((IntKind.i64.wrap (z1.2.1 - 1)), ()))))
    fun k4 => 
    W.cnd a.1 (W.idx a.2.1 (IntKind.i64.wrap (z1.2.1 - 1)) fun x5 => (k4 ((IntKind.i64.wrap ((IntKind.i64.wrap (2 * z1.1)) - (IntKind.i64.wrap x5))), ())))
     (W.idx a.2.1 (IntKind.i64.wrap (z1.2.1 - 1)) fun x6 => (k4 ((IntKind.i64.wrap ((IntKind.i64.wrap (2 * z1.1)) + (IntKind.i64.wrap x6))), ()))))
   (some z1.1))
  (0, ((a.2.1.length : Int), ()))
noncomputable def ref01_Int (a : Novationref01Big') : Option Int := ref01_IntW stdW a
noncomputable def ref01_Int_s : ES := ⟨(.pair tNovationref01Big .unit), (.v (.int .i64)), fun x => ref01_Int x.1⟩
theorem ref01_Int_ok : ECok Try.prog 62 (.es ref01_Int_s)   := es_ok (A := (.pair tNovationref01Big .unit)) (Q := (.v (.int .i64))) (fun W x => ref01_IntW W x.1) [] trivial [] [(4, ⟨[(3, .t (.int .i64))], [], []⟩)] [(3, ⟨[(3, .t (.int .i64)), (4, .t (.int .i64))], [], []⟩)] Try.func62 rfl (by decide +kernel) rfl rfl (fun W x => by kernel_rfl)
noncomputable def ref17_PayW (W : Wd) (l : List AFlow') (flows : List AFlow') : Option ((List AFlow') × Int × Unit) := W.call (ref17_Is l) fun v1 => 
 W.cnd (!v1) (some ([], (3, ())))
  (W.room l.length 24 (W.room (l.length + flows.length) 24 (W.call (ref17_Units (l ++ flows)) fun v2 => 
  W.loop (fun (z3 : Int × List ((Int × Int × Unit) × Int × Unit) × Unit) again4 => 
   W.cnd (decide (z3.1 < (v2.length : Int))) (
    W.join (fun (z5 : List ((Int × Int × Unit) × Int × Unit) × Unit) => (again4 ((IntKind.i64.wrap (z3.1 + 1)), (z5.1, ()))))
     fun k6 => 
     W.loop (fun (z7 : Int × Bool × List (Int) × List ((Int × Int × Unit) × Int × Unit) × Unit) again8 => 
      W.cnd (decide (z7.1 < ((l ++ flows).length : Int))) (
       W.join (fun (z9 : Bool × List (Int) × List ((Int × Int × Unit) × Int × Unit) × Unit) => (again8 ((IntKind.i64.wrap (z7.1 + 1)), (z9.1, (z9.2.1, (z9.2.2.1, ()))))))
        fun k10 => W.idx (l ++ flows) z7.1 fun x11 => W.idx v2 z3.1 fun x12 => 
        W.cnd (Go.Vc.notIf false ((x11.1.1 == x12.1) && (x11.1.2.1 == x12.2.1))) (W.idx (l ++ flows) z7.1 fun x13 => W.both (W.call (ref01_Of x13.2.1) fun v14 => W.call (ref01_Add (z7.2.1, (z7.2.2.1, ())) (v14.1, (v14.2.1, ()))) fun v15 => (k10 (v15.1, (v15.2.1, (z7.2.2.2.1, ()))))) (W.call (ref01_Of x13.2.1) fun v16 => W.call (ref01_Add (z7.2.1, (z7.2.2.1, ())) (v16.1, (v16.2.1, ()))) fun v17 => (k10 (v17.1, (v17.2.1, (z7.2.2.2.1, ()))))))
         ((k10 (z7.2.1, (z7.2.2.1, (z7.2.2.2.1, ()))))))
       (W.call (ref01_Fits (z7.2.1, (z7.2.2.1, ()))) fun v18 => 
       W.cnd (!v18) (some ([], (7, ())))
        (W.call (ref01_Int (z7.2.1, (z7.2.2.1, ()))) fun v19 => 
        W.cnd (v19 != 0) (W.idx v2 z3.1 fun x20 => W.call (ref01_Int (z7.2.1, (z7.2.2.1, ()))) fun v21 => W.room (z7.2.2.2.1.length + ((x20, (v21, ())) :: []).length) 24 ((k6 ((z7.2.2.2.1 ++ ((x20, (v21, ())) :: [])), ()))))
         ((k6 (z7.2.2.2.1, ()))))))
      (0, (false, ([], (z3.2.1, ())))))
    (some (z3.2.1, (0, ()))))
   (0, ([], ())))))
noncomputable def ref17_Pay (l : List AFlow') (flows : List AFlow') : Option ((List AFlow') × Int × Unit) := ref17_PayW stdW l flows
noncomputable def ref17_Pay_s : ES := ⟨(.pair (.slc tAFlow) (.pair (.slc tAFlow) .unit)), (.pair (.own 27 tAFlow) (.pair (.v (.int .i64)) .unit)), fun x => ref17_Pay x.1 x.2.1⟩
theorem ref17_Pay_ok : ECok Try.prog 23 (.es ref17_Pay_s)   := es_ok (A := (.pair (.slc tAFlow) (.pair (.slc tAFlow) .unit))) (Q := (.pair (.own 27 tAFlow) (.pair (.v (.int .i64)) .unit))) (fun W x => ref17_PayW W x.1 x.2.1) [(17, .es ref17_Is_s), (60, .es ref17_Units_s), (43, .es ref01_Of_s), (58, .es ref01_Add_s), (61, .es ref01_Fits_s), (62, .es ref01_Int_s)] ⟨ref17_Is_ok, ref17_Units_ok, ref01_Of_ok, ref01_Add_ok, ref01_Fits_ok, ref01_Int_ok, trivial⟩ [(14, [], (ofL [(0, true), (1, true), (2, true), (3, true), (4, true), (5, true), (6, true), (7, true), (8, true), (9, true)])), (15, [0], (.rd 1 (.rd 2 (.rd 3 (.rd 4 (.rd 5 (.two 0 6 (ofL [(6, false), (7, false), (8, false)]) (ofL [(0, false), (7, false), (8, false)])))))))), (19, [], (ofL [(0, true), (1, true), (2, true), (3, true), (4, true), (5, true), (6, false), (7, true), (8, false), (9, false), (10, true)]))] [(9, ⟨[(7, .row 1)], [], [.dead, .own 27 tAFlow]⟩), (13, ⟨[(7, .row 1)], [(0, [.t .bool, .t (.slc (.int .u8))])], [.dead, .own 27 tAFlow]⟩)] [(8, ⟨[(7, .row 1), (9, .t (.int .i64))], [], [.dead, .own 27 tAFlow]⟩), (12, ⟨[(7, .row 1), (11, .t (.int .i64))], [(0, [.t .bool, .t (.slc (.int .u8))])], [.dead, .own 27 tAFlow]⟩)] Try.func23 rfl (by decide +kernel) rfl rfl (fun W x => by kernel_rfl)
noncomputable def ref13_priceW (W : Wd) (p : Int) : Option Bool := 
 W.cnd (decide (0 ≤ p)) (some (decide (p < 2147483648)))
  (some false)
noncomputable def ref13_price (p : Int) : Option Bool := ref13_priceW stdW p
noncomputable def ref13_price_s : ES := ⟨(.pair (.int .i64) .unit), (.v .bool), fun x => ref13_price x.1⟩
theorem ref13_price_ok : ECok Try.prog 134 (.es ref13_price_s)   := es_ok (A := (.pair (.int .i64) .unit)) (Q := (.v .bool)) (fun W x => ref13_priceW W x.1) [] trivial [] [] [] Try.func134 rfl (by decide +kernel) rfl rfl (fun W x => by kernel_rfl)
noncomputable def ref13_IsW (W : Wd) (i : AInst') : Option Bool := 
 W.join (fun (z1 : Bool × Unit) => 
  W.cnd z1.1 (some false)
   (
   W.loop (fun (z2 : Int × Unit) again3 => 
    W.cnd (decide (z2.1 < (i.2.2.2.2.1.length : Int))) (
     W.join (fun (z4 : Bool × Unit) => 
      W.cnd z4.1 (some false)
       ((again3 ((IntKind.i64.wrap (z2.1 + 1)), ()))))
      fun k5 => W.idx i.2.2.2.2.1 z2.1 fun x6 => 
      W.cnd (decide (x6 < (-2147483647))) ((k5 (true, ())))
       (W.idx i.2.2.2.2.1 z2.1 fun x7 => (k5 ((decide (2147483647 < x7)), ()))))
     (some true))
    (0, ())))
  fun k8 => 
  W.cnd (decide (i.1 < 1)) ((k8 (true, ())))
   (
   W.cnd (decide (8 < i.1)) ((k8 (true, ())))
    (
    W.cnd (decide (i.2.1 < 1)) ((k8 (true, ())))
     (
     W.cnd (decide (65536 < i.2.1)) ((k8 (true, ())))
      (W.call (ref13_price i.2.2.1) fun v9 => 
      W.cnd (!v9) ((k8 (true, ())))
       (W.call (ref13_price i.2.2.2.1) fun v10 => 
       W.cnd (!v10) ((k8 (true, ())))
        ((k8 ((decide (8 < (i.2.2.2.2.1.length : Int))), ()))))))))
noncomputable def ref13_Is (i : AInst') : Option Bool := ref13_IsW stdW i
noncomputable def ref13_Is_s : ES := ⟨(.pair tAInst .unit), (.v .bool), fun x => ref13_Is x.1⟩
theorem ref13_Is_ok : ECok Try.prog 106 (.es ref13_Is_s)   := es_ok (A := (.pair tAInst .unit)) (Q := (.v .bool)) (fun W x => ref13_IsW W x.1) [(134, .es ref13_price_s)] ⟨ref13_price_ok, trivial⟩ [] [(500039, ⟨[(39, .t .bool)], [], []⟩), (500060, ⟨[(60, .t .bool)], [], []⟩)] [(4, ⟨[(3, .t (.int .i64))], [], []⟩)] Try.func106 rfl (by decide +kernel) rfl rfl (fun W x => by kernel_rfl)
noncomputable def ref13_FindW (W : Wd) (l : List AInst') (id : Int) : Option (AInst' × Bool × Unit) := 
 W.loop (fun (z1 : Int × Unit) again2 => 
  W.cnd (decide (z1.1 < (l.length : Int))) (W.idx l z1.1 fun x3 => 
   W.cnd (x3.1 == id) (W.idx l z1.1 fun x4 => some ((x4.1, (x4.2.1, (x4.2.2.1, (x4.2.2.2.1, (x4.2.2.2.2.1, ()))))), (true, ())))
    ((again2 ((IntKind.i64.wrap (z1.1 + 1)), ()))))
   (some ((0, (0, (0, (0, ([], ()))))), (false, ()))))
  (0, ())
noncomputable def ref13_Find (l : List AInst') (id : Int) : Option (AInst' × Bool × Unit) := ref13_FindW stdW l id
noncomputable def ref13_Find_s : ES := ⟨(.pair (.slc tAInst) (.pair (.int .i64) .unit)), (.pair (.v tAInst) (.pair (.v .bool) .unit)), fun x => ref13_Find x.1 x.2.1⟩
theorem ref13_Find_ok : ECok Try.prog 95 (.es ref13_Find_s)   := es_ok (A := (.pair (.slc tAInst) (.pair (.int .i64) .unit))) (Q := (.pair (.v tAInst) (.pair (.v .bool) .unit))) (fun W x => ref13_FindW W x.1 x.2.1) [] trivial [] [] [(2, ⟨[(6, .t (.int .i64))], [], []⟩)] Try.func95 rfl (by decide +kernel) rfl rfl (fun W x => by kernel_rfl)
noncomputable def ref13_PutW (W : Wd) (l : List AInst') (i : AInst') : Option ((List AInst') × Int × Unit) := W.call (ref13_Is (i.1, (i.2.1, (i.2.2.1, (i.2.2.2.1, (i.2.2.2.2.1, ())))))) fun v1 => 
 W.cnd (!v1) (some ([], (2, ())))
  (W.call (ref13_Find l i.1) fun v2 => 
  W.cnd v2.2.1 (some ([], (12, ())))
   (
   W.join (fun (z3 : Int × Unit) => W.bnd z3.1 l.length fun h4 => W.room (l.take h4).length 56 (W.room ((l.take h4).length + ((i.1, (i.2.1, (i.2.2.1, (i.2.2.2.1, (i.2.2.2.2.1, ()))))) :: []).length) 56 (W.bnd z3.1 l.length fun h5 => W.room (((l.take h4) ++ ((i.1, (i.2.1, (i.2.2.1, (i.2.2.2.1, (i.2.2.2.2.1, ()))))) :: [])).length + ((l.take l.length).drop h5).length) 56 (some ((((l.take h4) ++ ((i.1, (i.2.1, (i.2.2.1, (i.2.2.2.1, (i.2.2.2.2.1, ()))))) :: [])) ++ ((l.take l.length).drop h5)), (0, ()))))))
    fun k6 => 
    W.loop (fun (z7 : Int × Unit) again8 => 
     W.cnd (decide (z7.1 < (l.length : Int))) (W.idx l z7.1 fun x9 => 
      W.cnd (decide (x9.1 < i.1)) ((again8 ((IntKind.i64.wrap (z7.1 + 1)), ())))
       ((k6 z7)))
      ((k6 z7)))
     (0, ())))
noncomputable def ref13_Put (l : List AInst') (i : AInst') : Option ((List AInst') × Int × Unit) := ref13_PutW stdW l i
noncomputable def ref13_Put_s : ES := ⟨(.pair (.slc tAInst) (.pair tAInst .unit)), (.pair (.own 67 tAInst) (.pair (.v (.int .i64)) .unit)), fun x => ref13_Put x.1 x.2.1⟩
theorem ref13_Put_ok : ECok Try.prog 91 (.es ref13_Put_s)   := es_ok (A := (.pair (.slc tAInst) (.pair tAInst .unit))) (Q := (.pair (.own 67 tAInst) (.pair (.v (.int .i64)) .unit))) (fun W x => ref13_PutW W x.1 x.2.1) [(106, .es ref13_Is_s), (95, .es ref13_Find_s)] ⟨ref13_Is_ok, ref13_Find_ok, trivial⟩ [(8, [], (ofL [(0, true), (1, true), (2, true), (3, true), (4, true), (5, true), (6, true), (7, true), (8, true), (9, true), (10, true), (11, true), (12, true), (13, true)]))] [(10, ⟨[(9, .t (.int .i64))], [], []⟩)] [(8, ⟨[(9, .t (.int .i64))], [], []⟩)] Try.func91 rfl (by decide +kernel) rfl rfl (fun W x => by kernel_rfl)
noncomputable def ref13_TableW (W : Wd) (l : List AInst') : Option (List AInst') := 
 W.join (fun (z1 : List (Int × Int × Int × Int × List (Int) × Unit) × Unit) => some z1.1)
  fun k2 => 
  W.loop (fun (z3 : List (Int × Int × Int × Int × List (Int) × Unit) × Int × Unit) again4 => 
   W.cnd (decide (z3.2.1 < (l.length : Int))) (
    W.cnd (decide (z3.2.1 < 10)) (
     W.join (fun (z5 : List (Int × Int × Int × Int × List (Int) × Unit) × Unit) => (again4 (z5.1, ((IntKind.i64.wrap (z3.2.1 + 1)), ()))))
      fun k6 => W.idx l z3.2.1 fun x7 => W.call (ref13_Put z3.1 (x7.1, (x7.2.1, (x7.2.2.1, (x7.2.2.2.1, (x7.2.2.2.2.1, ())))))) fun v8 => 
      W.cnd (v8.2.1 == 0) ((k6 (v8.1, ())))
       ((k6 (z3.1, ()))))
     ((k2 (z3.1, ()))))
    ((k2 (z3.1, ()))))
   ([], (0, ()))
noncomputable def ref13_Table (l : List AInst') : Option (List AInst') := ref13_TableW stdW l
noncomputable def ref13_Table_s : ES := ⟨(.pair (.slc tAInst) .unit), (.v (.slc tAInst)), fun x => ref13_Table x.1⟩
theorem ref13_Table_ok : ECok Try.prog 64 (.es ref13_Table_s)   := es_ok (A := (.pair (.slc tAInst) .unit)) (Q := (.v (.slc tAInst))) (fun W x => ref13_TableW W x.1) [(91, .es ref13_Put_s)] ⟨ref13_Put_ok, trivial⟩ [] [(4, ⟨[(3, .t (.slc tAInst))], [], []⟩), (8, ⟨[(3, .t (.slc tAInst))], [], []⟩)] [(3, ⟨[(3, .t (.slc tAInst)), (4, .t (.int .i64))], [], []⟩)] Try.func64 rfl (by decide +kernel) rfl rfl (fun W x => by kernel_rfl)
noncomputable def law20_InstsW (W : Wd) (l : List AInst') : Option (List AInst') := 
 W.join (fun (z1 : List (Int × Int × Int × Int × List (Int) × Unit) × Unit) => W.call (ref13_Table z1.1) fun v2 => some v2)
  fun k3 => 
  W.loop (fun (z4 : Int × List (Int × Int × Int × Int × List (Int) × Unit) × Unit) again5 => 
   W.cnd (decide (z4.1 < (l.length : Int))) (
    W.cnd (decide (z4.1 < 10)) (W.idx l z4.1 fun x6 => 
     W.join (fun (z7 : Int × Int × Int × Int × List (Int) × List (Int × Int × Int × Int × List (Int) × Unit) × Unit) => W.room (z7.2.2.2.2.2.1.length + ((z7.1, (z7.2.1, (z7.2.2.1, (z7.2.2.2.1, (z7.2.2.2.2.1, ()))))) :: []).length) 56 ((again5 ((IntKind.i64.wrap (z4.1 + 1)), ((z7.2.2.2.2.2.1 ++ ((z7.1, (z7.2.1, (z7.2.2.1, (z7.2.2.2.1, (z7.2.2.2.2.1, ()))))) :: [])), ())))))
      fun k8 => 
      W.cnd (decide (9 < (x6.2.2.2.2.1.length : Int))) (W.bnd 9 x6.2.2.2.2.1.length fun h9 => (k8 (x6.1, (x6.2.1, (x6.2.2.1, (x6.2.2.2.1, ((x6.2.2.2.2.1.take h9), (z4.2.1, ()))))))))
       ((k8 (x6.1, (x6.2.1, (x6.2.2.1, (x6.2.2.2.1, (x6.2.2.2.2.1, (z4.2.1, ())))))))))
     ((k3 (z4.2.1, ()))))
    ((k3 (z4.2.1, ()))))
   (0, ([], ()))
noncomputable def law20_Insts (l : List AInst') : Option (List AInst') := law20_InstsW stdW l
noncomputable def law20_Insts_s : ES := ⟨(.pair (.slc tAInst) .unit), (.v (.slc tAInst)), fun x => law20_Insts x.1⟩
theorem law20_Insts_ok : ECok Try.prog 25 (.es law20_Insts_s)   := es_ok (A := (.pair (.slc tAInst) .unit)) (Q := (.v (.slc tAInst))) (fun W x => law20_InstsW W x.1) [(64, .es ref13_Table_s)] ⟨ref13_Table_ok, trivial⟩ [] [(8, ⟨[(3, .row 1)], [(0, [.t (.int .i64), .t (.int .i64), .t (.int .i64), .t (.int .i64), .t (.slc (.int .i64))])], [.dead, .own 67 tAInst]⟩), (9, ⟨[(3, .row 1)], [], [.dead, .own 67 tAInst]⟩)] [(3, ⟨[(3, .row 1), (4, .t (.int .i64))], [], [.dead, .own 67 tAInst]⟩)] Try.func25 rfl (by decide +kernel) rfl rfl (fun W x => by kernel_rfl)
noncomputable def law11_FewW (W : Wd) (l : List AUnit') : Option (List AUnit') := 
 W.cnd (decide (12 < (l.length : Int))) (W.bnd 12 l.length fun h1 => some (l.take h1))
  (some l)
noncomputable def law11_Few (l : List AUnit') : Option (List AUnit') := law11_FewW stdW l
noncomputable def law11_Few_s : ES := ⟨(.pair (.slc tAUnit) .unit), (.v (.slc tAUnit)), fun x => law11_Few x.1⟩
theorem law11_Few_ok : ECok Try.prog 26 (.es law11_Few_s)   := es_ok (A := (.pair (.slc tAUnit) .unit)) (Q := (.v (.slc tAUnit))) (fun W x => law11_FewW W x.1) [] trivial [] [] [] Try.func26 rfl (by decide +kernel) rfl rfl (fun W x => by kernel_rfl)
noncomputable def law19_FewW (W : Wd) (l : List APos') : Option (List APos') := 
 W.join (fun (z1 : List ((Int × Int × Unit) × List (Int × Int × Unit) × Unit) × Unit) => some z1.1)
  fun k2 => 
  W.loop (fun (z3 : Int × List ((Int × Int × Unit) × List (Int × Int × Unit) × Unit) × Unit) again4 => 
   W.cnd (decide (z3.1 < (l.length : Int))) (
    W.cnd (decide (z3.1 < 12)) (W.idx l z3.1 fun x5 => W.idx l z3.1 fun x6 => W.call (law11_Few x6.2.1) fun v7 => W.room (z3.2.1.length + ((x5.1, (v7, ())) :: []).length) 40 ((again4 ((IntKind.i64.wrap (z3.1 + 1)), ((z3.2.1 ++ ((x5.1, (v7, ())) :: [])), ())))))
     ((k2 (z3.2.1, ()))))
    ((k2 (z3.2.1, ()))))
   (0, ([], ()))
noncomputable def law19_Few (l : List APos') : Option (List APos') := law19_FewW stdW l
noncomputable def law19_Few_s : ES := ⟨(.pair (.slc tAPos) .unit), (.own 103 tAPos), fun x => law19_Few x.1⟩
theorem law19_Few_ok : ECok Try.prog 27 (.es law19_Few_s)   := es_ok (A := (.pair (.slc tAPos) .unit)) (Q := (.own 103 tAPos)) (fun W x => law19_FewW W x.1) [(26, .es law11_Few_s)] ⟨law11_Few_ok, trivial⟩ [(5, [], (ofL [(0, true), (1, true), (2, true), (3, true), (4, true), (5, true), (6, true), (7, true), (8, true), (9, true), (10, true), (11, false), (12, true), (13, false), (14, false), (15, true)]))] [(6, ⟨[(3, .row 1)], [], [.dead, .own 103 tAPos]⟩)] [(3, ⟨[(3, .row 1), (4, .t (.int .i64))], [], [.dead, .own 103 tAPos]⟩)] Try.func27 rfl (by decide +kernel) rfl rfl (fun W x => by kernel_rfl)
noncomputable def vec_IsW (W : Wd) (l : List AUnit') : Option Bool := 
 W.loop (fun (z1 : Int × Int × Unit) again2 => 
  W.cnd (decide (z1.2.1 < (l.length : Int))) (W.idx l z1.2.1 fun x3 => 
   W.join (fun (z4 : Bool × Unit) => 
    W.cnd z4.1 (some false)
     ((again2 (x3.1, ((IntKind.i64.wrap (z1.2.1 + 1)), ())))))
    fun k5 => 
    W.cnd (decide (x3.1 ≤ z1.1)) ((k5 (true, ())))
     (
     W.cnd (decide (8 < x3.1)) ((k5 (true, ())))
      ((k5 ((x3.2.1 == 0), ())))))
   (some true))
  (0, (0, ()))
noncomputable def vec_Is (l : List AUnit') : Option Bool := vec_IsW stdW l
noncomputable def vec_Is_s : ES := ⟨(.pair (.slc tAUnit) .unit), (.v .bool), fun x => vec_Is x.1⟩
theorem vec_Is_ok : ECok Try.prog 65 (.es vec_Is_s)   := es_ok (A := (.pair (.slc tAUnit) .unit)) (Q := (.v .bool)) (fun W x => vec_IsW W x.1) [] trivial [] [(500025, ⟨[(25, .t .bool)], [], []⟩)] [(3, ⟨[(3, .t (.int .i64)), (8, .t (.int .i64))], [], []⟩)] Try.func65 rfl (by decide +kernel) rfl rfl (fun W x => by kernel_rfl)
noncomputable def inst_at_1W (W : Wd) (i : AInst') (free10 : Int) : Option (Bool × (Int × Unit)) := some ((i.1 == free10), (free10, ()))
noncomputable def inst_at_1 (i : AInst') (free10 : Int) : Option (Bool × (Int × Unit)) := inst_at_1W stdW i free10
noncomputable def inst_at_1_s : LS := ⟨[.v tAInst, .ptr], [⟨3, [.v (.int .i64)]⟩], [⟨3, [.v (.int .i64)]⟩], (.q (.v .bool)), fun x => inst_at_1 x.1 x.2.1⟩
theorem inst_at_1_ok : ECok Try.prog 136 (.ls inst_at_1_s)   := ls_ok (A := [.v tAInst, .ptr]) (B := [⟨3, [.v (.int .i64)]⟩]) (E := [⟨3, [.v (.int .i64)]⟩]) (Q := (.q (.v .bool))) (fun W x => inst_at_1W W x.1 x.2.1) [] trivial [] [] [] Try.func136 rfl (by decide +kernel) rfl rfl rfl rfl rfl (fun W x => by kernel_rfl)
noncomputable def slices_IndexFuncapi_Inst_api_Inst_inst_at_1W (W : Wd) (s : List AInst') (f0_0 : Int) : Option (Int × (Int × Unit)) := 
 W.loop (fun (z1 : Int × Int × Unit) again2 => 
  W.cnd (decide (z1.1 < (s.length : Int))) (W.idx s z1.1 fun x3 => W.call (inst_at_1 (x3.1, (x3.2.1, (x3.2.2.1, (x3.2.2.2.1, (x3.2.2.2.2.1, ()))))) z1.2.1) fun v4 => 
   W.cnd v4.1 (some (z1.1, v4.2))
    ((again2 ((IntKind.i64.wrap (z1.1 + 1)), v4.2))))
   (some ((-1), z1.2)))
  (0, (f0_0, ()))
noncomputable def slices_IndexFuncapi_Inst_api_Inst_inst_at_1 (s : List AInst') (f0_0 : Int) : Option (Int × (Int × Unit)) := slices_IndexFuncapi_Inst_api_Inst_inst_at_1W stdW s f0_0
noncomputable def slices_IndexFuncapi_Inst_api_Inst_inst_at_1_s : LS := ⟨[.v (.slc tAInst), .fn 136 1], [⟨3, [.v (.int .i64)]⟩], [⟨3, [.v (.int .i64)]⟩], (.q (.v (.int .i64))), fun x => slices_IndexFuncapi_Inst_api_Inst_inst_at_1 x.1 x.2.1⟩
theorem slices_IndexFuncapi_Inst_api_Inst_inst_at_1_ok : ECok Try.prog 135 (.ls slices_IndexFuncapi_Inst_api_Inst_inst_at_1_s)   := ls_ok (A := [.v (.slc tAInst), .fn 136 1]) (B := [⟨3, [.v (.int .i64)]⟩]) (E := [⟨3, [.v (.int .i64)]⟩]) (Q := (.q (.v (.int .i64)))) (fun W x => slices_IndexFuncapi_Inst_api_Inst_inst_at_1W W x.1 x.2.1) [(136, .ls inst_at_1_s)] ⟨inst_at_1_ok, trivial⟩ [] [] [(2, ⟨[(8, .t (.int .i64))], [(0, [.t (.int .i64)])], []⟩)] Try.func135 rfl (by decide +kernel) rfl rfl rfl rfl rfl (fun W x => by kernel_rfl)
noncomputable def inst_atW (W : Wd) (l : List AInst') (id : Int) : Option Int := W.call (slices_IndexFuncapi_Inst_api_Inst_inst_at_1 l id) fun v1 => some v1.1
noncomputable def inst_at (l : List AInst') (id : Int) : Option Int := inst_atW stdW l id
noncomputable def inst_at_s : ES := ⟨(.pair (.slc tAInst) (.pair (.int .i64) .unit)), (.v (.int .i64)), fun x => inst_at x.1 x.2.1⟩
theorem inst_at_ok : ECok Try.prog 107 (.es inst_at_s)   := es_ok (A := (.pair (.slc tAInst) (.pair (.int .i64) .unit))) (Q := (.v (.int .i64))) (fun W x => inst_atW W x.1 x.2.1) [(135, .ls slices_IndexFuncapi_Inst_api_Inst_inst_at_1_s)] ⟨slices_IndexFuncapi_Inst_api_Inst_inst_at_1_ok, trivial⟩ [] [] [] Try.func107 rfl (by decide +kernel) rfl rfl (fun W x => by kernel_rfl)
noncomputable def slices_Cloneint64_int64W (W : Wd) (s : List Int) : Option (List Int) := W.nilq (List.isEmpty s) fun g1 => 
 W.cnd (Go.Vc.notIf false g1) (some [])
  (W.room ((0 : Nat) + s.length) 8 (some ([] ++ s)))
noncomputable def slices_Cloneint64_int64 (s : List Int) : Option (List Int) := slices_Cloneint64_int64W stdW s
noncomputable def slices_Cloneint64_int64_s : ES := ⟨(.pair (.slc (.int .i64)) .unit), (.own 2 (.int .i64)), fun x => slices_Cloneint64_int64 x.1⟩
theorem slices_Cloneint64_int64_ok : ECok Try.prog 137 (.es slices_Cloneint64_int64_s)   := es_ok (A := (.pair (.slc (.int .i64)) .unit)) (Q := (.own 2 (.int .i64))) (fun W x => slices_Cloneint64_int64W W x.1) [] trivial [] [] [] Try.func137 rfl (by decide +kernel) rfl rfl (fun W x => by kernel_rfl)
noncomputable def inst_ownW (W : Wd) (i : AInst') : Option AInst' := W.call (slices_Cloneint64_int64 i.2.2.2.2.1) fun v1 => some (i.1, (i.2.1, (i.2.2.1, (i.2.2.2.1, (v1, ())))))
noncomputable def inst_own (i : AInst') : Option AInst' := inst_ownW stdW i
noncomputable def inst_own_s : ES := ⟨(.pair tAInst .unit), (.v tAInst), fun x => inst_own x.1⟩
theorem inst_own_ok : ECok Try.prog 108 (.es inst_own_s)   := es_ok (A := (.pair tAInst .unit)) (Q := (.v tAInst)) (fun W x => inst_ownW W x.1) [(137, .es slices_Cloneint64_int64_s)] ⟨slices_Cloneint64_int64_ok, trivial⟩ [] [] [] Try.func108 rfl (by decide +kernel) rfl rfl (fun W x => by kernel_rfl)
noncomputable def inst_FindW (W : Wd) (l : List AInst') (id : Int) : Option (AInst' × Bool × Unit) := W.call (inst_at l id) fun v1 => 
 W.cnd (decide (v1 < 0)) (some ((0, (0, (0, (0, ([], ()))))), (false, ())))
  (W.idx l v1 fun x2 => W.call (inst_own (x2.1, (x2.2.1, (x2.2.2.1, (x2.2.2.2.1, (x2.2.2.2.2.1, ())))))) fun v3 => some ((v3.1, (v3.2.1, (v3.2.2.1, (v3.2.2.2.1, (v3.2.2.2.2.1, ()))))), (true, ())))
noncomputable def inst_Find (l : List AInst') (id : Int) : Option (AInst' × Bool × Unit) := inst_FindW stdW l id
noncomputable def inst_Find_s : ES := ⟨(.pair (.slc tAInst) (.pair (.int .i64) .unit)), (.pair (.v tAInst) (.pair (.v .bool) .unit)), fun x => inst_Find x.1 x.2.1⟩
theorem inst_Find_ok : ECok Try.prog 92 (.es inst_Find_s)   := es_ok (A := (.pair (.slc tAInst) (.pair (.int .i64) .unit))) (Q := (.pair (.v tAInst) (.pair (.v .bool) .unit))) (fun W x => inst_FindW W x.1 x.2.1) [(107, .es inst_at_s), (108, .es inst_own_s)] ⟨inst_at_ok, inst_own_ok, trivial⟩ [] [] [] Try.func92 rfl (by decide +kernel) rfl rfl (fun W x => by kernel_rfl)
noncomputable def wide_Wide_belowW (W : Wd) (w : WideWide') : Option Bool := some (decide (w.1 < 0))
noncomputable def wide_Wide_below (w : WideWide') : Option Bool := wide_Wide_belowW stdW w
noncomputable def wide_Wide_below_s : ES := ⟨(.pair tWideWide .unit), (.v .bool), fun x => wide_Wide_below x.1⟩
theorem wide_Wide_below_ok : ECok Try.prog 112 (.es wide_Wide_below_s)   := es_ok (A := (.pair tWideWide .unit)) (Q := (.v .bool)) (fun W x => wide_Wide_belowW W x.1) [] trivial [] [] [] Try.func112 rfl (by decide +kernel) rfl rfl (fun W x => by kernel_rfl)
noncomputable def wide_Wide_sizeW (W : Wd) (w : WideWide') : Option WideSize' := W.call (wide_Wide_below w) fun v1 => 
 W.cnd (!v1) (some ((IntKind.u64.wrap w.1), w.2))
  (W.call (sub64 0 w.2.1 0) fun v2 => W.call (sub64 0 (IntKind.u64.wrap w.1) v2.2.1) fun v3 => some (v3.1, (v2.1, ())))
noncomputable def wide_Wide_size (w : WideWide') : Option WideSize' := wide_Wide_sizeW stdW w
noncomputable def wide_Wide_size_s : ES := ⟨(.pair tWideWide .unit), (.v tWideSize), fun x => wide_Wide_size x.1⟩
theorem wide_Wide_size_ok : ECok Try.prog 109 (.es wide_Wide_size_s)   := es_ok (A := (.pair tWideWide .unit)) (Q := (.v tWideSize)) (fun W x => wide_Wide_sizeW W x.1) [(112, .es wide_Wide_below_s), (138, .es sub64_s)] ⟨wide_Wide_below_ok, sub64_ok, trivial⟩ [] [] [] Try.func109 rfl (by decide +kernel) rfl rfl (fun W x => by kernel_rfl)
noncomputable def math_bits_Mul64W (W : Wd) (x : Int) (y : Int) : Option (Int × Int × Unit) := W.nn 32 (W.nn 32 (W.nn 32 (W.nn 32 (W.nn 32 (some ((IntKind.u64.wrap ((IntKind.u64.wrap ((IntKind.u64.wrap ((Int.fdiv x (2 ^ (Min.min (Int.toNat 32) (Go.IntKind.bits Go.IntKind.u64)))) * (Int.fdiv y (2 ^ (Min.min (Int.toNat 32) (Go.IntKind.bits Go.IntKind.u64)))))) + (Int.fdiv (IntKind.u64.wrap ((IntKind.u64.wrap ((Int.fdiv x (2 ^ (Min.min (Int.toNat 32) (Go.IntKind.bits Go.IntKind.u64)))) * (Go.bits Go.BinOp.and Go.IntKind.u64 y 4294967295))) + (Int.fdiv (IntKind.u64.wrap ((Go.bits Go.BinOp.and Go.IntKind.u64 x 4294967295) * (Go.bits Go.BinOp.and Go.IntKind.u64 y 4294967295))) (2 ^ (Min.min (Int.toNat 32) (Go.IntKind.bits Go.IntKind.u64)))))) (2 ^ (Min.min (Int.toNat 32) (Go.IntKind.bits Go.IntKind.u64)))))) + (Int.fdiv (IntKind.u64.wrap ((Go.bits Go.BinOp.and Go.IntKind.u64 (IntKind.u64.wrap ((IntKind.u64.wrap ((Int.fdiv x (2 ^ (Min.min (Int.toNat 32) (Go.IntKind.bits Go.IntKind.u64)))) * (Go.bits Go.BinOp.and Go.IntKind.u64 y 4294967295))) + (Int.fdiv (IntKind.u64.wrap ((Go.bits Go.BinOp.and Go.IntKind.u64 x 4294967295) * (Go.bits Go.BinOp.and Go.IntKind.u64 y 4294967295))) (2 ^ (Min.min (Int.toNat 32) (Go.IntKind.bits Go.IntKind.u64)))))) 4294967295) + (IntKind.u64.wrap ((Go.bits Go.BinOp.and Go.IntKind.u64 x 4294967295) * (Int.fdiv y (2 ^ (Min.min (Int.toNat 32) (Go.IntKind.bits Go.IntKind.u64)))))))) (2 ^ (Min.min (Int.toNat 32) (Go.IntKind.bits Go.IntKind.u64)))))), ((IntKind.u64.wrap (x * y)), ())))))))
noncomputable def math_bits_Mul64 (x : Int) (y : Int) : Option (Int × Int × Unit) := math_bits_Mul64W stdW x y
noncomputable def math_bits_Mul64_s : ES := ⟨(.pair (.int .u64) (.pair (.int .u64) .unit)), (.pair (.v (.int .u64)) (.pair (.v (.int .u64)) .unit)), fun x => math_bits_Mul64 x.1 x.2.1⟩
theorem math_bits_Mul64_ok : ECok Try.prog 110 (.es math_bits_Mul64_s)   := es_ok (A := (.pair (.int .u64) (.pair (.int .u64) .unit))) (Q := (.pair (.v (.int .u64)) (.pair (.v (.int .u64)) .unit))) (fun W x => math_bits_Mul64W W x.1 x.2.1) [] trivial [] [] [] Try.func110 rfl (by decide +kernel) rfl rfl (fun W x => by kernel_rfl)
noncomputable def wide_size_signedW (W : Wd) (s : WideSize') (minus : Bool) : Option (WideWide' × Bool × Unit) := 
 W.cnd (!minus) (some (((IntKind.i64.wrap s.1), s.2), ((decide (s.1 < 9223372036854775808)), ())))
  (W.call (sub64 0 s.2.1 0) fun v1 => W.call (sub64 0 s.1 v1.2.1) fun v2 => 
  W.cnd (decide (s.1 < 9223372036854775808)) (some (((IntKind.i64.wrap v2.1), (v1.1, ())), (true, ())))
   (
   W.cnd (s.1 == 9223372036854775808) (some (((IntKind.i64.wrap v2.1), (v1.1, ())), ((s.2.1 == 0), ())))
    (some (((IntKind.i64.wrap v2.1), (v1.1, ())), (false, ())))))
noncomputable def wide_size_signed (s : WideSize') (minus : Bool) : Option (WideWide' × Bool × Unit) := wide_size_signedW stdW s minus
noncomputable def wide_size_signed_s : ES := ⟨(.pair tWideSize (.pair .bool .unit)), (.pair (.v tWideWide) (.pair (.v .bool) .unit)), fun x => wide_size_signed x.1 x.2.1⟩
theorem wide_size_signed_ok : ECok Try.prog 111 (.es wide_size_signed_s)   := es_ok (A := (.pair tWideSize (.pair .bool .unit))) (Q := (.pair (.v tWideWide) (.pair (.v .bool) .unit))) (fun W x => wide_size_signedW W x.1 x.2.1) [(138, .es sub64_s)] ⟨sub64_ok, trivial⟩ [(2, [1], (ofL [(0, true), (1, true), (2, true), (3, true), (4, true), (5, true), (6, true), (7, true), (8, true), (9, false), (10, true)])), (5, [1], (ofL [(0, true), (1, true), (2, true), (3, true), (4, true), (5, true), (6, true), (7, true), (8, true), (9, true), (10, true), (11, true), (12, true), (13, true), (14, true), (15, true), (16, true), (17, false), (18, true)]))] [] [] Try.func111 rfl (by decide +kernel) rfl rfl (fun W x => by kernel_rfl)
noncomputable def wide_MulW (W : Wd) (a : Int) (b : Int) : Option WideWide' := W.call (wide_Of a) fun v1 => W.call (wide_Of b) fun v2 => W.call (wide_Wide_size v1) fun v3 => W.call (wide_Wide_size v2) fun v4 => W.call (math_bits_Mul64 v3.2.1 v4.2.1) fun v5 => W.both (W.call (wide_Wide_below v1) fun v6 => W.both (W.call (wide_Wide_below v2) fun v7 => W.both (W.call (wide_size_signed v5 (Go.Vc.notIf true (v6 == v7))) fun v8 => some v8.1) (W.call (wide_size_signed v5 (Go.Vc.notIf true (v6 == v7))) fun v9 => some v9.1)) (W.call (wide_Wide_below v2) fun v10 => W.call (wide_size_signed v5 (Go.Vc.notIf true (v6 == v10))) fun v11 => some v11.1)) (W.call (wide_Wide_below v1) fun v12 => W.call (wide_Wide_below v2) fun v13 => W.call (wide_size_signed v5 (Go.Vc.notIf true (v12 == v13))) fun v14 => some v14.1)
noncomputable def wide_Mul (a : Int) (b : Int) : Option WideWide' := wide_MulW stdW a b
noncomputable def wide_Mul_s : ES := ⟨(.pair (.int .i64) (.pair (.int .i64) .unit)), (.v tWideWide), fun x => wide_Mul x.1 x.2.1⟩
theorem wide_Mul_ok : ECok Try.prog 94 (.es wide_Mul_s)   := es_ok (A := (.pair (.int .i64) (.pair (.int .i64) .unit))) (Q := (.v tWideWide)) (fun W x => wide_MulW W x.1 x.2.1) [(54, .es wide_Of_s), (109, .es wide_Wide_size_s), (110, .es math_bits_Mul64_s), (112, .es wide_Wide_below_s), (111, .es wide_size_signed_s)] ⟨wide_Of_ok, wide_Wide_size_ok, math_bits_Mul64_ok, wide_Wide_below_ok, wide_size_signed_ok, trivial⟩ [(2, [], (ofL [(0, true), (3, true), (1, false), (2, true), (4, false), (5, true), (6, false), (7, true), (8, true), (9, true), (10, true), (11, true)])), (3, [], (.rd 0 (.rd 1 (.rd 2 (.rd 3 (.rd 5 (.two 4 12 (.two 6 12 (.rd 7 (.two 8 12 (ofL [(9, true), (10, true), (11, true), (12, false), (13, false), (14, true)]) (ofL [(8, false), (9, true), (10, true), (11, true), (13, false), (14, true)]))) (ofL [(6, false), (7, true), (8, false), (9, true), (10, true), (11, true), (13, false), (14, true)])) (ofL [(4, false), (6, false), (7, true), (8, false), (9, true), (10, true), (11, true), (13, false), (14, true)]))))))))] [] [] Try.func94 rfl (by decide +kernel) rfl rfl (fun W x => by kernel_rfl)
noncomputable def wide_TimesW (W : Wd) (w : WideWide') (n : Int) : Option (WideWide' × Int × Unit) := W.call (wide_Wide_size w) fun v1 => W.call (wide_Of n) fun v2 => W.call (wide_Wide_size v2) fun v3 => W.call (math_bits_Mul64 v1.1 v3.2.1) fun v4 => W.call (math_bits_Mul64 v1.2.1 v3.2.1) fun v5 => W.call (add64 v4.2.1 v5.1 0) fun v6 => W.call (wide_Wide_below w) fun v7 => W.call (wide_size_signed (v6.1, v5.2) (Go.Vc.notIf true (v7 == (decide (n < 0))))) fun v8 => 
 W.cnd v8.2.1 (
  W.cnd (v4.1 == 0) (W.call (wide_ranged v8.1 (v6.2.1 == 0)) fun v9 => some v9)
   (W.call (wide_ranged v8.1 false) fun v10 => some v10))
  (W.call (wide_ranged v8.1 false) fun v11 => some v11)
noncomputable def wide_Times (w : WideWide') (n : Int) : Option (WideWide' × Int × Unit) := wide_TimesW stdW w n
noncomputable def wide_Times_s : ES := ⟨(.pair tWideWide (.pair (.int .i64) .unit)), (.pair (.v tWideWide) (.pair (.v (.int .i64)) .unit)), fun x => wide_Times x.1 x.2.1⟩
theorem wide_Times_ok : ECok Try.prog 93 (.es wide_Times_s)   := es_ok (A := (.pair tWideWide (.pair (.int .i64) .unit))) (Q := (.pair (.v tWideWide) (.pair (.v (.int .i64)) .unit))) (fun W x => wide_TimesW W x.1 x.2.1) [(109, .es wide_Wide_size_s), (54, .es wide_Of_s), (110, .es math_bits_Mul64_s), (104, .es add64_s), (112, .es wide_Wide_below_s), (111, .es wide_size_signed_s), (105, .es wide_ranged_s)] ⟨wide_Wide_size_ok, wide_Of_ok, math_bits_Mul64_ok, add64_ok, wide_Wide_below_ok, wide_size_signed_ok, wide_ranged_ok, trivial⟩ [] [] [] Try.func93 rfl (by decide +kernel) rfl rfl (fun W x => by kernel_rfl)
noncomputable def mark_oneW (W : Wd) (t : List AInst') (x : AUnit') : Option (WideWide' × Int × Unit) := W.call (inst_Find t x.1) fun v1 => 
 W.cnd (!v1.2.1) (some ((0, (0, ())), (11, ())))
  (W.call (wide_Mul (IntKind.i64.wrap (v1.1.2.2.2.1 - v1.1.2.2.1)) v1.1.2.1) fun v2 => W.call (wide_Times v2 x.2.1) fun v3 => some v3)
noncomputable def mark_one (t : List AInst') (x : AUnit') : Option (WideWide' × Int × Unit) := mark_oneW stdW t x
noncomputable def mark_one_s : ES := ⟨(.pair (.slc tAInst) (.pair tAUnit .unit)), (.pair (.v tWideWide) (.pair (.v (.int .i64)) .unit)), fun x => mark_one x.1 x.2.1⟩
theorem mark_one_ok : ECok Try.prog 66 (.es mark_one_s)   := es_ok (A := (.pair (.slc tAInst) (.pair tAUnit .unit))) (Q := (.pair (.v tWideWide) (.pair (.v (.int .i64)) .unit))) (fun W x => mark_oneW W x.1 x.2.1) [(92, .es inst_Find_s), (94, .es wide_Mul_s), (93, .es wide_Times_s)] ⟨inst_Find_ok, wide_Mul_ok, wide_Times_ok, trivial⟩ [(4, [1], (ofL [(0, true), (1, true), (2, true), (3, true), (4, true), (5, true), (6, true), (8, true), (9, true), (7, false), (10, false), (11, true), (12, true), (13, false), (14, true)]))] [] [] Try.func66 rfl (by decide +kernel) rfl rfl (fun W x => by kernel_rfl)
noncomputable def mark_GainW (W : Wd) (t : List AInst') (legs : List AUnit') : Option (Int × Int × Unit) := W.call (vec_Is legs) fun v1 => 
 W.cnd (!v1) (some (0, (3, ())))
  (
  W.loop (fun (z2 : Int × List (Int × Int × Unit) × Unit) again3 => 
   W.cnd (decide (z2.1 < (legs.length : Int))) (W.idx legs z2.1 fun x4 => W.call (mark_one t x4) fun v5 => 
    W.cnd (v5.2.1 != 0) (some (0, v5.2))
     (W.room (z2.2.1.length + (v5.1 :: []).length) 16 ((again3 ((IntKind.i64.wrap (z2.1 + 1)), ((z2.2.1 ++ (v5.1 :: [])), ()))))))
    (W.call (wide_Add z2.2.1) fun v6 => 
    W.cnd (v6.2.1 != 0) (some (0, v6.2))
     (W.call (wide_Int v6.1) fun v7 => some v7)))
   (0, ([], ())))
noncomputable def mark_Gain (t : List AInst') (legs : List AUnit') : Option (Int × Int × Unit) := mark_GainW stdW t legs
noncomputable def mark_Gain_s : ES := ⟨(.pair (.slc tAInst) (.pair (.slc tAUnit) .unit)), (.pair (.v (.int .i64)) (.pair (.v (.int .i64)) .unit)), fun x => mark_Gain x.1 x.2.1⟩
theorem mark_Gain_ok : ECok Try.prog 28 (.es mark_Gain_s)   := es_ok (A := (.pair (.slc tAInst) (.pair (.slc tAUnit) .unit))) (Q := (.pair (.v (.int .i64)) (.pair (.v (.int .i64)) .unit))) (fun W x => mark_GainW W x.1 x.2.1) [(65, .es vec_Is_s), (66, .es mark_one_s), (55, .es wide_Add_s), (67, .es wide_Int_s)] ⟨vec_Is_ok, mark_one_ok, wide_Add_ok, wide_Int_ok, trivial⟩ [] [] [(5, ⟨[(6, .row 1), (18, .t (.int .i64))], [], [.dead, .own 35 tWideWide]⟩)] Try.func28 rfl (by decide +kernel) rfl rfl (fun W x => by kernel_rfl)
noncomputable def ref11_IsW (W : Wd) (l : List AUnit') : Option Bool := 
 W.loop (fun (z1 : Int × Unit) again2 => 
  W.cnd (decide (z1.1 < (l.length : Int))) (
   W.join (fun (z3 : Bool × Unit) => 
    W.cnd z3.1 (some false)
     ((again2 ((IntKind.i64.wrap (z1.1 + 1)), ()))))
    fun k4 => W.idx l z1.1 fun x5 => 
    W.cnd (decide (x5.1 < 1)) ((k4 (true, ())))
     (W.idx l z1.1 fun x6 => 
     W.cnd (decide (8 < x6.1)) ((k4 (true, ())))
      (W.idx l z1.1 fun x7 => 
      W.cnd (x7.2.1 == 0) ((k4 (true, ())))
       (
       W.cnd (decide (0 < z1.1)) (W.idx l (IntKind.i64.wrap (z1.1 - 1)) fun x8 => W.idx l z1.1 fun x9 => (k4 ((decide (x9.1 ≤ x8.1)), ())))
        ((k4 (false, ())))))))
   (some true))
  (0, ())
noncomputable def ref11_Is (l : List AUnit') : Option Bool := ref11_IsW stdW l
noncomputable def ref11_Is_s : ES := ⟨(.pair (.slc tAUnit) .unit), (.v .bool), fun x => ref11_Is x.1⟩
theorem ref11_Is_ok : ECok Try.prog 68 (.es ref11_Is_s)   := es_ok (A := (.pair (.slc tAUnit) .unit)) (Q := (.v .bool)) (fun W x => ref11_IsW W x.1) [] trivial [(4, [], (ofL [(0, true), (1, true), (2, true), (3, true), (4, true), (5, true), (6, true), (7, true), (8, true), (9, true), (10, true), (11, true), (12, true), (13, true), (14, true), (15, true), (16, true), (17, true), (18, true), (19, true), (20, true), (21, true), (22, true), (23, true), (24, true), (25, true), (26, true), (27, true), (28, true), (29, true), (30, true), (31, true), (32, true), (33, true), (34, true), (35, true), (36, true), (37, true), (38, true), (39, true)]))] [(500049, ⟨[(49, .t .bool)], [], []⟩)] [(2, ⟨[(3, .t (.int .i64))], [], []⟩)] Try.func68 rfl (by decide +kernel) rfl rfl (fun W x => by kernel_rfl)
noncomputable def ref01_MulW (W : Wd) (a : Novationref01Big') (b : Novationref01Big') : Option Novationref01Big' := W.room a.2.1.length 1 (
 W.loop (fun (z1 : List (Int) × List (Int) × Int × Unit) again2 => 
  W.cnd (decide (z1.2.2.1 < (b.2.1.length : Int))) (
   W.join (fun (z3 : List (Int) × Unit) => W.room (0 :: []).length 1 (W.room ((0 :: []).length + z1.2.1.length) 1 ((again2 (z3.1, (((0 :: []) ++ z1.2.1), ((IntKind.i64.wrap (z1.2.2.1 + 1)), ())))))))
    fun k4 => W.idx b.2.1 z1.2.2.1 fun x5 => 
    W.cnd (x5 == 1) (W.call (ref01_plus z1.1 z1.2.1) fun v6 => (k4 (v6, ())))
     ((k4 (z1.1, ()))))
   (W.call (ref01_trim (Go.Vc.notIf true (a.1 == b.1)) z1.1) fun v7 => some (v7.1, (v7.2.1, ()))))
  ([], (a.2.1, (0, ()))))
noncomputable def ref01_Mul (a : Novationref01Big') (b : Novationref01Big') : Option Novationref01Big' := ref01_MulW stdW a b
noncomputable def ref01_Mul_s : ES := ⟨(.pair tNovationref01Big (.pair tNovationref01Big .unit)), (.v tNovationref01Big), fun x => ref01_Mul x.1 x.2.1⟩
theorem ref01_Mul_ok : ECok Try.prog 78 (.es ref01_Mul_s)   := es_ok (A := (.pair tNovationref01Big (.pair tNovationref01Big .unit))) (Q := (.v tNovationref01Big)) (fun W x => ref01_MulW W x.1 x.2.1) [(77, .es ref01_plus_s), (86, .es ref01_trim_s)] ⟨ref01_plus_ok, ref01_trim_ok, trivial⟩ [] [(8, ⟨[(5, .t (.slc (.int .u8)))], [], []⟩)] [(4, ⟨[(5, .t (.slc (.int .u8))), (6, .t (.slc (.int .u8))), (7, .t (.int .i64))], [], []⟩)] Try.func78 rfl (by decide +kernel) rfl rfl (fun W x => by kernel_rfl)
noncomputable def ref13_GainW (W : Wd) (i : AInst') (qty : Int) (from_ : Int) (to_ : Int) : Option Novationref01Big' := W.call (ref01_Of qty) fun v1 => W.call (ref01_Of i.2.1) fun v2 => W.call (ref01_Mul (v1.1, (v1.2.1, ())) (v2.1, (v2.2.1, ()))) fun v3 => W.call (ref01_Of to_) fun v4 => W.call (ref01_Of from_) fun v5 => W.call (ref01_Sub (v4.1, (v4.2.1, ())) (v5.1, (v5.2.1, ()))) fun v6 => W.call (ref01_Mul (v3.1, (v3.2.1, ())) (v6.1, (v6.2.1, ()))) fun v7 => some (v7.1, (v7.2.1, ()))
noncomputable def ref13_Gain (i : AInst') (qty : Int) (from_ : Int) (to_ : Int) : Option Novationref01Big' := ref13_GainW stdW i qty from_ to_
noncomputable def ref13_Gain_s : ES := ⟨(.pair tAInst (.pair (.int .i64) (.pair (.int .i64) (.pair (.int .i64) .unit)))), (.v tNovationref01Big), fun x => ref13_Gain x.1 x.2.1 x.2.2.1 x.2.2.2.1⟩
theorem ref13_Gain_ok : ECok Try.prog 44 (.es ref13_Gain_s)   := es_ok (A := (.pair tAInst (.pair (.int .i64) (.pair (.int .i64) (.pair (.int .i64) .unit))))) (Q := (.v tNovationref01Big)) (fun W x => ref13_GainW W x.1 x.2.1 x.2.2.1 x.2.2.2.1) [(43, .es ref01_Of_s), (78, .es ref01_Mul_s), (42, .es ref01_Sub_s)] ⟨ref01_Of_ok, ref01_Mul_ok, ref01_Sub_ok, trivial⟩ [(1, [1], (ofL [(0, true), (2, true), (3, true), (6, true), (8, true), (1, false), (4, false), (5, false), (7, false), (9, false), (10, false), (11, false), (12, false)]))] [] [] Try.func44 rfl (by decide +kernel) rfl rfl (fun W x => by kernel_rfl)
noncomputable def ref20_GainW (W : Wd) (t : List AInst') (legs : List AUnit') : Option (Novationref01Big' × Int × Unit) := 
 W.loop (fun (z1 : Int × Bool × List (Int) × Unit) again2 => 
  W.cnd (decide (z1.1 < (legs.length : Int))) (
   W.join (fun (z3 : Bool × List (Int) × Unit) => (again2 ((IntKind.i64.wrap (z1.1 + 1)), (z3.1, (z3.2.1, ())))))
    fun k4 => W.idx legs z1.1 fun x5 => W.call (ref13_Find t x5.1) fun v6 => 
    W.cnd (!v6.2.1) (some ((false, ([], ())), (11, ())))
     (W.idx legs z1.1 fun x7 => W.both (W.call (ref13_Gain (v6.1.1, (v6.1.2.1, (v6.1.2.2.1, (v6.1.2.2.2.1, (v6.1.2.2.2.2.1, ()))))) x7.2.1 v6.1.2.2.1 v6.1.2.2.2.1) fun v8 => W.call (ref01_Add (z1.2.1, (z1.2.2.1, ())) (v8.1, (v8.2.1, ()))) fun v9 => (k4 (v9.1, (v9.2.1, ())))) (W.call (ref13_Gain (v6.1.1, (v6.1.2.1, (v6.1.2.2.1, (v6.1.2.2.2.1, (v6.1.2.2.2.2.1, ()))))) x7.2.1 v6.1.2.2.1 v6.1.2.2.2.1) fun v10 => W.call (ref01_Add (z1.2.1, (z1.2.2.1, ())) (v10.1, (v10.2.1, ()))) fun v11 => (k4 (v11.1, (v11.2.1, ()))))))
   (W.call (ref01_Fits (z1.2.1, (z1.2.2.1, ()))) fun v12 => 
   W.cnd (!v12) (some ((false, ([], ())), (7, ())))
    (some ((z1.2.1, (z1.2.2.1, ())), (0, ())))))
  (0, (false, ([], ())))
noncomputable def ref20_Gain (t : List AInst') (legs : List AUnit') : Option (Novationref01Big' × Int × Unit) := ref20_GainW stdW t legs
noncomputable def ref20_Gain_s : ES := ⟨(.pair (.slc tAInst) (.pair (.slc tAUnit) .unit)), (.pair (.v tNovationref01Big) (.pair (.v (.int .i64)) .unit)), fun x => ref20_Gain x.1 x.2.1⟩
theorem ref20_Gain_ok : ECok Try.prog 69 (.es ref20_Gain_s)   := es_ok (A := (.pair (.slc tAInst) (.pair (.slc tAUnit) .unit))) (Q := (.pair (.v tNovationref01Big) (.pair (.v (.int .i64)) .unit))) (fun W x => ref20_GainW W x.1 x.2.1) [(95, .es ref13_Find_s), (44, .es ref13_Gain_s), (58, .es ref01_Add_s), (61, .es ref01_Fits_s)] ⟨ref13_Find_ok, ref13_Gain_ok, ref01_Add_ok, ref01_Fits_ok, trivial⟩ [(8, [1], (.rd 1 (.rd 2 (.rd 3 (.rd 4 (.rd 5 (.rd 6 (.rd 7 (.rd 8 (.rd 9 (.rd 10 (.two 0 11 (ofL [(11, false), (12, false), (13, false)]) (ofL [(0, false), (12, false), (13, false)])))))))))))))] [(4, ⟨[], [(1, [.t .bool, .t (.slc (.int .u8))])], []⟩)] [(3, ⟨[(7, .t (.int .i64))], [(1, [.t .bool, .t (.slc (.int .u8))])], []⟩)] Try.func69 rfl (by decide +kernel) rfl rfl (fun W x => by kernel_rfl)
noncomputable def ref20_VectorW (W : Wd) (t : List AInst') (legs : List AUnit') : Option (Int × Int × Unit) := W.call (ref11_Is legs) fun v1 => 
 W.cnd (!v1) (some (0, (3, ())))
  (W.call (ref20_Gain t legs) fun v2 => 
  W.cnd (v2.2.1 != 0) (some (0, v2.2))
   (W.call (ref01_Int (v2.1.1, (v2.1.2.1, ()))) fun v3 => some (v3, (0, ()))))
noncomputable def ref20_Vector (t : List AInst') (legs : List AUnit') : Option (Int × Int × Unit) := ref20_VectorW stdW t legs
noncomputable def ref20_Vector_s : ES := ⟨(.pair (.slc tAInst) (.pair (.slc tAUnit) .unit)), (.pair (.v (.int .i64)) (.pair (.v (.int .i64)) .unit)), fun x => ref20_Vector x.1 x.2.1⟩
theorem ref20_Vector_ok : ECok Try.prog 29 (.es ref20_Vector_s)   := es_ok (A := (.pair (.slc tAInst) (.pair (.slc tAUnit) .unit))) (Q := (.pair (.v (.int .i64)) (.pair (.v (.int .i64)) .unit))) (fun W x => ref20_VectorW W x.1 x.2.1) [(68, .es ref11_Is_s), (69, .es ref20_Gain_s), (62, .es ref01_Int_s)] ⟨ref11_Is_ok, ref20_Gain_ok, ref01_Int_ok, trivial⟩ [] [] [] Try.func29 rfl (by decide +kernel) rfl rfl (fun W x => by kernel_rfl)
noncomputable def book_IsW (W : Wd) (l : List APos') : Option Bool := 
 W.loop (fun (z1 : Int × Unit) again2 => 
  W.cnd (decide (z1.1 < (l.length : Int))) (W.idx l z1.1 fun x3 => 
   W.join (fun (z4 : Bool × Unit) => 
    W.cnd z4.1 (some false)
     ((again2 ((IntKind.i64.wrap (z1.1 + 1)), ()))))
    fun k5 => 
    W.cnd ((x3.2.1.length : Int) == 0) (W.both ((k5 (true, ()))) ((k5 (true, ()))))
     (W.call (vec_Is x3.2.1) fun v6 => 
     W.cnd (!v6) (W.both ((k5 (true, ()))) ((k5 (true, ()))))
      (
      W.cnd (decide (0 < z1.1)) (W.idx l (IntKind.i64.wrap (z1.1 - 1)) fun x7 => W.both (W.call (acct_Less x7.1 x3.1) fun v8 => (k5 ((!v8), ()))) (W.call (acct_Less x7.1 x3.1) fun v9 => (k5 ((!v9), ()))))
       (W.both ((k5 (false, ()))) ((k5 (false, ())))))))
   (some true))
  (0, ())
noncomputable def book_Is (l : List APos') : Option Bool := book_IsW stdW l
noncomputable def book_Is_s : ES := ⟨(.pair (.slc tAPos) .unit), (.v .bool), fun x => book_Is x.1⟩
theorem book_Is_ok : ECok Try.prog 35 (.es book_Is_s)   := es_ok (A := (.pair (.slc tAPos) .unit)) (Q := (.v .bool)) (fun W x => book_IsW W x.1) [(65, .es vec_Is_s), (56, .es acct_Less_s)] ⟨vec_Is_ok, acct_Less_ok, trivial⟩ [(4, [], (.rd 0 (.rd 1 (.rd 2 (.rd 3 (.rd 4 (.rd 5 (.rd 6 (.op 7 (.rd 8 (.rd 9 (.rd 10 (.rd 11 (.rd 12 (.rd 13 (.rd 14 (.rd 15 (.rd 16 (.rd 17 (.rd 18 (.rd 20 (.two 19 21 (ofL [(21, false), (22, false), (23, true), (24, true), (25, true)]) (ofL [(19, false), (22, false), (23, true), (24, true), (25, true)])))))))))))))))))))))))] [(500037, ⟨[(37, .t .bool)], [], []⟩)] [(2, ⟨[(7, .t (.int .i64))], [], []⟩)] Try.func35 rfl (by decide +kernel) rfl rfl (fun W x => by kernel_rfl)
noncomputable def mark_FlowsW (W : Wd) (t : List AInst') (l : List APos') : Option ((List AFlow') × Int × Unit) := W.call (book_Is l) fun v1 => 
 W.cnd (!v1) (some ([], (3, ())))
  (
  W.loop (fun (z2 : Int × List ((Int × Int × Unit) × Int × Unit) × Unit) again3 => 
   W.cnd (decide (z2.1 < (l.length : Int))) (
    W.join (fun (z4 : List ((Int × Int × Unit) × Int × Unit) × Unit) => (again3 ((IntKind.i64.wrap (z2.1 + 1)), (z4.1, ()))))
     fun k5 => W.idx l z2.1 fun x6 => W.call (mark_Gain t x6.2.1) fun v7 => 
     W.cnd (v7.2.1 != 0) (some ([], v7.2))
      (
      W.cnd (v7.1 != 0) (W.room (z2.2.1.length + ((x6.1, (v7.1, ())) :: []).length) 24 ((k5 ((z2.2.1 ++ ((x6.1, (v7.1, ())) :: [])), ()))))
       ((k5 (z2.2.1, ())))))
    (some (z2.2.1, (0, ()))))
   (0, ([], ())))
noncomputable def mark_Flows (t : List AInst') (l : List APos') : Option ((List AFlow') × Int × Unit) := mark_FlowsW stdW t l
noncomputable def mark_Flows_s : ES := ⟨(.pair (.slc tAInst) (.pair (.slc tAPos) .unit)), (.pair (.own 27 tAFlow) (.pair (.v (.int .i64)) .unit)), fun x => mark_Flows x.1 x.2.1⟩
theorem mark_Flows_ok : ECok Try.prog 30 (.es mark_Flows_s)   := es_ok (A := (.pair (.slc tAInst) (.pair (.slc tAPos) .unit))) (Q := (.pair (.own 27 tAFlow) (.pair (.v (.int .i64)) .unit))) (fun W x => mark_FlowsW W x.1 x.2.1) [(35, .es book_Is_s), (28, .es mark_Gain_s)] ⟨book_Is_ok, mark_Gain_ok, trivial⟩ [] [(12, ⟨[(6, .row 1)], [], [.dead, .own 27 tAFlow]⟩)] [(5, ⟨[(6, .row 1), (16, .t (.int .i64))], [], [.dead, .own 27 tAFlow]⟩)] Try.func30 rfl (by decide +kernel) rfl rfl (fun W x => by kernel_rfl)
noncomputable def ref19_IsW (W : Wd) (l : List APos') : Option Bool := 
 W.loop (fun (z1 : Int × Unit) again2 => 
  W.cnd (decide (z1.1 < (l.length : Int))) (
   W.join (fun (z3 : Bool × Unit) => 
    W.cnd z3.1 (some false)
     ((again2 ((IntKind.i64.wrap (z1.1 + 1)), ()))))
    fun k4 => W.idx l z1.1 fun x5 => 
    W.cnd ((x5.2.1.length : Int) == 0) (W.both ((k4 (true, ()))) ((k4 (true, ()))))
     (W.idx l z1.1 fun x6 => W.call (ref11_Is x6.2.1) fun v7 => 
     W.cnd (!v7) (W.both ((k4 (true, ()))) ((k4 (true, ()))))
      (
      W.cnd (decide (0 < z1.1)) (W.idx l (IntKind.i64.wrap (z1.1 - 1)) fun x8 => W.idx l z1.1 fun x9 => W.both (W.call (ref15_Less x8.1 x9.1) fun v10 => (k4 ((!v10), ()))) (W.call (ref15_Less x8.1 x9.1) fun v11 => (k4 ((!v11), ()))))
       (W.both ((k4 (false, ()))) ((k4 (false, ())))))))
   (some true))
  (0, ())
noncomputable def ref19_Is (l : List APos') : Option Bool := ref19_IsW stdW l
noncomputable def ref19_Is_s : ES := ⟨(.pair (.slc tAPos) .unit), (.v .bool), fun x => ref19_Is x.1⟩
theorem ref19_Is_ok : ECok Try.prog 70 (.es ref19_Is_s)   := es_ok (A := (.pair (.slc tAPos) .unit)) (Q := (.v .bool)) (fun W x => ref19_IsW W x.1) [(68, .es ref11_Is_s), (57, .es ref15_Less_s)] ⟨ref11_Is_ok, ref15_Less_ok, trivial⟩ [(4, [], (.rd 0 (.rd 1 (.rd 2 (.rd 3 (.rd 4 (.rd 5 (.rd 6 (.rd 7 (.rd 8 (.rd 9 (.rd 10 (.rd 11 (.rd 12 (.op 13 (.rd 14 (.rd 15 (.rd 16 (.rd 17 (.rd 18 (.rd 19 (.rd 20 (.rd 21 (.rd 22 (.rd 23 (.rd 24 (.rd 26 (.rd 27 (.rd 28 (.rd 29 (.two 25 30 (ofL [(30, false), (31, false), (32, true), (33, true), (34, true)]) (ofL [(25, false), (31, false), (32, true), (33, true), (34, true)]))))))))))))))))))))))))))))))))] [(500044, ⟨[(44, .t .bool)], [], []⟩)] [(2, ⟨[(3, .t (.int .i64))], [], []⟩)] Try.func70 rfl (by decide +kernel) rfl rfl (fun W x => by kernel_rfl)
noncomputable def ref20_FlowsW (W : Wd) (t : List AInst') (l : List APos') : Option ((List AFlow') × Int × Unit) := W.call (ref19_Is l) fun v1 => 
 W.cnd (!v1) (some ([], (3, ())))
  (
  W.loop (fun (z2 : Int × List ((Int × Int × Unit) × Int × Unit) × Unit) again3 => 
   W.cnd (decide (z2.1 < (l.length : Int))) (
    W.join (fun (z4 : List ((Int × Int × Unit) × Int × Unit) × Unit) => (again3 ((IntKind.i64.wrap (z2.1 + 1)), (z4.1, ()))))
     fun k5 => W.idx l z2.1 fun x6 => W.call (ref20_Gain t x6.2.1) fun v7 => 
     W.cnd (v7.2.1 != 0) (some ([], v7.2))
      (
      W.cnd (decide (0 < (v7.1.2.1.length : Int))) (W.idx l z2.1 fun x8 => W.call (ref01_Int (v7.1.1, (v7.1.2.1, ()))) fun v9 => W.room (z2.2.1.length + ((x8.1, (v9, ())) :: []).length) 24 ((k5 ((z2.2.1 ++ ((x8.1, (v9, ())) :: [])), ()))))
       ((k5 (z2.2.1, ())))))
    (some (z2.2.1, (0, ()))))
   (0, ([], ())))
noncomputable def ref20_Flows (t : List AInst') (l : List APos') : Option ((List AFlow') × Int × Unit) := ref20_FlowsW stdW t l
noncomputable def ref20_Flows_s : ES := ⟨(.pair (.slc tAInst) (.pair (.slc tAPos) .unit)), (.pair (.own 27 tAFlow) (.pair (.v (.int .i64)) .unit)), fun x => ref20_Flows x.1 x.2.1⟩
theorem ref20_Flows_ok : ECok Try.prog 31 (.es ref20_Flows_s)   := es_ok (A := (.pair (.slc tAInst) (.pair (.slc tAPos) .unit))) (Q := (.pair (.own 27 tAFlow) (.pair (.v (.int .i64)) .unit))) (fun W x => ref20_FlowsW W x.1 x.2.1) [(70, .es ref19_Is_s), (69, .es ref20_Gain_s), (62, .es ref01_Int_s)] ⟨ref19_Is_ok, ref20_Gain_ok, ref01_Int_ok, trivial⟩ [(11, [], (ofL [(0, true), (1, true), (2, true), (3, true), (4, true), (5, true), (6, true), (7, false), (8, true), (9, false), (10, false), (11, true)]))] [(6, ⟨[(6, .row 1)], [], [.dead, .own 27 tAFlow]⟩)] [(5, ⟨[(6, .row 1), (7, .t (.int .i64))], [], [.dead, .own 27 tAFlow]⟩)] Try.func31 rfl (by decide +kernel) rfl rfl (fun W x => by kernel_rfl)
noncomputable def mark_SettleW (W : Wd) (t : List AInst') (l : List APos') (p : List AFlow') : Option ((List AFlow') × Int × Unit) := W.call (purse_Is p) fun v1 => 
 W.cnd (!v1) (some ([], (3, ())))
  (W.call (mark_Flows t l) fun v2 => 
  W.cnd (v2.2.1 != 0) (some ([], v2.2))
   (W.call (purse_Pay p v2.1) fun v3 => some (v3.1, v3.2)))
noncomputable def mark_Settle (t : List AInst') (l : List APos') (p : List AFlow') : Option ((List AFlow') × Int × Unit) := mark_SettleW stdW t l p
noncomputable def mark_Settle_s : ES := ⟨(.pair (.slc tAInst) (.pair (.slc tAPos) (.pair (.slc tAFlow) .unit))), (.pair (.own 27 tAFlow) (.pair (.v (.int .i64)) .unit)), fun x => mark_Settle x.1 x.2.1 x.2.2.1⟩
theorem mark_Settle_ok : ECok Try.prog 32 (.es mark_Settle_s)   := es_ok (A := (.pair (.slc tAInst) (.pair (.slc tAPos) (.pair (.slc tAFlow) .unit)))) (Q := (.pair (.own 27 tAFlow) (.pair (.v (.int .i64)) .unit))) (fun W x => mark_SettleW W x.1 x.2.1 x.2.2.1) [(16, .es purse_Is_s), (30, .es mark_Flows_s), (12, .es purse_Pay_s)] ⟨purse_Is_ok, mark_Flows_ok, purse_Pay_ok, trivial⟩ [] [] [] Try.func32 rfl (by decide +kernel) rfl rfl (fun W x => by kernel_rfl)
noncomputable def ref20_SettleW (W : Wd) (t : List AInst') (l : List APos') (p : List AFlow') : Option ((List AFlow') × Int × Unit) := W.call (ref17_Is p) fun v1 => 
 W.cnd (!v1) (some ([], (3, ())))
  (W.call (ref20_Flows t l) fun v2 => 
  W.cnd (v2.2.1 != 0) (some ([], v2.2))
   (W.call (ref17_Pay p v2.1) fun v3 => some (v3.1, v3.2)))
noncomputable def ref20_Settle (t : List AInst') (l : List APos') (p : List AFlow') : Option ((List AFlow') × Int × Unit) := ref20_SettleW stdW t l p
noncomputable def ref20_Settle_s : ES := ⟨(.pair (.slc tAInst) (.pair (.slc tAPos) (.pair (.slc tAFlow) .unit))), (.pair (.own 27 tAFlow) (.pair (.v (.int .i64)) .unit)), fun x => ref20_Settle x.1 x.2.1 x.2.2.1⟩
theorem ref20_Settle_ok : ECok Try.prog 33 (.es ref20_Settle_s)   := es_ok (A := (.pair (.slc tAInst) (.pair (.slc tAPos) (.pair (.slc tAFlow) .unit)))) (Q := (.pair (.own 27 tAFlow) (.pair (.v (.int .i64)) .unit))) (fun W x => ref20_SettleW W x.1 x.2.1 x.2.2.1) [(17, .es ref17_Is_s), (31, .es ref20_Flows_s), (23, .es ref17_Pay_s)] ⟨ref17_Is_ok, ref20_Flows_ok, ref17_Pay_ok, trivial⟩ [] [] [] Try.func33 rfl (by decide +kernel) rfl rfl (fun W x => by kernel_rfl)
noncomputable def law20_livesW (W : Wd) : Option Bool := W.call (mark_Gain ((1, (10, (5, (7, ([], ()))))) :: []) ((1, (3, ())) :: [])) fun v1 => 
 W.cnd (v1.1 == 60) (some (v1.2.1 == 0))
  (some false)
noncomputable def law20_lives : Option Bool := law20_livesW stdW
noncomputable def law20_lives_s : ES := ⟨.unit, (.v .bool), fun x => law20_lives ⟩
theorem law20_lives_ok : ECok Try.prog 34 (.es law20_lives_s)   := es_ok (A := .unit) (Q := (.v .bool)) (fun W x => law20_livesW W ) [(28, .es mark_Gain_s)] ⟨mark_Gain_ok, trivial⟩ [] [] [] Try.func34 rfl (by decide +kernel) rfl rfl (fun W x => by kernel_rfl)
noncomputable def law20_MarkFlowsW (W : Wd) (t : List AInst') (legs : List AUnit') (l : List APos') (p : List AFlow') : Option Bool := W.call (law20_Insts t) fun v1 => W.call (law11_Few legs) fun v2 => W.call (law19_Few l) fun v3 => W.call (law17_Few p) fun v4 => W.call (mark_Gain v1 v2) fun v5 => W.call (ref20_Vector v1 v2) fun v6 => W.call (mark_Flows v1 v3) fun v7 => W.call (ref20_Flows v1 v3) fun v8 => W.call (mark_Settle v1 v3 v4) fun v9 => W.call (ref20_Settle v1 v3 v4) fun v10 => 
 W.cnd (v5.1 == v6.1) (
  W.cnd (v5.2.1 == v6.2.1) (W.call (ref17_Same v7.1 v8.1) fun v11 => 
   W.cnd v11 (
    W.cnd (v7.2.1 == v8.2.1) (W.call (ref17_Same v9.1 v10.1) fun v12 => 
     W.cnd v12 (
      W.cnd (v9.2.1 == v10.2.1) (W.call (law20_lives) fun v13 => some v13)
       (some false))
      (some false))
     (some false))
    (some false))
   (some false))
  (some false)
noncomputable def law20_MarkFlows (t : List AInst') (legs : List AUnit') (l : List APos') (p : List AFlow') : Option Bool := law20_MarkFlowsW stdW t legs l p
noncomputable def law20_MarkFlows_s : ES := ⟨(.pair (.slc tAInst) (.pair (.slc tAUnit) (.pair (.slc tAPos) (.pair (.slc tAFlow) .unit)))), (.v .bool), fun x => law20_MarkFlows x.1 x.2.1 x.2.2.1 x.2.2.2.1⟩
theorem law20_MarkFlows_ok : ECok Try.prog 6 (.es law20_MarkFlows_s)   := es_ok (A := (.pair (.slc tAInst) (.pair (.slc tAUnit) (.pair (.slc tAPos) (.pair (.slc tAFlow) .unit))))) (Q := (.v .bool)) (fun W x => law20_MarkFlowsW W x.1 x.2.1 x.2.2.1 x.2.2.2.1) [(25, .es law20_Insts_s), (26, .es law11_Few_s), (27, .es law19_Few_s), (11, .es law17_Few_s), (28, .es mark_Gain_s), (29, .es ref20_Vector_s), (30, .es mark_Flows_s), (31, .es ref20_Flows_s), (32, .es mark_Settle_s), (33, .es ref20_Settle_s), (13, .es ref17_Same_s), (34, .es law20_lives_s)] ⟨law20_Insts_ok, law11_Few_ok, law19_Few_ok, law17_Few_ok, mark_Gain_ok, ref20_Vector_ok, mark_Flows_ok, ref20_Flows_ok, mark_Settle_ok, ref20_Settle_ok, ref17_Same_ok, law20_lives_ok, trivial⟩ [] [] [] Try.func6 rfl (by decide +kernel) rfl rfl (fun W x => by kernel_rfl)
noncomputable def law20_MarkBackW (W : Wd) (t : List AInst') (l : List APos') (p : List AFlow') : Option Bool := W.call (law20_Insts t) fun v1 => W.call (law19_Few l) fun v2 => W.call (law17_Few p) fun v3 => 
 W.loop (fun (z4 : Int × List ((Int × Int × Unit) × List (Int × Int × Unit) × Unit) × List (Int × Int × Int × Int × List (Int) × Unit) × Unit) again5 => 
  W.cnd (decide (z4.1 < (v1.length : Int))) (W.idx v1 z4.1 fun x6 => W.room (z4.2.2.1.length + ((x6.1, (x6.2.1, (x6.2.2.2.1, (x6.2.2.1, (x6.2.2.2.2.1, ()))))) :: []).length) 56 ((again5 ((IntKind.i64.wrap (z4.1 + 1)), (z4.2.1, ((z4.2.2.1 ++ ((x6.1, (x6.2.1, (x6.2.2.2.1, (x6.2.2.1, (x6.2.2.2.2.1, ()))))) :: [])), ()))))))
   (W.call (mark_Settle v1 z4.2.1 v3) fun v7 => 
   W.cnd (v7.2.1 != 0) (
    W.cnd ((v7.1.length : Int) == 0) (W.call (law20_lives) fun v8 => some v8)
     (some false))
    (W.call (mark_Settle z4.2.2.1 z4.2.1 v7.1) fun v9 => 
    W.cnd (v9.2.1 != 0) (W.call (law20_lives) fun v10 => some v10)
     (W.call (ref17_Same v9.1 v3) fun v11 => 
     W.cnd v11 (W.call (law20_lives) fun v12 => some v12)
      (some false)))))
  (0, (v2, ([], ())))
noncomputable def law20_MarkBack (t : List AInst') (l : List APos') (p : List AFlow') : Option Bool := law20_MarkBackW stdW t l p
noncomputable def law20_MarkBack_s : ES := ⟨(.pair (.slc tAInst) (.pair (.slc tAPos) (.pair (.slc tAFlow) .unit))), (.v .bool), fun x => law20_MarkBack x.1 x.2.1 x.2.2.1⟩
theorem law20_MarkBack_ok : ECok Try.prog 7 (.es law20_MarkBack_s)   := es_ok (A := (.pair (.slc tAInst) (.pair (.slc tAPos) (.pair (.slc tAFlow) .unit)))) (Q := (.v .bool)) (fun W x => law20_MarkBackW W x.1 x.2.1 x.2.2.1) [(25, .es law20_Insts_s), (27, .es law19_Few_s), (11, .es law17_Few_s), (32, .es mark_Settle_s), (34, .es law20_lives_s), (13, .es ref17_Same_s)] ⟨law20_Insts_ok, law19_Few_ok, law17_Few_ok, mark_Settle_ok, law20_lives_ok, ref17_Same_ok, trivial⟩ [] [] [(4, ⟨[(1, .row 0), (7, .row 2), (8, .t (.int .i64))], [], [.own 103 tAPos, .dead, .own 67 tAInst]⟩)] Try.func7 rfl (by decide +kernel) rfl rfl (fun W x => by kernel_rfl)
noncomputable def vec_GetW (W : Wd) (l : List AUnit') (inst : Int) : Option Int := 
 W.loop (fun (z1 : Int × Unit) again2 => 
  W.cnd (decide (z1.1 < (l.length : Int))) (W.idx l z1.1 fun x3 => 
   W.cnd (x3.1 == inst) (some x3.2.1)
    ((again2 ((IntKind.i64.wrap (z1.1 + 1)), ()))))
   (some 0))
  (0, ())
noncomputable def vec_Get (l : List AUnit') (inst : Int) : Option Int := vec_GetW stdW l inst
noncomputable def vec_Get_s : ES := ⟨(.pair (.slc tAUnit) (.pair (.int .i64) .unit)), (.v (.int .i64)), fun x => vec_Get x.1 x.2.1⟩
theorem vec_Get_ok : ECok Try.prog 97 (.es vec_Get_s)   := es_ok (A := (.pair (.slc tAUnit) (.pair (.int .i64) .unit))) (Q := (.v (.int .i64))) (fun W x => vec_GetW W x.1 x.2.1) [] trivial [] [] [(2, ⟨[(9, .t (.int .i64))], [], []⟩)] Try.func97 rfl (by decide +kernel) rfl rfl (fun W x => by kernel_rfl)
noncomputable def book_OpenW (W : Wd) (l : List APos') (inst : Int) : Option WideWide' := 
 W.loop (fun (z1 : Int × List (Int × Int × Unit) × Unit) again2 => 
  W.cnd (decide (z1.1 < (l.length : Int))) (W.idx l z1.1 fun x3 => W.call (vec_Get x3.2.1 inst) fun v4 => W.call (wide_Of v4) fun v5 => W.room (z1.2.1.length + (v5 :: []).length) 16 ((again2 ((IntKind.i64.wrap (z1.1 + 1)), ((z1.2.1 ++ (v5 :: [])), ())))))
   (W.call (wide_Add z1.2.1) fun v6 => some v6.1))
  (0, ([], ()))
noncomputable def book_Open (l : List APos') (inst : Int) : Option WideWide' := book_OpenW stdW l inst
noncomputable def book_Open_s : ES := ⟨(.pair (.slc tAPos) (.pair (.int .i64) .unit)), (.v tWideWide), fun x => book_Open x.1 x.2.1⟩
theorem book_Open_ok : ECok Try.prog 72 (.es book_Open_s)   := es_ok (A := (.pair (.slc tAPos) (.pair (.int .i64) .unit))) (Q := (.v tWideWide)) (fun W x => book_OpenW W x.1 x.2.1) [(97, .es vec_Get_s), (54, .es wide_Of_s), (55, .es wide_Add_s)] ⟨vec_Get_ok, wide_Of_ok, wide_Add_ok, trivial⟩ [] [] [(3, ⟨[(5, .row 1), (12, .t (.int .i64))], [], [.dead, .own 35 tWideWide]⟩)] Try.func72 rfl (by decide +kernel) rfl rfl (fun W x => by kernel_rfl)
noncomputable def cmp_isNaNW (W : Wd) (x : Int) : Option Bool := some (x != x)
noncomputable def cmp_isNaN (x : Int) : Option Bool := cmp_isNaNW stdW x
noncomputable def cmp_isNaN_s : ES := ⟨(.pair (.int .i64) .unit), (.v .bool), fun x => cmp_isNaN x.1⟩
theorem cmp_isNaN_ok : ECok Try.prog 139 (.es cmp_isNaN_s)   := es_ok (A := (.pair (.int .i64) .unit)) (Q := (.v .bool)) (fun W x => cmp_isNaNW W x.1) [] trivial [] [] [] Try.func139 rfl (by decide +kernel) rfl rfl (fun W x => by kernel_rfl)
noncomputable def cmp_CompareW (W : Wd) (x : Int) (y : Int) : Option Int := W.call (cmp_isNaN x) fun v1 => W.call (cmp_isNaN y) fun v2 => 
 W.cnd v1 (
  W.cnd v2 (some 0)
   (some (-1)))
  (
  W.cnd v2 (some 1)
   (
   W.cnd (decide (x < y)) (some (-1))
    (
    W.cnd (decide (y < x)) (some 1)
     (some 0))))
noncomputable def cmp_Compare (x : Int) (y : Int) : Option Int := cmp_CompareW stdW x y
noncomputable def cmp_Compare_s : ES := ⟨(.pair (.int .i64) (.pair (.int .i64) .unit)), (.v (.int .i64)), fun x => cmp_Compare x.1 x.2.1⟩
theorem cmp_Compare_ok : ECok Try.prog 114 (.es cmp_Compare_s)   := es_ok (A := (.pair (.int .i64) (.pair (.int .i64) .unit))) (Q := (.v (.int .i64))) (fun W x => cmp_CompareW W x.1 x.2.1) [(139, .es cmp_isNaN_s)] ⟨cmp_isNaN_ok, trivial⟩ [] [] [] Try.func114 rfl (by decide +kernel) rfl rfl (fun W x => by kernel_rfl)
noncomputable def cmp_isNaN2W (W : Wd) (x : Int) : Option Bool := some (x != x)
noncomputable def cmp_isNaN2 (x : Int) : Option Bool := cmp_isNaN2W stdW x
noncomputable def cmp_isNaN2_s : ES := ⟨(.pair (.int .u64) .unit), (.v .bool), fun x => cmp_isNaN2 x.1⟩
theorem cmp_isNaN2_ok : ECok Try.prog 140 (.es cmp_isNaN2_s)   := es_ok (A := (.pair (.int .u64) .unit)) (Q := (.v .bool)) (fun W x => cmp_isNaN2W W x.1) [] trivial [] [] [] Try.func140 rfl (by decide +kernel) rfl rfl (fun W x => by kernel_rfl)
noncomputable def cmp_Compare2W (W : Wd) (x : Int) (y : Int) : Option Int := W.call (cmp_isNaN2 x) fun v1 => W.call (cmp_isNaN2 y) fun v2 => 
 W.cnd v1 (
  W.cnd v2 (some 0)
   (some (-1)))
  (
  W.cnd v2 (some 1)
   (
   W.cnd (decide (x < y)) (some (-1))
    (
    W.cnd (decide (y < x)) (some 1)
     (some 0))))
noncomputable def cmp_Compare2 (x : Int) (y : Int) : Option Int := cmp_Compare2W stdW x y
noncomputable def cmp_Compare2_s : ES := ⟨(.pair (.int .u64) (.pair (.int .u64) .unit)), (.v (.int .i64)), fun x => cmp_Compare2 x.1 x.2.1⟩
theorem cmp_Compare2_ok : ECok Try.prog 115 (.es cmp_Compare2_s)   := es_ok (A := (.pair (.int .u64) (.pair (.int .u64) .unit))) (Q := (.v (.int .i64))) (fun W x => cmp_Compare2W W x.1 x.2.1) [(140, .es cmp_isNaN2_s)] ⟨cmp_isNaN2_ok, trivial⟩ [] [] [] Try.func115 rfl (by decide +kernel) rfl rfl (fun W x => by kernel_rfl)
noncomputable def cmp_OrW (W : Wd) (vals : List Int) : Option Int := 
 W.loop (fun (z1 : Int × Unit) again2 => 
  W.cnd (decide (z1.1 < (vals.length : Int))) (W.idx vals z1.1 fun x3 => 
   W.cnd (x3 != 0) (some x3)
    ((again2 ((IntKind.i64.wrap (z1.1 + 1)), ()))))
   (some 0))
  (0, ())
noncomputable def cmp_Or (vals : List Int) : Option Int := cmp_OrW stdW vals
noncomputable def cmp_Or_s : ES := ⟨(.pair (.slc (.int .i64)) .unit), (.v (.int .i64)), fun x => cmp_Or x.1⟩
theorem cmp_Or_ok : ECok Try.prog 113 (.es cmp_Or_s)   := es_ok (A := (.pair (.slc (.int .i64)) .unit)) (Q := (.v (.int .i64))) (fun W x => cmp_OrW W x.1) [] trivial [] [] [(3, ⟨[(8, .t (.int .i64))], [], []⟩)] Try.func113 rfl (by decide +kernel) rfl rfl (fun W x => by kernel_rfl)
noncomputable def wide_CmpW (W : Wd) (a : WideWide') (b : WideWide') : Option Int := W.call (cmp_Compare a.1 b.1) fun v1 => W.call (cmp_Compare2 a.2.1 b.2.1) fun v2 => W.call (cmp_Or (v1 :: (v2 :: []))) fun v3 => some v3
noncomputable def wide_Cmp (a : WideWide') (b : WideWide') : Option Int := wide_CmpW stdW a b
noncomputable def wide_Cmp_s : ES := ⟨(.pair tWideWide (.pair tWideWide .unit)), (.v (.int .i64)), fun x => wide_Cmp x.1 x.2.1⟩
theorem wide_Cmp_ok : ECok Try.prog 96 (.es wide_Cmp_s)   := es_ok (A := (.pair tWideWide (.pair tWideWide .unit))) (Q := (.v (.int .i64))) (fun W x => wide_CmpW W x.1 x.2.1) [(114, .es cmp_Compare_s), (115, .es cmp_Compare2_s), (113, .es cmp_Or_s)] ⟨cmp_Compare_ok, cmp_Compare2_ok, cmp_Or_ok, trivial⟩ [(1, [], (ofL [(0, true), (1, true), (2, true), (3, true), (5, true), (6, true), (7, true), (8, true), (4, false), (9, false), (10, false), (11, false), (12, true)]))] [] [] Try.func96 rfl (by decide +kernel) rfl rfl (fun W x => by kernel_rfl)
noncomputable def wide_SignW (W : Wd) (w : WideWide') : Option Int := W.call (wide_Cmp w (0, (0, ()))) fun v1 => some v1
noncomputable def wide_Sign (w : WideWide') : Option Int := wide_SignW stdW w
noncomputable def wide_Sign_s : ES := ⟨(.pair tWideWide .unit), (.v (.int .i64)), fun x => wide_Sign x.1⟩
theorem wide_Sign_ok : ECok Try.prog 71 (.es wide_Sign_s)   := es_ok (A := (.pair tWideWide .unit)) (Q := (.v (.int .i64))) (fun W x => wide_SignW W x.1) [(96, .es wide_Cmp_s)] ⟨wide_Cmp_ok, trivial⟩ [] [] [] Try.func71 rfl (by decide +kernel) rfl rfl (fun W x => by kernel_rfl)
noncomputable def book_BalancedW (W : Wd) (l : List APos') : Option Bool := 
 W.loop (fun (z1 : Int × Unit) again2 => 
  W.cnd (decide (z1.1 ≤ 8)) (W.call (book_Open l z1.1) fun v3 => W.call (wide_Sign v3) fun v4 => 
   W.cnd (v4 != 0) (some false)
    ((again2 ((IntKind.i64.wrap (z1.1 + 1)), ()))))
   (some true))
  (1, ())
noncomputable def book_Balanced (l : List APos') : Option Bool := book_BalancedW stdW l
noncomputable def book_Balanced_s : ES := ⟨(.pair (.slc tAPos) .unit), (.v .bool), fun x => book_Balanced x.1⟩
theorem book_Balanced_ok : ECok Try.prog 36 (.es book_Balanced_s)   := es_ok (A := (.pair (.slc tAPos) .unit)) (Q := (.v .bool)) (fun W x => book_BalancedW W x.1) [(72, .es book_Open_s), (71, .es wide_Sign_s)] ⟨book_Open_ok, wide_Sign_ok, trivial⟩ [] [] [(2, ⟨[(3, .t (.int .i64))], [], []⟩)] Try.func36 rfl (by decide +kernel) rfl rfl (fun W x => by kernel_rfl)
noncomputable def law20_MarkZeroW (W : Wd) (t : List AInst') (l : List APos') (p : List AFlow') : Option Bool := W.call (law20_Insts t) fun v1 => W.call (law19_Few l) fun v2 => W.call (law17_Few p) fun v3 => 
 W.join (fun (z4 : List ((Int × Int × Unit) × List (Int × Int × Unit) × Unit) × Bool × Unit) => 
  W.cnd z4.2.1 (W.call (law20_lives) fun v5 => some v5)
   (W.call (mark_Flows v1 z4.1) fun v6 => 
   W.cnd (v6.2.1 != 0) (
    W.cnd ((v6.1.length : Int) == 0) (W.call (law20_lives) fun v7 => some v7)
     (some false))
    (
    W.join (fun (z8 : Bool × Unit) => 
     W.cnd z8.1 (some false)
      (W.call (mark_Settle v1 z4.1 v3) fun v9 => 
      W.cnd (v9.2.1 != 0) (W.call (law20_lives) fun v10 => some v10)
       (W.call (ref17_Total v9.1) fun v11 => W.call (ref17_Total v3) fun v12 => W.call (ref01_Cmp (v11.1, (v11.2.1, ())) (v12.1, (v12.2.1, ()))) fun v13 => 
       W.cnd (v13 == 0) (W.call (law20_lives) fun v14 => some v14)
        (some false))))
     fun k15 => W.call (ref17_Total v6.1) fun v16 => W.call (ref01_Cmp (v16.1, (v16.2.1, ())) (false, ([], ()))) fun v17 => 
     W.cnd (v17 != 0) ((k15 (true, ())))
      (W.call (purse_Is v6.1) fun v18 => (k15 ((!v18), ()))))))
  fun k19 => W.call (book_Is v2) fun v20 => 
  W.cnd (!v20) ((k19 (v2, (true, ()))))
   (W.call (book_Balanced v2) fun v21 => (k19 (v2, ((!v21), ()))))
noncomputable def law20_MarkZero (t : List AInst') (l : List APos') (p : List AFlow') : Option Bool := law20_MarkZeroW stdW t l p
noncomputable def law20_MarkZero_s : ES := ⟨(.pair (.slc tAInst) (.pair (.slc tAPos) (.pair (.slc tAFlow) .unit))), (.v .bool), fun x => law20_MarkZero x.1 x.2.1 x.2.2.1⟩
theorem law20_MarkZero_ok : ECok Try.prog 8 (.es law20_MarkZero_s)   := es_ok (A := (.pair (.slc tAInst) (.pair (.slc tAPos) (.pair (.slc tAFlow) .unit)))) (Q := (.v .bool)) (fun W x => law20_MarkZeroW W x.1 x.2.1 x.2.2.1) [(25, .es law20_Insts_s), (27, .es law19_Few_s), (11, .es law17_Few_s), (35, .es book_Is_s), (36, .es book_Balanced_s), (34, .es law20_lives_s), (30, .es mark_Flows_s), (22, .es ref17_Total_s), (20, .es ref01_Cmp_s), (16, .es purse_Is_s), (32, .es mark_Settle_s)] ⟨law20_Insts_ok, law19_Few_ok, law17_Few_ok, book_Is_ok, book_Balanced_ok, law20_lives_ok, mark_Flows_ok, ref17_Total_ok, ref01_Cmp_ok, purse_Is_ok, mark_Settle_ok, trivial⟩ [] [(500024, ⟨[(1, .t (.slc tAPos)), (24, .t .bool)], [], []⟩), (500049, ⟨[(49, .t .bool)], [], []⟩)] [] Try.func8 rfl (by decide +kernel) rfl rfl (fun W x => by kernel_rfl)
end Go.Proofs.Ytbpbkmngbhgpfaa

namespace Go.Proofs.Ytbpbkmngbhgpfaa
open Go Go.Vc Go.RowKit
theorem r_nat (u : Nat) (hu : u < 18446744073709551616) : ref01_Nat (u : Int) = some (bigS false u) := nat_is u hu
theorem r_plus {xs ys : List Int} (hx : Nrm xs) (hy : Nrm ys) (lx : xs.length ≤ 1000) (ly : ys.length ≤ 1000) : ref01_plus xs ys = some (bitsOf (valB xs + valB ys)) := plus_is hx hy lx ly
theorem r_less {xs ys : List Int} (hx : Nrm xs) (hy : Nrm ys) (lx : xs.length ≤ 1000) (ly : ys.length ≤ 1000) : ref01_less xs ys = some (decide (valB xs < valB ys)) := less_is hx hy lx ly
theorem r_minus {xs ys : List Int} (hx : Nrm xs) (hy : Nrm ys) (lx : xs.length ≤ 1000) (hle : valB ys ≤ valB xs) : ref01_minus xs ys = some (bitsK xs.length (valB xs - valB ys)) := minus_is hx hy lx hle
theorem r_trim {g : Bool} {xs : List Int} (h : bitL xs) (lx : xs.length ≤ 1000) : ref01_trim g xs = some (bigS g (valB xs)) := trim_is h lx
end Go.Proofs.Ytbpbkmngbhgpfaa

namespace Go.Proofs.Ytbpbkmngbhgpfaa
open Go Go.Vc Go.RowKit
theorem bits_len_le {n k K : Nat} (h : n < 2 ^ k) (hk : k ≤ K) : (bitsOf n).length ≤ K := Nat.le_trans (bits_len k n h) hk
theorem pw {a b k : Nat} (ha : a < 2 ^ k) (hb : b < 2 ^ k) : a + b < 2 ^ (k + 1) := by rw [Nat.pow_succ]; omega
theorem call_eq {α β : Type} {o : Option α} {a : α} (h : o = some a) (K : α → Option β) : stdW.call o K = K a := by subst h; rfl
theorem valB_lt' {xs : List Int} (h : Nrm xs) {k : Nat} (hl : xs.length ≤ k) : valB xs < 2 ^ k := Nat.lt_of_lt_of_le (valB_lt xs h.bits) (Nat.pow_le_pow_right (by omega) hl)
theorem sum_len {a b : List Int} (ha : Nrm a) (hb : Nrm b) {k : Nat} (la : a.length ≤ k) (lb : b.length ≤ k) : (bitsOf (valB a + valB b)).length ≤ k + 1 := bits_len_le (pw (valB_lt' ha la) (valB_lt' hb lb)) (Nat.le_refl _)
theorem r_add {x y : BigT} (hx : Nb x) (hy : Nb y) (lx : x.2.1.length ≤ 900) (ly : y.2.1.length ≤ 900) : ref01_Add x y = some (big (bv x + bv y)) := by
  show ref01_AddW stdW x y = _
  have nx := nb_nrm hx
  have ny := nb_nrm hy
  unfold ref01_AddW
  have eta : ∀ z : BigT, (some (z.1, (z.2.1, ())) : Option BigT) = some z := fun z => rfl
  by_cases h : x.1 = y.1
  · have e : notIf false (x.1 == y.1) = true := by simp [notIf, h]
    have hs : (bitsOf (valB x.2.1 + valB y.2.1)).length ≤ 1000 := Nat.le_trans (sum_len nx ny lx ly) (by omega)
    rw [e]
    show (stdW.call _ _ : Option BigT) = _
    rw [call_eq (r_plus nx ny (by omega) (by omega)), call_eq (r_trim (bitL_bits _) hs), eta, add_same h]
  · have e : notIf false (x.1 == y.1) = false := by simp [notIf, h]
    rw [e]
    show (stdW.call _ _ : Option BigT) = _
    rw [call_eq (r_less nx ny (by omega) (by omega))]
    by_cases hl : valB x.2.1 < valB y.2.1
    · rw [decide_eq_true hl]
      show (stdW.call _ _ : Option BigT) = _
      rw [call_eq (r_minus ny nx (by omega) (by omega)), call_eq (r_trim (bitL_K _ _) (by rw [len_K]; omega)), eta, add_less ny h hl]
    · rw [decide_eq_false hl]
      show (stdW.call _ _ : Option BigT) = _
      rw [call_eq (r_minus nx ny (by omega) (by omega)), call_eq (r_trim (bitL_K _ _) (by rw [len_K]; omega)), eta, add_more nx h hl]
end Go.Proofs.Ytbpbkmngbhgpfaa

namespace Go.Vc
open Go Go.RowKit
variable {β : Type}
/-! ### loops over a list -/
theorem loop_list {α S : Type} {l : List α} (hl : l.length ≤ 9223372036854775807) {f : Int × S → (Int × S → Option β) → Option β} (Inv : Nat → S → Prop) (g : List α → S → Option β) {s0 : S} (h0 : Inv 0 s0)
    (hend : ∀ s (again : Int × S → Option β), Inv l.length s → f ((l.length : Int), s) again = g [] s)
    (hstep : ∀ i (h : i < l.length) s, Inv i s → ∀ again : Int × S → Option β, (∀ s', Inv (i + 1) s' → again (((i + 1 : Nat) : Int), s') = g (l.drop (i + 1)) s') → f ((i : Int), s) again = g (l[i] :: l.drop (i + 1)) s) :
    stdW.loop f (0, s0) = g l s0 := by
  refine (loop_std (fun z => (l.length + 1) - z.1.toNat) (fun z => ∃ i : Nat, z.1 = (i : Int) ∧ i ≤ l.length ∧ Inv i z.2) (fun z => g (l.drop z.1.toNat) z.2) ⟨0, rfl, by omega, h0⟩ (by show l.length + 1 - 0 < _; omega) ?_).trans ?_
  · rintro ⟨z, s⟩ ⟨i, hi, hle, hs⟩ again ha
    dsimp only at hi hs
    subst hi
    simp only [Int.toNat_natCast]
    by_cases h : i < l.length
    · rw [drop_cons' l i h]
      refine hstep i h s hs again fun s' hs' => ?_
      have := ha (((i + 1 : Nat) : Int), s') ⟨i + 1, rfl, by omega, hs'⟩ (by simp only [Int.toNat_natCast]; omega)
      simpa only [Int.toNat_natCast] using this
    · obtain rfl : i = l.length := by omega
      rw [List.drop_length]
      exact hend s again hs
  · simp
theorem cnd_lt {i n : Nat} (h : i < n) (a b : Option β) : stdW.cnd (decide ((i : Int) < (n : Int))) a b = a := by rw [decide_eq_true (by omega)]; rfl
theorem cnd_end {n : Nat} (a b : Option β) : stdW.cnd (decide ((n : Int) < (n : Int))) a b = b := by rw [decide_eq_false (by omega)]; rfl
theorem cnd_p {p : Prop} [Decidable p] (a b : Option β) : stdW.cnd (decide p) a b = if p then a else b := by by_cases h : p <;> simp [h]
theorem cnd_b {c : Bool} (a b : Option β) : stdW.cnd c a b = if c = true then a else b := by cases c <;> rfl
theorem cnd_y {c : Bool} (h : c = true) (a b : Option β) : stdW.cnd c a b = a := by subst h; rfl
theorem cnd_n {c : Bool} (h : c = false) (a b : Option β) : stdW.cnd c a b = b := by subst h; rfl
theorem idx_w {α : Type} {l : List α} {i : Nat} (h : i < l.length) (K : α → Option β) : stdW.idx l (i : Int) K = K l[i] := idx_eq h K
theorem nth_w {α : Type} {l : List α} {i : Nat} (h : i < l.length) (K : α → Option β) : stdW.nth l (Int.toNat (i : Int)) K = K l[i] := by
  show idxR l _ K = _
  unfold idxR
  rw [Int.toNat_natCast, List.getElem?_eq_getElem h]
theorem room_w {n b : Nat} (h : n ≤ 281474976710656) (h2 : n * b ≤ 140737488355328) (K : Option β) : stdW.room n b K = K := room_eq h h2 K
theorem nn_w {b : Int} (h : 0 ≤ b) (K : Option β) : stdW.nn b K = K := nn_eq h K
theorem both_w (a : Option β) : stdW.both a a = a := both_eq a
theorem join_w {X : Type} (k : X → Option β) (f : (X → Option β) → Option β) : stdW.join k f = f k := rfl
theorem bnd_w {i : Int} {n : Nat} (h : 0 ≤ i) (h2 : i ≤ n) (K : Nat → Option β) : stdW.bnd i n K = K i.toNat := bnd_eq h h2 K
theorem i64_s (i : Nat) (h : i < 9223372036854775807) : IntKind.i64.wrap ((i : Int) + 1) = ((i + 1 : Nat) : Int) := i64_succ i h
end Go.Vc
namespace Go.Vc
variable {β : Type}
/-- a loop that counts up to N -/
theorem loop_n {S : Type} {N : Nat} (hN : N < 9223372036854775807) {f : Int × S → (Int × S → Option β) → Option β} (Inv : Nat → S → Prop) (r : Option β) {s0 : S} (h0 : Inv 0 s0)
    (hend : ∀ s (again : Int × S → Option β), Inv N s → f (((N : Nat) : Int), s) again = r)
    (hstep : ∀ i, i < N → ∀ s, Inv i s → ∀ again : Int × S → Option β, (∀ s', Inv (i + 1) s' → again (((i + 1 : Nat) : Int), s') = r) → f ((i : Int), s) again = r) :
    stdW.loop f (0, s0) = r := by
  refine (loop_std (fun z => (N + 1) - z.1.toNat) (fun z => ∃ i : Nat, z.1 = (i : Int) ∧ i ≤ N ∧ Inv i z.2) (fun _ => r) ⟨0, rfl, by omega, h0⟩ (by show N + 1 - 0 < _; omega) ?_)
  rintro ⟨z, s⟩ ⟨i, hi, hle, hs⟩ again ha
  dsimp only at hi hs
  subst hi
  by_cases h : i < N
  · refine hstep i h s hs again fun s' hs' => ?_
    exact ha (((i + 1 : Nat) : Int), s') ⟨i + 1, rfl, by omega, hs'⟩ (by simp only [Int.toNat_natCast]; omega)
  · obtain rfl : i = N := by omega
    exact hend s again hs
/-! ### sums -/
def sumBy {α : Type} (f : α → Int) (l : List α) : Int := (l.map f).sum
theorem sumBy_nil {α : Type} (f : α → Int) : sumBy f [] = 0 := rfl
theorem sumBy_cons {α : Type} (f : α → Int) (x : α) (l : List α) : sumBy f (x :: l) = f x + sumBy f l := by simp [sumBy]
theorem sumBy_app {α : Type} (f : α → Int) (a b : List α) : sumBy f (a ++ b) = sumBy f a + sumBy f b := by simp [sumBy]
theorem sumBy_take {α : Type} (f : α → Int) (l : List α) (i : Nat) (h : i < l.length) : sumBy f (l.take (i + 1)) = sumBy f (l.take i) + f l[i] := by
  rw [show l.take (i + 1) = l.take i ++ [l[i]] by simp, sumBy_app, sumBy_cons, sumBy_nil]; omega
theorem sumBy_in {α : Type} {f : α → Int} {B : Int} : ∀ {l : List α}, (∀ x ∈ l, -B ≤ f x ∧ f x ≤ B) → -(B * (l.length : Int)) ≤ sumBy f l ∧ sumBy f l ≤ B * (l.length : Int)
  | [], _ => by simp [sumBy]
  | x :: l, h => by
    have h1 := h x (by simp)
    have h2 := sumBy_in (l := l) fun w hw => h w (by simp [hw])
    rw [sumBy_cons, List.length_cons, Int.natCast_add, Int.mul_add]
    omega
theorem sumBy_filter {α : Type} (f : α → Int) (p : α → Bool) : ∀ (l : List α), sumBy f (l.filter p) = sumBy (fun x => if p x = true then f x else 0) l
  | [] => rfl
  | x :: l => by
    rw [sumBy_cons, ← sumBy_filter f p l]
    by_cases h : p x = true
    · rw [List.filter_cons_of_pos h, sumBy_cons, if_pos h]
    · rw [List.filter_cons_of_neg h, if_neg h]; omega
theorem filter_take {α : Type} (p : α → Bool) (l : List α) (i : Nat) (h : i < l.length) : (l.take (i + 1)).filter p = (l.take i).filter p ++ (if p l[i] = true then [l[i]] else []) := by
  rw [show l.take (i + 1) = l.take i ++ [l[i]] by simp, List.filter_append]
  congr 1
  by_cases hp : p l[i] = true <;> simp [hp]
theorem call_w {α β : Type} {o : Option α} {a : α} (h : o = some a) (K : α → Option β) : stdW.call o K = K a := by subst h; rfl
end Go.Vc


namespace Go.Proofs.Ytbpbkmngbhgpfaa
open Go Go.Vc Go.RowKit
/-! ### numbers of 128 bits, by their values -/
def wv (w : WideWide') : Int := w.1 * 18446744073709551616 + w.2.1
def wOk (w : WideWide') : Prop := (-9223372036854775808 ≤ w.1 ∧ w.1 ≤ 9223372036854775807) ∧ (0 ≤ w.2.1 ∧ w.2.1 < 18446744073709551616)
def wide (z : Int) : WideWide' := (z / 18446744073709551616, z % 18446744073709551616, ())
def In128 (z : Int) : Prop := -170141183460469231731687303715884105728 ≤ z ∧ z < 170141183460469231731687303715884105728
instance (z : Int) : Decidable (In128 z) := by unfold In128; infer_instance
theorem wv_wide (z : Int) : wv (wide z) = z := by unfold wide wv; simp only; omega
theorem wide_wv (w : WideWide') (h : wOk w) : wide (wv w) = w := by
  obtain ⟨hi, lo, ⟨⟩⟩ := w
  unfold wOk at h
  unfold wide wv
  simp only at h ⊢
  have e1 : (hi * 18446744073709551616 + lo) / 18446744073709551616 = hi := by omega
  have e2 : (hi * 18446744073709551616 + lo) % 18446744073709551616 = lo := by omega
  rw [e1, e2]
theorem wv_in (w : WideWide') (h : wOk w) : In128 (wv w) := by unfold wOk at h; unfold In128 wv; omega
theorem wide_ok (z : Int) (h : In128 z) : wOk (wide z) := by unfold In128 at h; unfold wOk wide; simp only; omega
theorem wide_inj {a b : Int} (h : wide a = wide b) : a = b := by rw [← wv_wide a, h, wv_wide]
theorem shr63 (n : Int) (h : -9223372036854775808 ≤ n ∧ n ≤ 9223372036854775807) : n.fdiv (2 ^ min (Int.toNat 63) IntKind.i64.bits) = n / 18446744073709551616 := by
  have e : (2 : Int) ^ min (Int.toNat 63) IntKind.i64.bits = 9223372036854775808 := by decide +kernel
  rw [e, Int.fdiv_eq_ediv_of_nonneg _ (by omega)]; omega
def fit (z : Int) : WideWide' × Int × Unit := if In128 z then (wide z, 0, ()) else ((0, 0, ()), 7, ())
def I64 (n : Int) : Prop := -9223372036854775808 ≤ n ∧ n ≤ 9223372036854775807
theorem i64_128 {n : Int} (h : I64 n) : In128 n := by unfold I64 at h; unfold In128; omega
theorem r_wOf (n : Int) (h : I64 n) : wide_Of n = some (wide n) := by
  show wide_OfW stdW n = _
  unfold wide_OfW
  rw [nn_w (by omega), shr63 n h, IntKind.wrap_u64]; rfl
/-! a running sum -/
def totT (V : Int) : Int × Int × Int × Unit := (V / 340282366920938463463374607431768211456, IntKind.i64.wrap (V / 18446744073709551616), V % 18446744073709551616, ())
def InTot (V : Int) : Prop := -1569275433846670190958947355801916604025588861116008628224 ≤ V ∧ V < 1569275433846670190958947355801916604025588861116008628224
theorem wrap_wrap_u (z : Int) : IntKind.u64.wrap (IntKind.i64.wrap z) = z % 18446744073709551616 := by
  rw [IntKind.wrap_u64, IntKind.wrap_i64]; omega
theorem wrap_mod_i (z : Int) : IntKind.i64.wrap (z % 18446744073709551616) = IntKind.i64.wrap z := by
  rw [IntKind.wrap_i64, IntKind.wrap_i64]; omega
theorem tot_next (V x y : Int) (hV : InTot V) (hx : -9223372036854775808 ≤ x ∧ x ≤ 9223372036854775807) (hy : 0 ≤ y ∧ y < 18446744073709551616) :
    ((IntKind.i64.wrap (V / 340282366920938463463374607431768211456 + IntKind.i64.wrap (x.fdiv (2 ^ min (Int.toNat 63) IntKind.i64.bits) + IntKind.i64.wrap ((IntKind.u64.wrap (IntKind.i64.wrap (V / 18446744073709551616)) + IntKind.u64.wrap x + (V % 18446744073709551616 + y + 0) / 18446744073709551616) / 18446744073709551616))),
      IntKind.i64.wrap ((IntKind.u64.wrap (IntKind.i64.wrap (V / 18446744073709551616)) + IntKind.u64.wrap x + (V % 18446744073709551616 + y + 0) / 18446744073709551616) % 18446744073709551616),
      (V % 18446744073709551616 + y + 0) % 18446744073709551616, ()) : Int × Int × Int × Unit) = totT (V + (x * 18446744073709551616 + y)) := by
  unfold InTot at hV
  rw [wrap_wrap_u, wrap_mod_i, shr63 x hx, IntKind.wrap_u64]
  have e1 : (V + (x * 18446744073709551616 + y)) / 18446744073709551616 = V / 18446744073709551616 + x + (V % 18446744073709551616 + y + 0) / 18446744073709551616 := by omega
  have e0 : (V + (x * 18446744073709551616 + y)) / 340282366920938463463374607431768211456 = (V / 18446744073709551616 + x + (V % 18446744073709551616 + y + 0) / 18446744073709551616) / 18446744073709551616 := by omega
  have e3 : V / 340282366920938463463374607431768211456 = V / 18446744073709551616 / 18446744073709551616 := by omega
  unfold totT
  rw [e1, e0, e3]
  have hc : 0 ≤ (V % 18446744073709551616 + y + 0) / 18446744073709551616 ∧ (V % 18446744073709551616 + y + 0) / 18446744073709551616 ≤ 1 := by omega
  generalize (V % 18446744073709551616 + y + 0) / 18446744073709551616 = c at *
  have hu : -92233720368547758080000000000000000000 ≤ V / 18446744073709551616 ∧ V / 18446744073709551616 < 92233720368547758080000000000000000000 := by omega
  generalize V / 18446744073709551616 = u at *
  have f1 : (V + (x * 18446744073709551616 + y)) % 18446744073709551616 = (V % 18446744073709551616 + y + 0) % 18446744073709551616 := by omega
  rw [f1]
  have g2 : (u % 18446744073709551616 + x % 18446744073709551616 + c) / 18446744073709551616 ≤ 2 ∧ 0 ≤ (u % 18446744073709551616 + x % 18446744073709551616 + c) / 18446744073709551616 := by omega
  have g1 : IntKind.i64.wrap ((u % 18446744073709551616 + x % 18446744073709551616 + c) / 18446744073709551616) = (u % 18446744073709551616 + x % 18446744073709551616 + c) / 18446744073709551616 := IntWalk.i64_in _ (by omega)
  rw [g1]
  have g3 : IntKind.i64.wrap (x / 18446744073709551616 + (u % 18446744073709551616 + x % 18446744073709551616 + c) / 18446744073709551616) = x / 18446744073709551616 + (u % 18446744073709551616 + x % 18446744073709551616 + c) / 18446744073709551616 := IntWalk.i64_in _ (by omega)
  rw [g3]
  have g4 : u / 18446744073709551616 + (x / 18446744073709551616 + (u % 18446744073709551616 + x % 18446744073709551616 + c) / 18446744073709551616) = (u + x + c) / 18446744073709551616 := by omega
  rw [g4]
  have g5 : IntKind.i64.wrap ((u + x + c) / 18446744073709551616) = (u + x + c) / 18446744073709551616 := IntWalk.i64_in _ (by omega)
  rw [g5]
  have g6 : IntKind.i64.wrap (u % 18446744073709551616 + x % 18446744073709551616 + c) = IntKind.i64.wrap (u + x + c) := by rw [IntKind.wrap_i64, IntKind.wrap_i64]; omega
  rw [g6]
theorem add64_is {x y c : Int} (hx : 0 ≤ x) (hy : 0 ≤ y) (hc0 : 0 ≤ c) (hc : c ≤ 1) : add64 x y c = some ((x + y + c) % 18446744073709551616, (x + y + c) / 18446744073709551616, ()) := by unfold add64; rw [if_pos ⟨hx, hy, hc0, hc⟩]
theorem sub64_is {x y b : Int} (hx : 0 ≤ x) (hy : 0 ≤ y) (hy2 : y < 18446744073709551616) (hb0 : 0 ≤ b) (hb : b ≤ 1) : sub64 x y b = some ((x - y - b) % 18446744073709551616, if x < y + b then 1 else 0, ()) := by unfold sub64; rw [if_pos ⟨hx, hy, hy2, hb0, hb⟩]
theorem r_tadd (V : Int) (x : WideWide') (hV : InTot V) (hx : wOk x) : wide_total_add x (totT V).1 (totT V).2.1 (totT V).2.2.1 = some ((), totT (V + wv x)) := by
  unfold wOk at hx
  show wide_total_addW stdW x (V / 340282366920938463463374607431768211456) (IntKind.i64.wrap (V / 18446744073709551616)) (V % 18446744073709551616) = _
  unfold wide_total_addW wv
  rw [← tot_next V x.1 x.2.1 hV hx.1 hx.2]
  have hV' := hV
  unfold InTot at hV'
  rw [call_eq (add64_is (by omega) (by omega) (by omega) (by omega)), call_eq (add64_is (by rw [IntKind.wrap_u64]; omega) (by rw [IntKind.wrap_u64]; omega) (by show 0 ≤ (V % 18446744073709551616 + x.2.1 + 0) / 18446744073709551616; omega) (by show (V % 18446744073709551616 + x.2.1 + 0) / 18446744073709551616 ≤ 1; omega)), nn_w (by omega)]
theorem tot_fits (V : Int) (hV : InTot V) : (V / 340282366920938463463374607431768211456 == (IntKind.i64.wrap (V / 18446744073709551616)).fdiv (2 ^ min (Int.toNat 63) IntKind.i64.bits)) = decide (In128 V) := by
  have hr : -9223372036854775808 ≤ IntKind.i64.wrap (V / 18446744073709551616) ∧ IntKind.i64.wrap (V / 18446744073709551616) ≤ 9223372036854775807 := by
    rw [IntKind.wrap_i64]; omega
  rw [shr63 _ hr]
  unfold InTot at hV
  by_cases h : In128 V
  · rw [decide_eq_true h]
    unfold In128 at h
    rw [IntWalk.i64_in _ (by omega)]
    first | (simp; done) | (simp; omega) | skip
  · rw [decide_eq_false h]
    unfold In128 at h
    rw [IntKind.wrap_i64]
    simp; omega
theorem r_ranged (w : WideWide') (ok : Bool) : wide_ranged w ok = some (if ok = true then (w, 0, ()) else ((0, 0, ()), 7, ())) := by
  show wide_rangedW stdW w ok = _
  unfold wide_rangedW
  cases ok <;> rfl
theorem r_tdone (V : Int) (hV : InTot V) : wide_total_done (totT V).1 (totT V).2.1 (totT V).2.2.1 = some (fit V, totT V) := by
  show wide_total_doneW stdW _ _ _ = _
  unfold wide_total_doneW
  rw [nn_w (by omega), call_eq (r_ranged _ _)]
  have := tot_fits V hV
  show some ((if (V / 340282366920938463463374607431768211456 == (IntKind.i64.wrap (V / 18446744073709551616)).fdiv (2 ^ min (Int.toNat 63) IntKind.i64.bits)) = true then _ else _), _) = _
  rw [this]
  unfold fit
  by_cases h : In128 V
  · rw [if_pos (decide_eq_true h), if_pos h]
    have e : IntKind.i64.wrap (V / 18446744073709551616) = V / 18446744073709551616 := by unfold In128 at h; exact IntWalk.i64_in _ (by omega)
    show some (((IntKind.i64.wrap (V / 18446744073709551616), V % 18446744073709551616, ()), 0, ()), _) = _
    rw [e]; rfl
  · rw [decide_eq_false h, if_neg (by simp), if_neg h]
def sumW (l : List WideWide') : Int := (l.map wv).sum
theorem sumW_in : ∀ (l : List WideWide'), (∀ w ∈ l, wOk w) → -(170141183460469231731687303715884105728 * (l.length : Int)) ≤ sumW l ∧ sumW l ≤ 170141183460469231731687303715884105728 * (l.length : Int)
  | [], _ => by simp [sumW]
  | x :: l, h => by
    have h1 := wv_in x (h x (by simp))
    have h2 := sumW_in l fun w hw => h w (by simp [hw])
    unfold In128 at h1
    simp only [sumW, List.map_cons, List.sum_cons, List.length_cons] at h2 ⊢
    omega
theorem sumW_tot (l : List WideWide') (h : ∀ w ∈ l, wOk w) (hl : l.length < 9223372036854775807) : InTot (sumW l) := by
  have := sumW_in l h
  unfold InTot; omega
theorem sumW_app (a b : List WideWide') : sumW (a ++ b) = sumW a + sumW b := by unfold sumW; simp
theorem sumW_one (a : WideWide') : sumW [a] = wv a := by unfold sumW; simp
theorem sumW_take (l : List WideWide') (i : Nat) (h : i < l.length) : sumW (l.take (i + 1)) = sumW (l.take i) + wv l[i] := by
  rw [show l.take (i + 1) = l.take i ++ [l[i]] by simp, sumW_app, sumW_one]
theorem r_wAdd (l : List WideWide') (h : ∀ w ∈ l, wOk w) (hl : l.length < 9223372036854775807) : wide_Add l = some (fit (sumW l)) := by
  show wide_AddW stdW l = _
  unfold wide_AddW
  refine loop_list (l := l) (by omega) (fun i s => s = totT (sumW (l.take i))) (fun _ _ => some (fit (sumW l))) (by simp [sumW]; rfl) ?_ ?_
  · rintro _ again rfl
    rw [List.take_length, cnd_end, call_eq (r_tdone _ (sumW_tot l h hl))]
  · rintro i hi _ rfl again ha
    rw [cnd_lt hi, idx_w hi, call_eq (r_tadd _ _ (sumW_tot _ (fun w hw => h w (List.mem_of_mem_take hw)) (by rw [List.length_take]; omega)) (h _ (List.getElem_mem hi)))]
    dsimp only
    rw [i64_s i (by omega)]
    exact ha _ (by rw [sumW_take l i hi])
end Go.Proofs.Ytbpbkmngbhgpfaa

namespace Go.Proofs.Ytbpbkmngbhgpfaa
open Go Go.Vc Go.RowKit
/-! ### numbers without bounds: the reference's -/
theorem r_neg {a : BigT} (h : Nb a) (la : a.2.1.length ≤ 1000) : ref01_Neg a = some (big (-(bv a))) := by
  show ref01_NegW stdW a = _
  unfold ref01_NegW
  rw [call_eq (r_trim (nb_nrm h).bits la), neg_is]
theorem r_sub {a b : BigT} (ha : Nb a) (hb : Nb b) (la : a.2.1.length ≤ 900) (lb : b.2.1.length ≤ 900) : ref01_Sub a b = some (big (bv a - bv b)) := by
  show ref01_SubW stdW a b = _
  unfold ref01_SubW
  have e : ∀ z : BigT, (z.1, (z.2.1, ())) = z := fun z => rfl
  rw [e, e, call_eq (r_neg hb (by omega)), e, call_eq (r_add ha (nb_big _) la (by rw [neg_len hb]; exact lb)), e, bv_big]
  congr 2
theorem r_cmp {a b : BigT} (ha : Nb a) (hb : Nb b) (la : a.2.1.length ≤ 900) (lb : b.2.1.length ≤ 900) : ref01_Cmp a b = some (if bv a - bv b = 0 then 0 else if bv a - bv b < 0 then -1 else 1) := by
  show ref01_CmpW stdW a b = _
  unfold ref01_CmpW
  have e : ∀ z : BigT, (z.1, (z.2.1, ())) = z := fun z => rfl
  rw [e, e, call_eq (r_sub ha hb la lb)]
  by_cases h : bv a - bv b = 0
  · rw [cnd_y (by have := (big_len0 (bv a - bv b)).2 h; simp [this]), if_pos h]
  · rw [cnd_n (by have := mt (big_len0 (bv a - bv b)).1 h; simpa using this), if_neg h, cnd_b]
    show (if decide (bv a - bv b < 0) = true then _ else _) = _
    by_cases h2 : bv a - bv b < 0
    · rw [if_pos (by simpa using h2), if_pos h2]
    · rw [if_neg (by simpa using h2), if_neg h2]
theorem r_of {n : Int} (h : I64 n) : ref01_Of n = some (big n) := by
  show ref01_OfW stdW n = _
  unfold I64 at h
  unfold ref01_OfW
  by_cases h0 : 0 ≤ n
  · rw [cnd_y (decide_eq_true h0), u64_id n (by omega)]
    obtain ⟨m, rfl⟩ := Int.eq_ofNat_of_zero_le h0
    rw [call_eq (r_nat m (by omega)), bigS_f]
  · rw [cnd_n (decide_eq_false h0), of_neg (by omega) (by omega)]
    obtain ⟨m, hm⟩ := Int.eq_ofNat_of_zero_le (show 0 ≤ -(n + 1) by omega)
    rw [hm, call_eq (r_nat m (by omega))]
    have hl : (bitsOf m).length ≤ 1000 := bits_len_le (show m < 2 ^ 64 by omega) (by omega)
    show stdW.call (ref01_plus (bitsOf m) [1]) _ = _
    rw [call_eq (r_plus (nrm_bits m) nrm1 hl (by simp)), of_negB (by omega) (by omega) hm.symm]
    rfl
theorem big_dbl {z : Int} (h : z ≠ 0) : big (z * 2) = ((big z).1, 0 :: (big z).2.1, ()) := by
  unfold big
  rw [show (z * 2).natAbs = z.natAbs * 2 by omega, bitsS (show z.natAbs * 2 ≠ 0 by omega), show z.natAbs * 2 % 2 = 0 by omega, show z.natAbs * 2 / 2 = z.natAbs by omega]
  have : decide (z * 2 < 0) = decide (z < 0) := decide_eq_decide.2 (by omega)
  rw [this]; rfl
theorem pow_small {i : Nat} (h : i ≤ 64) : 2 ^ i ≤ 18446744073709551616 := Nat.le_trans (Nat.pow_le_pow_right (by omega) h) (by decide)
theorem len_big2 {z : Int} (h : -170141183460469231731687303715884105728 ≤ z ∧ z ≤ 170141183460469231731687303715884105728) : (big z).2.1.length ≤ 200 := by
  refine len_big z ?_
  have : (2 : Nat) ^ 200 = 1606938044258990275541962092341162602522202993782792835301376 := by decide
  omega
theorem len_big3 {z : Int} (h : -1606938044258990275541962092341162602522202993782792835301375 ≤ z ∧ z ≤ 1606938044258990275541962092341162602522202993782792835301375) : (big z).2.1.length ≤ 900 := by
  refine Nat.le_trans (len_big z ?_) (by decide)
  have : (2 : Nat) ^ 200 = 1606938044258990275541962092341162602522202993782792835301376 := by decide
  omega
theorem r_wide {hi lo : Int} (h : I64 hi) (h0 : 0 ≤ lo) (h1 : lo < 18446744073709551616) : ref01_Wide hi lo = some (big (hi * 18446744073709551616 + lo)) := by
  show ref01_WideW stdW hi lo = _
  unfold ref01_WideW
  rw [call_eq (r_of h)]
  have e : ∀ z : BigT, (z.1, (z.2.1, ())) = z := fun z => rfl
  obtain ⟨m, rfl⟩ := Int.eq_ofNat_of_zero_le h0
  unfold I64 at h
  have hb : ∀ i, i ≤ 64 → -170141183460469231731687303715884105728 ≤ hi * ((2 ^ i : Nat) : Int) ∧ hi * ((2 ^ i : Nat) : Int) ≤ 170141183460469231731687303715884105728 := by
    intro i hi'
    have hp := pow_small hi'
    have hp' : ((2 ^ i : Nat) : Int) ≤ 18446744073709551616 := Int.ofNat_le.2 hp
    have hp0 : (0 : Int) ≤ ((2 ^ i : Nat) : Int) := Int.natCast_nonneg _
    generalize ((2 ^ i : Nat) : Int) = p at *
    constructor
    · have := Int.mul_le_mul_of_nonneg_right (show -9223372036854775808 ≤ hi by omega) hp0
      omega
    · have := Int.mul_le_mul_of_nonneg_right (show hi ≤ 9223372036854775808 by omega) hp0
      omega
  have fin : ∀ z : BigT, z = big (hi * 18446744073709551616) → stdW.call (ref01_Nat (m : Int)) (fun v3 => stdW.call (ref01_Add (z.1, (z.2.1, ())) (v3.1, (v3.2.1, ()))) fun v4 => some ((v4.1, (v4.2.1, ())) : BigT)) = some (big (hi * 18446744073709551616 + m)) := by
    rintro _ rfl
    have h64 := hb 64 (by omega)
    rw [call_eq (r_nat m (by omega)), e, e, bigS_f, call_eq (r_add (nb_big _) (nb_big _) (Nat.le_trans (len_big2 (by simpa using h64)) (by decide)) (Nat.le_trans (len_big2 (by omega)) (by decide))), bv_big, bv_big]
  rw [join_w]
  refine loop_n (N := 64) (by omega) (fun i s => s = big (hi * ((2 ^ i : Nat) : Int))) (some (big (hi * 18446744073709551616 + m))) (by simp) ?_ ?_
  · rintro _ again rfl
    show stdW.cnd (decide ((64 : Int) < 64)) _ _ = _
    rw [cnd_n (by decide)]
    exact fin _ rfl
  · rintro i hi' _ rfl again ha
    rw [cnd_y (decide_eq_true (show (i : Int) < 64 by omega))]
    by_cases hz : hi = 0
    · subst hz
      have : (big (0 * ((2 ^ i : Nat) : Int))) = big (0 * 18446744073709551616) := by simp
      rw [this]
      rw [cnd_n (by simp [big, bits0])]
      exact fin _ rfl
    · have hz2 : hi * ((2 ^ i : Nat) : Int) ≠ 0 := Int.mul_ne_zero hz (by have := Nat.two_pow_pos i; omega)
      have hl : (big (hi * ((2 ^ i : Nat) : Int))).2.1.length ≤ 200 := len_big2 (hb i (by omega))
      rw [cnd_y (by have := mt (big_len0 (hi * ((2 ^ i : Nat) : Int))).1 hz2; simp only [decide_eq_true_eq]; omega)]
      rw [room_w (by simp) (by simp), room_w (by simp only [List.length_cons, List.length_nil]; omega) (by simp only [List.length_cons, List.length_nil]; omega), i64_s i (by omega)]
      refine ha _ ?_
      rw [Nat.pow_succ, Int.natCast_mul, ← Int.mul_assoc]
      exact (big_dbl hz2).symm
end Go.Proofs.Ytbpbkmngbhgpfaa

namespace Go.Proofs.Ytbpbkmngbhgpfaa
open Go Go.Vc Go.RowKit
/-! ### numbers: what fits, what it is -/
theorem valB_drop_le (xs : List Int) (i : Nat) (h : i ≤ xs.length) : valB (xs.drop i) ≤ valB xs := by
  have h1 := valB_split xs i h
  have h2 : valB (xs.drop i) ≤ 2 ^ i * valB (xs.drop i) := Nat.le_mul_of_pos_left _ (Nat.two_pow_pos i)
  omega
theorem r_int {z : Int} (h : I64 z) : ref01_Int (big z) = some z := by
  unfold I64 at h
  show ref01_IntW stdW (big z) = _
  unfold ref01_IntW
  have hb : bitL (big z).2.1 := bitL_bits _
  have hv : valB (big z).2.1 = z.natAbs := valB_bits _
  have hl : (big z).2.1.length ≤ 64 := bits_len 64 _ (by omega)
  have hs : (big z).1 = decide (z < 0) := rfl
  generalize (big z).1 = sg at *
  generalize (big z).2.1 = xs at *
  refine (loop_std (fun z => z.2.1.toNat) (fun y => ∃ i : Nat, i ≤ xs.length ∧ y = ((if z < 0 then -((valB (xs.drop i) : Nat) : Int) else ((valB (xs.drop i) : Nat) : Int)), ((i : Int), ()))) (fun _ => some z) ⟨xs.length, Nat.le_refl _, by simp [valB]⟩ (by show ((xs.length : Nat) : Int).toNat < _; omega) ?_)
  rintro _ ⟨i, hi, rfl⟩ again ha
  show stdW.cnd (decide ((0 : Int) < ((i : Nat) : Int))) _ _ = _
  by_cases h0 : i = 0
  · subst h0
    rw [cnd_n (c := decide ((0 : Int) < ((0 : Nat) : Int))) rfl, List.drop_zero, hv]
    congr 1; split <;> omega
  · have hm : i - 1 < xs.length := by omega
    rw [cnd_y (decide_eq_true (by omega)), join_w, i64_pred i (by omega) (by rw [maxLen_eq]; omega)]
    have hd : xs.drop (i - 1) = xs[i - 1] :: xs.drop i := by rw [List.drop_eq_getElem_cons hm, show i - 1 + 1 = i by omega]
    have hbit := hb _ (List.getElem_mem hm)
    have hle := valB_drop_le xs (i - 1) (by omega)
    rw [hv, hd, valB] at hle
    have hx0 : 0 ≤ xs[i - 1] ∧ xs[i - 1] ≤ 1 := by rcases hbit with e | e <;> rw [e] <;> omega
    have next : ∀ n : Int, n = (if z < 0 then -((valB (xs.drop (i - 1)) : Nat) : Int) else ((valB (xs.drop (i - 1)) : Nat) : Int)) → again (n, (((i - 1 : Nat) : Int), ())) = some z := fun n hn => ha _ ⟨i - 1, by omega, by rw [hn]⟩ (by show ((i - 1 : Nat) : Int).toNat < ((i : Nat) : Int).toNat; omega)
    rw [hd, valB] at next
    by_cases hz : z < 0
    · rw [hs, cnd_y (decide_eq_true hz), idx_w hm]
      refine next _ ?_
      rw [if_pos hz, if_pos hz, IntWalk.i64_in xs[i - 1] (by omega), IntWalk.i64_in (2 * -((valB (xs.drop i) : Nat) : Int)) (by omega), IntWalk.i64_in _ (by omega)]
      omega
    · rw [hs, cnd_n (decide_eq_false hz), idx_w hm]
      refine next _ ?_
      rw [if_neg hz, if_neg hz, IntWalk.i64_in xs[i - 1] (by omega), IntWalk.i64_in (2 * ((valB (xs.drop i) : Nat) : Int)) (by omega), IntWalk.i64_in _ (by omega)]
      omega
def sml (z : Int) : Prop := -170141183460469231731687303715884105728 ≤ z ∧ z ≤ 170141183460469231731687303715884105728
instance (z : Int) : Decidable (I64 z) := by unfold I64; infer_instance
theorem len_lt63 (n : Nat) : (bitsOf n).length < 64 ↔ n < 9223372036854775808 := by
  constructor
  · intro h
    have := valB_lt' (nrm_bits n) (k := 63) (by omega)
    rw [valB_bits] at this; simpa using this
  · intro h
    have := bits_len 63 n (by simpa using h)
    omega
theorem r_fits {z : Int} (h : sml z) : ref01_Fits (big z) = some (decide (I64 z)) := by
  unfold sml at h
  have hw : ref01_Within ((big z).1, ((big z).2.1, ())) 64 = some (decide (I64 z)) := by
    show ref01_WithinW stdW (big z) 64 = _
    unfold ref01_WithinW
    rw [join_w]
    by_cases hz : z < 0
    · have hs : (big z).1 = true := decide_eq_true hz
      have e1 : ref01_Nat 1 = some (big 1) := r_nat 1 (by omega)
      have e2 : ref01_Add ((big z).1, ((big z).2.1, ())) ((big 1).1, ((big 1).2.1, ())) = some (big (z + 1)) := by
        have := r_add (nb_big z) (nb_big 1) (Nat.le_trans (len_big2 h) (by decide)) (Nat.le_trans (len_big2 (by omega)) (by decide))
        rw [bv_big, bv_big] at this; exact this
      have e3 : (decide (((big (z + 1)).2.1.length : Int) < 64)) = decide (I64 z) := by
        refine decide_eq_decide.2 ?_
        have := len_lt63 (z + 1).natAbs
        show (((bitsOf (z + 1).natAbs).length : Int) < 64) ↔ _
        unfold I64; omega
      rw [cnd_y hs, both_w, call_eq e1, call_eq e2]
      show some (decide _) = _
      rw [e3]
    · have hs : (big z).1 = false := decide_eq_false hz
      rw [cnd_n hs]
      show some (decide (((bitsOf z.natAbs).length : Int) < 64)) = _
      congr 1
      refine decide_eq_decide.2 ?_
      have := len_lt63 z.natAbs
      unfold I64; omega
  show ref01_FitsW stdW (big z) = _
  unfold ref01_FitsW
  rw [call_eq hw]
/-! 64 bits of 128 -/
def fits64 (z : Int) : Int × Int × Unit := if I64 z then (z, 0, ()) else (0, 7, ())
theorem nif_t (c : Bool) : notIf true c = !c := by cases c <;> rfl
theorem nif_f (c : Bool) : notIf false c = c := by cases c <;> rfl
theorem r_wInt {z : Int} (h : In128 z) : wide_Int (wide z) = some (fits64 z) := by
  show wide_IntW stdW (wide z) = _
  unfold wide_IntW
  have hw : IntKind.i64.wrap (wide z).2.1 = IntKind.i64.wrap z := wrap_mod_i z
  have hI : I64 (IntKind.i64.wrap z) := by unfold I64; rw [IntKind.wrap_i64]; omega
  rw [hw, call_eq (r_wOf _ hI), nif_t]
  unfold fits64
  by_cases hz : I64 z
  · have e : IntKind.i64.wrap z = z := by unfold I64 at hz; exact IntWalk.i64_in _ (by omega)
    rw [if_pos hz, e, cnd_n (by simp)]
  · rw [if_neg hz, cnd_y ?_]
    rw [Bool.not_eq_true']
    cases hc : ((wide (IntKind.i64.wrap z)).1 == (wide z).1 && (wide (IntKind.i64.wrap z)).2.1 == (wide z).2.1) with
    | false => rfl
    | true =>
      simp only [Bool.and_eq_true, beq_iff_eq] at hc
      have : wide (IntKind.i64.wrap z) = wide z := Prod.ext hc.1 (Prod.ext hc.2 rfl)
      exact absurd (wide_inj this ▸ hI) hz
theorem r_narrow0 {z : Int} (h : In128 z) : fix_narrow (wide z) 0 = some (fits64 z) := by
  show fix_narrowW stdW (wide z) 0 = _
  unfold fix_narrowW
  rw [cnd_n (by decide), call_eq (r_wInt h)]
theorem sum_in {l : List Int} (h : ∀ x ∈ l, I64 x) : -(9223372036854775808 * (l.length : Int)) ≤ l.sum ∧ l.sum ≤ 9223372036854775808 * (l.length : Int) := by
  have := sumBy_in (f := fun x : Int => x) (B := 9223372036854775808) (l := l) (fun x hx => by have := h x hx; unfold I64 at this; omega)
  simpa [sumBy] using this
theorem sumW_wide (l : List Int) : sumW (l.map wide) = l.sum := by
  unfold sumW
  rw [List.map_map]
  have : (wv ∘ wide) = id := funext wv_wide
  rw [this, List.map_id]
theorem wides_ok {l : List Int} (h : ∀ x ∈ l, I64 x) : ∀ w ∈ l.map wide, wOk w := by
  intro w hw
  obtain ⟨x, hx, rfl⟩ := List.mem_map.1 hw
  exact wide_ok _ (i64_128 (h x hx))
theorem sum128 {l : List Int} (h : ∀ x ∈ l, I64 x) (hl : l.length ≤ 1000000) : In128 l.sum := by
  have := sum_in h; unfold In128; omega
theorem r_wSum {l : List Int} (h : ∀ x ∈ l, I64 x) (hl : l.length ≤ 1000000) : wide_Add (l.map wide) = some (wide l.sum, 0, ()) := by
  rw [r_wAdd _ (wides_ok h) (by rw [List.length_map]; omega), sumW_wide]
  unfold fit; rw [if_pos (sum128 h hl)]
theorem r_fSum {l : List Int} (h : ∀ x ∈ l, I64 x) (hl : l.length ≤ 1000000) : fix_Sum l = some (fits64 l.sum) := by
  show fix_SumW stdW l = _
  unfold fix_SumW
  rw [nn_w (by omega), room_w (by simp; omega) (by simp; omega)]
  refine loop_n (N := l.length) (by omega) (fun i s => s = ((l.take i).map wide, ())) (some (fits64 l.sum)) rfl ?_ ?_
  · rintro _ again rfl
    rw [cnd_end, List.take_length, call_eq (r_wSum h hl), call_eq (r_narrow0 (sum128 h hl))]
  · rintro i hi _ rfl again ha
    rw [cnd_lt hi, idx_w hi, call_eq (r_wOf _ (h _ (List.getElem_mem hi))), i64_s i (by omega), room_w (by simp; omega) (by simp; omega)]
    refine ha _ ?_
    rw [List.take_succ_eq_append_getElem hi, List.map_append]; rfl
end Go.Proofs.Ytbpbkmngbhgpfaa

namespace Go.Proofs.Ytbpbkmngbhgpfaa
open Go Go.Vc Go.RowKit
theorem join_g {X β : Type} {k0 : X → Option β} {f : (X → Option β) → Option β} {r : Option β} (h : ∀ k, k = k0 → f k = r) : stdW.join k0 f = r := h k0 rfl
/-! ### purses: which are, what each unit has, what there is in all -/
theorem r_lessA (a b : AUnit') : acct_Less a b = some (decide (ltA a b)) := by
  show acct_LessW stdW a b = _
  unfold acct_LessW
  by_cases h : a.1 = b.1
  · rw [cnd_n (by simp [h])]
    congr 1; refine decide_eq_decide.2 ?_; unfold ltA; omega
  · rw [cnd_y (by simp [h])]
    congr 1; refine decide_eq_decide.2 ?_; unfold ltA; omega
theorem r_less15 (a b : AUnit') : ref15_Less a b = some (decide (ltA a b)) := by
  show ref15_LessW stdW a b = _
  unfold ref15_LessW
  by_cases h1 : a.1 < b.1
  · rw [cnd_y (decide_eq_true h1), decide_eq_true (by unfold ltA; omega)]
  · rw [cnd_n (decide_eq_false h1)]
    by_cases h : a.1 = b.1
    · rw [cnd_y (by simp [h])]
      congr 1; refine decide_eq_decide.2 ?_; unfold ltA; omega
    · rw [cnd_n (by simp [h]), decide_eq_false (by unfold ltA; omega)]
def PInv (l : List AFlow') : Prop := (∀ x ∈ l, x.2.1 ≠ 0) ∧ SrtA (l.map (·.1))
instance (l : List AFlow') : Decidable (PInv l) := by unfold PInv SrtA; infer_instance
def isP (l : List AFlow') : Bool := decide (PInv l)
theorem isP_bad0 {l : List AFlow'} {i : Nat} (hi : i < l.length) (h : l[i].2.1 = 0) : isP l = false :=
  decide_eq_false fun hp => hp.1 _ (List.getElem_mem hi) h
theorem isP_bad1 {l : List AFlow'} {i : Nat} (hi : i < l.length) (h0 : 0 < i) (h : ¬ ltA (l[i - 1]'(by omega)).1 l[i].1) : isP l = false :=
  decide_eq_false fun hp => h (by
    have := List.pairwise_iff_getElem.1 hp.2 (i - 1) i (by simp; omega) (by simpa using hi) (by omega)
    simpa using this)
theorem isP_next {l : List AFlow'} {i : Nat} (hi : i < l.length) (inv : PInv (l.take i)) (h1 : l[i].2.1 ≠ 0) (h2 : ∀ h0 : 0 < i, ltA (l[i - 1]'(by omega)).1 l[i].1) : PInv (l.take (i + 1)) := by
  rw [List.take_succ_eq_append_getElem hi]
  refine ⟨fun x hx => ?_, ?_⟩
  · rcases List.mem_append.1 hx with hx | hx
    · exact inv.1 x hx
    · simp at hx; rw [hx]; exact h1
  · show SrtA ((l.take i ++ [l[i]]).map (·.1))
    rw [List.map_append]
    refine List.pairwise_append.2 ⟨inv.2, by simp, fun a ha b hb => ?_⟩
    simp only [List.map_cons, List.map_nil, List.mem_singleton] at hb
    subst hb
    obtain ⟨k, hk, hka⟩ := List.mem_iff_getElem.1 ha
    have hk' : k < i := by simp at hk; omega
    have h3 := h2 (by omega)
    by_cases hki : k = i - 1
    · subst hki; rw [← hka]; simpa using h3
    · have h4 := List.pairwise_iff_getElem.1 inv.2 k (i - 1) (by simpa using hk) (by simp; omega) (by omega)
      rw [hka] at h4
      refine ltA_tr h4 ?_
      simpa using h3
theorem isP_end {l : List AFlow'} (h : PInv (l.take l.length)) : isP l = true := by rw [List.take_length] at h; exact decide_eq_true h
theorem r_is {l : List AFlow'} (hl : l.length ≤ 1000000) : purse_Is l = some (isP l) := by
  show purse_IsW stdW l = _
  unfold purse_IsW
  refine loop_n (N := l.length) (by omega) (fun i _ => PInv (l.take i)) (some (isP l)) (by simp [PInv]) ?_ ?_
  · rintro _ again h
    rw [cnd_end, isP_end h]
  · rintro i hi _ inv again ha
    rw [cnd_lt hi, idx_w hi]
    refine join_g fun k hk => ?_
    have kt : k (true, ()) = some false := by subst hk; rfl
    have kf : k (false, ()) = again (((i + 1 : Nat) : Int), ()) := by rw [← i64_s i (by omega)]; subst hk; rfl
    clear hk
    by_cases h1 : l[i].2.1 = 0
    · rw [cnd_y (by simpa using h1), kt, isP_bad0 hi h1]
    · rw [cnd_n (by simpa using h1)]
      by_cases h0 : 0 < i
      · rw [cnd_y (decide_eq_true (by omega)), i64_pred i h0 (by rw [maxLen_eq]; omega), idx_w (by omega), call_eq (r_lessA _ _)]
        by_cases h2 : ltA (l[i - 1]'(by omega)).1 l[i].1
        · rw [decide_eq_true h2]
          exact kf.trans (ha _ (isP_next hi inv h1 fun _ => h2))
        · rw [decide_eq_false h2, isP_bad1 hi h0 h2]; exact kt
      · rw [cnd_n (decide_eq_false (by omega))]
        exact kf.trans (ha _ (isP_next hi inv h1 fun h => absurd h h0))
theorem r_is17 {l : List AFlow'} (hl : l.length ≤ 1000000) : ref17_Is l = some (isP l) := by
  show ref17_IsW stdW l = _
  unfold ref17_IsW
  refine loop_n (N := l.length) (by omega) (fun i _ => PInv (l.take i)) (some (isP l)) (by simp [PInv]) ?_ ?_
  · rintro _ again h
    rw [cnd_end, isP_end h]
  · rintro i hi _ inv again ha
    rw [cnd_lt hi]
    refine join_g fun k hk => ?_
    have kt : k (true, ()) = some false := by subst hk; rfl
    have kf : k (false, ()) = again (((i + 1 : Nat) : Int), ()) := by rw [← i64_s i (by omega)]; subst hk; rfl
    clear hk
    rw [idx_w hi]
    by_cases h1 : l[i].2.1 = 0
    · rw [cnd_y (by simpa using h1), kt, isP_bad0 hi h1]
    · rw [cnd_n (by simpa using h1)]
      by_cases h0 : 0 < i
      · rw [cnd_y (decide_eq_true (by omega)), i64_pred i h0 (by rw [maxLen_eq]; omega), idx_w (by omega), idx_w hi, call_eq (r_less15 _ _)]
        by_cases h2 : ltA (l[i - 1]'(by omega)).1 l[i].1
        · rw [decide_eq_true h2]
          exact kf.trans (ha _ (isP_next hi inv h1 fun _ => h2))
        · rw [decide_eq_false h2, isP_bad1 hi h0 h2]; exact kt
      · rw [cnd_n (decide_eq_false (by omega))]
        exact kf.trans (ha _ (isP_next hi inv h1 fun h => absurd h h0))
theorem eqA (a b : AUnit') : (a.1 == b.1 && a.2.1 == b.2.1) = decide (a = b) := by
  by_cases h : a = b
  · subst h; simp
  · rw [decide_eq_false h]
    cases hc : (a.1 == b.1 && a.2.1 == b.2.1) with
    | false => rfl
    | true => simp only [Bool.and_eq_true, beq_iff_eq] at hc; exact absurd (extA hc.1 hc.2) h
def getP : List AFlow' → AUnit' → Int
  | [], _ => 0
  | x :: l, u => if x.1 = u then x.2.1 else getP l u
theorem r_get {l : List AFlow'} {u : AUnit'} (hl : l.length ≤ 1000000) : purse_Get l u = some (getP l u) := by
  show purse_GetW stdW l u = _
  unfold purse_GetW
  refine loop_list (l := l) (by omega) (fun _ _ => True) (fun l _ => some (getP l u)) trivial ?_ ?_
  · rintro _ again _
    rw [cnd_end]; rfl
  · rintro i hi _ _ again ha
    rw [cnd_lt hi, idx_w hi, nif_f, eqA]
    unfold getP
    by_cases h : l[i].1 = u
    · rw [cnd_y (decide_eq_true h), if_pos h]
    · rw [cnd_n (decide_eq_false h), if_neg h, i64_s i (by omega)]
      exact ha _ trivial
theorem r_get17 {l : List AFlow'} {u : AUnit'} (hl : l.length ≤ 1000000) : ref17_Get l u = some (getP l u) := by
  show ref17_GetW stdW l u = _
  unfold ref17_GetW
  refine loop_list (l := l) (by omega) (fun _ _ => True) (fun l _ => some (getP l u)) trivial ?_ ?_
  · rintro _ again _
    rw [cnd_end]; rfl
  · rintro i hi _ _ again ha
    rw [cnd_lt hi, idx_w hi, nif_f, eqA]
    unfold getP
    by_cases h : l[i].1 = u
    · rw [cnd_y (decide_eq_true h), if_pos h, idx_w hi]
    · rw [cnd_n (decide_eq_false h), if_neg h, i64_s i (by omega)]
      exact ha _ trivial
def amt (x : AFlow') : Int := x.2.1
def okF (l : List AFlow') : Prop := ∀ x ∈ l, I64 (amt x)
theorem okF.amts {l : List AFlow'} (h : okF l) : ∀ x ∈ l.map amt, I64 x := by
  intro x hx; obtain ⟨y, hy, rfl⟩ := List.mem_map.1 hx; exact h y hy
theorem r_total {l : List AFlow'} (h : okF l) (hl : l.length ≤ 1000000) : purse_Total l = some (wide (sumBy amt l)) := by
  show purse_TotalW stdW l = _
  unfold purse_TotalW
  refine loop_n (N := l.length) (by omega) (fun i s => s = (((l.take i).map amt).map wide, ())) (some (wide (sumBy amt l))) rfl ?_ ?_
  · rintro _ again rfl
    rw [cnd_end, List.take_length, call_eq (r_wSum h.amts (by simpa using hl))]; rfl
  · rintro i hi _ rfl again ha
    rw [cnd_lt hi, idx_w hi, call_eq (r_wOf l[i].2.1 (h _ (List.getElem_mem hi))), i64_s i (by omega), room_w (by simp; omega) (by simp; omega)]
    refine ha _ ?_
    rw [List.take_succ_eq_append_getElem hi, List.map_append, List.map_append]; rfl
theorem sumA_in {l : List AFlow'} (h : okF l) : -(9223372036854775808 * (l.length : Int)) ≤ sumBy amt l ∧ sumBy amt l ≤ 9223372036854775808 * (l.length : Int) :=
  sumBy_in fun x hx => by have := h x hx; unfold I64 at this; omega
theorem sumA_sml {l : List AFlow'} (h : okF l) (hl : l.length ≤ 1000000) : sml (sumBy amt l) ∧ In128 (sumBy amt l) := by
  have := sumA_in h; unfold sml In128; omega
theorem okF.take {l : List AFlow'} (h : okF l) (i : Nat) : okF (l.take i) := fun x hx => h x (List.mem_of_mem_take hx)
theorem eta3 (z : BigT) : (z.1, (z.2.1, ())) = z := rfl
theorem r_addB {a b : Int} (ha : sml a) (hb : sml b) : ref01_Add (big a) (big b) = some (big (a + b)) := by
  unfold sml at *
  have := r_add (nb_big a) (nb_big b) (Nat.le_trans (len_big2 ha) (by decide)) (Nat.le_trans (len_big2 hb) (by decide))
  rwa [bv_big, bv_big] at this
theorem big0 : big 0 = (false, ([], ())) := by unfold big; simp [bits0]
theorem i64_sml {n : Int} (h : I64 n) : sml n := by unfold I64 at h; unfold sml; omega
theorem r_total17 {l : List AFlow'} (h : okF l) (hl : l.length ≤ 1000000) : ref17_Total l = some (big (sumBy amt l)) := by
  show ref17_TotalW stdW l = _
  unfold ref17_TotalW
  refine loop_n (N := l.length) (by omega) (fun i s => s = big (sumBy amt (l.take i))) (some (big (sumBy amt l))) (by rw [List.take_zero, sumBy_nil, big0]) ?_ ?_
  · rintro _ again rfl
    rw [cnd_end, List.take_length]
  · rintro i hi _ rfl again ha
    have h1 := (sumA_sml (h.take i) (by rw [List.length_take]; omega)).1
    have h2 := h _ (List.getElem_mem hi)
    rw [cnd_lt hi]
    refine join_g fun k hk => ?_
    have kk : ∀ v : BigT, k (v.1, (v.2.1, ())) = again (((i + 1 : Nat) : Int), v) := by intro v; rw [← i64_s i (by omega)]; subst hk; rfl
    clear hk
    rw [idx_w hi, both_w, call_eq (r_of (n := l[i].2.1) h2)]
    show stdW.call (ref01_Add (big (sumBy amt (l.take i))) (big (l[i].2.1))) _ = _
    rw [call_eq (r_addB (b := l[i].2.1) h1 (i64_sml h2)), kk]
    refine ha _ ?_
    rw [sumBy_take _ _ _ hi]; rfl
end Go.Proofs.Ytbpbkmngbhgpfaa

namespace Go.Proofs.Ytbpbkmngbhgpfaa
open Go Go.Vc Go.RowKit
/-! ### a purse behind some flows -/
def ofFlow (u : AUnit') (x : AFlow') : Bool := decide (x.1 = u)
def amts (l : List AFlow') (u : AUnit') : List Int := (l.filter (ofFlow u)).map amt
def sumU (l : List AFlow') (u : AUnit') : Int := (amts l u).sum
theorem amts_len (l : List AFlow') (u : AUnit') : (amts l u).length ≤ l.length := by
  unfold amts; rw [List.length_map]; exact List.length_filter_le _ _
theorem amts_ok {l : List AFlow'} (h : okF l) (u : AUnit') : ∀ x ∈ amts l u, I64 x := by
  intro x hx
  obtain ⟨y, hy, rfl⟩ := List.mem_map.1 hx
  exact h y (List.mem_filter.1 hy).1
theorem amts_take (l : List AFlow') (u : AUnit') (i : Nat) (h : i < l.length) : amts (l.take (i + 1)) u = amts (l.take i) u ++ (if l[i].1 = u then [l[i].2.1] else []) := by
  unfold amts
  rw [filter_take _ _ _ h, List.map_append]
  unfold ofFlow
  by_cases hu : l[i].1 = u <;> simp [hu, amt]
theorem r_amounts {l : List AFlow'} {u : AUnit'} (hl : l.length ≤ 1000000) : purse_amounts l u = some (amts l u) := by
  show purse_amountsW stdW l u = _
  unfold purse_amountsW
  refine loop_n (N := l.length) (by omega) (fun i s => s = (amts (l.take i) u, ())) (some (amts l u)) rfl ?_ ?_
  · rintro _ again rfl
    rw [cnd_end, List.take_length]
  · rintro i hi _ rfl again ha
    rw [cnd_lt hi]
    refine join_g fun k hk => ?_
    have kk : ∀ v : List Int, k (v, ()) = again (((i + 1 : Nat) : Int), (v, ())) := by intro v; rw [← i64_s i (by omega)]; subst hk; rfl
    clear hk
    have hlen := amts_len (l.take i) u
    rw [List.length_take] at hlen
    rw [idx_w hi, nif_f, eqA]
    by_cases h : l[i].1 = u
    · rw [cnd_y (decide_eq_true h), room_w (by simp; omega) (by simp; omega), kk]
      refine ha _ ?_
      rw [amts_take _ _ _ hi, if_pos h]
    · rw [cnd_n (decide_eq_false h), kk]
      refine ha _ ?_
      rw [amts_take _ _ _ hi, if_neg h, List.append_nil]
def payGo (all : List AFlow') : List AUnit' → List AFlow' → List AFlow' × Int × Unit
  | [], acc => (acc, 0, ())
  | u :: us, acc => if I64 (sumU all u) then (if sumU all u ≠ 0 then payGo all us (acc ++ [(u, sumU all u, ())]) else payGo all us acc) else ([], 7, ())
def payP (l fl : List AFlow') : List AFlow' × Int × Unit := if isP l = true then payGo (l ++ fl) (unitsOf (l ++ fl)) [] else ([], 3, ())
theorem uniq_le (l : List (Int × Int)) : (uniqU l).length ≤ l.length := uniq_len l
theorem units_len (l : List AFlow') : (unitsOf l).length ≤ l.length := by
  unfold unitsOf
  rw [List.length_map, srt_len]
  exact Nat.le_trans (uniq_len _) (by simp)
theorem r_pay {l fl : List AFlow'} (h : okF l) (hf : okF fl) (hl : l.length + fl.length ≤ 1000000) : purse_Pay l fl = some (payP l fl) := by
  show purse_PayW stdW l fl = _
  unfold purse_PayW payP
  rw [call_eq (r_is (by omega))]
  by_cases hp : isP l = true
  · rw [hp, cnd_n (by decide), if_pos rfl]
    have hall : okF (l ++ fl) := fun x hx => (List.mem_append.1 hx).elim (h x) (hf x)
    have e1 : concatO (l :: (fl :: [])) = some (l ++ fl) := by
      unfold concatO
      rw [show (l :: (fl :: [])).flatten = l ++ fl by simp, if_pos (by rw [List.length_append]; omega)]
    have hlen : (l ++ fl).length ≤ 1000000 := by rw [List.length_append]; exact hl
    have e2 : namedO (l ++ fl) = some (unitsOf (l ++ fl)) := by unfold namedO; rw [if_pos (by omega)]
    rw [call_eq e1, call_eq e2]
    have hul := units_len (l ++ fl)
    generalize l ++ fl = all at *
    generalize unitsOf all = us at *
    refine loop_list (l := us) (by omega) (fun i (s : List AUnit' × List AFlow' × Unit) => s.1 = us ∧ s.2.1.length ≤ i) (fun us' (s : List AUnit' × List AFlow' × Unit) => some (payGo all us' s.2.1)) ⟨rfl, Nat.le_refl _⟩ ?_ ?_
    · rintro ⟨_, acc, ⟨⟩⟩ again ⟨rfl, _⟩
      rw [cnd_end]; rfl
    · rintro i hi ⟨us', acc, ⟨⟩⟩ ⟨hus, hacc⟩ again ha
      have hus : us = us' := hus.symm
      subst hus
      simp only at hacc
      rw [cnd_lt hi]
      refine join_g fun k hk => ?_
      have kk : ∀ v : List AFlow', k (us, (v, ())) = again (((i + 1 : Nat) : Int), (us, (v, ()))) := by intro v; rw [← i64_s i (by omega)]; subst hk; rfl
      clear hk
      show stdW.idx us (i : Int) _ = _
      rw [idx_w hi]
      show stdW.nth us (Int.toNat (i : Int)) _ = _
      rw [nth_w hi, call_eq (r_amounts hlen)]
      show _ = some (payGo all (us[i] :: us.drop (i + 1)) acc)
      rw [payGo]
      have e3 := r_fSum (amts_ok hall us[i]) (Nat.le_trans (amts_len _ _) hlen)
      change fix_Sum (amts all us[i]) = some (if I64 (sumU all us[i]) then (sumU all us[i], 0, ()) else (0, 7, ())) at e3
      by_cases hI : I64 (sumU all us[i])
      · rw [if_pos hI] at e3
        rw [if_pos hI, call_eq e3]
        show stdW.cnd ((0 : Int) != 0) _ (stdW.cnd (sumU all us[i] != 0) (stdW.room (acc.length + 1) 24 (k (us, (acc ++ [(us[i], sumU all us[i], ())], ())))) (k (us, (acc, ())))) = _
        rw [cnd_n (by decide)]
        by_cases h0 : sumU all us[i] = 0
        · rw [if_neg (by simp [h0]), cnd_n (by simp [h0])]
          exact (kk acc).trans (ha _ ⟨rfl, by simp only; omega⟩)
        · rw [if_pos h0, cnd_y (by simp [h0]), room_w (by omega) (by omega)]
          exact (kk (acc ++ [(us[i], sumU all us[i], ())])).trans (ha _ ⟨rfl, by simp; omega⟩)
      · rw [if_neg hI] at e3
        rw [if_neg hI, call_eq e3]
        show stdW.cnd ((7 : Int) != 0) (some ([], (7, ()))) _ = _
        rw [cnd_y (by decide)]
  · have hp : isP l = false := by simpa using hp
    rw [hp, cnd_y (by decide), if_neg (by simp)]
end Go.Proofs.Ytbpbkmngbhgpfaa

namespace Go.Proofs.Ytbpbkmngbhgpfaa
open Go Go.Vc Go.RowKit
/-! ### flows may come in any order -/
theorem perm_sum {l m : List Int} (h : l.Perm m) : l.sum = m.sum := by
  induction h with
  | nil => rfl
  | cons x _ ih => simp [ih]
  | swap x y l => simp only [List.sum_cons]; omega
  | trans _ _ h1 h2 => rw [h1, h2]
theorem sumU_perm {l m : List AFlow'} (h : l.Perm m) (u : AUnit') : sumU l u = sumU m u := perm_sum ((h.filter _).map _)
theorem payGo_congr {a b : List AFlow'} (h : ∀ u, sumU a u = sumU b u) : ∀ (us : List AUnit') (acc : List AFlow'), payGo a us acc = payGo b us acc
  | [], _ => rfl
  | u :: us, acc => by
    unfold payGo
    rw [h u, payGo_congr h us, payGo_congr h us]
theorem payP_perm {l f g : List AFlow'} (h : f.Perm g) : payP l f = payP l g := by
  unfold payP
  have hp : (l ++ f).Perm (l ++ g) := h.append_left l
  rw [units_perm hp, payGo_congr (sumU_perm hp)]
theorem eqF (a b : AFlow') : (a.1.1 == b.1.1 && (a.1.2.1 == b.1.2.1 && a.2.1 == b.2.1)) = decide (a = b) := by
  by_cases h : a = b
  · subst h; simp
  · rw [decide_eq_false h]
    cases hc : (a.1.1 == b.1.1 && (a.1.2.1 == b.1.2.1 && a.2.1 == b.2.1)) with
    | false => rfl
    | true =>
      simp only [Bool.and_eq_true, beq_iff_eq] at hc
      exact absurd (Prod.ext (extA hc.1 hc.2.1) (Prod.ext hc.2.2 rfl)) h
theorem r_same {a : List AFlow'} (hl : a.length ≤ 1000000) : ref17_Same a a = some true := by
  show ref17_SameW stdW a a = _
  unfold ref17_SameW
  rw [cnd_n (by simp)]
  refine loop_n (N := a.length) (by omega) (fun _ _ => True) (some true) trivial ?_ ?_
  · rintro _ again _
    rw [cnd_end]
  · rintro i hi _ _ again ha
    rw [cnd_lt hi, idx_w hi, idx_w hi, nif_t, eqF, cnd_n (by simp), i64_s i (by omega)]
    exact ha _ trivial
theorem payGo_len (all : List AFlow') : ∀ (us : List AUnit') (acc : List AFlow'), (payGo all us acc).1.length ≤ acc.length + us.length
  | [], acc => by simp [payGo]
  | u :: us, acc => by
    unfold payGo
    split
    · split
      · have := payGo_len all us (acc ++ [(u, sumU all u, ())]); simp at this ⊢; omega
      · have := payGo_len all us acc; simp at this ⊢; omega
    · simp
theorem payP_len (l f : List AFlow') : (payP l f).1.length ≤ l.length + f.length := by
  unfold payP
  split
  · have := payGo_len (l ++ f) (unitsOf (l ++ f)) []
    have h2 := units_len (l ++ f)
    simp at this h2 ⊢; omega
  · simp
theorem r_few17 (l : List AFlow') (hl : l.length ≤ 9223372036854775807) : law17_Few l = some (l.take 20) := by
  show law17_FewW stdW l = _
  unfold law17_FewW
  by_cases h : 20 < l.length
  · rw [cnd_y (decide_eq_true (by omega)), bnd_w (by omega) (by omega)]; rfl
  · rw [cnd_n (decide_eq_false (by omega)), List.take_of_length_le (by omega)]
end Go.Proofs.Ytbpbkmngbhgpfaa

namespace Go.Proofs.Ytbpbkmngbhgpfaa
open Go Go.Vc Go.RowKit
/-- a loop whose state is known round by round -/
theorem loop_at {X β : Type} {N : Nat} (hN : N < 9223372036854775808) {f : X → (X → Option β) → Option β} (st : Nat → X) (r : Option β)
    (hend : ∀ again : X → Option β, f (st N) again = r) (hstep : ∀ i, i < N → ∀ again : X → Option β, again (st (i + 1)) = r → f (st i) again = r) : stdW.loop f (st 0) = r := by
  have key : ∀ n i, i ≤ N → N - i < n → loopF n f (st i) = r := by
    intro n
    induction n with
    | zero => intro i _ h; omega
    | succ n ih =>
      intro i hi hn
      show f (st i) (loopF n f) = r
      by_cases h : i < N
      · exact hstep i h _ (ih (i + 1) (by omega) (by omega))
      · have : i = N := by omega
        subst this; exact hend _
  show loopF FU f (st 0) = r
  exact key FU 0 (Nat.zero_le _) (by rw [FU_eq]; omega)
/-! ### the reference's units -/
def insL (l : List AFlow') : List AUnit' := l.foldl (fun a x => insA x.1 a) []
theorem insL_srt (l : List AFlow') : SrtA (insL l) := (ins_all l [] List.Pairwise.nil).1
theorem insL_units (l : List AFlow') : insL l = unitsOf l := ins_units l
theorem insL_len (l : List AFlow') : (insL l).length ≤ l.length := by rw [insL_units]; exact units_len l
theorem insL_step (l : List AFlow') (i : Nat) (h : i < l.length) : insL (l.take (i + 1)) = insA l[i].1 (insL (l.take i)) := by
  unfold insL
  rw [List.take_succ_eq_append_getElem h, List.foldl_append]; rfl
theorem r_units {l : List AFlow'} (hl : l.length ≤ 1000000) : ref17_Units l = some (unitsOf l) := by
  show ref17_UnitsW stdW l = _
  unfold ref17_UnitsW
  refine loop_at (N := l.length) (by omega) (fun i => (insL (l.take i), ((i : Int), ()))) (some (unitsOf l)) ?_ ?_
  · intro again
    show stdW.cnd (decide ((l.length : Int) < (l.length : Int))) _ _ = _
    rw [cnd_end, List.take_length, insL_units]
  · intro i hi again ha
    show stdW.cnd (decide ((i : Int) < (l.length : Int))) _ _ = _
    rw [cnd_lt hi]
    refine join_g fun k hk => ?_
    have kk : k (insL (l.take (i + 1)), ()) = some (unitsOf l) := by
      subst hk
      show again (insL (l.take (i + 1)), (IntKind.i64.wrap ((i : Int) + 1), ())) = _
      rw [i64_s i (by omega)]; exact ha
    clear hk ha
    show stdW.idx l (i : Int) _ = _
    rw [idx_w hi]
    rw [insL_step l i hi] at kk
    have hs := insL_srt (l.take i)
    have hlen : (insL (l.take i)).length ≤ 1000000 := Nat.le_trans (insL_len _) (by rw [List.length_take]; omega)
    generalize insL (l.take i) = out at *
    generalize l[i].1 = u at *
    refine loop_at (N := out.length) (by omega) (fun j => ((((lowU u (out.take j)).length : Nat) : Int), (decide (u ∈ out.take j), ((j : Int), ())))) (some (unitsOf l)) ?_ ?_
    · intro again2
      show stdW.cnd (decide ((out.length : Int) < (out.length : Int))) _ (stdW.cnd (!decide (u ∈ out.take out.length)) (stdW.bnd (((lowU u (out.take out.length)).length : Nat) : Int) out.length _) (k (out, ()))) = _
      rw [cnd_end, List.take_length]
      obtain ⟨e1, e2⟩ := low_take hs u
      have hle : (lowU u out).length ≤ out.length := List.length_filter_le _ _
      by_cases hu : u ∈ out
      · rw [cnd_n (by simp [hu])]
        rw [insA, if_pos hu] at kk; exact kk
      · rw [cnd_y (by simp [hu]), bnd_w (by omega) (by omega)]
        have l1 : (out.take (lowU u out).length).length ≤ 1000000 := by rw [List.length_take]; omega
        show stdW.room (out.take (lowU u out).length).length 16 (stdW.room ((out.take (lowU u out).length).length + 1) 16 (stdW.bnd (((lowU u out).length : Nat) : Int) out.length _)) = _
        rw [room_w (by omega) (by omega), room_w (by omega) (by omega), bnd_w (by omega) (by omega)]
        show stdW.room ((out.take (lowU u out).length ++ [u]).length + (out.drop (lowU u out).length).length) 16 (k ((out.take (lowU u out).length ++ [u]) ++ out.drop (lowU u out).length, ())) = _
        rw [room_w (by simp only [List.length_append, List.length_drop, List.length_cons, List.length_nil]; omega) (by simp only [List.length_append, List.length_drop, List.length_cons, List.length_nil]; omega), e1, e2]
        rw [insA, if_neg hu] at kk
        rw [List.append_assoc]; exact kk
    · intro j hj again2 ha2
      show stdW.cnd (decide ((j : Int) < (out.length : Int))) _ _ = _
      rw [cnd_lt hj]
      refine join_g fun k9 hk9 => ?_
      have k9k : ∀ a b, k9 (a, (b, ())) = again2 (a, (b, (((j + 1 : Nat) : Int), ()))) := by
        intro a b; rw [← i64_s j (by omega)]; subst hk9; rfl
      clear hk9
      refine join_g fun k13 hk13 => ?_
      have mem : decide (u ∈ out.take (j + 1)) = (decide (u ∈ out.take j) || decide (out[j] = u)) := by
        rw [List.take_succ_eq_append_getElem hj]
        rw [Bool.eq_iff_iff]
        simp only [decide_eq_true_eq, Bool.or_eq_true, List.mem_append, List.mem_singleton]
        exact or_congr_right ⟨fun h => h.symm, fun h => h.symm⟩
      have fin : ∀ b, b = decide (u ∈ out.take (j + 1)) → k13 (b, ()) = some (unitsOf l) := by
        rintro _ rfl
        subst hk13
        show stdW.idx out (j : Int) _ = _
        rw [idx_w hj, call_eq (r_less15 _ _)]
        rw [low_step hs u j hj] at ha2
        by_cases hlt : ltA out[j] u
        · rw [if_pos hlt] at ha2
          rw [decide_eq_true hlt, cnd_y rfl]
          show k9 (IntKind.i64.wrap ((j : Int) + 1), _) = _
          rw [i64_s j (by omega)]
          exact (k9k _ _).trans ha2
        · rw [if_neg hlt] at ha2
          rw [decide_eq_false hlt, cnd_n rfl]
          exact (k9k _ _).trans ha2
      clear hk13
      show stdW.cnd (decide (u ∈ out.take j)) (k13 (true, ())) (stdW.idx out (j : Int) _) = _
      by_cases h1 : u ∈ out.take j
      · rw [cnd_y (decide_eq_true h1)]
        exact fin _ (by rw [mem]; simp [h1])
      · rw [cnd_n (decide_eq_false h1), idx_w hj, nif_f, eqA]
        exact fin _ (by rw [mem]; simp [h1])
end Go.Proofs.Ytbpbkmngbhgpfaa

namespace Go.Proofs.Ytbpbkmngbhgpfaa
open Go Go.Vc Go.RowKit
theorem loop_az {X β : Type} {N : Nat} (hN : N < 9223372036854775808) {f : X → (X → Option β) → Option β} (st : Nat → X) (r : Option β) {z0 : X} (hz : z0 = st 0)
    (hend : ∀ again : X → Option β, f (st N) again = r) (hstep : ∀ i, i < N → ∀ again : X → Option β, again (st (i + 1)) = r → f (st i) again = r) : stdW.loop f z0 = r := by
  subst hz; exact loop_at hN st r hend hstep
/-! ### the reference's purse behind some flows -/
theorem sumU_take (l : List AFlow') (u : AUnit') (i : Nat) (h : i < l.length) : sumU (l.take (i + 1)) u = sumU (l.take i) u + (if l[i].1 = u then l[i].2.1 else 0) := by
  unfold sumU
  rw [amts_take _ _ _ h, List.sum_append]
  split <;> simp
theorem sumU_sml {l : List AFlow'} (h : okF l) (u : AUnit') (hl : l.length ≤ 1000000) : sml (sumU l u) := by
  have h1 := sum_in (amts_ok h u)
  have h2 := amts_len l u
  unfold sumU sml; omega
theorem r_pay17 {l fl : List AFlow'} (h : okF l) (hf : okF fl) (hl : l.length + fl.length ≤ 1000000) : ref17_Pay l fl = some (payP l fl) := by
  show ref17_PayW stdW l fl = _
  unfold ref17_PayW payP
  rw [call_eq (r_is17 (by omega))]
  by_cases hp : isP l = true
  · rw [hp, cnd_n (by decide), if_pos rfl, room_w (by omega) (by omega), room_w (by omega) (by omega)]
    have hall : okF (l ++ fl) := fun x hx => (List.mem_append.1 hx).elim (h x) (hf x)
    have hlen : (l ++ fl).length ≤ 1000000 := by rw [List.length_append]; exact hl
    rw [call_eq (r_units hlen)]
    have hul := units_len (l ++ fl)
    generalize l ++ fl = all at *
    generalize unitsOf all = us at *
    refine loop_list (l := us) (by omega) (fun i (s : List AFlow' × Unit) => s.1.length ≤ i) (fun us' (s : List AFlow' × Unit) => some (payGo all us' s.1)) (Nat.le_refl _) ?_ ?_
    · rintro ⟨acc, ⟨⟩⟩ again _
      rw [cnd_end]; rfl
    · rintro i hi ⟨acc, ⟨⟩⟩ hacc again ha
      simp only at hacc
      rw [cnd_lt hi]
      refine join_g fun k hk => ?_
      have kk : ∀ v : List AFlow', v.length ≤ i + 1 → k (v, ()) = some (payGo all (us.drop (i + 1)) v) := by
        intro v hv
        subst hk
        show again (IntKind.i64.wrap ((i : Int) + 1), (v, ())) = _
        rw [i64_s i (by omega)]
        exact ha (v, ()) hv
      clear hk ha
      show _ = some (payGo all (us[i] :: us.drop (i + 1)) acc)
      rw [payGo]
      refine loop_az (N := all.length) (by omega) (fun j => (((j : Nat) : Int), ((big (sumU (all.take j) us[i])).1, ((big (sumU (all.take j) us[i])).2.1, (acc, ()))))) _ (by rw [List.take_zero, show sumU [] us[i] = 0 from rfl, big0]; rfl) ?_ ?_
      · intro again2
        show stdW.cnd (decide ((all.length : Int) < (all.length : Int))) _ (stdW.call (ref01_Fits (big (sumU (all.take all.length) us[i]))) _) = _
        rw [cnd_end, List.take_length, call_eq (r_fits (sumU_sml hall us[i] hlen))]
        by_cases hI : I64 (sumU all us[i])
        · rw [decide_eq_true hI, cnd_n (by decide), if_pos hI]
          have e := r_int hI
          show stdW.call (ref01_Int (big (sumU all us[i]))) _ = _
          rw [call_eq e]
          by_cases h0 : sumU all us[i] = 0
          · rw [cnd_n (by simp [h0]), if_neg (by simp [h0])]
            exact kk acc (by omega)
          · rw [cnd_y (by simp [h0]), if_pos h0]
            show stdW.idx us (i : Int) _ = _
            rw [idx_w hi, call_eq e]
            show stdW.room (acc.length + 1) 24 (k (acc ++ [(us[i], sumU all us[i], ())], ())) = _
            rw [room_w (by omega) (by omega)]
            exact kk _ (by simp; omega)
        · rw [decide_eq_false hI, cnd_y (by decide), if_neg hI]
      · intro j hj again2 ha2
        show stdW.cnd (decide ((j : Int) < (all.length : Int))) _ _ = _
        rw [cnd_lt hj]
        refine join_g fun k2 hk2 => ?_
        have kk2 : k2 ((big (sumU (all.take (j + 1)) us[i])).1, ((big (sumU (all.take (j + 1)) us[i])).2.1, (acc, ()))) = again2 (((j + 1 : Nat) : Int), ((big (sumU (all.take (j + 1)) us[i])).1, ((big (sumU (all.take (j + 1)) us[i])).2.1, (acc, ())))) := by
          rw [← i64_s j (by omega)]; subst hk2; rfl
        rw [ha2] at kk2
        clear hk2 ha2
        show stdW.idx all (j : Int) _ = _
        rw [idx_w hj]
        show stdW.idx us (i : Int) _ = _
        rw [idx_w hi, nif_f, eqA]
        rw [sumU_take _ _ _ hj] at kk2
        by_cases hu : all[j].1 = us[i]
        · rw [if_pos hu] at kk2
          rw [cnd_y (decide_eq_true hu)]
          show stdW.idx all (j : Int) _ = _
          have h2 : I64 all[j].2.1 := hall _ (List.getElem_mem hj)
          rw [idx_w hj, both_w, call_eq (r_of h2)]
          show stdW.call (ref01_Add (big (sumU (all.take j) us[i])) (big all[j].2.1)) _ = _
          rw [call_eq (r_addB (sumU_sml (hall.take j) us[i] (by rw [List.length_take]; omega)) (i64_sml h2))]
          exact kk2
        · rw [if_neg hu, Int.add_zero] at kk2
          rw [cnd_n (decide_eq_false hu)]
          exact kk2
  · have hp : isP l = false := by simpa using hp
    rw [hp, cnd_y (by decide), if_neg (by simp)]
end Go.Proofs.Ytbpbkmngbhgpfaa

namespace Go.Proofs.Ytbpbkmngbhgpfaa
open Go Go.Vc Go.RowKit
theorem r_wideB {z : Int} (h : In128 z) : ref01_Wide (wide z).1 (wide z).2.1 = some (big z) := by
  have ho := wide_ok z h
  unfold wOk at ho
  rw [r_wide ho.1 ho.2.1 ho.2.2]
  congr 2
  exact wv_wide z
theorem r_cmpB {a b : Int} (ha : sml a) (hb : sml b) : ref01_Cmp (big a) (big b) = some (if a - b = 0 then 0 else if a - b < 0 then -1 else 1) := by
  unfold sml at *
  have := r_cmp (nb_big a) (nb_big b) (Nat.le_trans (len_big2 ha) (by decide)) (Nat.le_trans (len_big2 hb) (by decide))
  rwa [bv_big, bv_big] at this
/-! ### what a payment leaves -/
theorem payGo_ok (all : List AFlow') : ∀ (us : List AUnit') (acc : List AFlow'), (payGo all us acc).2.1 = 0 →
    (payGo all us acc).1 = acc ++ (us.filter fun u => decide (sumU all u ≠ 0)).map (fun u => (u, sumU all u, ())) ∧ ∀ u ∈ us, I64 (sumU all u)
  | [], acc, _ => by simp [payGo]
  | u :: us, acc, h => by
    unfold payGo at h ⊢
    by_cases hI : I64 (sumU all u)
    · rw [if_pos hI] at h ⊢
      by_cases h0 : sumU all u ≠ 0
      · rw [if_pos h0] at h ⊢
        obtain ⟨h1, h2⟩ := payGo_ok all us _ h
        refine ⟨?_, fun x hx => ?_⟩
        · rw [h1, List.filter_cons, if_pos (by simpa using h0)]; simp
        · rcases List.mem_cons.1 hx with rfl | hx
          · exact hI
          · exact h2 x hx
      · rw [if_neg h0] at h ⊢
        obtain ⟨h1, h2⟩ := payGo_ok all us _ h
        refine ⟨?_, fun x hx => ?_⟩
        · rw [h1, List.filter_cons, if_neg (by simpa using h0)]
        · rcases List.mem_cons.1 hx with rfl | hx
          · exact hI
          · exact h2 x hx
    · rw [if_neg hI] at h; simp at h
theorem sumU_cons (x : AFlow') (l : List AFlow') (u : AUnit') : sumU (x :: l) u = (if x.1 = u then amt x else 0) + sumU l u := by
  unfold sumU amts ofFlow
  rw [List.filter_cons]
  by_cases h : x.1 = u <;> simp [h]
theorem sumU_app (a b : List AFlow') (u : AUnit') : sumU (a ++ b) u = sumU a u + sumU b u := by
  unfold sumU amts; rw [List.filter_append, List.map_append, List.sum_append]
theorem sumU_none {l : List AFlow'} {u : AUnit'} (h : ∀ x ∈ l, x.1 ≠ u) : sumU l u = 0 := by
  induction l with
  | nil => rfl
  | cons x l ih => rw [sumU_cons, if_neg (h x (by simp)), ih fun y hy => h y (by simp [hy])]; rfl
theorem one_of {us : List AUnit'} (hn : us.Nodup) {v : AUnit'} (z : Int) : sumBy (fun u => if v = u then z else 0) us = if v ∈ us then z else 0 := by
  induction us with
  | nil => rfl
  | cons u us ih =>
    obtain ⟨h1, h2⟩ := List.nodup_cons.1 hn
    rw [sumBy_cons, ih h2]
    by_cases hv : v = u
    · subst hv; rw [if_pos rfl, if_neg h1, if_pos (by simp)]; omega
    · rw [if_neg hv]
      by_cases hm : v ∈ us
      · rw [if_pos hm, if_pos (by simp [hm])]; omega
      · rw [if_neg hm, if_neg (by simp [hm, hv])]; rfl
theorem sumBy_add {α : Type} (f g : α → Int) (l : List α) : sumBy (fun x => f x + g x) l = sumBy f l + sumBy g l := by
  induction l with
  | nil => rfl
  | cons x l ih => rw [sumBy_cons, sumBy_cons, sumBy_cons, ih]; omega
theorem sum_units : ∀ (l : List AFlow') {us : List AUnit'}, us.Nodup → (∀ x ∈ l, x.1 ∈ us) → sumBy (sumU l) us = sumBy amt l
  | [], us, _, _ => by
    have : ∀ us : List AUnit', sumBy (sumU []) us = 0 := by
      intro us; induction us with
      | nil => rfl
      | cons u us ih => rw [sumBy_cons, ih]; rfl
    rw [this]; rfl
  | x :: l, us, hn, h => by
    have e : sumU (x :: l) = fun u => (if x.1 = u then amt x else 0) + sumU l u := funext (sumU_cons x l)
    rw [e, sumBy_add, one_of hn, if_pos (h x (by simp)), sum_units l hn fun y hy => h y (by simp [hy]), sumBy_cons]
def resP (all : List AFlow') (us : List AUnit') : List AFlow' := (us.filter fun u => decide (sumU all u ≠ 0)).map fun u => (u, sumU all u, ())
theorem srt_nd {us : List AUnit'} (h : SrtA us) : us.Nodup := List.Pairwise.imp (fun {a b} (hab : ltA a b) (e : a = b) => by subst e; exact ltA_irr _ hab) h
theorem resP_sum (all : List AFlow') : sumBy amt (resP all (unitsOf all)) = sumBy amt all := by
  have e : ∀ us : List AUnit', sumBy amt (resP all us) = sumBy (sumU all) us := by
    intro us
    induction us with
    | nil => rfl
    | cons u us ih =>
      unfold resP at ih ⊢
      rw [List.filter_cons, sumBy_cons, ← ih]
      by_cases h : sumU all u = 0
      · rw [if_neg (by simp [h]), h]; omega
      · rw [if_pos (by simp [h]), List.map_cons, sumBy_cons]; rfl
  rw [e, sum_units all (srt_nd (units_srt all)) fun x hx => (units_mem all x.1).2 ⟨x, hx, rfl⟩]
theorem resP_is {all : List AFlow'} {us : List AUnit'} (h : SrtA us) : isP (resP all us) = true := by
  refine decide_eq_true ⟨fun x hx => ?_, ?_⟩
  · obtain ⟨u, hu, rfl⟩ := List.mem_map.1 hx
    simpa using (List.mem_filter.1 hu).2
  · unfold resP
    rw [List.map_map]
    have : ((fun x : AFlow' => x.1) ∘ fun u => ((u, sumU all u, ()) : AFlow')) = id := rfl
    rw [this, List.map_id]
    exact h.filter _
theorem getP_none {l : List AFlow'} {u : AUnit'} (h : ∀ x ∈ l, x.1 ≠ u) : getP l u = 0 := by
  induction l with
  | nil => rfl
  | cons x l ih => rw [getP, if_neg (h x (by simp)), ih fun y hy => h y (by simp [hy])]
theorem getP_sum : ∀ {l : List AFlow'}, (l.map (·.1)).Nodup → ∀ u, getP l u = sumU l u
  | [], _, u => rfl
  | x :: l, h, u => by
    obtain ⟨h1, h2⟩ := List.nodup_cons.1 h
    rw [getP, sumU_cons]
    by_cases hu : x.1 = u
    · rw [if_pos hu, if_pos hu, sumU_none fun y hy e => h1 (List.mem_map.2 ⟨y, hy, e.trans hu.symm⟩)]
      show amt x = _; omega
    · rw [if_neg hu, if_neg hu, getP_sum h2]; omega
theorem isP_nd {l : List AFlow'} (h : isP l = true) : (l.map (·.1)).Nodup := srt_nd (of_decide_eq_true h).2
theorem resP_get (all : List AFlow') (u : AUnit') : getP (resP all (unitsOf all)) u = sumU all u := by
  by_cases h0 : sumU all u = 0
  · rw [h0]
    refine getP_none fun x hx e => ?_
    obtain ⟨v, hv, rfl⟩ := List.mem_map.1 hx
    have := (List.mem_filter.1 hv).2
    simp only [decide_eq_true_eq] at this
    exact this (by rw [show v = u from e]; exact h0)
  · rw [getP_sum (isP_nd (resP_is (units_srt all)))]
    have hu : u ∈ unitsOf all := by
      rw [units_mem]
      by_cases hx : ∃ x ∈ all, x.1 = u
      · exact hx
      · exact absurd (sumU_none fun x hx' e => hx ⟨x, hx', e⟩) h0
    have key : ∀ us : List AUnit', us.Nodup → sumU (resP all us) u = if u ∈ us then sumU all u else 0 := by
      intro us
      induction us with
      | nil => intro _; rfl
      | cons v us ih =>
        intro hn
        obtain ⟨h1, h2⟩ := List.nodup_cons.1 hn
        have ih := ih h2
        unfold resP at ih ⊢
        rw [List.filter_cons]
        by_cases hv : v = u
        · subst hv
          rw [if_pos (by simpa using h0), List.map_cons, sumU_cons, ih, if_neg h1, if_pos rfl, if_pos (by simp)]
          show sumU all v + 0 = _; omega
        · have e : (if u ∈ v :: us then sumU all u else 0) = if u ∈ us then sumU all u else 0 := by
            by_cases hm : u ∈ us
            · rw [if_pos hm, if_pos (by simp [hm])]
            · rw [if_neg hm, if_neg (by simp [hm, Ne.symm hv])]
          rw [e, ← ih]
          by_cases hz : sumU all v = 0
          · rw [if_neg (by simp [hz])]
          · rw [if_pos (by simp [hz]), List.map_cons, sumU_cons, if_neg hv]; omega
    rw [key _ (srt_nd (units_srt all)), if_pos hu]
end Go.Proofs.Ytbpbkmngbhgpfaa

namespace Go.Proofs.Ytbpbkmngbhgpfaa
open Go Go.Vc Go.RowKit
theorem payP_ok {l f : List AFlow'} (h : (payP l f).2.1 = 0) : isP l = true ∧ (payP l f).1 = resP (l ++ f) (unitsOf (l ++ f)) ∧ ∀ u ∈ unitsOf (l ++ f), I64 (sumU (l ++ f) u) := by
  unfold payP at h ⊢
  by_cases hp : isP l = true
  · rw [if_pos hp] at h ⊢
    obtain ⟨h1, h2⟩ := payGo_ok _ _ _ h
    exact ⟨hp, by rw [h1, List.nil_append]; rfl, h2⟩
  · rw [if_neg hp] at h; simp at h
theorem resP_ok {all : List AFlow'} {us : List AUnit'} (h : ∀ u ∈ us, I64 (sumU all u)) : okF (resP all us) := by
  intro x hx
  obtain ⟨u, hu, rfl⟩ := List.mem_map.1 hx
  exact h u (List.mem_filter.1 hu).1
theorem resP_len (all : List AFlow') (us : List AUnit') : (resP all us).length ≤ us.length := by
  unfold resP; rw [List.length_map]; exact List.length_filter_le _ _
end Go.Proofs.Ytbpbkmngbhgpfaa
