import Derived.Test.YtbpbkmngbhgpfaaGreatB5
namespace Go.Proofs.YtbpbkmngbhgpfaaGreat
open Go Go.Vc Go.RowKit
set_option maxRecDepth 100000
@[reducible] def tAUnit : DT := (.pair (.int .i64) (.pair (.int .i64) .unit))
abbrev AUnit' := Int × Int × Unit
@[reducible] def tAFlow : DT := (.pair tAUnit (.pair (.int .i64) .unit))
abbrev AFlow' := AUnit' × Int × Unit
@[reducible] def tAPos : DT := (.pair tAUnit (.pair (.slc tAUnit) .unit))
abbrev APos' := AUnit' × (List AUnit') × Unit
@[reducible] def tAInst : DT := (.pair (.int .i64) (.pair (.int .i64) (.pair (.int .i64) (.pair (.int .i64) (.pair (.slc (.int .i64)) .unit)))))
abbrev AInst' := Int × Int × Int × Int × (List Int) × Unit
@[reducible] def tDealDesk : DT := (.pair (.slc tAPos) (.pair (.slc tAFlow) .unit))
abbrev zag := (List APos') × (List AFlow') × Unit
@[reducible] def tWideWide : DT := (.pair (.int .i64) (.pair (.int .u64) .unit))
abbrev zad := Int × Int × Unit
@[reducible] def tWideSize : DT := (.pair (.int .u64) (.pair (.int .u64) .unit))
abbrev zmi := Int × Int × Unit
@[reducible] def tNovationref01Big : DT := (.pair .bool (.pair (.slc (.int .u8)) .unit))
abbrev zab := Bool × (List Int) × Unit
noncomputable def zns (W : Wd) (l : List AUnit') : Option (List AUnit') :=
 W.cnd (decide (12 < (l.length : Int))) (W.bnd 12 l.length fun h1 => some (l.take h1))
 (some l)
noncomputable def zzc (l : List AUnit') : Option (List AUnit') := zns stdW l
noncomputable def zzb : ES := ⟨(.pair (.slc tAUnit) .unit), (.v (.slc tAUnit)), fun x => zzc x.1⟩
theorem law11_Few_ok : ECok Tryz.prog 127 (.es zzb)   := es_ok (A := (.pair (.slc tAUnit) .unit)) (Q := (.v (.slc tAUnit))) (fun W x => zns W x.1) [] trivial [] [] [] Tryz.func127 rfl (by decide +kernel) rfl rfl (fun W x => by kernel_rfl)
noncomputable def znq (W : Wd) (l : List APos') : Option (List APos') :=
 W.join (fun (z1 : List ((Int × Int × Unit) × List (Int × Int × Unit) × Unit) × Unit) => some z1.1)
 fun k2 =>
 W.loop (fun (z3 : Int × List ((Int × Int × Unit) × List (Int × Int × Unit) × Unit) × Unit) again4 =>
  W.cnd (decide (z3.1 < (l.length : Int))) (
  W.cnd (decide (z3.1 < 12)) (W.idx l z3.1 fun x5 => W.idx l z3.1 fun x6 => W.call (zzc x6.2.1) fun v7 => W.room (z3.2.1.length + ((x5.1, (v7, ())) :: []).length) 40 ((again4 ((IntKind.i64.wrap (z3.1 + 1)), ((z3.2.1 ++ ((x5.1, (v7, ())) :: [])), ())))))
   ((k2 (z3.2.1, ()))))
  ((k2 (z3.2.1, ()))))
  (0, ([], ()))
noncomputable def zyy (l : List APos') : Option (List APos') := znq stdW l
noncomputable def zyx : ES := ⟨(.pair (.slc tAPos) .unit), (.own 198 tAPos), fun x => zyy x.1⟩
theorem law19_Few_ok : ECok Tryz.prog 75 (.es zyx)   := es_ok (A := (.pair (.slc tAPos) .unit)) (Q := (.own 198 tAPos)) (fun W x => znq W x.1) [(127, .es zzb)] ⟨law11_Few_ok, trivial⟩ [(5, [], (ofL [(0, true), (1, true), (2, true), (3, true), (4, true), (5, true), (6, true), (7, true), (8, true), (9, true), (10, true), (11, false), (12, true), (13, false), (14, false), (15, true)]))] [(6, ⟨[(3, .row 1)], [], [.dead, .own 198 tAPos]⟩)] [(3, ⟨[(3, .row 1), (4, .t (.int .i64))], [], [.dead, .own 198 tAPos]⟩)] Tryz.func75 rfl (by decide +kernel) rfl rfl (fun W x => by kernel_rfl)
noncomputable def znr (W : Wd) (l : List AFlow') : Option (List AFlow') :=
 W.cnd (decide (20 < (l.length : Int))) (W.bnd 20 l.length fun h1 => some (l.take h1))
 (some l)
noncomputable def zza (l : List AFlow') : Option (List AFlow') := znr stdW l
noncomputable def zyz : ES := ⟨(.pair (.slc tAFlow) .unit), (.v (.slc tAFlow)), fun x => zza x.1⟩
theorem law17_Few_ok : ECok Tryz.prog 49 (.es zyz)   := es_ok (A := (.pair (.slc tAFlow) .unit)) (Q := (.v (.slc tAFlow))) (fun W x => znr W x.1) [] trivial [] [] [] Tryz.func49 rfl (by decide +kernel) rfl rfl (fun W x => by kernel_rfl)
noncomputable def znp (W : Wd) (l : List APos') (p : List AFlow') : Option zag := W.call (zyy l) fun v1 => W.call (zza p) fun v2 => some (v1, (v2, ()))
noncomputable def zgr (l : List APos') (p : List AFlow') : Option zag := znp stdW l p
noncomputable def zyw : ES := ⟨(.pair (.slc tAPos) (.pair (.slc tAFlow) .unit)), (.v tDealDesk), fun x => zgr x.1 x.2.1⟩
theorem law21_Few_ok : ECok Tryz.prog 28 (.es zyw)   := es_ok (A := (.pair (.slc tAPos) (.pair (.slc tAFlow) .unit))) (Q := (.v tDealDesk)) (fun W x => znp W x.1 x.2.1) [(75, .es zyx), (49, .es zyz)] ⟨law19_Few_ok, law17_Few_ok, trivial⟩ [] [] [] Tryz.func28 rfl (by decide +kernel) rfl rfl (fun W x => by kernel_rfl)
noncomputable def zno (W : Wd) (i : AInst') : Option AInst' :=
 W.join (fun (z1 : Int × Int × Int × Int × List (Int) × Unit) => some (z1.1, (z1.2.1, (z1.2.2.1, (z1.2.2.2.1, (z1.2.2.2.2.1, ()))))))
 fun k2 =>
 W.cnd (decide (9 < (i.2.2.2.2.1.length : Int))) (W.bnd 9 i.2.2.2.2.1.length fun h3 => (k2 (i.1, (i.2.1, (i.2.2.1, (i.2.2.2.1, ((i.2.2.2.2.1.take h3), ())))))))
  ((k2 (i.1, (i.2.1, (i.2.2.1, (i.2.2.2.1, (i.2.2.2.2.1, ())))))))
noncomputable def zda (i : AInst') : Option AInst' := zno stdW i
noncomputable def zyv : ES := ⟨(.pair tAInst .unit), (.v tAInst), fun x => zda x.1⟩
theorem law21_one_ok : ECok Tryz.prog 29 (.es zyv)   := es_ok (A := (.pair tAInst .unit)) (Q := (.v tAInst)) (fun W x => zno W x.1) [] trivial [] [(3, ⟨[], [(0, [.t (.int .i64), .t (.int .i64), .t (.int .i64), .t (.int .i64), .t (.slc (.int .i64))])], []⟩)] [] Tryz.func29 rfl (by decide +kernel) rfl rfl (fun W x => by kernel_rfl)
noncomputable def vec_IsW (W : Wd) (l : List AUnit') : Option Bool :=
 W.loop (fun (z1 : Int × Int × Unit) again2 =>
 W.cnd (decide (z1.2.1 < (l.length : Int))) (W.idx l z1.2.1 fun x3 =>
  W.join (fun (z4 : Bool × Unit) =>
  W.cnd z4.1 (some false)
   ((again2 (x3.1, ((IntKind.i64.wrap (z1.2.1 + 1)), ())))))
  fun k5 =>
  W.cnd (decide (x3.1 ≤ z1.1)) ((k5 (true, ())))
   (
   W.cnd (decide (8 < x3.1)) ((k5 (true, ())))
   ((k5 ((x3.2.1 == 0), ())))))
  (some true))
 (0, (0, ()))
noncomputable def vec_Is (l : List AUnit') : Option Bool := vec_IsW stdW l
noncomputable def vec_Is_s : ES := ⟨(.pair (.slc tAUnit) .unit), (.v .bool), fun x => vec_Is x.1⟩
theorem vec_Is_ok : ECok Tryz.prog 138 (.es vec_Is_s)   := es_ok (A := (.pair (.slc tAUnit) .unit)) (Q := (.v .bool)) (fun W x => vec_IsW W x.1) [] trivial [] [(500025, ⟨[(25, .t .bool)], [], []⟩)] [(3, ⟨[(3, .t (.int .i64)), (8, .t (.int .i64))], [], []⟩)] Tryz.func138 rfl (by decide +kernel) rfl rfl (fun W x => by kernel_rfl)
noncomputable def zof (W : Wd) (a : AUnit') (b : AUnit') : Option Bool :=
 W.cnd (a.1 != b.1) (some (decide (a.1 < b.1)))
 (some (decide (a.2.1 < b.2.1)))
noncomputable def zis (a : AUnit') (b : AUnit') : Option Bool := zof stdW a b
noncomputable def zkq : ES := ⟨(.pair tAUnit (.pair tAUnit .unit)), (.v .bool), fun x => zis x.1 x.2.1⟩
theorem zmh : ECok Tryz.prog 107 (.es zkq)   := es_ok (A := (.pair tAUnit (.pair tAUnit .unit))) (Q := (.v .bool)) (fun W x => zof W x.1 x.2.1) [] trivial [] [] [] Tryz.func107 rfl (by decide +kernel) rfl rfl (fun W x => by kernel_rfl)
noncomputable def zww (W : Wd) (l : List APos') : Option Bool :=
 W.loop (fun (z1 : Int × Unit) again2 =>
 W.cnd (decide (z1.1 < (l.length : Int))) (W.idx l z1.1 fun x3 =>
  W.join (fun (z4 : Bool × Unit) =>
  W.cnd z4.1 (some false)
   ((again2 ((IntKind.i64.wrap (z1.1 + 1)), ()))))
  fun k5 =>
  W.cnd ((x3.2.1.length : Int) == 0) (W.both ((k5 (true, ()))) ((k5 (true, ()))))
   (W.call (vec_Is x3.2.1) fun v6 =>
   W.cnd (!v6) (W.both ((k5 (true, ()))) ((k5 (true, ()))))
   (
   W.cnd (decide (0 < z1.1)) (W.idx l (IntKind.i64.wrap (z1.1 - 1)) fun x7 => W.both (W.call (zis x7.1 x3.1) fun v8 => (k5 ((!v8), ()))) (W.call (zis x7.1 x3.1) fun v9 => (k5 ((!v9), ()))))
    (W.both ((k5 (false, ()))) ((k5 (false, ())))))))
  (some true))
 (0, ())
noncomputable def book_Is (l : List APos') : Option Bool := zww stdW l
noncomputable def zsc : ES := ⟨(.pair (.slc tAPos) .unit), (.v .bool), fun x => book_Is x.1⟩
theorem zua : ECok Tryz.prog 83 (.es zsc)   := es_ok (A := (.pair (.slc tAPos) .unit)) (Q := (.v .bool)) (fun W x => zww W x.1) [(138, .es vec_Is_s), (107, .es zkq)] ⟨vec_Is_ok, zmh, trivial⟩ [(4, [], (.rd 0 (.rd 1 (.rd 2 (.rd 3 (.rd 4 (.rd 5 (.rd 6 (.op 7 (.rd 8 (.rd 9 (.rd 10 (.rd 11 (.rd 12 (.rd 13 (.rd 14 (.rd 15 (.rd 16 (.rd 17 (.rd 18 (.rd 20 (.two 19 21 (ofL [(21, false), (22, false), (23, true), (24, true), (25, true)]) (ofL [(19, false), (22, false), (23, true), (24, true), (25, true)])))))))))))))))))))))))] [(500037, ⟨[(37, .t .bool)], [], []⟩)] [(2, ⟨[(7, .t (.int .i64))], [], []⟩)] Tryz.func83 rfl (by decide +kernel) rfl rfl (fun W x => by kernel_rfl)
noncomputable def zra (W : Wd) (l : List AFlow') : Option Bool :=
 W.loop (fun (z1 : Int × Unit) again2 =>
 W.cnd (decide (z1.1 < (l.length : Int))) (W.idx l z1.1 fun x3 =>
  W.join (fun (z4 : Bool × Unit) =>
  W.cnd z4.1 (some false)
   ((again2 ((IntKind.i64.wrap (z1.1 + 1)), ()))))
  fun k5 =>
  W.cnd (x3.2.1 == 0) ((k5 (true, ())))
   (
   W.cnd (decide (0 < z1.1)) (W.idx l (IntKind.i64.wrap (z1.1 - 1)) fun x6 => W.call (zis x6.1 x3.1) fun v7 => (k5 ((!v7), ())))
   ((k5 (false, ())))))
  (some true))
 (0, ())
noncomputable def zrb (l : List AFlow') : Option Bool := zra stdW l
noncomputable def zng : ES := ⟨(.pair (.slc tAFlow) .unit), (.v .bool), fun x => zrb x.1⟩
theorem zox : ECok Tryz.prog 51 (.es zng)   := es_ok (A := (.pair (.slc tAFlow) .unit)) (Q := (.v .bool)) (fun W x => zra W x.1) [(107, .es zkq)] ⟨zmh, trivial⟩ [(4, [], (ofL [(0, true), (1, true), (2, true), (3, true), (4, true), (5, true), (6, true), (7, true), (8, true), (9, true), (10, true), (11, true), (12, true), (13, true), (14, true), (15, false), (16, true), (17, true), (18, true)]))] [(500030, ⟨[(30, .t .bool)], [], []⟩)] [(2, ⟨[(7, .t (.int .i64))], [], []⟩)] Tryz.func51 rfl (by decide +kernel) rfl rfl (fun W x => by kernel_rfl)
noncomputable def zwq (W : Wd) (d : zag) : Option Bool := W.call (book_Is d.1) fun v1 =>
 W.cnd v1 (W.call (zrb d.2.1) fun v2 => some v2)
 (some false)
noncomputable def zmc (d : zag) : Option Bool := zwq stdW d
noncomputable def zzu : ES := ⟨(.pair tDealDesk .unit), (.v .bool), fun x => zmc x.1⟩
theorem deal_Is_ok : ECok Tryz.prog 34 (.es zzu)   := es_ok (A := (.pair tDealDesk .unit)) (Q := (.v .bool)) (fun W x => zwq W x.1) [(83, .es zsc), (51, .es zng)] ⟨zua, zox, trivial⟩ [] [] [] Tryz.func34 rfl (by decide +kernel) rfl rfl (fun W x => by kernel_rfl)
noncomputable def zhl (W : Wd) (p : Int) : Option Bool :=
 W.cnd (decide (0 ≤ p)) (some (decide (p ≤ 2147483647)))
 (some false)
noncomputable def zdw (p : Int) : Option Bool := zhl stdW p
noncomputable def zka : ES := ⟨(.pair (.int .i64) .unit), (.v .bool), fun x => zdw x.1⟩
theorem zom : ECok Tryz.prog 129 (.es zka)   := es_ok (A := (.pair (.int .i64) .unit)) (Q := (.v .bool)) (fun W x => zhl W x.1) [] trivial [] [] [] Tryz.func129 rfl (by decide +kernel) rfl rfl (fun W x => by kernel_rfl)
noncomputable def zro (W : Wd) (m : Int) : Option Bool :=
 W.cnd (decide (m < (-2147483647))) (some true)
 (some (decide (2147483647 < m)))
noncomputable def inst_far (m : Int) : Option Bool := zro stdW m
noncomputable def inst_far_s : ES := ⟨(.pair (.int .i64) .unit), (.v .bool), fun x => inst_far x.1⟩
theorem inst_far_ok : ECok Tryz.prog 191 (.es inst_far_s)   := es_ok (A := (.pair (.int .i64) .unit)) (Q := (.v .bool)) (fun W x => zro W x.1) [] trivial [] [] [] Tryz.func191 rfl (by decide +kernel) rfl rfl (fun W x => by kernel_rfl)
noncomputable def zaq (W : Wd) (s : List Int) : Option (Int × (Unit)) :=
 W.loop (fun (z1 : Int × Unit) again2 =>
 W.cnd (decide (z1.1 < (s.length : Int))) (W.idx s z1.1 fun x3 => W.call (inst_far x3) fun v4 =>
  W.cnd v4 (some z1)
  ((again2 ((IntKind.i64.wrap (z1.1 + 1)), ()))))
  (some ((-1), ())))
 (0, ())
noncomputable def zbc (s : List Int) : Option (Int × (Unit)) := zaq stdW s
noncomputable def zbs : LS := ⟨[.v (.slc (.int .i64)), .fn 191 0], [], [], (.q (.v (.int .i64))), fun x => zbc x.1⟩
theorem zcx : ECok Tryz.prog 250 (.ls zbs)   := ls_ok (A := [.v (.slc (.int .i64)), .fn 191 0]) (B := []) (E := []) (Q := (.q (.v (.int .i64)))) (fun W x => zaq W x.1) [(191, .es inst_far_s)] ⟨inst_far_ok, trivial⟩ [] [] [(2, ⟨[(8, .t (.int .i64))], [], []⟩)] Tryz.func250 rfl (by decide +kernel) rfl rfl rfl rfl rfl (fun W x => by kernel_rfl)
noncomputable def zan (W : Wd) (s : List Int) : Option (Bool × (Unit)) := W.call (zbc s) fun v1 => some ((decide (0 ≤ v1.1)), ())
noncomputable def zav (s : List Int) : Option (Bool × (Unit)) := zan stdW s
noncomputable def zbn : LS := ⟨[.v (.slc (.int .i64)), .fn 191 0], [], [], (.q (.v .bool)), fun x => zav x.1⟩
theorem zcr : ECok Tryz.prog 190 (.ls zbn)   := ls_ok (A := [.v (.slc (.int .i64)), .fn 191 0]) (B := []) (E := []) (Q := (.q (.v .bool))) (fun W x => zan W x.1) [(250, .ls zbs)] ⟨zcx, trivial⟩ [] [] [] Tryz.func190 rfl (by decide +kernel) rfl rfl rfl rfl rfl (fun W x => by kernel_rfl)
noncomputable def zkb (W : Wd) (i : AInst') : Option Int :=
 W.join (fun (z1 : Bool × Unit) =>
 W.join (fun (z2 : Bool × Unit) =>
  W.cnd z2.1 (some 2)
  (some 0))
  fun k3 =>
  W.cnd (!z1.1) ((k3 (true, ())))
  (W.call (zdw i.2.2.1) fun v4 =>
  W.cnd (!v4) ((k3 (true, ())))
   (W.call (zdw i.2.2.2.1) fun v5 =>
   W.cnd (!v5) ((k3 (true, ())))
   (
   W.cnd (decide (8 < (i.2.2.2.2.1.length : Int))) ((k3 (true, ())))
    (W.call (zav i.2.2.2.2.1) fun v6 => (k3 v6))))))
 fun k7 =>
 W.cnd (decide (1 ≤ i.1)) (
  W.cnd (decide (i.1 ≤ 8)) (
  W.cnd (decide (1 ≤ i.2.1)) ((k7 ((decide (i.2.1 ≤ 65536)), ())))
   ((k7 (false, ()))))
  ((k7 (false, ()))))
  ((k7 (false, ())))
noncomputable def zet (i : AInst') : Option Int := zkb stdW i
noncomputable def zly : ES := ⟨(.pair tAInst .unit), (.v (.int .i64)), fun x => zet x.1⟩
theorem zrp : ECok Tryz.prog 128 (.es zly)   := es_ok (A := (.pair tAInst .unit)) (Q := (.v (.int .i64))) (fun W x => zkb W x.1) [(129, .es zka), (190, .ls zbn)] ⟨zom, zcr, trivial⟩ [] [(2, ⟨[(3, .t .bool)], [], []⟩), (500046, ⟨[(46, .t .bool)], [], []⟩)] [] Tryz.func128 rfl (by decide +kernel) rfl rfl (fun W x => by kernel_rfl)
noncomputable def zkf (W : Wd) (i : AInst') (qty : Int) (price : Int) : Option Bool := W.call (zet (i.1, (i.2.1, (i.2.2.1, (i.2.2.2.1, (i.2.2.2.2.1, ())))))) fun v1 =>
 W.cnd (v1 == 0) (
 W.cnd (decide (0 ≤ price)) (
  W.cnd (decide (price ≤ 2147483647)) (
  W.cnd (qty != 0) (
   W.cnd (decide ((-1099511627776) ≤ qty)) (some (decide (qty ≤ 1099511627776)))
   (some false))
   (some false))
  (some false))
  (some false))
 (some false)
noncomputable def zoa (i : AInst') (qty : Int) (price : Int) : Option Bool := zkf stdW i qty price
noncomputable def zuw : ES := ⟨(.pair tAInst (.pair (.int .i64) (.pair (.int .i64) .unit))), (.v .bool), fun x => zoa x.1 x.2.1 x.2.2.1⟩
theorem deal_right_ok : ECok Tryz.prog 76 (.es zuw)   := es_ok (A := (.pair tAInst (.pair (.int .i64) (.pair (.int .i64) .unit)))) (Q := (.v .bool)) (fun W x => zkf W x.1 x.2.1 x.2.2.1) [(128, .es zly)] ⟨zrp, trivial⟩ [] [] [] Tryz.func76 rfl (by decide +kernel) rfl rfl (fun W x => by kernel_rfl)
noncomputable def zvh (W : Wd) (n : Int) : Option zad := W.nn 63 (some ((Int.fdiv n (2 ^ (Min.min (Int.toNat 63) (Go.IntKind.bits Go.IntKind.i64)))), ((IntKind.u64.wrap n), ())))
noncomputable def zhr (n : Int) : Option zad := zvh stdW n
noncomputable def zgg : ES := ⟨(.pair (.int .i64) .unit), (.v tWideWide), fun x => zhr x.1⟩
theorem zgb : ECok Tryz.prog 119 (.es zgg)   := es_ok (A := (.pair (.int .i64) .unit)) (Q := (.v tWideWide)) (fun W x => zvh W x.1) [] trivial [] [] [] Tryz.func119 rfl (by decide +kernel) rfl rfl (fun W x => by kernel_rfl)
noncomputable def zks (W : Wd) (w : zad) : Option Bool := some (decide (w.1 < 0))
noncomputable def zbi (w : zad) : Option Bool := zks stdW w
noncomputable def zdc : ES := ⟨(.pair tWideWide .unit), (.v .bool), fun x => zbi x.1⟩
theorem zeg : ECok Tryz.prog 196 (.es zdc)   := es_ok (A := (.pair tWideWide .unit)) (Q := (.v .bool)) (fun W x => zks W x.1) [] trivial [] [] [] Tryz.func196 rfl (by decide +kernel) rfl rfl (fun W x => by kernel_rfl)
noncomputable def zef (W : Wd) (w : zad) : Option zmi := W.call (zbi w) fun v1 =>
 W.cnd (!v1) (some ((IntKind.u64.wrap w.1), w.2))
 (W.call (sub64 0 w.2.1 0) fun v2 => W.call (sub64 0 (IntKind.u64.wrap w.1) v2.2.1) fun v3 => some (v3.1, (v2.1, ())))
noncomputable def zcu (w : zad) : Option zmi := zef stdW w
noncomputable def zfr : ES := ⟨(.pair tWideWide .unit), (.v tWideSize), fun x => zcu x.1⟩
theorem zhz : ECok Tryz.prog 192 (.es zfr)   := es_ok (A := (.pair tWideWide .unit)) (Q := (.v tWideSize)) (fun W x => zef W x.1) [(196, .es zdc), (251, .es sub64_s)] ⟨zeg, sub64_ok, trivial⟩ [] [] [] Tryz.func192 rfl (by decide +kernel) rfl rfl (fun W x => by kernel_rfl)
noncomputable def zdn (W : Wd) (x : Int) (y : Int) : Option (Int × Int × Unit) := W.nn 32 (W.nn 32 (W.nn 32 (W.nn 32 (W.nn 32 (some ((IntKind.u64.wrap ((IntKind.u64.wrap ((IntKind.u64.wrap ((Int.fdiv x (2 ^ (Min.min (Int.toNat 32) (Go.IntKind.bits Go.IntKind.u64)))) * (Int.fdiv y (2 ^ (Min.min (Int.toNat 32) (Go.IntKind.bits Go.IntKind.u64)))))) + (Int.fdiv (IntKind.u64.wrap ((IntKind.u64.wrap ((Int.fdiv x (2 ^ (Min.min (Int.toNat 32) (Go.IntKind.bits Go.IntKind.u64)))) * (Go.bits Go.BinOp.and Go.IntKind.u64 y 4294967295))) + (Int.fdiv (IntKind.u64.wrap ((Go.bits Go.BinOp.and Go.IntKind.u64 x 4294967295) * (Go.bits Go.BinOp.and Go.IntKind.u64 y 4294967295))) (2 ^ (Min.min (Int.toNat 32) (Go.IntKind.bits Go.IntKind.u64)))))) (2 ^ (Min.min (Int.toNat 32) (Go.IntKind.bits Go.IntKind.u64)))))) + (Int.fdiv (IntKind.u64.wrap ((Go.bits Go.BinOp.and Go.IntKind.u64 (IntKind.u64.wrap ((IntKind.u64.wrap ((Int.fdiv x (2 ^ (Min.min (Int.toNat 32) (Go.IntKind.bits Go.IntKind.u64)))) * (Go.bits Go.BinOp.and Go.IntKind.u64 y 4294967295))) + (Int.fdiv (IntKind.u64.wrap ((Go.bits Go.BinOp.and Go.IntKind.u64 x 4294967295) * (Go.bits Go.BinOp.and Go.IntKind.u64 y 4294967295))) (2 ^ (Min.min (Int.toNat 32) (Go.IntKind.bits Go.IntKind.u64)))))) 4294967295) + (IntKind.u64.wrap ((Go.bits Go.BinOp.and Go.IntKind.u64 x 4294967295) * (Int.fdiv y (2 ^ (Min.min (Int.toNat 32) (Go.IntKind.bits Go.IntKind.u64)))))))) (2 ^ (Min.min (Int.toNat 32) (Go.IntKind.bits Go.IntKind.u64)))))), ((IntKind.u64.wrap (x * y)), ())))))))
noncomputable def zca (x : Int) (y : Int) : Option (Int × Int × Unit) := zdn stdW x y
noncomputable def zer : ES := ⟨(.pair (.int .u64) (.pair (.int .u64) .unit)), (.pair (.v (.int .u64)) (.pair (.v (.int .u64)) .unit)), fun x => zca x.1 x.2.1⟩
theorem zhj : ECok Tryz.prog 193 (.es zer)   := es_ok (A := (.pair (.int .u64) (.pair (.int .u64) .unit))) (Q := (.pair (.v (.int .u64)) (.pair (.v (.int .u64)) .unit))) (fun W x => zdn W x.1 x.2.1) [] trivial [] [] [] Tryz.func193 rfl (by decide +kernel) rfl rfl (fun W x => by kernel_rfl)
noncomputable def zhy (W : Wd) (s : zmi) (minus : Bool) : Option (zad × Bool × Unit) :=
 W.cnd (!minus) (some (((IntKind.i64.wrap s.1), s.2), ((decide (s.1 < 9223372036854775808)), ())))
 (W.call (sub64 0 s.2.1 0) fun v1 => W.call (sub64 0 s.1 v1.2.1) fun v2 =>
 W.cnd (decide (s.1 < 9223372036854775808)) (some (((IntKind.i64.wrap v2.1), (v1.1, ())), (true, ())))
  (
  W.cnd (s.1 == 9223372036854775808) (some (((IntKind.i64.wrap v2.1), (v1.1, ())), ((s.2.1 == 0), ())))
  (some (((IntKind.i64.wrap v2.1), (v1.1, ())), (false, ())))))
noncomputable def zaz (s : zmi) (minus : Bool) : Option (zad × Bool × Unit) := zhy stdW s minus
noncomputable def zee : ES := ⟨(.pair tWideSize (.pair .bool .unit)), (.pair (.v tWideWide) (.pair (.v .bool) .unit)), fun x => zaz x.1 x.2.1⟩
theorem zgf : ECok Tryz.prog 195 (.es zee)   := es_ok (A := (.pair tWideSize (.pair .bool .unit))) (Q := (.pair (.v tWideWide) (.pair (.v .bool) .unit))) (fun W x => zhy W x.1 x.2.1) [(251, .es sub64_s)] ⟨sub64_ok, trivial⟩ [(2, [1], (ofL [(0, true), (1, true), (2, true), (3, true), (4, true), (5, true), (6, true), (7, true), (8, true), (9, false), (10, true)])), (5, [1], (ofL [(0, true), (1, true), (2, true), (3, true), (4, true), (5, true), (6, true), (7, true), (8, true), (9, true), (10, true), (11, true), (12, true), (13, true), (14, true), (15, true), (16, true), (17, false), (18, true)]))] [] [] Tryz.func195 rfl (by decide +kernel) rfl rfl (fun W x => by kernel_rfl)
noncomputable def zpp (W : Wd) (a : Int) (b : Int) : Option zad := W.call (zhr a) fun v1 => W.call (zhr b) fun v2 => W.call (zcu v1) fun v3 => W.call (zcu v2) fun v4 => W.call (zca v3.2.1 v4.2.1) fun v5 => W.both (W.call (zbi v1) fun v6 => W.both (W.call (zbi v2) fun v7 => W.both (W.call (zaz v5 (Go.Vc.notIf true (v6 == v7))) fun v8 => some v8.1) (W.call (zaz v5 (Go.Vc.notIf true (v6 == v7))) fun v9 => some v9.1)) (W.call (zbi v2) fun v10 => W.call (zaz v5 (Go.Vc.notIf true (v6 == v10))) fun v11 => some v11.1)) (W.call (zbi v1) fun v12 => W.call (zbi v2) fun v13 => W.call (zaz v5 (Go.Vc.notIf true (v12 == v13))) fun v14 => some v14.1)
noncomputable def zvi (a : Int) (b : Int) : Option zad := zpp stdW a b
noncomputable def wide_Mul_s : ES := ⟨(.pair (.int .i64) (.pair (.int .i64) .unit)), (.v tWideWide), fun x => zvi x.1 x.2.1⟩
theorem wide_Mul_ok : ECok Tryz.prog 131 (.es wide_Mul_s)   := es_ok (A := (.pair (.int .i64) (.pair (.int .i64) .unit))) (Q := (.v tWideWide)) (fun W x => zpp W x.1 x.2.1) [(119, .es zgg), (192, .es zfr), (193, .es zer), (196, .es zdc), (195, .es zee)] ⟨zgb, zhz, zhj, zeg, zgf, trivial⟩ [(2, [], (ofL [(0, true), (3, true), (1, false), (2, true), (4, false), (5, true), (6, false), (7, true), (8, true), (9, true), (10, true), (11, true)])), (3, [], (.rd 0 (.rd 1 (.rd 2 (.rd 3 (.rd 5 (.two 4 12 (.two 6 12 (.rd 7 (.two 8 12 (ofL [(9, true), (10, true), (11, true), (12, false), (13, false), (14, true)]) (ofL [(8, false), (9, true), (10, true), (11, true), (13, false), (14, true)]))) (ofL [(6, false), (7, true), (8, false), (9, true), (10, true), (11, true), (13, false), (14, true)])) (ofL [(4, false), (6, false), (7, true), (8, false), (9, true), (10, true), (11, true), (13, false), (14, true)]))))))))] [] [] Tryz.func131 rfl (by decide +kernel) rfl rfl (fun W x => by kernel_rfl)
noncomputable def zgw (W : Wd) (w : zad) (ok : Bool) : Option (zad × Int × Unit) :=
 W.cnd (!ok) (some ((0, (0, ())), (7, ())))
 (some (w, (0, ())))
noncomputable def zdr (w : zad) (ok : Bool) : Option (zad × Int × Unit) := zgw stdW w ok
noncomputable def ziv : ES := ⟨(.pair tWideWide (.pair .bool .unit)), (.pair (.v tWideWide) (.pair (.v (.int .i64)) .unit)), fun x => zdr x.1 x.2.1⟩
theorem zoh : ECok Tryz.prog 197 (.es ziv)   := es_ok (A := (.pair tWideWide (.pair .bool .unit))) (Q := (.pair (.v tWideWide) (.pair (.v (.int .i64)) .unit))) (fun W x => zgw W x.1 x.2.1) [] trivial [] [] [] Tryz.func197 rfl (by decide +kernel) rfl rfl (fun W x => by kernel_rfl)
noncomputable def ziw (W : Wd) (w : zad) (n : Int) : Option (zad × Int × Unit) := W.call (zcu w) fun v1 => W.call (zhr n) fun v2 => W.call (zcu v2) fun v3 => W.call (zca v1.1 v3.2.1) fun v4 => W.call (zca v1.2.1 v3.2.1) fun v5 => W.call (add64 v4.2.1 v5.1 0) fun v6 => W.call (zbi w) fun v7 => W.call (zaz (v6.1, v5.2) (Go.Vc.notIf true (v7 == (decide (n < 0))))) fun v8 =>
 W.cnd v8.2.1 (
 W.cnd (v4.1 == 0) (W.call (zdr v8.1 (v6.2.1 == 0)) fun v9 => some v9)
  (W.call (zdr v8.1 false) fun v10 => some v10))
 (W.call (zdr v8.1 false) fun v11 => some v11)
noncomputable def zsk (w : zad) (n : Int) : Option (zad × Int × Unit) := ziw stdW w n
noncomputable def zud : ES := ⟨(.pair tWideWide (.pair (.int .i64) .unit)), (.pair (.v tWideWide) (.pair (.v (.int .i64)) .unit)), fun x => zsk x.1 x.2.1⟩
theorem wide_Times_ok : ECok Tryz.prog 130 (.es zud)   := es_ok (A := (.pair tWideWide (.pair (.int .i64) .unit))) (Q := (.pair (.v tWideWide) (.pair (.v (.int .i64)) .unit))) (fun W x => ziw W x.1 x.2.1) [(192, .es zfr), (119, .es zgg), (193, .es zer), (194, .es add64_s), (196, .es zdc), (195, .es zee), (197, .es ziv)] ⟨zhz, zgb, zhj, add64_ok, zeg, zgf, zoh, trivial⟩ [] [] [] Tryz.func130 rfl (by decide +kernel) rfl rfl (fun W x => by kernel_rfl)
noncomputable def zpq (W : Wd) (w : zad) : Option (Int × Int × Unit) := W.call (zhr (IntKind.i64.wrap w.2.1)) fun v1 =>
 W.cnd (Go.Vc.notIf true ((v1.1 == w.1) && (v1.2.1 == w.2.1))) (some (0, (7, ())))
 (some ((IntKind.i64.wrap w.2.1), (0, ())))
noncomputable def zpr (w : zad) : Option (Int × Int × Unit) := zpq stdW w
noncomputable def zsl : ES := ⟨(.pair tWideWide .unit), (.pair (.v (.int .i64)) (.pair (.v (.int .i64)) .unit)), fun x => zpr x.1⟩
theorem zxa : ECok Tryz.prog 132 (.es zsl)   := es_ok (A := (.pair tWideWide .unit)) (Q := (.pair (.v (.int .i64)) (.pair (.v (.int .i64)) .unit))) (fun W x => zpq W x.1) [(119, .es zgg)] ⟨zgb, trivial⟩ [(2, [], (ofL [(0, true), (2, true), (1, false), (3, true)]))] [] [] Tryz.func132 rfl (by decide +kernel) rfl rfl (fun W x => by kernel_rfl)
noncomputable def zge (W : Wd) (i : AInst') (qty : Int) (from_ : Int) (to_ : Int) : Option (Int × Int × Unit) :=
 W.join (fun (z1 : Bool × Unit) =>
 W.cnd z1.1 (some (0, (2, ())))
  (W.call (zvi (IntKind.i64.wrap (to_ - from_)) i.2.1) fun v2 => W.call (zsk v2 qty) fun v3 =>
  W.cnd (v3.2.1 != 0) (some (0, v3.2))
  (W.call (zpr v3.1) fun v4 => some v4)))
 fun k5 => W.call (zet (i.1, (i.2.1, (i.2.2.1, (i.2.2.2.1, (i.2.2.2.2.1, ())))))) fun v6 =>
 W.cnd (v6 != 0) ((k5 (true, ())))
  (W.call (zdw from_) fun v7 =>
  W.cnd (!v7) ((k5 (true, ())))
  (W.call (zdw to_) fun v8 => (k5 ((!v8), ()))))
noncomputable def zdi (i : AInst') (qty : Int) (from_ : Int) (to_ : Int) : Option (Int × Int × Unit) := zge stdW i qty from_ to_
noncomputable def zpc : ES := ⟨(.pair tAInst (.pair (.int .i64) (.pair (.int .i64) (.pair (.int .i64) .unit)))), (.pair (.v (.int .i64)) (.pair (.v (.int .i64)) .unit)), fun x => zdi x.1 x.2.1 x.2.2.1 x.2.2.2.1⟩
theorem zuu : ECok Tryz.prog 77 (.es zpc)   := es_ok (A := (.pair tAInst (.pair (.int .i64) (.pair (.int .i64) (.pair (.int .i64) .unit))))) (Q := (.pair (.v (.int .i64)) (.pair (.v (.int .i64)) .unit))) (fun W x => zge W x.1 x.2.1 x.2.2.1 x.2.2.2.1) [(128, .es zly), (129, .es zka), (131, .es wide_Mul_s), (130, .es zud), (132, .es zsl)] ⟨zrp, zom, wide_Mul_ok, wide_Times_ok, zxa, trivial⟩ [] [(500024, ⟨[(24, .t .bool)], [], []⟩)] [] Tryz.func77 rfl (by decide +kernel) rfl rfl (fun W x => by kernel_rfl)
noncomputable def zpt (W : Wd) (l : List AUnit') : Option Bool := W.call (vec_Is l) fun v1 => some (!v1)
noncomputable def zvk (l : List AUnit') : Option Bool := zpt stdW l
noncomputable def zsn : ES := ⟨(.pair (.slc tAUnit) .unit), (.v .bool), fun x => zvk x.1⟩
theorem zxb : ECok Tryz.prog 198 (.es zsn)   := es_ok (A := (.pair (.slc tAUnit) .unit)) (Q := (.v .bool)) (fun W x => zpt W x.1) [(138, .es vec_Is_s)] ⟨vec_Is_ok, trivial⟩ [] [] [] Tryz.func198 rfl (by decide +kernel) rfl rfl (fun W x => by kernel_rfl)
noncomputable def zed (W : Wd) (w : zad) (t0 : Int) (t1 : Int) (t2 : Int) : Option (Unit × (Int × Int × Int × Unit)) := W.call (add64 t2 w.2.1 0) fun v1 => W.call (add64 (IntKind.u64.wrap t1) (IntKind.u64.wrap w.1) v1.2.1) fun v2 => W.nn 63 (some ((), ((IntKind.i64.wrap (t0 + (IntKind.i64.wrap ((Int.fdiv w.1 (2 ^ (Min.min (Int.toNat 63) (Go.IntKind.bits Go.IntKind.i64)))) + (IntKind.i64.wrap v2.2.1))))), ((IntKind.i64.wrap v2.1), (v1.1, ())))))
noncomputable def zbp (w : zad) (t0 : Int) (t1 : Int) (t2 : Int) : Option (Unit × (Int × Int × Int × Unit)) := zed stdW w t0 t1 t2
noncomputable def zfq : LS := ⟨[.ptr, .v tWideWide], [⟨257, [.v (.int .i64), .v (.int .i64), .v (.int .u64)]⟩], [⟨257, [.v (.int .i64), .v (.int .i64), .v (.int .u64)]⟩], (.q .unit), fun x => zbp x.1 x.2.1 x.2.2.1 x.2.2.2.1⟩
theorem zhx : ECok Tryz.prog 187 (.ls zfq)   := ls_ok (A := [.ptr, .v tWideWide]) (B := [⟨257, [.v (.int .i64), .v (.int .i64), .v (.int .u64)]⟩]) (E := [⟨257, [.v (.int .i64), .v (.int .i64), .v (.int .u64)]⟩]) (Q := (.q .unit)) (fun W x => zed W x.1 x.2.1 x.2.2.1 x.2.2.2.1) [(194, .es add64_s)] ⟨add64_ok, trivial⟩ [(1, [], (ofL [(0, true), (1, true), (2, true), (3, true), (4, true), (5, true), (6, true), (7, false), (8, true), (9, true), (10, true), (11, true), (12, true)])), (2, [], (ofL [(0, true), (1, true), (2, true), (3, true), (4, true), (5, true), (6, true), (7, true), (8, true), (9, true), (10, false), (11, true), (12, true), (13, true), (14, true), (15, true)])), (3, [0], (ofL [(0, true), (1, true), (2, true), (4, true), (5, true), (6, true), (7, true), (8, true), (9, true), (3, false), (10, true), (11, true), (12, true), (13, false)]))] [] [] Tryz.func187 rfl (by decide +kernel) rfl rfl rfl rfl rfl (fun W x => by kernel_rfl)
noncomputable def zdl (W : Wd) (t0 : Int) (t1 : Int) (t2 : Int) : Option ((zad × Int × Unit) × (Int × Int × Int × Unit)) := W.nn 63 (W.call (zdr (t1, (t2, ())) (t0 == (Int.fdiv t1 (2 ^ (Min.min (Int.toNat 63) (Go.IntKind.bits Go.IntKind.i64)))))) fun v1 => some (v1, (t0, (t1, (t2, ())))))
noncomputable def zcv (t0 : Int) (t1 : Int) (t2 : Int) : Option ((zad × Int × Unit) × (Int × Int × Int × Unit)) := zdl stdW t0 t1 t2
noncomputable def zeo : LS := ⟨[.ptr], [⟨257, [.v (.int .i64), .v (.int .i64), .v (.int .u64)]⟩], [⟨257, [.v (.int .i64), .v (.int .i64), .v (.int .u64)]⟩], (.q (.pair (.v tWideWide) (.pair (.v (.int .i64)) .unit))), fun x => zcv x.1 x.2.1 x.2.2.1⟩
theorem zgv : ECok Tryz.prog 188 (.ls zeo)   := ls_ok (A := [.ptr]) (B := [⟨257, [.v (.int .i64), .v (.int .i64), .v (.int .u64)]⟩]) (E := [⟨257, [.v (.int .i64), .v (.int .i64), .v (.int .u64)]⟩]) (Q := (.q (.pair (.v tWideWide) (.pair (.v (.int .i64)) .unit)))) (fun W x => zdl W x.1 x.2.1 x.2.2.1) [(197, .es ziv)] ⟨zoh, trivial⟩ [(1, [1], (ofL [(0, true), (1, true), (2, true), (3, true), (4, true), (5, true), (6, true), (7, true), (8, true), (9, true), (10, true), (11, true), (12, true), (13, true), (14, true), (15, false), (16, true), (17, true), (18, false), (19, true)]))] [] [] Tryz.func188 rfl (by decide +kernel) rfl rfl rfl rfl rfl (fun W x => by kernel_rfl)
noncomputable def zpo (W : Wd) (a : zad) (b : zad) : Option (zad × Int × Unit) := W.call (zbp a 0 0 0) fun v1 => W.call (zbp ((Go.bits Go.BinOp.xor Go.IntKind.i64 (if true = true then (-1) else (if true = true then ((2 ^ ((Go.IntKind.bits Go.IntKind.i64) - 1)) - 1) else ((2 ^ (Go.IntKind.bits Go.IntKind.i64)) - 1))) b.1), ((Go.bits Go.BinOp.xor Go.IntKind.u64 (if false = true then (-1) else (if false = true then ((2 ^ ((Go.IntKind.bits Go.IntKind.u64) - 1)) - 1) else ((2 ^ (Go.IntKind.bits Go.IntKind.u64)) - 1))) b.2.1), ())) v1.2.1 v1.2.2.1 v1.2.2.2.1) fun v2 => W.call (zhr 1) fun v3 => W.call (zbp v3 v2.2.1 v2.2.2.1 v2.2.2.2.1) fun v4 => W.call (zcv v4.2.1 v4.2.2.1 v4.2.2.2.1) fun v5 => some v5.1
noncomputable def wide_Sub (a : zad) (b : zad) : Option (zad × Int × Unit) := zpo stdW a b
noncomputable def wide_Sub_s : ES := ⟨(.pair tWideWide (.pair tWideWide .unit)), (.pair (.v tWideWide) (.pair (.v (.int .i64)) .unit)), fun x => wide_Sub x.1 x.2.1⟩
theorem wide_Sub_ok : ECok Tryz.prog 204 (.es wide_Sub_s)   := es_ok (A := (.pair tWideWide (.pair tWideWide .unit))) (Q := (.pair (.v tWideWide) (.pair (.v (.int .i64)) .unit))) (fun W x => zpo W x.1 x.2.1) [(187, .ls zfq), (119, .es zgg), (188, .ls zeo)] ⟨zhx, zgb, zgv, trivial⟩ [] [] [] Tryz.func204 rfl (by decide +kernel) rfl rfl (fun W x => by kernel_rfl)
noncomputable def zkd (W : Wd) (w : zad) (e : Int) : Option (Int × Int × Unit) :=
 W.cnd (e != 0) (some (0, (e, ())))
 (W.call (zpr w) fun v1 => some v1)
noncomputable def zik (w : zad) (e : Int) : Option (Int × Int × Unit) := zkd stdW w e
noncomputable def zma : ES := ⟨(.pair tWideWide (.pair (.int .i64) .unit)), (.pair (.v (.int .i64)) (.pair (.v (.int .i64)) .unit)), fun x => zik x.1 x.2.1⟩
theorem zrs : ECok Tryz.prog 120 (.es zma)   := es_ok (A := (.pair tWideWide (.pair (.int .i64) .unit))) (Q := (.pair (.v (.int .i64)) (.pair (.v (.int .i64)) .unit))) (fun W x => zkd W x.1 x.2.1) [(132, .es zsl)] ⟨zxa, trivial⟩ [] [] [] Tryz.func120 rfl (by decide +kernel) rfl rfl (fun W x => by kernel_rfl)
noncomputable def zwm (W : Wd) (a : Int) (b : Int) : Option (Int × Int × Unit) := W.call (zhr a) fun v1 => W.call (zhr b) fun v2 => W.call (wide_Sub v1 v2) fun v3 => W.call (zik v3.1 v3.2.1) fun v4 => some v4
noncomputable def zzr (a : Int) (b : Int) : Option (Int × Int × Unit) := zwm stdW a b
noncomputable def zzq : ES := ⟨(.pair (.int .i64) (.pair (.int .i64) .unit)), (.pair (.v (.int .i64)) (.pair (.v (.int .i64)) .unit)), fun x => zzr x.1 x.2.1⟩
theorem fix_Sub_ok : ECok Tryz.prog 135 (.es zzq)   := es_ok (A := (.pair (.int .i64) (.pair (.int .i64) .unit))) (Q := (.pair (.v (.int .i64)) (.pair (.v (.int .i64)) .unit))) (fun W x => zwm W x.1 x.2.1) [(119, .es zgg), (204, .es wide_Sub_s), (120, .es zma)] ⟨zgb, wide_Sub_ok, zrs, trivial⟩ [] [] [] Tryz.func135 rfl (by decide +kernel) rfl rfl (fun W x => by kernel_rfl)
noncomputable def zvl (W : Wd) (l : List AUnit') : Option ((List AUnit') × Int × Unit) := W.call (zvk l) fun v1 =>
 W.cnd v1 (some ([], (3, ())))
 (
 W.loop (fun (z2 : Int × List (Int × Int × Unit) × Unit) again3 =>
  W.cnd (decide (z2.1 < (l.length : Int))) (W.idx l z2.1 fun x4 => W.call (zzr 0 x4.2.1) fun v5 =>
  W.cnd (v5.2.1 != 0) (some ([], v5.2))
   (W.room (z2.2.1.length + ((x4.1, (v5.1, ())) :: []).length) 16 ((again3 ((IntKind.i64.wrap (z2.1 + 1)), ((z2.2.1 ++ ((x4.1, (v5.1, ())) :: [])), ()))))))
  (some (z2.2.1, (0, ()))))
  (0, ([], ())))
noncomputable def vec_Neg (l : List AUnit') : Option ((List AUnit') × Int × Unit) := zvl stdW l
noncomputable def vec_Neg_s : ES := ⟨(.pair (.slc tAUnit) .unit), (.pair (.own 136 tAUnit) (.pair (.v (.int .i64)) .unit)), fun x => vec_Neg x.1⟩
theorem vec_Neg_ok : ECok Tryz.prog 133 (.es vec_Neg_s)   := es_ok (A := (.pair (.slc tAUnit) .unit)) (Q := (.pair (.own 136 tAUnit) (.pair (.v (.int .i64)) .unit))) (fun W x => zvl W x.1) [(198, .es zsn), (135, .es zzq)] ⟨zxb, fix_Sub_ok, trivial⟩ [] [] [(5, ⟨[(4, .row 1), (13, .t (.int .i64))], [], [.dead, .own 136 tAUnit]⟩)] Tryz.func133 rfl (by decide +kernel) rfl rfl (fun W x => by kernel_rfl)
noncomputable def zbf (W : Wd) (s : List AUnit') : Option (List AUnit') := W.nilq (List.isEmpty s) fun g1 =>
 W.cnd (Go.Vc.notIf false g1) (some [])
 (W.room ((0 : Nat) + s.length) 16 (some ([] ++ s)))
noncomputable def zaw (s : List AUnit') : Option (List AUnit') := zbf stdW s
noncomputable def zbu : ES := ⟨(.pair (.slc tAUnit) .unit), (.own 136 tAUnit), fun x => zaw x.1⟩
theorem zcp : ECok Tryz.prog 140 (.es zbu)   := es_ok (A := (.pair (.slc tAUnit) .unit)) (Q := (.own 136 tAUnit)) (fun W x => zbf W x.1) [] trivial [] [] [] Tryz.func140 rfl (by decide +kernel) rfl rfl (fun W x => by kernel_rfl)
noncomputable def zwv (W : Wd) (l : List APos') (u : AUnit') : Option (List AUnit') :=
 W.loop (fun (z1 : Int × Unit) again2 =>
 W.cnd (decide (z1.1 < (l.length : Int))) (W.idx l z1.1 fun x3 =>
  W.cnd (Go.Vc.notIf false ((x3.1.1 == u.1) && (x3.1.2.1 == u.2.1))) (W.call (zaw x3.2.1) fun v4 => some v4)
  ((again2 ((IntKind.i64.wrap (z1.1 + 1)), ()))))
  (some []))
 (0, ())
noncomputable def book_Of (l : List APos') (u : AUnit') : Option (List AUnit') := zwv stdW l u
noncomputable def book_Of_s : ES := ⟨(.pair (.slc tAPos) (.pair tAUnit .unit)), (.own 136 tAUnit), fun x => book_Of x.1 x.2.1⟩
theorem book_Of_ok : ECok Tryz.prog 87 (.es book_Of_s)   := es_ok (A := (.pair (.slc tAPos) (.pair tAUnit .unit))) (Q := (.own 136 tAUnit)) (fun W x => zwv W x.1 x.2.1) [(140, .es zbu)] ⟨zcp, trivial⟩ [] [] [(2, ⟨[(9, .t (.int .i64))], [], []⟩)] Tryz.func87 rfl (by decide +kernel) rfl rfl (fun W x => by kernel_rfl)
noncomputable def zak (W : Wd) (s : List (List AUnit')) : Option (Int × (Unit)) :=
 W.loop (fun (z1 : Int × Unit) again2 =>
 W.cnd (decide (z1.1 < (s.length : Int))) (W.idx s z1.1 fun x3 => W.call (zvk x3) fun v4 =>
  W.cnd v4 (some z1)
  ((again2 ((IntKind.i64.wrap (z1.1 + 1)), ()))))
  (some ((-1), ())))
 (0, ())
noncomputable def zat (s : List (List AUnit')) : Option (Int × (Unit)) := zak stdW s
noncomputable def zbl : LS := ⟨[.v (.slc (.slc tAUnit)), .fn 198 0], [], [], (.q (.v (.int .i64))), fun x => zat x.1⟩
theorem zcq : ECok Tryz.prog 272 (.ls zbl)   := ls_ok (A := [.v (.slc (.slc tAUnit)), .fn 198 0]) (B := []) (E := []) (Q := (.q (.v (.int .i64)))) (fun W x => zak W x.1) [(198, .es zsn)] ⟨zxb, trivial⟩ [] [] [(2, ⟨[(8, .t (.int .i64))], [], []⟩)] Tryz.func272 rfl (by decide +kernel) rfl rfl rfl rfl rfl (fun W x => by kernel_rfl)
noncomputable def zai (W : Wd) (s : List (List AUnit')) : Option (Bool × (Unit)) := W.call (zat s) fun v1 => some ((decide (0 ≤ v1.1)), ())
noncomputable def zar (s : List (List AUnit')) : Option (Bool × (Unit)) := zai stdW s
noncomputable def zbe : LS := ⟨[.v (.slc (.slc tAUnit)), .fn 198 0], [], [], (.q (.v .bool)), fun x => zar x.1⟩
theorem zcj : ECok Tryz.prog 252 (.ls zbe)   := ls_ok (A := [.v (.slc (.slc tAUnit)), .fn 198 0]) (B := []) (E := []) (Q := (.q (.v .bool))) (fun W x => zai W x.1) [(272, .ls zbl)] ⟨zcq, trivial⟩ [] [] [] Tryz.func252 rfl (by decide +kernel) rfl rfl rfl rfl rfl (fun W x => by kernel_rfl)
noncomputable def zvm (W : Wd) (l : List AUnit') (inst : Int) : Option Int :=
 W.loop (fun (z1 : Int × Unit) again2 =>
 W.cnd (decide (z1.1 < (l.length : Int))) (W.idx l z1.1 fun x3 =>
  W.cnd (x3.1 == inst) (some x3.2.1)
  ((again2 ((IntKind.i64.wrap (z1.1 + 1)), ()))))
  (some 0))
 (0, ())
noncomputable def vec_Get (l : List AUnit') (inst : Int) : Option Int := zvm stdW l inst
noncomputable def vec_Get_s : ES := ⟨(.pair (.slc tAUnit) (.pair (.int .i64) .unit)), (.v (.int .i64)), fun x => vec_Get x.1 x.2.1⟩
theorem vec_Get_ok : ECok Tryz.prog 253 (.es vec_Get_s)   := es_ok (A := (.pair (.slc tAUnit) (.pair (.int .i64) .unit))) (Q := (.v (.int .i64))) (fun W x => zvm W x.1 x.2.1) [] trivial [] [] [(2, ⟨[(9, .t (.int .i64))], [], []⟩)] Tryz.func253 rfl (by decide +kernel) rfl rfl (fun W x => by kernel_rfl)
noncomputable def zps (W : Wd) (l : List zad) : Option (zad × Int × Unit) :=
 W.loop (fun (z1 : Int × Int × Int × Int × Unit) again2 =>
 W.cnd (decide (z1.1 < (l.length : Int))) (W.idx l z1.1 fun x3 => W.call (zbp x3 z1.2.1 z1.2.2.1 z1.2.2.2.1) fun v4 => (again2 ((IntKind.i64.wrap (z1.1 + 1)), v4.2)))
  (W.call (zcv z1.2.1 z1.2.2.1 z1.2.2.2.1) fun v5 => some v5.1))
 (0, (0, (0, (0, ()))))
noncomputable def zvj (l : List zad) : Option (zad × Int × Unit) := zps stdW l
noncomputable def wide_Add_s : ES := ⟨(.pair (.slc tWideWide) .unit), (.pair (.v tWideWide) (.pair (.v (.int .i64)) .unit)), fun x => zvj x.1⟩
theorem wide_Add_ok : ECok Tryz.prog 121 (.es wide_Add_s)   := es_ok (A := (.pair (.slc tWideWide) .unit)) (Q := (.pair (.v tWideWide) (.pair (.v (.int .i64)) .unit))) (fun W x => zps W x.1) [(187, .ls zfq), (188, .ls zeo)] ⟨zhx, zgv, trivial⟩ [] [] [(3, ⟨[(9, .t (.int .i64))], [(1, [.t (.int .i64), .t (.int .i64), .t (.int .u64)])], []⟩)] Tryz.func121 rfl (by decide +kernel) rfl rfl (fun W x => by kernel_rfl)
noncomputable def zwl (W : Wd) (l : List Int) : Option (Int × Int × Unit) := W.nn (l.length : Int) (W.room (Int.toNat (l.length : Int)) 16 (
 W.loop (fun (z1 : Int × List (Int × Int × Unit) × Unit) again2 =>
 W.cnd (decide (z1.1 < (l.length : Int))) (W.idx l z1.1 fun x3 => W.call (zhr x3) fun v4 => W.room (z1.2.1.length + (v4 :: []).length) 16 ((again2 ((IntKind.i64.wrap (z1.1 + 1)), ((z1.2.1 ++ (v4 :: [])), ())))))
  (W.call (zvj z1.2.1) fun v5 => W.call (zik v5.1 v5.2.1) fun v6 => some v6))
 (0, ([], ()))))
noncomputable def ztv (l : List Int) : Option (Int × Int × Unit) := zwl stdW l
noncomputable def zzp : ES := ⟨(.pair (.slc (.int .i64)) .unit), (.pair (.v (.int .i64)) (.pair (.v (.int .i64)) .unit)), fun x => ztv x.1⟩
theorem fix_Sum_ok : ECok Tryz.prog 61 (.es zzp)   := es_ok (A := (.pair (.slc (.int .i64)) .unit)) (Q := (.pair (.v (.int .i64)) (.pair (.v (.int .i64)) .unit))) (fun W x => zwl W x.1) [(119, .es zgg), (121, .es wide_Add_s), (120, .es zma)] ⟨zgb, wide_Add_ok, zrs, trivial⟩ [] [] [(3, ⟨[(4, .row 0), (12, .t (.int .i64))], [], [.own 188 tWideWide]⟩)] Tryz.func61 rfl (by decide +kernel) rfl rfl (fun W x => by kernel_rfl)
noncomputable def zvn (W : Wd) (l : List (List AUnit')) : Option ((List AUnit') × Int × Unit) := W.call (zar l) fun v1 =>
 W.cnd v1.1 (some ([], (3, ())))
 (
 W.loop (fun (z2 : Int × List (Int × Int × Unit) × Unit) again3 =>
  W.cnd (decide (z2.1 ≤ 8)) (
  W.join (fun (z4 : List (Int × Int × Unit) × Unit) => (again3 ((IntKind.i64.wrap (z2.1 + 1)), (z4.1, ()))))
   fun k5 =>
   W.loop (fun (z6 : Int × List (Int × Int × Unit) × List (Int) × Unit) again7 =>
   W.cnd (decide (z6.1 < (l.length : Int))) (W.idx l z6.1 fun x8 => W.call (vec_Get x8 z2.1) fun v9 => W.room (z6.2.2.1.length + (v9 :: []).length) 8 ((again7 ((IntKind.i64.wrap (z6.1 + 1)), (z6.2.1, ((z6.2.2.1 ++ (v9 :: [])), ()))))))
    (W.call (ztv z6.2.2.1) fun v10 =>
    W.cnd (v10.2.1 != 0) (some ([], v10.2))
    (
    W.cnd (v10.1 != 0) (W.room (z6.2.1.length + ((z2.1, (v10.1, ())) :: []).length) 16 ((k5 ((z6.2.1 ++ ((z2.1, (v10.1, ())) :: [])), ()))))
     ((k5 (z6.2.1, ()))))))
   (0, (z2.2.1, ([], ()))))
  (some (z2.2.1, (0, ()))))
  (1, ([], ())))
noncomputable def vec_Add (l : List (List AUnit')) : Option ((List AUnit') × Int × Unit) := zvn stdW l
noncomputable def vec_Add_s : ES := ⟨(.pair (.slc (.slc tAUnit)) .unit), (.pair (.own 136 tAUnit) (.pair (.v (.int .i64)) .unit)), fun x => vec_Add x.1⟩
theorem vec_Add_ok : ECok Tryz.prog 199 (.es vec_Add_s)   := es_ok (A := (.pair (.slc (.slc tAUnit)) .unit)) (Q := (.pair (.own 136 tAUnit) (.pair (.v (.int .i64)) .unit))) (fun W x => zvn W x.1) [(252, .ls zbe), (253, .es vec_Get_s), (61, .es zzp)] ⟨zcj, vec_Get_ok, fix_Sum_ok, trivial⟩ [] [(6, ⟨[(4, .row 3)], [], [.dead, .dead, .dead, .own 136 tAUnit]⟩)] [(5, ⟨[(4, .row 3), (5, .t (.int .i64))], [], [.dead, .dead, .dead, .own 136 tAUnit]⟩), (9, ⟨[(4, .row 3), (6, .row 5), (19, .t (.int .i64))], [], [.dead, .dead, .dead, .own 136 tAUnit, .dead, .own 2 (.int .i64)]⟩)] Tryz.func199 rfl (by decide +kernel) rfl rfl (fun W x => by kernel_rfl)
noncomputable def zko (W : Wd) (l : List APos') (u : AUnit') : Option (Int × Bool × Unit) :=
 W.loop (fun (z1 : Int × Unit) again2 =>
 W.cnd (decide (z1.1 < (l.length : Int))) (W.idx l z1.1 fun x3 => W.call (zis x3.1 u) fun v4 =>
  W.cnd (!v4) (some (z1.1, ((Go.Vc.notIf false ((x3.1.1 == u.1) && (x3.1.2.1 == u.2.1))), ())))
  ((again2 ((IntKind.i64.wrap (z1.1 + 1)), ()))))
  (some ((l.length : Int), (false, ()))))
 (0, ())
noncomputable def ztz (l : List APos') (u : AUnit') : Option (Int × Bool × Unit) := zko stdW l u
noncomputable def zvb : ES := ⟨(.pair (.slc tAPos) (.pair tAUnit .unit)), (.pair (.v (.int .i64)) (.pair (.v .bool) .unit)), fun x => ztz x.1 x.2.1⟩
theorem book_place_ok : ECok Tryz.prog 200 (.es zvb)   := es_ok (A := (.pair (.slc tAPos) (.pair tAUnit .unit))) (Q := (.pair (.v (.int .i64)) (.pair (.v .bool) .unit))) (fun W x => zko W x.1 x.2.1) [(107, .es zkq)] ⟨zmh, trivial⟩ [(5, [], (ofL [(0, true), (1, true), (2, true), (3, true), (4, true), (5, true), (6, true)]))] [] [(2, ⟨[(10, .t (.int .i64))], [], []⟩)] Tryz.func200 rfl (by decide +kernel) rfl rfl (fun W x => by kernel_rfl)
noncomputable def zhq (W : Wd) (l : List APos') : Option (List APos') :=
 W.loop (fun (z1 : Int × List ((Int × Int × Unit) × List (Int × Int × Unit) × Unit) × Unit) again2 =>
 W.cnd (decide (z1.1 < (l.length : Int))) (W.idx l z1.1 fun x3 => W.call (zaw x3.2.1) fun v4 => W.room (z1.2.1.length + ((x3.1, (v4, ())) :: []).length) 40 ((again2 ((IntKind.i64.wrap (z1.1 + 1)), ((z1.2.1 ++ ((x3.1, (v4, ())) :: [])), ())))))
  (some z1.2.1))
 (0, ([], ()))
noncomputable def zpk (l : List APos') : Option (List APos') := zhq stdW l
noncomputable def zsa : ES := ⟨(.pair (.slc tAPos) .unit), (.own 198 tAPos), fun x => zpk x.1⟩
theorem book_copied_ok : ECok Tryz.prog 201 (.es zsa)   := es_ok (A := (.pair (.slc tAPos) .unit)) (Q := (.own 198 tAPos)) (fun W x => zhq W x.1) [(140, .es zbu)] ⟨zcp, trivial⟩ [(5, [], (ofL [(0, true), (1, true), (2, true), (3, true), (4, true), (5, false), (6, true), (7, false), (8, false), (9, true)]))] [] [(3, ⟨[(3, .row 2), (8, .t (.int .i64))], [], [.dead, .dead, .own 198 tAPos]⟩)] Tryz.func201 rfl (by decide +kernel) rfl rfl (fun W x => by kernel_rfl)
noncomputable def zkp (W : Wd) (l : List APos') (u : AUnit') (legs : List AUnit') : Option ((List APos') × Int × Unit) := W.call (book_Is l) fun v1 =>
 W.cnd (!v1) (some ([], (3, ())))
 (W.call (book_Of l u) fun v2 => W.call (vec_Add (v2 :: (legs :: []))) fun v3 =>
 W.cnd (v3.2.1 != 0) (some ([], v3.2))
  (W.call (ztz l u) fun v4 => W.call (zpk l) fun v5 =>
  W.join (fun (z6 : List (Int × Int × Unit) × List ((Int × Int × Unit) × List (Int × Int × Unit) × Unit) × Unit) =>
  W.join (fun (z7 : List ((Int × Int × Unit) × List (Int × Int × Unit) × Unit) × Unit) => some (z7.1, (0, ())))
   fun k8 =>
   W.cnd (decide (0 < (z6.1.length : Int))) (W.call (insO z6.2.1 v4.1 ((u, (z6.1, ())) :: [])) fun v9 => (k8 (v9.1, ())))
   ((k8 (z6.2.1, ()))))
  fun k10 =>
  W.cnd v4.2.1 (W.call (delO v5 v4.1 (IntKind.i64.wrap (v4.1 + 1))) fun v11 => (k10 (v3.1, (v11.1, ()))))
   ((k10 (v3.1, (v5, ()))))))
noncomputable def zir (l : List APos') (u : AUnit') (legs : List AUnit') : Option ((List APos') × Int × Unit) := zkp stdW l u legs
noncomputable def zvc : ES := ⟨(.pair (.slc tAPos) (.pair tAUnit (.pair (.slc tAUnit) .unit))), (.pair (.own 198 tAPos) (.pair (.v (.int .i64)) .unit)), fun x => zir x.1 x.2.1 x.2.2.1⟩
theorem book_Shift_ok : ECok Tryz.prog 134 (.es zvc)   := es_ok (A := (.pair (.slc tAPos) (.pair tAUnit (.pair (.slc tAUnit) .unit)))) (Q := (.pair (.own 198 tAPos) (.pair (.v (.int .i64)) .unit))) (fun W x => zkp W x.1 x.2.1 x.2.2.1) [(83, .es zsc), (87, .es book_Of_s), (199, .es vec_Add_s), (200, .es zvb), (201, .es zsa), (202, .ls delete_s), (203, .ls insert_s)] ⟨zua, book_Of_ok, vec_Add_ok, book_place_ok, book_copied_ok, delete_ok, insert_ok, trivial⟩ [] [(10, ⟨[(8, .row 2), (12, .row 3)], [], [.dead, .dead, .own 136 tAUnit, .own 198 tAPos]⟩), (12, ⟨[(12, .row 3)], [], [.dead, .dead, .dead, .own 198 tAPos]⟩)] [] Tryz.func134 rfl (by decide +kernel) rfl rfl (fun W x => by kernel_rfl)
noncomputable def zoc (W : Wd) (l : List APos') (from_ : AUnit') (to_ : AUnit') (legs : List AUnit') : Option ((List APos') × Int × Unit) := W.call (book_Is l) fun v1 =>
 W.cnd (!v1) (some ([], (3, ())))
 (W.call (vec_Neg legs) fun v2 =>
 W.cnd (v2.2.1 != 0) (some ([], v2.2))
  (W.call (zir l from_ v2.1) fun v3 =>
  W.cnd (v3.2.1 != 0) (some ([], v3.2))
  (W.call (zir v3.1 to_ legs) fun v4 => some (v4.1, v4.2))))
noncomputable def zsb (l : List APos') (from_ : AUnit') (to_ : AUnit') (legs : List AUnit') : Option ((List APos') × Int × Unit) := zoc stdW l from_ to_ legs
noncomputable def book_Move_s : ES := ⟨(.pair (.slc tAPos) (.pair tAUnit (.pair tAUnit (.pair (.slc tAUnit) .unit)))), (.pair (.own 198 tAPos) (.pair (.v (.int .i64)) .unit)), fun x => zsb x.1 x.2.1 x.2.2.1 x.2.2.2.1⟩
theorem book_Move_ok : ECok Tryz.prog 78 (.es book_Move_s)   := es_ok (A := (.pair (.slc tAPos) (.pair tAUnit (.pair tAUnit (.pair (.slc tAUnit) .unit))))) (Q := (.pair (.own 198 tAPos) (.pair (.v (.int .i64)) .unit))) (fun W x => zoc W x.1 x.2.1 x.2.2.1 x.2.2.2.1) [(83, .es zsc), (133, .es vec_Neg_s), (134, .es zvc)] ⟨zua, vec_Neg_ok, book_Shift_ok, trivial⟩ [] [] [] Tryz.func78 rfl (by decide +kernel) rfl rfl (fun W x => by kernel_rfl)
noncomputable def zez (W : Wd) (l : List AFlow') (u : AUnit') : Option (List Int) :=
 W.loop (fun (z1 : Int × List (Int) × Unit) again2 =>
 W.cnd (decide (z1.1 < (l.length : Int))) (
  W.join (fun (z3 : List (Int) × Unit) => (again2 ((IntKind.i64.wrap (z1.1 + 1)), (z3.1, ()))))
  fun k4 => W.idx l z1.1 fun x5 =>
  W.cnd (Go.Vc.notIf false ((x5.1.1 == u.1) && (x5.1.2.1 == u.2.1))) (W.room (z1.2.1.length + (x5.2.1 :: []).length) 8 ((k4 ((z1.2.1 ++ (x5.2.1 :: [])), ()))))
   ((k4 (z1.2.1, ()))))
  (some z1.2.1))
 (0, ([], ()))
noncomputable def zjt (l : List AFlow') (u : AUnit') : Option (List Int) := zez stdW l u
noncomputable def zlp : ES := ⟨(.pair (.slc tAFlow) (.pair tAUnit .unit)), (.own 2 (.int .i64)), fun x => zjt x.1 x.2.1⟩
theorem zvf : ECok Tryz.prog 180 (.es zlp)   := es_ok (A := (.pair (.slc tAFlow) (.pair tAUnit .unit))) (Q := (.own 2 (.int .i64))) (fun W x => zez W x.1 x.2.1) [] trivial [] [(7, ⟨[(5, .row 1)], [], [.dead, .own 2 (.int .i64)]⟩)] [(3, ⟨[(5, .row 1), (10, .t (.int .i64))], [], [.dead, .own 2 (.int .i64)]⟩)] Tryz.func180 rfl (by decide +kernel) rfl rfl (fun W x => by kernel_rfl)
noncomputable def zne (W : Wd) (l : List AFlow') (flows : List AFlow') : Option ((List AFlow') × Int × Unit) := W.call (zrb l) fun v1 =>
 W.cnd (!v1) (some ([], (3, ())))
 (W.call (zty (l :: (flows :: []))) fun v2 => W.call (namedO v2) fun v3 =>
 W.loop (fun (z4 : Int × List (Int × Int × Unit) × List ((Int × Int × Unit) × Int × Unit) × Unit) again5 =>
  W.cnd (decide (z4.1 < (v3.length : Int))) (
  W.join (fun (z6 : List (Int × Int × Unit) × List ((Int × Int × Unit) × Int × Unit) × Unit) => (again5 ((IntKind.i64.wrap (z4.1 + 1)), (z6.1, (z6.2.1, ())))))
   fun k7 => W.idx z4.2.1 z4.1 fun x8 => W.nth z4.2.1 (Int.toNat z4.1) fun x9 => W.call (zjt v2 x9) fun v10 => W.call (ztv v10) fun v11 =>
   W.cnd (v11.2.1 != 0) (some ([], v11.2))
   (
   W.cnd (v11.1 != 0) (W.room (z4.2.2.1.length + ((x9, (v11.1, ())) :: []).length) 24 ((k7 (z4.2.1, ((z4.2.2.1 ++ ((x9, (v11.1, ())) :: [])), ())))))
    ((k7 (z4.2.1, (z4.2.2.1, ()))))))
  (some (z4.2.2.1, (0, ()))))
  (0, (v3, ([], ()))))
noncomputable def zlq (l : List AFlow') (flows : List AFlow') : Option ((List AFlow') × Int × Unit) := zne stdW l flows
noncomputable def zyg : ES := ⟨(.pair (.slc tAFlow) (.pair (.slc tAFlow) .unit)), (.pair (.own 111 tAFlow) (.pair (.v (.int .i64)) .unit)), fun x => zlq x.1 x.2.1⟩
theorem purse_Pay_ok : ECok Tryz.prog 112 (.es zyg)   := es_ok (A := (.pair (.slc tAFlow) (.pair (.slc tAFlow) .unit))) (Q := (.pair (.own 111 tAFlow) (.pair (.v (.int .i64)) .unit))) (fun W x => zne W x.1 x.2.1) [(51, .es zng), (178, .es concat_s), (179, .es named_s), (180, .es zlp), (61, .es zzp)] ⟨zox, concat_ok, named_ok, zvf, fix_Sum_ok, trivial⟩ [] [(13, ⟨[(7, .row 5), (20, .row 2)], [], [.dead, .dead, .own 35 tAUnit, .dead, .dead, .own 111 tAFlow]⟩)] [(6, ⟨[(7, .row 5), (20, .row 2), (22, .t (.int .i64))], [], [.dead, .dead, .own 35 tAUnit, .dead, .dead, .own 111 tAFlow]⟩)] Tryz.func112 rfl (by decide +kernel) rfl rfl (fun W x => by kernel_rfl)
noncomputable def zju (W : Wd) (l : List AFlow') (from_ : AUnit') (to_ : AUnit') (amount : Int) : Option ((List AFlow') × Int × Unit) := W.call (zzr 0 amount) fun v1 =>
 W.join (fun (z2 : Bool × Unit) =>
 W.cnd z2.1 (some ([], v1.2))
  (W.call (zlq l ((from_, (v1.1, ())) :: ((to_, (amount, ())) :: []))) fun v3 => some (v3.1, v3.2)))
 fun k4 =>
 W.cnd (v1.2.1 != 0) (W.call (zrb l) fun v5 => (k4 (v5, ())))
  ((k4 (false, ())))
noncomputable def znf (l : List AFlow') (from_ : AUnit') (to_ : AUnit') (amount : Int) : Option ((List AFlow') × Int × Unit) := zju stdW l from_ to_ amount
noncomputable def zup : ES := ⟨(.pair (.slc tAFlow) (.pair tAUnit (.pair tAUnit (.pair (.int .i64) .unit)))), (.pair (.own 111 tAFlow) (.pair (.v (.int .i64)) .unit)), fun x => znf x.1 x.2.1 x.2.2.1 x.2.2.2.1⟩
theorem purse_Move_ok : ECok Tryz.prog 79 (.es zup)   := es_ok (A := (.pair (.slc tAFlow) (.pair tAUnit (.pair tAUnit (.pair (.int .i64) .unit))))) (Q := (.pair (.own 111 tAFlow) (.pair (.v (.int .i64)) .unit))) (fun W x => zju W x.1 x.2.1 x.2.2.1 x.2.2.2.1) [(135, .es zzq), (51, .es zng), (112, .es zyg)] ⟨fix_Sub_ok, zox, purse_Pay_ok, trivial⟩ [] [(500022, ⟨[(22, .t .bool)], [], []⟩)] [] Tryz.func79 rfl (by decide +kernel) rfl rfl (fun W x => by kernel_rfl)
noncomputable def zwr (W : Wd) (d : zag) (i : AInst') (from_ : AUnit') (to_ : AUnit') (qty : Int) (price : Int) : Option (zag × Int × Unit) := W.call (zmc (d.1, (d.2.1, ()))) fun v1 =>
 W.cnd (!v1) (some (([], ([], ())), (3, ())))
 (W.call (zoa (i.1, (i.2.1, (i.2.2.1, (i.2.2.2.1, (i.2.2.2.2.1, ()))))) qty price) fun v2 =>
 W.cnd (!v2) (some (([], ([], ())), (2, ())))
  (
  W.cnd (Go.Vc.notIf false ((from_.1 == to_.1) && (from_.2.1 == to_.2.1))) (some (([], ([], ())), (24, ())))
  (W.call (zdi (i.1, (i.2.1, (i.2.2.1, (i.2.2.2.1, (i.2.2.2.2.1, ()))))) qty price i.2.2.1) fun v3 =>
  W.cnd (v3.2.1 != 0) (some (([], ([], ())), v3.2))
   (W.call (zsb d.1 from_ to_ ((i.1, (qty, ())) :: [])) fun v4 =>
   W.cnd (v4.2.1 != 0) (some (([], ([], ())), v4.2))
   (W.call (znf d.2.1 from_ to_ v3.1) fun v5 =>
   W.cnd (v5.2.1 != 0) (some (([], ([], ())), v5.2))
    (some ((v4.1, (v5.1, ())), (0, ()))))))))
noncomputable def zeu (d : zag) (i : AInst') (from_ : AUnit') (to_ : AUnit') (qty : Int) (price : Int) : Option (zag × Int × Unit) := zwr stdW d i from_ to_ qty price
noncomputable def zzw : ES := ⟨(.pair tDealDesk (.pair tAInst (.pair tAUnit (.pair tAUnit (.pair (.int .i64) (.pair (.int .i64) .unit)))))), (.pair (.v tDealDesk) (.pair (.v (.int .i64)) .unit)), fun x => zeu x.1 x.2.1 x.2.2.1 x.2.2.2.1 x.2.2.2.2.1 x.2.2.2.2.2.1⟩
theorem deal_At_ok : ECok Tryz.prog 30 (.es zzw)   := es_ok (A := (.pair tDealDesk (.pair tAInst (.pair tAUnit (.pair tAUnit (.pair (.int .i64) (.pair (.int .i64) .unit))))))) (Q := (.pair (.v tDealDesk) (.pair (.v (.int .i64)) .unit))) (fun W x => zwr W x.1 x.2.1 x.2.2.1 x.2.2.2.1 x.2.2.2.2.1 x.2.2.2.2.2.1) [(34, .es zzu), (76, .es zuw), (77, .es zpc), (78, .es book_Move_s), (79, .es zup)] ⟨deal_Is_ok, deal_right_ok, zuu, book_Move_ok, purse_Move_ok, trivial⟩ [] [] [] Tryz.func30 rfl (by decide +kernel) rfl rfl (fun W x => by kernel_rfl)
noncomputable def zut (W : Wd) (d : zag) : Option zag := some (d.1, (d.2.1, ()))
noncomputable def zaj (d : zag) : Option zag := zut stdW d
noncomputable def zri : ES := ⟨(.pair tDealDesk .unit), (.v tDealDesk), fun x => zaj x.1⟩
theorem law21_plain_ok : ECok Tryz.prog 32 (.es zri)   := es_ok (A := (.pair tDealDesk .unit)) (Q := (.v tDealDesk)) (fun W x => zut W x.1) [] trivial [] [] [] Tryz.func32 rfl (by decide +kernel) rfl rfl (fun W x => by kernel_rfl)
noncomputable def zqu (W : Wd) (l : List AUnit') : Option Bool :=
 W.loop (fun (z1 : Int × Unit) again2 =>
 W.cnd (decide (z1.1 < (l.length : Int))) (
  W.join (fun (z3 : Bool × Unit) =>
  W.cnd z3.1 (some false)
   ((again2 ((IntKind.i64.wrap (z1.1 + 1)), ()))))
  fun k4 => W.idx l z1.1 fun x5 =>
  W.cnd (decide (x5.1 < 1)) ((k4 (true, ())))
   (W.idx l z1.1 fun x6 =>
   W.cnd (decide (8 < x6.1)) ((k4 (true, ())))
   (W.idx l z1.1 fun x7 =>
   W.cnd (x7.2.1 == 0) ((k4 (true, ())))
    (
    W.cnd (decide (0 < z1.1)) (W.idx l (IntKind.i64.wrap (z1.1 - 1)) fun x8 => W.idx l z1.1 fun x9 => (k4 ((decide (x9.1 ≤ x8.1)), ())))
    ((k4 (false, ())))))))
  (some true))
 (0, ())
noncomputable def zqv (l : List AUnit') : Option Bool := zqu stdW l
noncomputable def zmt : ES := ⟨(.pair (.slc tAUnit) .unit), (.v .bool), fun x => zqv x.1⟩
theorem zos : ECok Tryz.prog 139 (.es zmt)   := es_ok (A := (.pair (.slc tAUnit) .unit)) (Q := (.v .bool)) (fun W x => zqu W x.1) [] trivial [(4, [], (ofL [(0, true), (1, true), (2, true), (3, true), (4, true), (5, true), (6, true), (7, true), (8, true), (9, true), (10, true), (11, true), (12, true), (13, true), (14, true), (15, true), (16, true), (17, true), (18, true), (19, true), (20, true), (21, true), (22, true), (23, true), (24, true), (25, true), (26, true), (27, true), (28, true), (29, true), (30, true), (31, true), (32, true), (33, true), (34, true), (35, true), (36, true), (37, true), (38, true), (39, true)]))] [(500049, ⟨[(49, .t .bool)], [], []⟩)] [(2, ⟨[(3, .t (.int .i64))], [], []⟩)] Tryz.func139 rfl (by decide +kernel) rfl rfl (fun W x => by kernel_rfl)
noncomputable def zjg (W : Wd) (a : AUnit') (b : AUnit') : Option Bool :=
 W.cnd (decide (a.1 < b.1)) (some true)
 (
 W.cnd (a.1 == b.1) (some (decide (a.2.1 < b.2.1)))
  (some false))
noncomputable def zdy (a : AUnit') (b : AUnit') : Option Bool := zjg stdW a b
noncomputable def zfj : ES := ⟨(.pair tAUnit (.pair tAUnit .unit)), (.v .bool), fun x => zdy x.1 x.2.1⟩
theorem zfx : ECok Tryz.prog 114 (.es zfj)   := es_ok (A := (.pair tAUnit (.pair tAUnit .unit))) (Q := (.v .bool)) (fun W x => zjg W x.1 x.2.1) [] trivial [] [] [] Tryz.func114 rfl (by decide +kernel) rfl rfl (fun W x => by kernel_rfl)
noncomputable def zqk (W : Wd) (l : List APos') : Option Bool :=
 W.loop (fun (z1 : Int × Unit) again2 =>
 W.cnd (decide (z1.1 < (l.length : Int))) (
  W.join (fun (z3 : Bool × Unit) =>
  W.cnd z3.1 (some false)
   ((again2 ((IntKind.i64.wrap (z1.1 + 1)), ()))))
  fun k4 => W.idx l z1.1 fun x5 =>
  W.cnd ((x5.2.1.length : Int) == 0) (W.both ((k4 (true, ()))) ((k4 (true, ()))))
   (W.idx l z1.1 fun x6 => W.call (zqv x6.2.1) fun v7 =>
   W.cnd (!v7) (W.both ((k4 (true, ()))) ((k4 (true, ()))))
   (
   W.cnd (decide (0 < z1.1)) (W.idx l (IntKind.i64.wrap (z1.1 - 1)) fun x8 => W.idx l z1.1 fun x9 => W.both (W.call (zdy x8.1 x9.1) fun v10 => (k4 ((!v10), ()))) (W.call (zdy x8.1 x9.1) fun v11 => (k4 ((!v11), ()))))
    (W.both ((k4 (false, ()))) ((k4 (false, ())))))))
  (some true))
 (0, ())
noncomputable def zql (l : List APos') : Option Bool := zqk stdW l
noncomputable def zmp : ES := ⟨(.pair (.slc tAPos) .unit), (.v .bool), fun x => zql x.1⟩
theorem zoq : ECok Tryz.prog 84 (.es zmp)   := es_ok (A := (.pair (.slc tAPos) .unit)) (Q := (.v .bool)) (fun W x => zqk W x.1) [(139, .es zmt), (114, .es zfj)] ⟨zos, zfx, trivial⟩ [(4, [], (.rd 0 (.rd 1 (.rd 2 (.rd 3 (.rd 4 (.rd 5 (.rd 6 (.rd 7 (.rd 8 (.rd 9 (.rd 10 (.rd 11 (.rd 12 (.op 13 (.rd 14 (.rd 15 (.rd 16 (.rd 17 (.rd 18 (.rd 19 (.rd 20 (.rd 21 (.rd 22 (.rd 23 (.rd 24 (.rd 26 (.rd 27 (.rd 28 (.rd 29 (.two 25 30 (ofL [(30, false), (31, false), (32, true), (33, true), (34, true)]) (ofL [(25, false), (31, false), (32, true), (33, true), (34, true)]))))))))))))))))))))))))))))))))] [(500044, ⟨[(44, .t .bool)], [], []⟩)] [(2, ⟨[(3, .t (.int .i64))], [], []⟩)] Tryz.func84 rfl (by decide +kernel) rfl rfl (fun W x => by kernel_rfl)
noncomputable def zqo (W : Wd) (l : List AFlow') : Option Bool :=
 W.loop (fun (z1 : Int × Unit) again2 =>
 W.cnd (decide (z1.1 < (l.length : Int))) (
  W.join (fun (z3 : Bool × Unit) =>
  W.cnd z3.1 (some false)
   ((again2 ((IntKind.i64.wrap (z1.1 + 1)), ()))))
  fun k4 => W.idx l z1.1 fun x5 =>
  W.cnd (x5.2.1 == 0) ((k4 (true, ())))
   (
   W.cnd (decide (0 < z1.1)) (W.idx l (IntKind.i64.wrap (z1.1 - 1)) fun x6 => W.idx l z1.1 fun x7 => W.call (zdy x6.1 x7.1) fun v8 => (k4 ((!v8), ())))
   ((k4 (false, ())))))
  (some true))
 (0, ())
noncomputable def zvu (l : List AFlow') : Option Bool := zqo stdW l
noncomputable def ztb : ES := ⟨(.pair (.slc tAFlow) .unit), (.v .bool), fun x => zvu x.1⟩
theorem zxs : ECok Tryz.prog 56 (.es ztb)   := es_ok (A := (.pair (.slc tAFlow) .unit)) (Q := (.v .bool)) (fun W x => zqo W x.1) [(114, .es zfj)] ⟨zfx, trivial⟩ [(4, [], (ofL [(0, true), (1, true), (2, true), (3, true), (4, true), (5, true), (6, true), (7, true), (8, true), (9, true), (10, true), (11, true), (12, true), (13, true), (14, true), (15, true), (16, true), (17, true), (18, true), (19, true), (20, true), (21, false), (22, true), (23, true), (24, true)]))] [(500034, ⟨[(34, .t .bool)], [], []⟩)] [(2, ⟨[(3, .t (.int .i64))], [], []⟩)] Tryz.func56 rfl (by decide +kernel) rfl rfl (fun W x => by kernel_rfl)
noncomputable def zqg (W : Wd) (d : zag) : Option Bool := W.call (zql d.1) fun v1 =>
 W.cnd v1 (W.call (zvu d.2.1) fun v2 => some v2)
 (some false)
noncomputable def zgy (d : zag) : Option Bool := zqg stdW d
noncomputable def zsx : ES := ⟨(.pair tDealDesk .unit), (.v .bool), fun x => zgy x.1⟩
theorem zxq : ECok Tryz.prog 35 (.es zsx)   := es_ok (A := (.pair tDealDesk .unit)) (Q := (.v .bool)) (fun W x => zqg W x.1) [(84, .es zmp), (56, .es ztb)] ⟨zoq, zxs, trivial⟩ [] [] [] Tryz.func35 rfl (by decide +kernel) rfl rfl (fun W x => by kernel_rfl)
noncomputable def zhb (W : Wd) (p : Int) : Option Bool :=
 W.cnd (decide (0 ≤ p)) (some (decide (p < 2147483648)))
 (some false)
noncomputable def zjh (p : Int) : Option Bool := zhb stdW p
noncomputable def zqp : ES := ⟨(.pair (.int .i64) .unit), (.v .bool), fun x => zjh x.1⟩
theorem ref13_price_ok : ECok Tryz.prog 85 (.es zqp)   := es_ok (A := (.pair (.int .i64) .unit)) (Q := (.v .bool)) (fun W x => zhb W x.1) [] trivial [] [] [] Tryz.func85 rfl (by decide +kernel) rfl rfl (fun W x => by kernel_rfl)
noncomputable def zqq (W : Wd) (i : AInst') : Option Bool :=
 W.join (fun (z1 : Bool × Unit) =>
 W.cnd z1.1 (some false)
  (
  W.loop (fun (z2 : Int × Unit) again3 =>
  W.cnd (decide (z2.1 < (i.2.2.2.2.1.length : Int))) (
   W.join (fun (z4 : Bool × Unit) =>
   W.cnd z4.1 (some false)
    ((again3 ((IntKind.i64.wrap (z2.1 + 1)), ()))))
   fun k5 => W.idx i.2.2.2.2.1 z2.1 fun x6 =>
   W.cnd (decide (x6 < (-2147483647))) ((k5 (true, ())))
    (W.idx i.2.2.2.2.1 z2.1 fun x7 => (k5 ((decide (2147483647 < x7)), ()))))
   (some true))
  (0, ())))
 fun k8 =>
 W.cnd (decide (i.1 < 1)) ((k8 (true, ())))
  (
  W.cnd (decide (8 < i.1)) ((k8 (true, ())))
  (
  W.cnd (decide (i.2.1 < 1)) ((k8 (true, ())))
   (
   W.cnd (decide (65536 < i.2.1)) ((k8 (true, ())))
   (W.call (zjh i.2.2.1) fun v9 =>
   W.cnd (!v9) ((k8 (true, ())))
    (W.call (zjh i.2.2.2.1) fun v10 =>
    W.cnd (!v10) ((k8 (true, ())))
    ((k8 ((decide (8 < (i.2.2.2.2.1.length : Int))), ()))))))))
noncomputable def zji (i : AInst') : Option Bool := zqq stdW i
noncomputable def ztc : ES := ⟨(.pair tAInst .unit), (.v .bool), fun x => zji x.1⟩
theorem zxt : ECok Tryz.prog 37 (.es ztc)   := es_ok (A := (.pair tAInst .unit)) (Q := (.v .bool)) (fun W x => zqq W x.1) [(85, .es zqp)] ⟨ref13_price_ok, trivial⟩ [] [(500039, ⟨[(39, .t .bool)], [], []⟩), (500060, ⟨[(60, .t .bool)], [], []⟩)] [(4, ⟨[(3, .t (.int .i64))], [], []⟩)] Tryz.func37 rfl (by decide +kernel) rfl rfl (fun W x => by kernel_rfl)
noncomputable def ref01_NatW (W : Wd) (u : Int) : Option zab :=
 W.loop (fun (z1 : Int × List (Int) × Unit) again2 =>
 W.cnd (decide (0 < z1.1)) (W.nz 2 (W.room (z1.2.1.length + ((IntKind.u8.wrap (Int.tmod z1.1 2)) :: []).length) 1 (W.nz 2 ((again2 ((IntKind.u64.wrap (Int.tdiv z1.1 2)), ((z1.2.1 ++ ((IntKind.u8.wrap (Int.tmod z1.1 2)) :: [])), ())))))))
  (some (false, (z1.2.1, ()))))
 (u, ([], ()))
noncomputable def zgn (u : Int) : Option zab := ref01_NatW stdW u
noncomputable def zov : ES := ⟨(.pair (.int .u64) .unit), (.v tNovationref01Big), fun x => zgn x.1⟩
theorem zuo : ECok Tryz.prog 73 (.es zov)   := es_ok (A := (.pair (.int .u64) .unit)) (Q := (.v tNovationref01Big)) (fun W x => ref01_NatW W x.1) [] trivial [] [] [(2, ⟨[(0, .t (.int .u64)), (3, .row 1)], [], [.dead, .own 5 (.int .u8)]⟩)] Tryz.func73 rfl (by decide +kernel) rfl rfl (fun W x => by kernel_rfl)
noncomputable def zjn (W : Wd) (a : List Int) (b : List Int) : Option (List Int) :=
 W.loop (fun (z1 : Int × Int × List (Int) × Unit) again2 =>
 W.join (fun (z3 : List (Int) × Unit) =>
  W.join (fun (z4 : Int × List (Int) × Unit) =>
  W.join (fun (z5 : Int × List (Int) × Unit) => W.nz 2 (W.room (z5.2.1.length + ((Int.tmod z5.1 2) :: []).length) 1 (W.nz 2 ((again2 ((IntKind.u8.wrap (Int.tdiv z5.1 2)), ((IntKind.i64.wrap (z1.2.1 + 1)), ((z5.2.1 ++ ((Int.tmod z5.1 2) :: [])), ()))))))))
   fun k6 =>
   W.cnd (decide (z1.2.1 < (b.length : Int))) (W.idx b z1.2.1 fun x7 => (k6 ((IntKind.u8.wrap (z4.1 + x7)), (z4.2.1, ()))))
   ((k6 (z4.1, (z4.2.1, ())))))
  fun k8 =>
  W.cnd (decide (z1.2.1 < (a.length : Int))) (W.idx a z1.2.1 fun x9 => (k8 ((IntKind.u8.wrap (z1.1 + x9)), (z3.1, ()))))
   ((k8 (z1.1, (z3.1, ())))))
  fun k10 =>
  W.cnd (decide (z1.2.1 < (a.length : Int))) ((k10 (z1.2.2.1, ())))
  (
  W.cnd (decide (z1.2.1 < (b.length : Int))) ((k10 (z1.2.2.1, ())))
   (
   W.join (fun (z11 : List (Int) × Unit) => some z11.1)
   fun k12 =>
   W.cnd (decide (0 < z1.1)) (W.room (z1.2.2.1.length + (z1.1 :: []).length) 1 ((k12 ((z1.2.2.1 ++ (z1.1 :: [])), ()))))
    ((k12 (z1.2.2.1, ()))))))
 (0, (0, ([], ())))
noncomputable def zeb (a : List Int) (b : List Int) : Option (List Int) := zjn stdW a b
noncomputable def zhd : ES := ⟨(.pair (.slc (.int .u8)) (.pair (.slc (.int .u8)) .unit)), (.own 5 (.int .u8)), fun x => zeb x.1 x.2.1⟩
theorem zjm : ECok Tryz.prog 70 (.es zhd)   := es_ok (A := (.pair (.slc (.int .u8)) (.pair (.slc (.int .u8)) .unit))) (Q := (.own 5 (.int .u8))) (fun W x => zjn W x.1 x.2.1) [] trivial [] [(6, ⟨[(5, .row 1)], [], [.dead, .own 5 (.int .u8)]⟩), (8, ⟨[(5, .row 1), (6, .t (.int .u8))], [], [.dead, .own 5 (.int .u8)]⟩), (10, ⟨[(5, .row 1), (6, .t (.int .u8))], [], [.dead, .own 5 (.int .u8)]⟩), (14, ⟨[(5, .row 1)], [], [.dead, .own 5 (.int .u8)]⟩)] [(4, ⟨[(5, .row 1), (6, .t (.int .u8)), (7, .t (.int .i64))], [], [.dead, .own 5 (.int .u8)]⟩)] Tryz.func70 rfl (by decide +kernel) rfl rfl (fun W x => by kernel_rfl)
noncomputable def zqx (W : Wd) (n : Int) : Option zab :=
 W.cnd (decide (0 ≤ n)) (W.call (zgn (IntKind.u64.wrap n)) fun v1 => some (v1.1, (v1.2.1, ())))
 (W.call (zgn (IntKind.u64.wrap (IntKind.i64.wrap (0 - (IntKind.i64.wrap (n + 1)))))) fun v2 => W.call (zeb v2.2.1 (1 :: [])) fun v3 => some (true, (v3, ())))
noncomputable def zcl (n : Int) : Option zab := zqx stdW n
noncomputable def zgd : ES := ⟨(.pair (.int .i64) .unit), (.v tNovationref01Big), fun x => zcl x.1⟩
theorem zgm : ECok Tryz.prog 20 (.es zgd)   := es_ok (A := (.pair (.int .i64) .unit)) (Q := (.v tNovationref01Big)) (fun W x => zqx W x.1) [(73, .es zov), (70, .es zhd)] ⟨zuo, zjm, trivial⟩ [] [] [] Tryz.func20 rfl (by decide +kernel) rfl rfl (fun W x => by kernel_rfl)
noncomputable def zxy (W : Wd) (neg : Bool) (b : List Int) : Option zab :=
 W.join (fun (z1 : Int × Unit) =>
 W.cnd neg (W.bnd z1.1 b.length fun h2 => some ((decide (0 < z1.1)), ((b.take h2), ())))
  (W.bnd z1.1 b.length fun h3 => some (false, ((b.take h3), ()))))
 fun k4 =>
 W.loop (fun (z5 : Int × Unit) again6 =>
  W.cnd (decide (0 < z5.1)) (W.idx b (IntKind.i64.wrap (z5.1 - 1)) fun x7 =>
  W.cnd (x7 == 0) ((again6 ((IntKind.i64.wrap (z5.1 - 1)), ())))
   ((k4 z5)))
  ((k4 z5)))
  ((b.length : Int), ())
noncomputable def zea (neg : Bool) (b : List Int) : Option zab := zxy stdW neg b
noncomputable def zhc : ES := ⟨(.pair .bool (.pair (.slc (.int .u8)) .unit)), (.v tNovationref01Big), fun x => zea x.1 x.2.1⟩
theorem zjl : ECok Tryz.prog 69 (.es zhc)   := es_ok (A := (.pair .bool (.pair (.slc (.int .u8)) .unit))) (Q := (.v tNovationref01Big)) (fun W x => zxy W x.1 x.2.1) [] trivial [] [(4, ⟨[(5, .t (.int .i64))], [], []⟩)] [(2, ⟨[(5, .t (.int .i64))], [], []⟩)] Tryz.func69 rfl (by decide +kernel) rfl rfl (fun W x => by kernel_rfl)
noncomputable def zmy (W : Wd) (a : zab) (b : zab) : Option zab := W.room a.2.1.length 1 (
 W.loop (fun (z1 : List (Int) × List (Int) × Int × Unit) again2 =>
 W.cnd (decide (z1.2.2.1 < (b.2.1.length : Int))) (
  W.join (fun (z3 : List (Int) × Unit) => W.room (0 :: []).length 1 (W.room ((0 :: []).length + z1.2.1.length) 1 ((again2 (z3.1, (((0 :: []) ++ z1.2.1), ((IntKind.i64.wrap (z1.2.2.1 + 1)), ())))))))
  fun k4 => W.idx b.2.1 z1.2.2.1 fun x5 =>
  W.cnd (x5 == 1) (W.call (zeb z1.1 z1.2.1) fun v6 => (k4 (v6, ())))
   ((k4 (z1.1, ()))))
  (W.call (zea (Go.Vc.notIf true (a.1 == b.1)) z1.1) fun v7 => some (v7.1, (v7.2.1, ()))))
 ([], (a.2.1, (0, ()))))
noncomputable def zgo (a : zab) (b : zab) : Option zab := zmy stdW a b
noncomputable def zyb : ES := ⟨(.pair tNovationref01Big (.pair tNovationref01Big .unit)), (.v tNovationref01Big), fun x => zgo x.1 x.2.1⟩
theorem ref01_Mul_ok : ECok Tryz.prog 88 (.es zyb)   := es_ok (A := (.pair tNovationref01Big (.pair tNovationref01Big .unit))) (Q := (.v tNovationref01Big)) (fun W x => zmy W x.1 x.2.1) [(70, .es zhd), (69, .es zhc)] ⟨zjm, zjl, trivial⟩ [] [(8, ⟨[(5, .t (.slc (.int .u8)))], [], []⟩)] [(4, ⟨[(5, .t (.slc (.int .u8))), (6, .t (.slc (.int .u8))), (7, .t (.int .i64))], [], []⟩)] Tryz.func88 rfl (by decide +kernel) rfl rfl (fun W x => by kernel_rfl)
noncomputable def zmx (W : Wd) (a : zab) : Option zab := W.call (zea (!a.1) a.2.1) fun v1 => some (v1.1, (v1.2.1, ()))
noncomputable def zel (a : zab) : Option zab := zmx stdW a
noncomputable def zjp : ES := ⟨(.pair tNovationref01Big .unit), (.v tNovationref01Big), fun x => zel x.1⟩
theorem zlj : ECok Tryz.prog 81 (.es zjp)   := es_ok (A := (.pair tNovationref01Big .unit)) (Q := (.v tNovationref01Big)) (fun W x => zmx W x.1) [(69, .es zhc)] ⟨zjl, trivial⟩ [] [] [] Tryz.func81 rfl (by decide +kernel) rfl rfl (fun W x => by kernel_rfl)
noncomputable def zxz (W : Wd) (a : List Int) (b : List Int) : Option Bool :=
 W.cnd ((a.length : Int) != (b.length : Int)) (some (decide ((a.length : Int) < (b.length : Int))))
 (
 W.loop (fun (z1 : Int × Unit) again2 =>
  W.cnd (decide (0 < z1.1)) (W.idx a (IntKind.i64.wrap (z1.1 - 1)) fun x3 => W.idx b (IntKind.i64.wrap (z1.1 - 1)) fun x4 =>
  W.cnd (x3 != x4) (W.idx a (IntKind.i64.wrap (z1.1 - 1)) fun x5 => W.idx b (IntKind.i64.wrap (z1.1 - 1)) fun x6 => some (decide (x5 < x6)))
   ((again2 ((IntKind.i64.wrap (z1.1 - 1)), ()))))
  (some false))
  ((a.length : Int), ()))
noncomputable def zte (a : List Int) (b : List Int) : Option Bool := zxz stdW a b
noncomputable def zum : ES := ⟨(.pair (.slc (.int .u8)) (.pair (.slc (.int .u8)) .unit)), (.v .bool), fun x => zte x.1 x.2.1⟩
theorem ref01_less_ok : ECok Tryz.prog 71 (.es zum)   := es_ok (A := (.pair (.slc (.int .u8)) (.pair (.slc (.int .u8)) .unit))) (Q := (.v .bool)) (fun W x => zxz W x.1 x.2.1) [] trivial [(6, [], (ofL [(0, true), (1, true), (2, true), (3, true), (4, true), (5, true), (6, true), (7, true), (8, true), (9, true), (10, true)])), (7, [], (ofL [(0, true), (1, true), (2, true), (3, true), (4, true), (5, true), (6, true), (7, true), (8, true), (9, true), (10, true), (11, true)]))] [] [(4, ⟨[(5, .t (.int .i64))], [], []⟩)] Tryz.func71 rfl (by decide +kernel) rfl rfl (fun W x => by kernel_rfl)
noncomputable def zul (W : Wd) (a : List Int) (b : List Int) : Option (List Int) :=
 W.loop (fun (z1 : Int × Int × List (Int) × Unit) again2 =>
 W.cnd (decide (z1.2.1 < (a.length : Int))) (
  W.join (fun (z3 : Int × List (Int) × Unit) => W.idx a z1.2.1 fun x4 =>
  W.join (fun (z5 : Int × List (Int) × Unit) => W.nz 2 (W.room (z5.2.1.length + ((Int.tmod (IntKind.u8.wrap ((IntKind.u8.wrap (x4 + 2)) - z3.1)) 2) :: []).length) 1 ((again2 (z5.1, ((IntKind.i64.wrap (z1.2.1 + 1)), ((z5.2.1 ++ ((Int.tmod (IntKind.u8.wrap ((IntKind.u8.wrap (x4 + 2)) - z3.1)) 2) :: [])), ())))))))
   fun k6 =>
   W.cnd (decide ((IntKind.u8.wrap ((IntKind.u8.wrap (x4 + 2)) - z3.1)) < 2)) ((k6 (1, (z3.2.1, ()))))
   ((k6 (0, (z3.2.1, ())))))
  fun k7 =>
  W.cnd (decide (z1.2.1 < (b.length : Int))) (W.idx b z1.2.1 fun x8 => (k7 ((IntKind.u8.wrap (z1.1 + x8)), (z1.2.2.1, ()))))
   ((k7 (z1.1, (z1.2.2.1, ())))))
  (some z1.2.2.1))
 (0, (0, ([], ())))
noncomputable def zjo (a : List Int) (b : List Int) : Option (List Int) := zul stdW a b
noncomputable def zqw : ES := ⟨(.pair (.slc (.int .u8)) (.pair (.slc (.int .u8)) .unit)), (.own 5 (.int .u8)), fun x => zjo x.1 x.2.1⟩
theorem ref01_minus_ok : ECok Tryz.prog 72 (.es zqw)   := es_ok (A := (.pair (.slc (.int .u8)) (.pair (.slc (.int .u8)) .unit))) (Q := (.own 5 (.int .u8))) (fun W x => zul W x.1 x.2.1) [] trivial [] [(9, ⟨[(5, .row 1), (8, .t (.int .u8))], [], [.dead, .own 5 (.int .u8)]⟩), (13, ⟨[(5, .row 1), (6, .t (.int .u8))], [], [.dead, .own 5 (.int .u8)]⟩)] [(4, ⟨[(5, .row 1), (6, .t (.int .u8)), (7, .t (.int .i64))], [], [.dead, .own 5 (.int .u8)]⟩)] Tryz.func72 rfl (by decide +kernel) rfl rfl (fun W x => by kernel_rfl)
noncomputable def znb (W : Wd) (a : zab) (b : zab) : Option zab :=
 W.cnd (Go.Vc.notIf false (a.1 == b.1)) (W.call (zeb a.2.1 b.2.1) fun v1 => W.call (zea a.1 v1) fun v2 => some (v2.1, (v2.2.1, ())))
 (W.call (zte a.2.1 b.2.1) fun v3 =>
 W.cnd v3 (W.call (zjo b.2.1 a.2.1) fun v4 => W.call (zea b.1 v4) fun v5 => some (v5.1, (v5.2.1, ())))
  (W.call (zjo a.2.1 b.2.1) fun v6 => W.call (zea a.1 v6) fun v7 => some (v7.1, (v7.2.1, ()))))
noncomputable def zce (a : zab) (b : zab) : Option zab := znb stdW a b
noncomputable def zgp : ES := ⟨(.pair tNovationref01Big (.pair tNovationref01Big .unit)), (.v tNovationref01Big), fun x => zce x.1 x.2.1⟩
theorem zhe : ECok Tryz.prog 19 (.es zgp)   := es_ok (A := (.pair tNovationref01Big (.pair tNovationref01Big .unit))) (Q := (.v tNovationref01Big)) (fun W x => znb W x.1 x.2.1) [(70, .es zhd), (69, .es zhc), (71, .es zum), (72, .es zqw)] ⟨zjm, zjl, ref01_less_ok, ref01_minus_ok, trivial⟩ [(2, [2], (ofL [(0, true), (1, true), (2, true), (3, true), (4, true), (5, true), (6, false), (7, false), (8, false)])), (4, [2], (ofL [(0, true), (1, true), (2, true), (3, true), (4, true), (5, true), (6, false), (7, false), (8, false)])), (5, [2], (ofL [(0, true), (1, true), (2, true), (3, true), (4, true), (5, true), (6, false), (7, false), (8, false)]))] [] [] Tryz.func19 rfl (by decide +kernel) rfl rfl (fun W x => by kernel_rfl)
noncomputable def zmw (W : Wd) (a : zab) (b : zab) : Option zab := W.call (zel (b.1, (b.2.1, ()))) fun v1 => W.call (zce (a.1, (a.2.1, ())) (v1.1, (v1.2.1, ()))) fun v2 => some (v2.1, (v2.2.1, ()))
noncomputable def zif (a : zab) (b : zab) : Option zab := zmw stdW a b
noncomputable def zou : ES := ⟨(.pair tNovationref01Big (.pair tNovationref01Big .unit)), (.v tNovationref01Big), fun x => zif x.1 x.2.1⟩
theorem zun : ECok Tryz.prog 74 (.es zou)   := es_ok (A := (.pair tNovationref01Big (.pair tNovationref01Big .unit))) (Q := (.v tNovationref01Big)) (fun W x => zmw W x.1 x.2.1) [(81, .es zjp), (19, .es zgp)] ⟨zlj, zhe, trivial⟩ [(1, [2], (ofL [(0, true), (1, true), (2, false), (3, false), (4, false)]))] [] [] Tryz.func74 rfl (by decide +kernel) rfl rfl (fun W x => by kernel_rfl)
noncomputable def zjj (W : Wd) (i : AInst') (qty : Int) (from_ : Int) (to_ : Int) : Option zab := W.call (zcl qty) fun v1 => W.call (zcl i.2.1) fun v2 => W.call (zgo (v1.1, (v1.2.1, ())) (v2.1, (v2.2.1, ()))) fun v3 => W.call (zcl to_) fun v4 => W.call (zcl from_) fun v5 => W.call (zif (v4.1, (v4.2.1, ())) (v5.1, (v5.2.1, ()))) fun v6 => W.call (zgo (v3.1, (v3.2.1, ())) (v6.1, (v6.2.1, ()))) fun v7 => some (v7.1, (v7.2.1, ()))
noncomputable def zdz (i : AInst') (qty : Int) (from_ : Int) (to_ : Int) : Option zab := zjj stdW i qty from_ to_
noncomputable def zlf : ES := ⟨(.pair tAInst (.pair (.int .i64) (.pair (.int .i64) (.pair (.int .i64) .unit)))), (.v tNovationref01Big), fun x => zdz x.1 x.2.1 x.2.2.1 x.2.2.2.1⟩
theorem zqr : ECok Tryz.prog 40 (.es zlf)   := es_ok (A := (.pair tAInst (.pair (.int .i64) (.pair (.int .i64) (.pair (.int .i64) .unit))))) (Q := (.v tNovationref01Big)) (fun W x => zjj W x.1 x.2.1 x.2.2.1 x.2.2.2.1) [(20, .es zgd), (88, .es zyb), (74, .es zou)] ⟨zgm, ref01_Mul_ok, zun, trivial⟩ [(1, [1], (ofL [(0, true), (2, true), (3, true), (6, true), (8, true), (1, false), (4, false), (5, false), (7, false), (9, false), (10, false), (11, false), (12, false)]))] [] [] Tryz.func40 rfl (by decide +kernel) rfl rfl (fun W x => by kernel_rfl)
noncomputable def zfy (W : Wd) (a : zab) (n : Int) : Option Bool :=
 W.join (fun (z1 : Bool × List (Int) × Unit) => some (decide ((z1.2.1.length : Int) < n)))
 fun k2 =>
 W.cnd a.1 (W.both (W.call (zgn 1) fun v3 => W.call (zce (a.1, (a.2.1, ())) (v3.1, (v3.2.1, ()))) fun v4 => (k2 (v4.1, (v4.2.1, ())))) (W.call (zgn 1) fun v5 => W.call (zce (a.1, (a.2.1, ())) (v5.1, (v5.2.1, ()))) fun v6 => (k2 (v6.1, (v6.2.1, ())))))
  ((k2 (a.1, (a.2.1, ()))))
noncomputable def zli (a : zab) (n : Int) : Option Bool := zfy stdW a n
noncomputable def zok : ES := ⟨(.pair tNovationref01Big (.pair (.int .i64) .unit)), (.v .bool), fun x => zli x.1 x.2.1⟩
theorem zya : ECok Tryz.prog 125 (.es zok)   := es_ok (A := (.pair tNovationref01Big (.pair (.int .i64) .unit))) (Q := (.v .bool)) (fun W x => zfy W x.1 x.2.1) [(73, .es zov), (19, .es zgp)] ⟨zuo, zhe, trivial⟩ [(2, [0], (.two 0 1 (ofL [(1, false), (2, false), (3, false)]) (ofL [(0, false), (2, false), (3, false)])))] [(3, ⟨[], [(0, [.t .bool, .t (.slc (.int .u8))])], []⟩)] [] Tryz.func125 rfl (by decide +kernel) rfl rfl (fun W x => by kernel_rfl)
noncomputable def zjr (W : Wd) (a : zab) : Option Bool := W.call (zli (a.1, (a.2.1, ())) 64) fun v1 => some v1
noncomputable def zcd (a : zab) : Option Bool := zjr stdW a
noncomputable def zfl : ES := ⟨(.pair tNovationref01Big .unit), (.v .bool), fun x => zcd x.1⟩
theorem zfz : ECok Tryz.prog 63 (.es zfl)   := es_ok (A := (.pair tNovationref01Big .unit)) (Q := (.v .bool)) (fun W x => zjr W x.1) [(125, .es zok)] ⟨zya, trivial⟩ [] [] [] Tryz.func63 rfl (by decide +kernel) rfl rfl (fun W x => by kernel_rfl)
noncomputable def zmu (W : Wd) (l : List AUnit') (inst : Int) : Option Int :=
 W.loop (fun (z1 : Int × Unit) again2 =>
 W.cnd (decide (z1.1 < (l.length : Int))) (W.idx l z1.1 fun x3 =>
  W.cnd (x3.1 == inst) (W.idx l z1.1 fun x4 => some x4.2.1)
  ((again2 ((IntKind.i64.wrap (z1.1 + 1)), ()))))
  (some 0))
 (0, ())
noncomputable def zfk (l : List AUnit') (inst : Int) : Option Int := zmu stdW l inst
noncomputable def zot : ES := ⟨(.pair (.slc tAUnit) (.pair (.int .i64) .unit)), (.v (.int .i64)), fun x => zfk x.1 x.2.1⟩
theorem zuk : ECok Tryz.prog 205 (.es zot)   := es_ok (A := (.pair (.slc tAUnit) (.pair (.int .i64) .unit))) (Q := (.v (.int .i64))) (fun W x => zmu W x.1 x.2.1) [] trivial [] [] [(2, ⟨[(5, .t (.int .i64))], [], []⟩)] Tryz.func205 rfl (by decide +kernel) rfl rfl (fun W x => by kernel_rfl)
noncomputable def zmz (W : Wd) (a : zab) : Option Int :=
 W.loop (fun (z1 : Int × Int × Unit) again2 =>
 W.cnd (decide (0 < z1.2.1)) (
  W.join (fun (z3 : Int × Unit) => (again2 (z3.1, ((IntKind.i64.wrap (z1.2.1 - 1)), ()))))
  fun k4 =>
  W.cnd a.1 (W.idx a.2.1 (IntKind.i64.wrap (z1.2.1 - 1)) fun x5 => (k4 ((IntKind.i64.wrap ((IntKind.i64.wrap (2 * z1.1)) - (IntKind.i64.wrap x5))), ())))
   (W.idx a.2.1 (IntKind.i64.wrap (z1.2.1 - 1)) fun x6 => (k4 ((IntKind.i64.wrap ((IntKind.i64.wrap (2 * z1.1)) + (IntKind.i64.wrap x6))), ()))))
  (some z1.1))
 (0, ((a.2.1.length : Int), ()))
noncomputable def zcy (a : zab) : Option Int := zmz stdW a
noncomputable def zjq : ES := ⟨(.pair tNovationref01Big .unit), (.v (.int .i64)), fun x => zcy x.1⟩
theorem zlk : ECok Tryz.prog 64 (.es zjq)   := es_ok (A := (.pair tNovationref01Big .unit)) (Q := (.v (.int .i64))) (fun W x => zmz W x.1) [] trivial [] [(4, ⟨[(3, .t (.int .i64))], [], []⟩)] [(3, ⟨[(3, .t (.int .i64)), (4, .t (.int .i64))], [], []⟩)] Tryz.func64 rfl (by decide +kernel) rfl rfl (fun W x => by kernel_rfl)
noncomputable def zqt (W : Wd) (n : List zab) : Option ((List AUnit') × Int × Unit) :=
 W.loop (fun (z1 : Int × List (Int × Int × Unit) × Unit) again2 =>
 W.cnd (decide (z1.1 < (n.length : Int))) (
  W.join (fun (z3 : List (Int × Int × Unit) × Unit) => (again2 ((IntKind.i64.wrap (z1.1 + 1)), (z3.1, ()))))
  fun k4 => W.idx n z1.1 fun x5 => W.call (zcd (x5.1, (x5.2.1, ()))) fun v6 =>
  W.cnd (!v6) (some ([], (7, ())))
   (W.idx n z1.1 fun x7 => W.call (zcy (x7.1, (x7.2.1, ()))) fun v8 =>
   W.cnd (v8 != 0) (W.room (z1.2.1.length + (((IntKind.i64.wrap (z1.1 + 1)), (v8, ())) :: []).length) 16 ((k4 ((z1.2.1 ++ (((IntKind.i64.wrap (z1.1 + 1)), (v8, ())) :: [])), ()))))
   ((k4 (z1.2.1, ())))))
  (some (z1.2.1, (0, ()))))
 (0, ([], ()))
noncomputable def zmr (n : List zab) : Option ((List AUnit') × Int × Unit) := zqt stdW n
noncomputable def ztd : ES := ⟨(.pair (.slc tNovationref01Big) .unit), (.pair (.own 136 tAUnit) (.pair (.v (.int .i64)) .unit)), fun x => zmr x.1⟩
theorem zxu : ECok Tryz.prog 206 (.es ztd)   := es_ok (A := (.pair (.slc tNovationref01Big) .unit)) (Q := (.pair (.own 136 tAUnit) (.pair (.v (.int .i64)) .unit))) (fun W x => zqt W x.1) [(63, .es zfl), (64, .es zjq)] ⟨zfz, zlk, trivial⟩ [] [(4, ⟨[(4, .row 1)], [], [.dead, .own 136 tAUnit]⟩)] [(3, ⟨[(4, .row 1), (5, .t (.int .i64))], [], [.dead, .own 136 tAUnit]⟩)] Tryz.func206 rfl (by decide +kernel) rfl rfl (fun W x => by kernel_rfl)
noncomputable def zms (W : Wd) (l : List AUnit') : Option ((List AUnit') × Int × Unit) := W.call (zqv l) fun v1 =>
 W.cnd (!v1) (some ([], (3, ())))
 (W.nn 8 (W.room (Int.toNat 8) 32 (W.bnd 8 (Int.toNat 8) fun h2 =>
 W.loop (fun (z3 : Int × List (Bool × List (Int) × Unit) × Unit) again4 =>
  W.cnd (decide (z3.1 < 8)) (W.call (zfk l (IntKind.i64.wrap (z3.1 + 1))) fun v5 => W.call (zcl v5) fun v6 => W.call (zel (v6.1, (v6.2.1, ()))) fun v7 => W.idx z3.2.1 z3.1 fun x8 => W.nth z3.2.1 (Int.toNat z3.1) fun x9 => (again4 ((IntKind.i64.wrap (z3.1 + 1)), ((List.set z3.2.1 (Int.toNat z3.1) (v7.1, (v7.2.1, ()))), ()))))
  (W.call (zmr z3.2.1) fun v10 => some (v10.1, v10.2)))
  (0, ((List.replicate h2 (false, ([], ()))), ())))))
noncomputable def zxw (l : List AUnit') : Option ((List AUnit') × Int × Unit) := zms stdW l
noncomputable def zxv : ES := ⟨(.pair (.slc tAUnit) .unit), (.pair (.own 136 tAUnit) (.pair (.v (.int .i64)) .unit)), fun x => zxw x.1⟩
theorem ref11_Neg_ok : ECok Tryz.prog 136 (.es zxv)   := es_ok (A := (.pair (.slc tAUnit) .unit)) (Q := (.pair (.own 136 tAUnit) (.pair (.v (.int .i64)) .unit))) (fun W x => zms W x.1) [(139, .es zmt), (205, .es zot), (20, .es zgd), (81, .es zjp), (206, .es ztd)] ⟨zos, zuk, zgm, zlj, zxu, trivial⟩ [] [] [(5, ⟨[(4, .row 0), (5, .t (.int .i64))], [], [.own 58 tNovationref01Big]⟩)] Tryz.func136 rfl (by decide +kernel) rfl rfl (fun W x => by kernel_rfl)
noncomputable def zqj (W : Wd) (l : List APos') (u : AUnit') : Option (List AUnit') :=
 W.loop (fun (z1 : Int × Unit) again2 =>
 W.cnd (decide (z1.1 < (l.length : Int))) (W.idx l z1.1 fun x3 =>
  W.cnd (Go.Vc.notIf false ((x3.1.1 == u.1) && (x3.1.2.1 == u.2.1))) (W.idx l z1.1 fun x4 => some x4.2.1)
  ((again2 ((IntKind.i64.wrap (z1.1 + 1)), ()))))
  (some []))
 (0, ())
noncomputable def ref19_Of (l : List APos') (u : AUnit') : Option (List AUnit') := zqj stdW l u
noncomputable def ref19_Of_s : ES := ⟨(.pair (.slc tAPos) (.pair tAUnit .unit)), (.v (.slc tAUnit)), fun x => ref19_Of x.1 x.2.1⟩
theorem ref19_Of_ok : ECok Tryz.prog 208 (.es ref19_Of_s)   := es_ok (A := (.pair (.slc tAPos) (.pair tAUnit .unit))) (Q := (.v (.slc tAUnit))) (fun W x => zqj W x.1 x.2.1) [] trivial [(4, [], (ofL [(0, true), (1, true), (2, true), (3, true), (4, true), (5, true), (6, true)]))] [] [(2, ⟨[(5, .t (.int .i64))], [], []⟩)] Tryz.func208 rfl (by decide +kernel) rfl rfl (fun W x => by kernel_rfl)
noncomputable def zmv (W : Wd) (l : List (List AUnit')) : Option ((List AUnit') × Int × Unit) := W.nn 8 (W.room (Int.toNat 8) 32 (W.bnd 8 (Int.toNat 8) fun h1 =>
 W.loop (fun (z2 : Int × List (Bool × List (Int) × Unit) × Unit) again3 =>
 W.cnd (decide (z2.1 < (l.length : Int))) (W.idx l z2.1 fun x4 => W.call (zqv x4) fun v5 =>
  W.cnd (!v5) (some ([], (3, ())))
  (
  W.loop (fun (z6 : Int × List (Bool × List (Int) × Unit) × Unit) again7 =>
   W.cnd (decide (z6.1 < 8)) (
   W.join (fun (z8 : List (Bool × List (Int) × Unit) × Unit) => (again7 ((IntKind.i64.wrap (z6.1 + 1)), (z8.1, ()))))
    fun k9 => W.idx z6.2.1 z6.1 fun x10 => W.idx l z2.1 fun x11 => W.both (W.nth z6.2.1 (Int.toNat z6.1) fun x12 => W.call (zfk x11 (IntKind.i64.wrap (z6.1 + 1))) fun v13 => W.call (zcl v13) fun v14 => W.call (zce (x12.1, (x12.2.1, ())) (v14.1, (v14.2.1, ()))) fun v15 => W.idx z6.2.1 z6.1 fun x16 => W.nth z6.2.1 (Int.toNat z6.1) fun x17 => (k9 ((List.set z6.2.1 (Int.toNat z6.1) (v15.1, (v15.2.1, ()))), ()))) (W.call (zfk x11 (IntKind.i64.wrap (z6.1 + 1))) fun v18 => W.both (W.nth z6.2.1 (Int.toNat z6.1) fun x19 => W.call (zcl v18) fun v20 => W.call (zce (x19.1, (x19.2.1, ())) (v20.1, (v20.2.1, ()))) fun v21 => W.idx z6.2.1 z6.1 fun x22 => W.nth z6.2.1 (Int.toNat z6.1) fun x23 => (k9 ((List.set z6.2.1 (Int.toNat z6.1) (v21.1, (v21.2.1, ()))), ()))) (W.call (zcl v18) fun v24 => W.nth z6.2.1 (Int.toNat z6.1) fun x25 => W.call (zce (x25.1, (x25.2.1, ())) (v24.1, (v24.2.1, ()))) fun v26 => W.idx z6.2.1 z6.1 fun x27 => W.nth z6.2.1 (Int.toNat z6.1) fun x28 => (k9 ((List.set z6.2.1 (Int.toNat z6.1) (v26.1, (v26.2.1, ()))), ())))))
   ((again3 ((IntKind.i64.wrap (z2.1 + 1)), (z6.2.1, ())))))
   (0, (z2.2.1, ()))))
  (W.call (zmr z2.2.1) fun v29 => some (v29.1, v29.2)))
 (0, ((List.replicate h1 (false, ([], ()))), ()))))
noncomputable def zlh (l : List (List AUnit')) : Option ((List AUnit') × Int × Unit) := zmv stdW l
noncomputable def zxx : ES := ⟨(.pair (.slc (.slc tAUnit)) .unit), (.pair (.own 136 tAUnit) (.pair (.v (.int .i64)) .unit)), fun x => zlh x.1⟩
theorem ref11_Add_ok : ECok Tryz.prog 207 (.es zxx)   := es_ok (A := (.pair (.slc (.slc tAUnit)) .unit)) (Q := (.pair (.own 136 tAUnit) (.pair (.v (.int .i64)) .unit))) (fun W x => zmv W x.1) [(139, .es zmt), (205, .es zot), (20, .es zgd), (19, .es zgp), (206, .es ztd)] ⟨zos, zuk, zgm, zhe, zxu, trivial⟩ [(10, [], (.rd 0 (.rd 1 (.rd 2 (.rd 3 (.rd 4 (.rd 6 (.rd 7 (.rd 8 (.rd 9 (.rd 10 (.rd 11 (.two 5 12 (ofL [(12, false), (13, false), (14, false), (15, true), (16, false)]) (.two 5 13 (ofL [(13, false), (14, false), (15, true), (16, false)]) (ofL [(5, false), (14, false), (15, true), (16, false)])))))))))))))))] [(9, ⟨[(4, .row 0)], [], [.own 58 tNovationref01Big]⟩)] [(3, ⟨[(4, .row 0), (5, .t (.int .i64))], [], [.own 58 tNovationref01Big]⟩), (8, ⟨[(4, .row 0), (6, .t (.int .i64))], [], [.own 58 tNovationref01Big]⟩)] Tryz.func207 rfl (by decide +kernel) rfl rfl (fun W x => by kernel_rfl)
noncomputable def zgz (W : Wd) (l : List APos') (u : AUnit') (legs : List AUnit') : Option ((List APos') × Int × Unit) := W.call (zql l) fun v1 =>
 W.cnd (!v1) (some ([], (3, ())))
 (W.call (ref19_Of l u) fun v2 => W.call (zlh (v2 :: (legs :: []))) fun v3 =>
 W.cnd (v3.2.1 != 0) (some ([], v3.2))
  (
  W.loop (fun (z4 : List (Int × Int × Unit) × Bool × Int × List ((Int × Int × Unit) × List (Int × Int × Unit) × Unit) × Unit) again5 =>
  W.cnd (decide (z4.2.2.1 < (l.length : Int))) (
   W.join (fun (z6 : Bool × List ((Int × Int × Unit) × List (Int × Int × Unit) × Unit) × Unit) => (again5 (z4.1, (z6.1, ((IntKind.i64.wrap (z4.2.2.1 + 1)), (z6.2.1, ()))))))
   fun k7 =>
   W.join (fun (z8 : Bool × List ((Int × Int × Unit) × List (Int × Int × Unit) × Unit) × Unit) => W.idx l z4.2.2.1 fun x9 =>
    W.cnd (Go.Vc.notIf true ((x9.1.1 == u.1) && (x9.1.2.1 == u.2.1))) (W.idx l z4.2.2.1 fun x10 => W.room (z8.2.1.length + ((x10.1, (x10.2.1, ())) :: []).length) 40 ((k7 (z8.1, ((z8.2.1 ++ ((x10.1, (x10.2.1, ())) :: [])), ())))))
    ((k7 (z8.1, (z8.2.1, ())))))
    fun k11 =>
    W.join (fun (z12 : Bool × List ((Int × Int × Unit) × List (Int × Int × Unit) × Unit) × Unit) =>
    W.cnd z12.1 (W.room (z12.2.1.length + ((u, (z4.1, ())) :: []).length) 40 ((k11 (true, ((z12.2.1 ++ ((u, (z4.1, ())) :: [])), ())))))
     ((k11 (z4.2.1, (z12.2.1, ())))))
    fun k13 =>
    W.cnd (!z4.2.1) (W.idx l z4.2.2.1 fun x14 => W.call (zdy x14.1 u) fun v15 => (k13 ((!v15), (z4.2.2.2.1, ()))))
     ((k13 (false, (z4.2.2.2.1, ())))))
   (
   W.join (fun (z16 : List ((Int × Int × Unit) × List (Int × Int × Unit) × Unit) × Unit) => some (z16.1, (0, ())))
   fun k17 =>
   W.cnd (!z4.2.1) (W.room (z4.2.2.2.1.length + ((u, (z4.1, ())) :: []).length) 40 ((k17 ((z4.2.2.2.1 ++ ((u, (z4.1, ())) :: [])), ()))))
    ((k17 (z4.2.2.2.1, ())))))
  (v3.1, (((v3.1.length : Int) == 0), (0, ([], ()))))))
noncomputable def zgl (l : List APos') (u : AUnit') (legs : List AUnit') : Option ((List APos') × Int × Unit) := zgz stdW l u legs
noncomputable def zqi : ES := ⟨(.pair (.slc tAPos) (.pair tAUnit (.pair (.slc tAUnit) .unit))), (.pair (.own 198 tAPos) (.pair (.v (.int .i64)) .unit)), fun x => zgl x.1 x.2.1 x.2.2.1⟩
theorem ref19_Shift_ok : ECok Tryz.prog 137 (.es zqi)   := es_ok (A := (.pair (.slc tAPos) (.pair tAUnit (.pair (.slc tAUnit) .unit)))) (Q := (.pair (.own 198 tAPos) (.pair (.v (.int .i64)) .unit))) (fun W x => zgz W x.1 x.2.1 x.2.2.1) [(84, .es zmp), (208, .es ref19_Of_s), (207, .es zxx), (114, .es zfj)] ⟨zoq, ref19_Of_ok, ref11_Add_ok, zfx, trivial⟩ [(11, [], (ofL [(0, true), (1, true), (2, true), (3, true), (4, true), (5, true), (6, true), (7, true), (8, true), (9, false), (10, true), (11, true)])), (14, [], (ofL [(0, true), (1, true), (2, true), (3, true), (4, true), (5, true), (6, true)]))] [(10, ⟨[(10, .row 3), (11, .t .bool)], [], [.dead, .dead, .dead, .own 198 tAPos]⟩), (14, ⟨[(10, .row 3), (11, .t .bool)], [], [.dead, .dead, .dead, .own 198 tAPos]⟩), (18, ⟨[(10, .row 3)], [], [.dead, .dead, .dead, .own 198 tAPos]⟩), (500048, ⟨[(10, .row 3), (48, .t .bool)], [], [.dead, .dead, .dead, .own 198 tAPos]⟩)] [(9, ⟨[(8, .t (.slc tAUnit)), (10, .row 3), (11, .t .bool), (12, .t (.int .i64))], [], [.dead, .dead, .dead, .own 198 tAPos]⟩)] Tryz.func137 rfl (by decide +kernel) rfl rfl (fun W x => by kernel_rfl)
noncomputable def zje (W : Wd) (l : List APos') (from_ : AUnit') (to_ : AUnit') (legs : List AUnit') : Option ((List APos') × Int × Unit) := W.call (zql l) fun v1 =>
 W.cnd (!v1) (some ([], (3, ())))
 (W.call (zxw legs) fun v2 =>
 W.cnd (v2.2.1 != 0) (some ([], v2.2))
  (W.call (zgl l from_ v2.1) fun v3 =>
  W.cnd (v3.2.1 != 0) (some ([], v3.2))
  (W.call (zgl v3.1 to_ legs) fun v4 => some (v4.1, v4.2))))
noncomputable def zsz (l : List APos') (from_ : AUnit') (to_ : AUnit') (legs : List AUnit') : Option ((List APos') × Int × Unit) := zje stdW l from_ to_ legs
noncomputable def zui : ES := ⟨(.pair (.slc tAPos) (.pair tAUnit (.pair tAUnit (.pair (.slc tAUnit) .unit)))), (.pair (.own 198 tAPos) (.pair (.v (.int .i64)) .unit)), fun x => zsz x.1 x.2.1 x.2.2.1 x.2.2.2.1⟩
theorem ref19_Move_ok : ECok Tryz.prog 80 (.es zui)   := es_ok (A := (.pair (.slc tAPos) (.pair tAUnit (.pair tAUnit (.pair (.slc tAUnit) .unit))))) (Q := (.pair (.own 198 tAPos) (.pair (.v (.int .i64)) .unit))) (fun W x => zje W x.1 x.2.1 x.2.2.1 x.2.2.2.1) [(84, .es zmp), (136, .es zxv), (137, .es zqi)] ⟨zoq, ref11_Neg_ok, ref19_Shift_ok, trivial⟩ [] [] [] Tryz.func80 rfl (by decide +kernel) rfl rfl (fun W x => by kernel_rfl)
noncomputable def zha (W : Wd) (l : List AFlow') : Option (List AUnit') :=
 W.loop (fun (z1 : List (Int × Int × Unit) × Int × Unit) again2 =>
 W.cnd (decide (z1.2.1 < (l.length : Int))) (
  W.join (fun (z3 : List (Int × Int × Unit) × Unit) => (again2 (z3.1, ((IntKind.i64.wrap (z1.2.1 + 1)), ()))))
  fun k4 => W.idx l z1.2.1 fun x5 =>
  W.loop (fun (z6 : Int × Bool × Int × Unit) again7 =>
   W.cnd (decide (z6.2.2.1 < (z1.1.length : Int))) (
   W.join (fun (z8 : Int × Bool × Unit) => (again7 (z8.1, (z8.2.1, ((IntKind.i64.wrap (z6.2.2.1 + 1)), ())))))
    fun k9 =>
    W.join (fun (z10 : Bool × Unit) => W.idx z1.1 z6.2.2.1 fun x11 => W.call (zdy x11 x5.1) fun v12 =>
    W.cnd v12 ((k9 ((IntKind.i64.wrap (z6.2.2.1 + 1)), z10)))
     ((k9 (z6.1, z10))))
    fun k13 =>
    W.cnd z6.2.1 ((k13 (true, ())))
     (W.idx z1.1 z6.2.2.1 fun x14 => (k13 ((Go.Vc.notIf false ((x14.1 == x5.1.1) && (x14.2.1 == x5.1.2.1))), ()))))
   (
   W.cnd (!z6.2.1) (W.bnd z6.1 z1.1.length fun h15 => W.room (z1.1.take h15).length 16 (W.room ((z1.1.take h15).length + (x5.1 :: []).length) 16 (W.bnd z6.1 z1.1.length fun h16 => W.room (((z1.1.take h15) ++ (x5.1 :: [])).length + ((z1.1.take z1.1.length).drop h16).length) 16 ((k4 ((((z1.1.take h15) ++ (x5.1 :: [])) ++ ((z1.1.take z1.1.length).drop h16)), ()))))))
    ((k4 (z1.1, ())))))
   (0, (false, (0, ()))))
  (some z1.1))
 ([], (0, ()))
noncomputable def zor (l : List AFlow') : Option (List AUnit') := zha stdW l
noncomputable def zqm : ES := ⟨(.pair (.slc tAFlow) .unit), (.v (.slc tAUnit)), fun x => zor x.1⟩
theorem ref17_Units_ok : ECok Tryz.prog 116 (.es zqm)   := es_ok (A := (.pair (.slc tAFlow) .unit)) (Q := (.v (.slc tAUnit))) (fun W x => zha W x.1) [(114, .es zfj)] ⟨zfx, trivial⟩ [(11, [], (ofL [(0, true), (1, true), (2, true), (3, true), (4, true), (5, true), (6, true), (7, true), (8, true), (9, true)])), (12, [], (ofL [(0, true), (1, true), (2, true), (3, true), (4, true), (5, false)]))] [(4, ⟨[(3, .t (.slc tAUnit))], [], []⟩), (10, ⟨[(6, .t (.int .i64)), (7, .t .bool)], [], []⟩), (12, ⟨[(7, .t .bool)], [], []⟩)] [(3, ⟨[(3, .t (.slc tAUnit)), (4, .t (.int .i64))], [], []⟩), (9, ⟨[(6, .t (.int .i64)), (7, .t .bool), (8, .t (.int .i64))], [], []⟩)] Tryz.func116 rfl (by decide +kernel) rfl rfl (fun W x => by kernel_rfl)
noncomputable def zmq (W : Wd) (l : List AFlow') (flows : List AFlow') : Option ((List AFlow') × Int × Unit) := W.call (zvu l) fun v1 =>
 W.cnd (!v1) (some ([], (3, ())))
 (W.room l.length 24 (W.room (l.length + flows.length) 24 (W.call (zor (l ++ flows)) fun v2 =>
 W.loop (fun (z3 : Int × List ((Int × Int × Unit) × Int × Unit) × Unit) again4 =>
  W.cnd (decide (z3.1 < (v2.length : Int))) (
  W.join (fun (z5 : List ((Int × Int × Unit) × Int × Unit) × Unit) => (again4 ((IntKind.i64.wrap (z3.1 + 1)), (z5.1, ()))))
   fun k6 =>
   W.loop (fun (z7 : Int × Bool × List (Int) × List ((Int × Int × Unit) × Int × Unit) × Unit) again8 =>
   W.cnd (decide (z7.1 < ((l ++ flows).length : Int))) (
    W.join (fun (z9 : Bool × List (Int) × List ((Int × Int × Unit) × Int × Unit) × Unit) => (again8 ((IntKind.i64.wrap (z7.1 + 1)), (z9.1, (z9.2.1, (z9.2.2.1, ()))))))
    fun k10 => W.idx (l ++ flows) z7.1 fun x11 => W.idx v2 z3.1 fun x12 =>
    W.cnd (Go.Vc.notIf false ((x11.1.1 == x12.1) && (x11.1.2.1 == x12.2.1))) (W.idx (l ++ flows) z7.1 fun x13 => W.both (W.call (zcl x13.2.1) fun v14 => W.call (zce (z7.2.1, (z7.2.2.1, ())) (v14.1, (v14.2.1, ()))) fun v15 => (k10 (v15.1, (v15.2.1, (z7.2.2.2.1, ()))))) (W.call (zcl x13.2.1) fun v16 => W.call (zce (z7.2.1, (z7.2.2.1, ())) (v16.1, (v16.2.1, ()))) fun v17 => (k10 (v17.1, (v17.2.1, (z7.2.2.2.1, ()))))))
     ((k10 (z7.2.1, (z7.2.2.1, (z7.2.2.2.1, ()))))))
    (W.call (zcd (z7.2.1, (z7.2.2.1, ()))) fun v18 =>
    W.cnd (!v18) (some ([], (7, ())))
    (W.call (zcy (z7.2.1, (z7.2.2.1, ()))) fun v19 =>
    W.cnd (v19 != 0) (W.idx v2 z3.1 fun x20 => W.call (zcy (z7.2.1, (z7.2.2.1, ()))) fun v21 => W.room (z7.2.2.2.1.length + ((x20, (v21, ())) :: []).length) 24 ((k6 ((z7.2.2.2.1 ++ ((x20, (v21, ())) :: [])), ()))))
     ((k6 (z7.2.2.2.1, ()))))))
   (0, (false, ([], (z3.2.1, ())))))
  (some (z3.2.1, (0, ()))))
  (0, ([], ())))))
noncomputable def zqn (l : List AFlow') (flows : List AFlow') : Option ((List AFlow') × Int × Unit) := zmq stdW l flows
noncomputable def zxr : ES := ⟨(.pair (.slc tAFlow) (.pair (.slc tAFlow) .unit)), (.pair (.own 111 tAFlow) (.pair (.v (.int .i64)) .unit)), fun x => zqn x.1 x.2.1⟩
theorem ref17_Pay_ok : ECok Tryz.prog 58 (.es zxr)   := es_ok (A := (.pair (.slc tAFlow) (.pair (.slc tAFlow) .unit))) (Q := (.pair (.own 111 tAFlow) (.pair (.v (.int .i64)) .unit))) (fun W x => zmq W x.1 x.2.1) [(56, .es ztb), (116, .es zqm), (20, .es zgd), (19, .es zgp), (63, .es zfl), (64, .es zjq)] ⟨zxs, ref17_Units_ok, zgm, zhe, zfz, zlk, trivial⟩ [(14, [], (ofL [(0, true), (1, true), (2, true), (3, true), (4, true), (5, true), (6, true), (7, true), (8, true), (9, true)])), (15, [0], (.rd 1 (.rd 2 (.rd 3 (.rd 4 (.rd 5 (.two 0 6 (ofL [(6, false), (7, false), (8, false)]) (ofL [(0, false), (7, false), (8, false)])))))))), (19, [], (ofL [(0, true), (1, true), (2, true), (3, true), (4, true), (5, true), (6, false), (7, true), (8, false), (9, false), (10, true)]))] [(9, ⟨[(7, .row 1)], [], [.dead, .own 111 tAFlow]⟩), (13, ⟨[(7, .row 1)], [(0, [.t .bool, .t (.slc (.int .u8))])], [.dead, .own 111 tAFlow]⟩)] [(8, ⟨[(7, .row 1), (9, .t (.int .i64))], [], [.dead, .own 111 tAFlow]⟩), (12, ⟨[(7, .row 1), (11, .t (.int .i64))], [(0, [.t .bool, .t (.slc (.int .u8))])], [.dead, .own 111 tAFlow]⟩)] Tryz.func58 rfl (by decide +kernel) rfl rfl (fun W x => by kernel_rfl)
noncomputable def zqh (W : Wd) (d : zag) (i : AInst') (from_ : AUnit') (to_ : AUnit') (qty : Int) (price : Int) : Option (zag × Int × Unit) := W.call (zgy (d.1, (d.2.1, ()))) fun v1 =>
 W.cnd (!v1) (some (([], ([], ())), (3, ())))
 (
 W.join (fun (z2 : Bool × Unit) =>
  W.cnd z2.1 (some (([], ([], ())), (2, ())))
  (
  W.cnd (Go.Vc.notIf false ((from_.1 == to_.1) && (from_.2.1 == to_.2.1))) (some (([], ([], ())), (24, ())))
   (W.call (zdz (i.1, (i.2.1, (i.2.2.1, (i.2.2.2.1, (i.2.2.2.2.1, ()))))) qty price i.2.2.1) fun v3 => W.call (zcd (v3.1, (v3.2.1, ()))) fun v4 =>
   W.cnd (!v4) (some (([], ([], ())), (7, ())))
   (W.call (zsz d.1 from_ to_ ((i.1, (qty, ())) :: [])) fun v5 =>
   W.cnd (v5.2.1 != 0) (some (([], ([], ())), v5.2))
    (W.call (zel (v3.1, (v3.2.1, ()))) fun v6 => W.call (zcd (v6.1, (v6.2.1, ()))) fun v7 =>
    W.cnd (!v7) (some (([], ([], ())), (7, ())))
    (W.call (zel (v3.1, (v3.2.1, ()))) fun v8 => W.call (zcy (v8.1, (v8.2.1, ()))) fun v9 => W.call (zcy (v3.1, (v3.2.1, ()))) fun v10 => W.call (zqn d.2.1 ((from_, (v9, ())) :: ((to_, (v10, ())) :: []))) fun v11 =>
    W.cnd (v11.2.1 != 0) (some (([], ([], ())), v11.2))
     (some ((v5.1, (v11.1, ())), (0, ())))))))))
  fun k12 => W.call (zji (i.1, (i.2.1, (i.2.2.1, (i.2.2.2.1, (i.2.2.2.2.1, ())))))) fun v13 =>
  W.cnd (!v13) ((k12 (true, ())))
  (
  W.cnd (decide (price < 0)) ((k12 (true, ())))
   (
   W.cnd (decide (2147483647 < price)) ((k12 (true, ())))
   (
   W.cnd (qty == 0) ((k12 (true, ())))
    (
    W.cnd (decide (qty < (-1099511627776))) ((k12 (true, ())))
    ((k12 ((decide (1099511627776 < qty)), ()))))))))
noncomputable def zba (d : zag) (i : AInst') (from_ : AUnit') (to_ : AUnit') (qty : Int) (price : Int) : Option (zag × Int × Unit) := zqh stdW d i from_ to_ qty price
noncomputable def ref21_At_s : ES := ⟨(.pair tDealDesk (.pair tAInst (.pair tAUnit (.pair tAUnit (.pair (.int .i64) (.pair (.int .i64) .unit)))))), (.pair (.v tDealDesk) (.pair (.v (.int .i64)) .unit)), fun x => zba x.1 x.2.1 x.2.2.1 x.2.2.2.1 x.2.2.2.2.1 x.2.2.2.2.2.1⟩
theorem ref21_At_ok : ECok Tryz.prog 31 (.es ref21_At_s)   := es_ok (A := (.pair tDealDesk (.pair tAInst (.pair tAUnit (.pair tAUnit (.pair (.int .i64) (.pair (.int .i64) .unit))))))) (Q := (.pair (.v tDealDesk) (.pair (.v (.int .i64)) .unit))) (fun W x => zqh W x.1 x.2.1 x.2.2.1 x.2.2.2.1 x.2.2.2.2.1 x.2.2.2.2.2.1) [(35, .es zsx), (37, .es ztc), (40, .es zlf), (63, .es zfl), (80, .es zui), (81, .es zjp), (64, .es zjq), (58, .es zxr)] ⟨zxq, zxt, zqr, zfz, ref19_Move_ok, zlj, zlk, ref17_Pay_ok, trivial⟩ [(15, [], (ofL [(0, true), (1, true), (2, true), (3, true), (7, true), (8, true), (4, false), (5, false), (6, true), (9, false), (10, true), (11, false), (12, false), (13, true), (14, true), (15, true), (16, true), (17, true)]))] [(500045, ⟨[(45, .t .bool)], [], []⟩)] [] Tryz.func31 rfl (by decide +kernel) rfl rfl (fun W x => by kernel_rfl)
noncomputable def zjk (W : Wd) (a : List AUnit') (b : List AUnit') : Option Bool :=
 W.cnd ((a.length : Int) != (b.length : Int)) (some false)
 (
 W.loop (fun (z1 : Int × Unit) again2 =>
  W.cnd (decide (z1.1 < (a.length : Int))) (W.idx a z1.1 fun x3 => W.idx b z1.1 fun x4 =>
  W.cnd (Go.Vc.notIf true ((x3.1 == x4.1) && (x3.2.1 == x4.2.1))) (some false)
   ((again2 ((IntKind.i64.wrap (z1.1 + 1)), ()))))
  (some true))
  (0, ()))
noncomputable def zie (a : List AUnit') (b : List AUnit') : Option Bool := zjk stdW a b
noncomputable def zlg : ES := ⟨(.pair (.slc tAUnit) (.pair (.slc tAUnit) .unit)), (.v .bool), fun x => zie x.1 x.2.1⟩
theorem zqs : ECok Tryz.prog 86 (.es zlg)   := es_ok (A := (.pair (.slc tAUnit) (.pair (.slc tAUnit) .unit))) (Q := (.v .bool)) (fun W x => zjk W x.1 x.2.1) [] trivial [(6, [], (ofL [(0, true), (1, true), (2, true), (3, true), (4, true), (5, true), (6, true), (7, true), (8, true)]))] [] [(4, ⟨[(5, .t (.int .i64))], [], []⟩)] Tryz.func86 rfl (by decide +kernel) rfl rfl (fun W x => by kernel_rfl)
noncomputable def zjd (W : Wd) (a : List APos') (b : List APos') : Option Bool :=
 W.cnd ((a.length : Int) != (b.length : Int)) (some false)
 (
 W.loop (fun (z1 : Int × Unit) again2 =>
  W.cnd (decide (z1.1 < (a.length : Int))) (
  W.join (fun (z3 : Bool × Unit) =>
   W.cnd z3.1 (some false)
   ((again2 ((IntKind.i64.wrap (z1.1 + 1)), ()))))
   fun k4 => W.idx a z1.1 fun x5 => W.idx b z1.1 fun x6 =>
   W.cnd (Go.Vc.notIf true ((x5.1.1 == x6.1.1) && (x5.1.2.1 == x6.1.2.1))) ((k4 (true, ())))
   (W.idx a z1.1 fun x7 => W.idx b z1.1 fun x8 => W.call (zie x7.2.1 x8.2.1) fun v9 => (k4 ((!v9), ()))))
  (some true))
  (0, ()))
noncomputable def zsy (a : List APos') (b : List APos') : Option Bool := zjd stdW a b
noncomputable def zuh : ES := ⟨(.pair (.slc tAPos) (.pair (.slc tAPos) .unit)), (.v .bool), fun x => zsy x.1 x.2.1⟩
theorem ref19_Same_ok : ECok Tryz.prog 82 (.es zuh)   := es_ok (A := (.pair (.slc tAPos) (.pair (.slc tAPos) .unit))) (Q := (.v .bool)) (fun W x => zjd W x.1 x.2.1) [(86, .es zlg)] ⟨zqs, trivial⟩ [(6, [], (ofL [(0, true), (1, true), (2, true), (3, true), (4, true), (5, true), (6, true), (7, true), (8, true), (9, true), (10, true), (11, true), (12, true), (13, true), (14, true), (15, true), (16, true), (17, true), (18, true), (19, true), (20, true), (21, true), (22, false), (23, true), (24, true)]))] [(500041, ⟨[(41, .t .bool)], [], []⟩)] [(4, ⟨[(5, .t (.int .i64))], [], []⟩)] Tryz.func82 rfl (by decide +kernel) rfl rfl (fun W x => by kernel_rfl)
noncomputable def zjf (W : Wd) (a : List AFlow') (b : List AFlow') : Option Bool :=
 W.cnd ((a.length : Int) != (b.length : Int)) (some false)
 (
 W.loop (fun (z1 : Int × Unit) again2 =>
  W.cnd (decide (z1.1 < (a.length : Int))) (W.idx a z1.1 fun x3 => W.idx b z1.1 fun x4 =>
  W.cnd (Go.Vc.notIf true ((x3.1.1 == x4.1.1) && ((x3.1.2.1 == x4.1.2.1) && (x3.2.1 == x4.2.1)))) (some false)
   ((again2 ((IntKind.i64.wrap (z1.1 + 1)), ()))))
  (some true))
  (0, ()))
noncomputable def zta (a : List AFlow') (b : List AFlow') : Option Bool := zjf stdW a b
noncomputable def zuj : ES := ⟨(.pair (.slc tAFlow) (.pair (.slc tAFlow) .unit)), (.v .bool), fun x => zta x.1 x.2.1⟩
theorem ref17_Same_ok : ECok Tryz.prog 67 (.es zuj)   := es_ok (A := (.pair (.slc tAFlow) (.pair (.slc tAFlow) .unit))) (Q := (.v .bool)) (fun W x => zjf W x.1 x.2.1) [] trivial [(6, [], (ofL [(0, true), (1, true), (2, true), (3, true), (4, true), (5, true), (6, true), (7, true), (8, true)]))] [] [(4, ⟨[(5, .t (.int .i64))], [], []⟩)] Tryz.func67 rfl (by decide +kernel) rfl rfl (fun W x => by kernel_rfl)
noncomputable def zjc (W : Wd) (a : zag) (b : zag) : Option Bool := W.call (zsy a.1 b.1) fun v1 =>
 W.cnd v1 (W.call (zta a.2.1 b.2.1) fun v2 => some v2)
 (some false)
noncomputable def zmo (a : zag) (b : zag) : Option Bool := zjc stdW a b
noncomputable def zug : ES := ⟨(.pair tDealDesk (.pair tDealDesk .unit)), (.v .bool), fun x => zmo x.1 x.2.1⟩
theorem ref21_Same_ok : ECok Tryz.prog 33 (.es zug)   := es_ok (A := (.pair tDealDesk (.pair tDealDesk .unit))) (Q := (.v .bool)) (fun W x => zjc W x.1 x.2.1) [(82, .es zuh), (67, .es zuj)] ⟨ref19_Same_ok, ref17_Same_ok, trivial⟩ [] [] [] Tryz.func33 rfl (by decide +kernel) rfl rfl (fun W x => by kernel_rfl)
noncomputable def zob (W : Wd) (i : AInst') (qty : Int) (price : Int) : Option (Int × Int × Unit) := W.call (zdi (i.1, (i.2.1, (i.2.2.1, (i.2.2.2.1, (i.2.2.2.2.1, ()))))) qty 0 price) fun v1 => some v1
noncomputable def zmd (i : AInst') (qty : Int) (price : Int) : Option (Int × Int × Unit) := zob stdW i qty price
noncomputable def zzv : ES := ⟨(.pair tAInst (.pair (.int .i64) (.pair (.int .i64) .unit))), (.pair (.v (.int .i64)) (.pair (.v (.int .i64)) .unit)), fun x => zmd x.1 x.2.1 x.2.2.1⟩
theorem deal_Cost_ok : ECok Tryz.prog 36 (.es zzv)   := es_ok (A := (.pair tAInst (.pair (.int .i64) (.pair (.int .i64) .unit)))) (Q := (.pair (.v (.int .i64)) (.pair (.v (.int .i64)) .unit))) (fun W x => zob W x.1 x.2.1 x.2.2.1) [(77, .es zpc)] ⟨zuu, trivial⟩ [] [] [] Tryz.func36 rfl (by decide +kernel) rfl rfl (fun W x => by kernel_rfl)
noncomputable def znh (W : Wd) (l : List AFlow') (u : AUnit') : Option Int :=
 W.loop (fun (z1 : Int × Unit) again2 =>
 W.cnd (decide (z1.1 < (l.length : Int))) (W.idx l z1.1 fun x3 =>
  W.cnd (Go.Vc.notIf false ((x3.1.1 == u.1) && (x3.1.2.1 == u.2.1))) (some x3.2.1)
  ((again2 ((IntKind.i64.wrap (z1.1 + 1)), ()))))
  (some 0))
 (0, ())
noncomputable def zig (l : List AFlow') (u : AUnit') : Option Int := znh stdW l u
noncomputable def zyh : ES := ⟨(.pair (.slc tAFlow) (.pair tAUnit .unit)), (.v (.int .i64)), fun x => zig x.1 x.2.1⟩
theorem purse_Get_ok : ECok Tryz.prog 65 (.es zyh)   := es_ok (A := (.pair (.slc tAFlow) (.pair tAUnit .unit))) (Q := (.v (.int .i64))) (fun W x => znh W x.1 x.2.1) [] trivial [] [] [(2, ⟨[(9, .t (.int .i64))], [], []⟩)] Tryz.func65 rfl (by decide +kernel) rfl rfl (fun W x => by kernel_rfl)
noncomputable def zhk (W : Wd) : Option Bool := W.call (zeu ([], ([], ())) (1, (10, (7, (0, ([], ()))))) (1, (0, ())) (2, (0, ())) 3 5) fun v1 =>
 W.cnd (v1.2.1 == 0) (W.call (zig v1.1.2.1 (2, (0, ()))) fun v2 =>
 W.cnd (v2 == 60) (W.call (zig v1.1.2.1 (1, (0, ()))) fun v3 =>
  W.cnd (v3 == (-60)) (W.call (book_Of v1.1.1 (2, (0, ()))) fun v4 => W.call (zie v4 ((1, (3, ())) :: [])) fun v5 => some v5)
  (some false))
  (some false))
 (some false)
noncomputable def zdv : Option Bool := zhk stdW
noncomputable def zrj : ES := ⟨.unit, (.v .bool), fun x => zdv ⟩
theorem law21_lives_ok : ECok Tryz.prog 38 (.es zrj)   := es_ok (A := .unit) (Q := (.v .bool)) (fun W x => zhk W ) [(30, .es zzw), (65, .es zyh), (87, .es book_Of_s), (86, .es zlg)] ⟨deal_At_ok, purse_Get_ok, book_Of_ok, zqs, trivial⟩ [] [] [] Tryz.func38 rfl (by decide +kernel) rfl rfl (fun W x => by kernel_rfl)
noncomputable def zna (W : Wd) (a : zab) (b : zab) : Option Int := W.call (zif (a.1, (a.2.1, ())) (b.1, (b.2.1, ()))) fun v1 =>
 W.cnd ((v1.2.1.length : Int) == 0) (some 0)
 (
 W.cnd v1.1 (some (-1))
  (some 1))
noncomputable def zll (a : zab) (b : zab) : Option Int := zna stdW a b
noncomputable def zyc : ES := ⟨(.pair tNovationref01Big (.pair tNovationref01Big .unit)), (.v (.int .i64)), fun x => zll x.1 x.2.1⟩
theorem ref01_Cmp_ok : ECok Tryz.prog 21 (.es zyc)   := es_ok (A := (.pair tNovationref01Big (.pair tNovationref01Big .unit))) (Q := (.v (.int .i64))) (fun W x => zna W x.1 x.2.1) [(74, .es zou)] ⟨zun, trivial⟩ [] [] [] Tryz.func21 rfl (by decide +kernel) rfl rfl (fun W x => by kernel_rfl)
noncomputable def zrk (W : Wd) (n : Int) (e : Int) (x : zab) : Option Bool := W.call (zcd (x.1, (x.2.1, ()))) fun v1 =>
 W.cnd (!v1) (
 W.cnd (n == 0) (some (e == 7))
  (some false))
 (
 W.cnd (e == 0) (W.call (zcl n) fun v2 => W.call (zll (v2.1, (v2.2.1, ())) (x.1, (x.2.1, ()))) fun v3 => some (v3 == 0))
  (some false))
noncomputable def zrl (n : Int) (e : Int) (x : zab) : Option Bool := zrk stdW n e x
noncomputable def law02_Is_s : ES := ⟨(.pair (.int .i64) (.pair (.int .i64) (.pair tNovationref01Big .unit))), (.v .bool), fun x => zrl x.1 x.2.1 x.2.2.1⟩
theorem law02_Is_ok : ECok Tryz.prog 39 (.es law02_Is_s)   := es_ok (A := (.pair (.int .i64) (.pair (.int .i64) (.pair tNovationref01Big .unit)))) (Q := (.v .bool)) (fun W x => zrk W x.1 x.2.1 x.2.2.1) [(63, .es zfl), (20, .es zgd), (21, .es zyc)] ⟨zfz, zgm, ref01_Cmp_ok, trivial⟩ [(3, [], (ofL [(0, true), (1, true), (2, true), (3, true), (5, true), (4, false), (6, false), (7, true), (8, true), (9, true)]))] [] [] Tryz.func39 rfl (by decide +kernel) rfl rfl (fun W x => by kernel_rfl)
noncomputable def zae (W : Wd) (qty price : Int) (v2 : AInst') (v3 v5 : zag × Int × Unit) (v1 : zag) : Option Bool := W.join (fun (z6 : Bool × Unit) =>
    W.cnd z6.1 (some false)
    (W.call (zmd (v2.1, (v2.2.1, (v2.2.2.1, (v2.2.2.2.1, (v2.2.2.2.2.1, ()))))) qty price) fun v7 =>
    W.join (fun (z8 : Bool × Unit) =>
     W.cnd z8.1 (
     W.cnd (v7.1 == 0) (
      W.cnd (v7.2.1 == 2) (W.call (zdv) fun v9 => some v9)
      (some false))
      (some false))
     (W.call (zdz (v2.1, (v2.2.1, (v2.2.2.1, (v2.2.2.2.1, (v2.2.2.2.2.1, ()))))) qty 0 price) fun v10 => W.call (zrl v7.1 v7.2.1 (v10.1, (v10.2.1, ()))) fun v11 =>
     W.cnd v11 (W.call (zdv) fun v12 => some v12)
      (some false)))
     fun k13 => W.call (zji (v2.1, (v2.2.1, (v2.2.2.1, (v2.2.2.2.1, (v2.2.2.2.2.1, ())))))) fun v14 =>
     W.cnd (!v14) ((k13 (true, ())))
     (
     W.cnd (decide (price < 0)) ((k13 (true, ())))
      ((k13 ((decide (2147483647 < price)), ()))))))
    fun k15 => W.call (zaj (v3.1.1, (v3.1.2.1, ()))) fun v16 => W.call (zmo (v16.1, (v16.2.1, ())) (v5.1.1, (v5.1.2.1, ()))) fun v17 =>
    W.cnd (!v17) (W.both (W.both ((k15 (true, ()))) ((k15 (true, ())))) ((k15 (true, ()))))
    (W.both (
     W.cnd (v3.2.1 != v5.2.1) (W.both ((k15 (true, ()))) ((k15 (true, ()))))
     (W.both (W.call (zmc (v1.1, (v1.2.1, ()))) fun v18 => W.call (zaj (v1.1, (v1.2.1, ()))) fun v19 => W.call (zgy (v19.1, (v19.2.1, ()))) fun v20 => (k15 ((Go.Vc.notIf true (v18 == v20)), ()))) (W.call (zmc (v1.1, (v1.2.1, ()))) fun v21 => W.call (zaj (v1.1, (v1.2.1, ()))) fun v22 => W.call (zgy (v22.1, (v22.2.1, ()))) fun v23 => (k15 ((Go.Vc.notIf true (v21 == v23)), ()))))) (
     W.cnd (v3.2.1 != v5.2.1) ((k15 (true, ())))
     (W.call (zmc (v1.1, (v1.2.1, ()))) fun v24 => W.call (zaj (v1.1, (v1.2.1, ()))) fun v25 => W.call (zgy (v25.1, (v25.2.1, ()))) fun v26 => (k15 ((Go.Vc.notIf true (v24 == v26)), ())))))
noncomputable def zem (W : Wd) (l : List APos') (p : List AFlow') (i : AInst') (from_ : AUnit') (to_ : AUnit') (qty : Int) (price : Int) : Option Bool := W.both (W.call (zgr l p) fun v1 => W.both (W.both (W.call (zda (i.1, (i.2.1, (i.2.2.1, (i.2.2.2.1, (i.2.2.2.2.1, ())))))) fun v2 => W.call (zeu (v1.1, (v1.2.1, ())) (v2.1, (v2.2.1, (v2.2.2.1, (v2.2.2.2.1, (v2.2.2.2.2.1, ()))))) from_ to_ qty price) fun v3 => W.both (W.call (zaj (v1.1, (v1.2.1, ()))) fun v4 => W.both (W.call (zba (v4.1, (v4.2.1, ())) (v2.1, (v2.2.1, (v2.2.2.1, (v2.2.2.2.1, (v2.2.2.2.2.1, ()))))) from_ to_ qty price) fun v5 =>
   zae W qty price v2 v3 v5 v1) (W.call (zba (v4.1, (v4.2.1, ())) (v2.1, (v2.2.1, (v2.2.2.1, (v2.2.2.2.1, (v2.2.2.2.2.1, ()))))) from_ to_ qty price) fun v27 =>
   zae W qty price v2 v3 v27 v1)) (W.call (zaj (v1.1, (v1.2.1, ()))) fun v49 => W.call (zba (v49.1, (v49.2.1, ())) (v2.1, (v2.2.1, (v2.2.2.1, (v2.2.2.2.1, (v2.2.2.2.2.1, ()))))) from_ to_ qty price) fun v50 =>
   zae W qty price v2 v3 v50 v1)) (W.call (zda (i.1, (i.2.1, (i.2.2.1, (i.2.2.2.1, (i.2.2.2.2.1, ())))))) fun v72 => W.call (zeu (v1.1, (v1.2.1, ())) (v72.1, (v72.2.1, (v72.2.2.1, (v72.2.2.2.1, (v72.2.2.2.2.1, ()))))) from_ to_ qty price) fun v73 => W.both (W.call (zaj (v1.1, (v1.2.1, ()))) fun v74 => W.both (W.call (zba (v74.1, (v74.2.1, ())) (v72.1, (v72.2.1, (v72.2.2.1, (v72.2.2.2.1, (v72.2.2.2.2.1, ()))))) from_ to_ qty price) fun v75 =>
   zae W qty price v72 v73 v75 v1) (W.call (zba (v74.1, (v74.2.1, ())) (v72.1, (v72.2.1, (v72.2.2.1, (v72.2.2.2.1, (v72.2.2.2.2.1, ()))))) from_ to_ qty price) fun v97 =>
   zae W qty price v72 v73 v97 v1)) (W.call (zaj (v1.1, (v1.2.1, ()))) fun v119 => W.call (zba (v119.1, (v119.2.1, ())) (v72.1, (v72.2.1, (v72.2.2.1, (v72.2.2.2.1, (v72.2.2.2.2.1, ()))))) from_ to_ qty price) fun v120 =>
   zae W qty price v72 v73 v120 v1))) (W.call (zda (i.1, (i.2.1, (i.2.2.1, (i.2.2.2.1, (i.2.2.2.2.1, ())))))) fun v142 => W.call (zeu (v1.1, (v1.2.1, ())) (v142.1, (v142.2.1, (v142.2.2.1, (v142.2.2.2.1, (v142.2.2.2.2.1, ()))))) from_ to_ qty price) fun v143 => W.both (W.call (zaj (v1.1, (v1.2.1, ()))) fun v144 => W.both (W.call (zba (v144.1, (v144.2.1, ())) (v142.1, (v142.2.1, (v142.2.2.1, (v142.2.2.2.1, (v142.2.2.2.2.1, ()))))) from_ to_ qty price) fun v145 =>
   zae W qty price v142 v143 v145 v1) (W.call (zba (v144.1, (v144.2.1, ())) (v142.1, (v142.2.1, (v142.2.2.1, (v142.2.2.2.1, (v142.2.2.2.2.1, ()))))) from_ to_ qty price) fun v167 =>
   zae W qty price v142 v143 v167 v1)) (W.call (zaj (v1.1, (v1.2.1, ()))) fun v189 => W.call (zba (v189.1, (v189.2.1, ())) (v142.1, (v142.2.1, (v142.2.2.1, (v142.2.2.2.1, (v142.2.2.2.2.1, ()))))) from_ to_ qty price) fun v190 =>
  zae W qty price v142 v143 v190 v1))) (W.both (W.both (W.call (zgr l p) fun v212 => W.both (W.call (zda (i.1, (i.2.1, (i.2.2.1, (i.2.2.2.1, (i.2.2.2.2.1, ())))))) fun v213 => W.call (zeu (v212.1, (v212.2.1, ())) (v213.1, (v213.2.1, (v213.2.2.1, (v213.2.2.2.1, (v213.2.2.2.2.1, ()))))) from_ to_ qty price) fun v214 => W.both (W.call (zaj (v212.1, (v212.2.1, ()))) fun v215 => W.both (W.call (zba (v215.1, (v215.2.1, ())) (v213.1, (v213.2.1, (v213.2.2.1, (v213.2.2.2.1, (v213.2.2.2.2.1, ()))))) from_ to_ qty price) fun v216 =>
    zae W qty price v213 v214 v216 v212) (W.call (zba (v215.1, (v215.2.1, ())) (v213.1, (v213.2.1, (v213.2.2.1, (v213.2.2.2.1, (v213.2.2.2.2.1, ()))))) from_ to_ qty price) fun v238 =>
    zae W qty price v213 v214 v238 v212)) (W.call (zaj (v212.1, (v212.2.1, ()))) fun v260 => W.call (zba (v260.1, (v260.2.1, ())) (v213.1, (v213.2.1, (v213.2.2.1, (v213.2.2.2.1, (v213.2.2.2.2.1, ()))))) from_ to_ qty price) fun v261 =>
   zae W qty price v213 v214 v261 v212)) (W.call (zda (i.1, (i.2.1, (i.2.2.1, (i.2.2.2.1, (i.2.2.2.2.1, ())))))) fun v283 => W.call (zeu (v212.1, (v212.2.1, ())) (v283.1, (v283.2.1, (v283.2.2.1, (v283.2.2.2.1, (v283.2.2.2.2.1, ()))))) from_ to_ qty price) fun v284 => W.both (W.call (zaj (v212.1, (v212.2.1, ()))) fun v285 => W.both (W.call (zba (v285.1, (v285.2.1, ())) (v283.1, (v283.2.1, (v283.2.2.1, (v283.2.2.2.1, (v283.2.2.2.2.1, ()))))) from_ to_ qty price) fun v286 =>
    zae W qty price v283 v284 v286 v212) (W.call (zba (v285.1, (v285.2.1, ())) (v283.1, (v283.2.1, (v283.2.2.1, (v283.2.2.2.1, (v283.2.2.2.2.1, ()))))) from_ to_ qty price) fun v308 =>
    zae W qty price v283 v284 v308 v212)) (W.call (zaj (v212.1, (v212.2.1, ()))) fun v330 => W.call (zba (v330.1, (v330.2.1, ())) (v283.1, (v283.2.1, (v283.2.2.1, (v283.2.2.2.1, (v283.2.2.2.2.1, ()))))) from_ to_ qty price) fun v331 =>
   zae W qty price v283 v284 v331 v212))) (W.call (zgr l p) fun v353 => W.call (zda (i.1, (i.2.1, (i.2.2.1, (i.2.2.2.1, (i.2.2.2.2.1, ())))))) fun v354 => W.call (zeu (v353.1, (v353.2.1, ())) (v354.1, (v354.2.1, (v354.2.2.1, (v354.2.2.2.1, (v354.2.2.2.2.1, ()))))) from_ to_ qty price) fun v355 => W.both (W.call (zaj (v353.1, (v353.2.1, ()))) fun v356 => W.both (W.call (zba (v356.1, (v356.2.1, ())) (v354.1, (v354.2.1, (v354.2.2.1, (v354.2.2.2.1, (v354.2.2.2.2.1, ()))))) from_ to_ qty price) fun v357 =>
   zae W qty price v354 v355 v357 v353) (W.call (zba (v356.1, (v356.2.1, ())) (v354.1, (v354.2.1, (v354.2.2.1, (v354.2.2.2.1, (v354.2.2.2.2.1, ()))))) from_ to_ qty price) fun v379 =>
   zae W qty price v354 v355 v379 v353)) (W.call (zaj (v353.1, (v353.2.1, ()))) fun v401 => W.call (zba (v401.1, (v401.2.1, ())) (v354.1, (v354.2.1, (v354.2.2.1, (v354.2.2.2.1, (v354.2.2.2.2.1, ()))))) from_ to_ qty price) fun v402 =>
   zae W qty price v354 v355 v402 v353))) (W.both (W.call (zgr l p) fun v424 => W.call (zda (i.1, (i.2.1, (i.2.2.1, (i.2.2.2.1, (i.2.2.2.2.1, ())))))) fun v425 => W.call (zeu (v424.1, (v424.2.1, ())) (v425.1, (v425.2.1, (v425.2.2.1, (v425.2.2.2.1, (v425.2.2.2.2.1, ()))))) from_ to_ qty price) fun v426 => W.both (W.call (zaj (v424.1, (v424.2.1, ()))) fun v427 => W.both (W.call (zba (v427.1, (v427.2.1, ())) (v425.1, (v425.2.1, (v425.2.2.1, (v425.2.2.2.1, (v425.2.2.2.2.1, ()))))) from_ to_ qty price) fun v428 =>
   zae W qty price v425 v426 v428 v424) (W.call (zba (v427.1, (v427.2.1, ())) (v425.1, (v425.2.1, (v425.2.2.1, (v425.2.2.2.1, (v425.2.2.2.2.1, ()))))) from_ to_ qty price) fun v450 =>
   zae W qty price v425 v426 v450 v424)) (W.call (zaj (v424.1, (v424.2.1, ()))) fun v472 => W.call (zba (v472.1, (v472.2.1, ())) (v425.1, (v425.2.1, (v425.2.2.1, (v425.2.2.2.1, (v425.2.2.2.2.1, ()))))) from_ to_ qty price) fun v473 =>
   zae W qty price v425 v426 v473 v424)) (W.call (zgr l p) fun v495 => W.call (zda (i.1, (i.2.1, (i.2.2.1, (i.2.2.2.1, (i.2.2.2.2.1, ())))))) fun v496 => W.call (zeu (v495.1, (v495.2.1, ())) (v496.1, (v496.2.1, (v496.2.2.1, (v496.2.2.2.1, (v496.2.2.2.2.1, ()))))) from_ to_ qty price) fun v497 => W.both (W.call (zaj (v495.1, (v495.2.1, ()))) fun v498 => W.both (W.call (zba (v498.1, (v498.2.1, ())) (v496.1, (v496.2.1, (v496.2.2.1, (v496.2.2.2.1, (v496.2.2.2.2.1, ()))))) from_ to_ qty price) fun v499 =>
   zae W qty price v496 v497 v499 v495) (W.call (zba (v498.1, (v498.2.1, ())) (v496.1, (v496.2.1, (v496.2.2.1, (v496.2.2.2.1, (v496.2.2.2.2.1, ()))))) from_ to_ qty price) fun v521 =>
   zae W qty price v496 v497 v521 v495)) (W.call (zaj (v495.1, (v495.2.1, ()))) fun v543 => W.call (zba (v543.1, (v543.2.1, ())) (v496.1, (v496.2.1, (v496.2.2.1, (v496.2.2.2.1, (v496.2.2.2.2.1, ()))))) from_ to_ qty price) fun v544 =>
   zae W qty price v496 v497 v544 v495))))
noncomputable def zhu (l : List APos') (p : List AFlow') (i : AInst') (from_ : AUnit') (to_ : AUnit') (qty : Int) (price : Int) : Option Bool := zem stdW l p i from_ to_ qty price
noncomputable def zvg : ES := ⟨(.pair (.slc tAPos) (.pair (.slc tAFlow) (.pair tAInst (.pair tAUnit (.pair tAUnit (.pair (.int .i64) (.pair (.int .i64) .unit))))))), (.v .bool), fun x => zhu x.1 x.2.1 x.2.2.1 x.2.2.2.1 x.2.2.2.2.1 x.2.2.2.2.2.1 x.2.2.2.2.2.2.1⟩
theorem ztm : ECok Tryz.prog 5 (.es zvg)   := es_ok (A := (.pair (.slc tAPos) (.pair (.slc tAFlow) (.pair tAInst (.pair tAUnit (.pair tAUnit (.pair (.int .i64) (.pair (.int .i64) .unit)))))))) (Q := (.v .bool)) (fun W x => zem W x.1 x.2.1 x.2.2.1 x.2.2.2.1 x.2.2.2.2.1 x.2.2.2.2.2.1 x.2.2.2.2.2.2.1) [(28, .es zyw), (29, .es zyv), (30, .es zzw), (32, .es zri), (31, .es ref21_At_s), (33, .es zug), (34, .es zzu), (35, .es zsx), (36, .es zzv), (37, .es ztc), (38, .es zrj), (40, .es zlf), (39, .es law02_Is_s)] ⟨law21_Few_ok, law21_one_ok, deal_At_ok, law21_plain_ok, ref21_At_ok, ref21_Same_ok, deal_Is_ok, zxq, deal_Cost_ok, zxt, law21_lives_ok, zqr, law02_Is_ok, trivial⟩ [(1, [0], (.rd 0 (.rd 1 (.three 2 3 5 (.two 3 5 (.two 4 5 (ofL [(5, false), (6, false), (7, false)]) (ofL [(4, false), (6, false), (7, false)])) (ofL [(3, false), (4, false), (6, false), (7, false)])) (.two 2 5 (.two 4 5 (ofL [(5, false), (6, false), (7, false)]) (ofL [(4, false), (6, false), (7, false)])) (ofL [(2, false), (4, false), (6, false), (7, false)])) (.two 2 3 (ofL [(3, false), (4, false), (6, false), (7, false)]) (ofL [(2, false), (4, false), (6, false), (7, false)])))))), (3, [], (.rd 0 (.rd 2 (.rd 3 (.rd 4 (.rd 5 (.rd 6 (.two 1 11 (.two 7 11 (ofL [(8, true), (9, true), (10, true), (11, false), (12, false), (13, true)]) (ofL [(7, false), (8, true), (9, true), (10, true), (12, false), (13, true)])) (ofL [(1, false), (7, false), (8, true), (9, true), (10, true), (12, false), (13, true)]))))))))), (4, [], (.rd 0 (.rd 2 (.op 1 (.op 3 (.rd 4 (.rd 5 (.rd 6 (.rd 7 (.rd 8 (.rd 9 (.rd 10 (.two 11 13 (.two 12 13 (ofL [(13, false), (14, false), (15, false), (16, true), (17, true)]) (ofL [(12, false), (14, false), (15, false), (16, true), (17, true)])) (ofL [(11, false), (12, false), (14, false), (15, false), (16, true), (17, true)]))))))))))))))] [(500065, ⟨[(65, .t .bool)], [], []⟩), (500083, ⟨[(83, .t .bool)], [], []⟩)] [] Tryz.func5 rfl (by decide +kernel) rfl rfl (fun W x => by kernel_rfl)
end Go.Proofs.YtbpbkmngbhgpfaaGreat

namespace Go.Proofs.YtbpbkmngbhgpfaaGreat
open Go Go.Vc Go.RowKit
theorem r_nat (u : Nat) (hu : u < 18446744073709551616) : zgn (u : Int) = some (bigS false u) := nat_is u hu
theorem r_plus {xs ys : List Int} (hx : Nrm xs) (hy : Nrm ys) (lx : xs.length ≤ 1000) (ly : ys.length ≤ 1000) : zeb xs ys = some (bitsOf (valB xs + valB ys)) := plus_is hx hy lx ly
theorem r_less {xs ys : List Int} (hx : Nrm xs) (hy : Nrm ys) (lx : xs.length ≤ 1000) (ly : ys.length ≤ 1000) : zte xs ys = some (decide (valB xs < valB ys)) := less_is hx hy lx ly
theorem r_minus {xs ys : List Int} (hx : Nrm xs) (hy : Nrm ys) (lx : xs.length ≤ 1000) (hle : valB ys ≤ valB xs) : zjo xs ys = some (bitsK xs.length (valB xs - valB ys)) := minus_is hx hy lx hle
theorem r_trim {g : Bool} {xs : List Int} (h : bitL xs) (lx : xs.length ≤ 1000) : zea g xs = some (bigS g (valB xs)) := trim_is h lx
end Go.Proofs.YtbpbkmngbhgpfaaGreat

namespace Go.Proofs.YtbpbkmngbhgpfaaGreat
open Go Go.Vc Go.RowKit
theorem bits_len_le {n k K : Nat} (h : n < 2 ^ k) (hk : k ≤ K) : (bitsOf n).length ≤ K := Nat.le_trans (zsd k n h) hk
theorem pw {a b k : Nat} (ha : a < 2 ^ k) (hb : b < 2 ^ k) : a + b < 2 ^ (k + 1) := by rw [Nat.pow_succ]; omega
theorem zaa {α β : Type} {o : Option α} {a : α} (h : o = some a) (K : α → Option β) : stdW.call o K = K a := by subst h; rfl
theorem valB_lt' {xs : List Int} (h : Nrm xs) {k : Nat} (hl : xs.length ≤ k) : valB xs < 2 ^ k := Nat.lt_of_lt_of_le (zsp xs h.bits) (Nat.pow_le_pow_right (by omega) hl)
theorem sum_len {a b : List Int} (ha : Nrm a) (hb : Nrm b) {k : Nat} (la : a.length ≤ k) (lb : b.length ≤ k) : (bitsOf (valB a + valB b)).length ≤ k + 1 := bits_len_le (pw (valB_lt' ha la) (valB_lt' hb lb)) (Nat.le_refl _)
theorem r_add {x y : BigT} (hx : Nb x) (hy : Nb y) (lx : x.2.1.length ≤ 900) (ly : y.2.1.length ≤ 900) : zce x y = some (big (bv x + bv y)) := by
 show znb stdW x y = _
 have nx := nb_nrm hx
 have ny := nb_nrm hy
 unfold znb
 have eta : ∀ z : BigT, (some (z.1, (z.2.1, ())) : Option BigT) = some z := fun z => rfl
 by_cases h : x.1 = y.1
 ·have e : notIf false (x.1 == y.1) = true := by simp [notIf, h]
  have hs : (bitsOf (valB x.2.1 + valB y.2.1)).length ≤ 1000 := Nat.le_trans (sum_len nx ny lx ly) (by omega)
  rw [e]
  show (stdW.call _ _ : Option BigT) = _
  rw [zaa (r_plus nx ny (by omega) (by omega)), zaa (r_trim (zmg _) hs), eta, add_same h]
 ·have e : notIf false (x.1 == y.1) = false := by simp [notIf, h]
  rw [e]
  show (stdW.call _ _ : Option BigT) = _
  rw [zaa (r_less nx ny (by omega) (by omega))]
  by_cases hl : valB x.2.1 < valB y.2.1
  ·rw [decide_eq_true hl]
   show (stdW.call _ _ : Option BigT) = _
   rw [zaa (r_minus ny nx (by omega) (by omega)), zaa (r_trim (bitL_K _ _) (by rw [len_K]; omega)), eta, add_less ny h hl]
  ·rw [decide_eq_false hl]
   show (stdW.call _ _ : Option BigT) = _
   rw [zaa (r_minus nx ny (by omega) (by omega)), zaa (r_trim (bitL_K _ _) (by rw [len_K]; omega)), eta, add_more nx h hl]
end Go.Proofs.YtbpbkmngbhgpfaaGreat

namespace Go.Vc
open Go Go.RowKit
variable {β : Type}
theorem zcz {α S : Type} {l : List α} (hl : l.length ≤ 9223372036854775807) {f : Int × S → (Int × S → Option β) → Option β} (Inv : Nat → S → Prop) (g : List α → S → Option β) {s0 : S} (h0 : Inv 0 s0)
  (hend : ∀ s (again : Int × S → Option β), Inv l.length s → f ((l.length : Int), s) again = g [] s)
  (hstep : ∀ i (h : i < l.length) s, Inv i s → ∀ again : Int × S → Option β, (∀ s', Inv (i + 1) s' → again (((i + 1 : Nat) : Int), s') = g (l.drop (i + 1)) s') → f ((i : Int), s) again = g (l[i] :: l.drop (i + 1)) s) :
  stdW.loop f (0, s0) = g l s0 := by
 refine (zdd (fun z => (l.length + 1) - z.1.toNat) (fun z => ∃ i : Nat, z.1 = (i : Int) ∧ i ≤ l.length ∧ Inv i z.2) (fun z => g (l.drop z.1.toNat) z.2) ⟨0, rfl, by omega, h0⟩ (by show l.length + 1 - 0 < _; omega) ?_).trans ?_
 ·rintro ⟨z, s⟩ ⟨i, hi, hle, hs⟩ again ha
  dsimp only at hi hs
  subst hi
  simp only [Int.toNat_natCast]
  by_cases h : i < l.length
  ·rw [zim l i h]
   refine hstep i h s hs again fun s' hs' => ?_
   have := ha (((i + 1 : Nat) : Int), s') ⟨i + 1, rfl, by omega, hs'⟩ (by simp only [Int.toNat_natCast]; omega)
   simpa only [Int.toNat_natCast] using this
  ·obtain rfl : i = l.length := by omega
   rw [List.drop_length]
   exact hend s again hs
 ·simp
theorem cnd_lt {i n : Nat} (h : i < n) (a b : Option β) : stdW.cnd (decide ((i : Int) < (n : Int))) a b = a := by rw [decide_eq_true (by omega)]; rfl
theorem zbg {n : Nat} (a b : Option β) : stdW.cnd (decide ((n : Int) < (n : Int))) a b = b := by rw [decide_eq_false (by omega)]; rfl
theorem cnd_b {c : Bool} (a b : Option β) : stdW.cnd c a b = if c = true then a else b := by cases c <;> rfl
theorem cnd_y {c : Bool} (h : c = true) (a b : Option β) : stdW.cnd c a b = a := by subst h; rfl
theorem cnd_n {c : Bool} (h : c = false) (a b : Option β) : stdW.cnd c a b = b := by subst h; rfl
theorem idx_w {α : Type} {l : List α} {i : Nat} (h : i < l.length) (K : α → Option β) : stdW.idx l (i : Int) K = K l[i] := idx_eq h K
theorem nth_w {α : Type} {l : List α} {i : Nat} (h : i < l.length) (K : α → Option β) : stdW.nth l (Int.toNat (i : Int)) K = K l[i] := by
 show idxR l _ K = _
 unfold idxR
 rw [Int.toNat_natCast, List.getElem?_eq_getElem h]
theorem room_w {n b : Nat} (h : n ≤ 281474976710656) (h2 : n * b ≤ 140737488355328) (K : Option β) : stdW.room n b K = K := zxn h h2 K
theorem nn_w {b : Int} (h : 0 ≤ b) (K : Option β) : stdW.nn b K = K := nn_eq h K
theorem both_w (a : Option β) : stdW.both a a = a := both_eq a
theorem join_w {X : Type} (k : X → Option β) (f : (X → Option β) → Option β) : stdW.join k f = f k := rfl
theorem bnd_w {i : Int} {n : Nat} (h : 0 ≤ i) (h2 : i ≤ n) (K : Nat → Option β) : stdW.bnd i n K = K i.toNat := bnd_eq h h2 K
theorem i64_s (i : Nat) (h : i < 9223372036854775807) : IntKind.i64.wrap ((i : Int) + 1) = ((i + 1 : Nat) : Int) := zwg i h
end Go.Vc
namespace Go.Vc
variable {β : Type}
theorem loop_n {S : Type} {N : Nat} (hN : N < 9223372036854775807) {f : Int × S → (Int × S → Option β) → Option β} (Inv : Nat → S → Prop) (r : Option β) {s0 : S} (h0 : Inv 0 s0)
  (hend : ∀ s (again : Int × S → Option β), Inv N s → f (((N : Nat) : Int), s) again = r)
  (hstep : ∀ i, i < N → ∀ s, Inv i s → ∀ again : Int × S → Option β, (∀ s', Inv (i + 1) s' → again (((i + 1 : Nat) : Int), s') = r) → f ((i : Int), s) again = r) :
  stdW.loop f (0, s0) = r := by
 refine (zdd (fun z => (N + 1) - z.1.toNat) (fun z => ∃ i : Nat, z.1 = (i : Int) ∧ i ≤ N ∧ Inv i z.2) (fun _ => r) ⟨0, rfl, by omega, h0⟩ (by show N + 1 - 0 < _; omega) ?_)
 rintro ⟨z, s⟩ ⟨i, hi, hle, hs⟩ again ha
 dsimp only at hi hs
 subst hi
 by_cases h : i < N
 ·refine hstep i h s hs again fun s' hs' => ?_
  exact ha (((i + 1 : Nat) : Int), s') ⟨i + 1, rfl, by omega, hs'⟩ (by simp only [Int.toNat_natCast]; omega)
 ·obtain rfl : i = N := by omega
  exact hend s again hs
def sumBy {α : Type} (f : α → Int) (l : List α) : Int := (l.map f).sum
theorem sumBy_nil {α : Type} (f : α → Int) : sumBy f [] = 0 := rfl
theorem zcm {α : Type} (f : α → Int) (x : α) (l : List α) : sumBy f (x :: l) = f x + sumBy f l := by simp [sumBy]
theorem zlb {α : Type} (f : α → Int) (a b : List α) : sumBy f (a ++ b) = sumBy f a + sumBy f b := by simp [sumBy]
theorem sumBy_in {α : Type} {f : α → Int} {B : Int} : ∀ {l : List α}, (∀ x ∈ l, -B ≤ f x ∧ f x ≤ B) → -(B * (l.length : Int)) ≤ sumBy f l ∧ sumBy f l ≤ B * (l.length : Int)
 | [], _ => by simp [sumBy]
 | x :: l, h => by
  have h1 := h x (by simp)
  have h2 := sumBy_in (l := l) fun w hw => h w (by simp [hw])
  rw [zcm, List.length_cons, Int.natCast_add, Int.mul_add]
  omega
theorem filter_take {α : Type} (p : α → Bool) (l : List α) (i : Nat) (h : i < l.length) : (l.take (i + 1)).filter p = (l.take i).filter p ++ (if p l[i] = true then [l[i]] else []) := by
 rw [show l.take (i + 1) = l.take i ++ [l[i]] by simp, List.filter_append]
 congr 1
 by_cases hp : p l[i] = true <;> simp [hp]
end Go.Vc


namespace Go.Proofs.YtbpbkmngbhgpfaaGreat
open Go Go.Vc Go.RowKit
def wv (w : zad) : Int := w.1 * 18446744073709551616 + w.2.1
def wOk (w : zad) : Prop := (-9223372036854775808 ≤ w.1 ∧ w.1 ≤ 9223372036854775807) ∧ (0 ≤ w.2.1 ∧ w.2.1 < 18446744073709551616)
def wide (z : Int) : zad := (z / 18446744073709551616, z % 18446744073709551616, ())
def In128 (z : Int) : Prop := -170141183460469231731687303715884105728 ≤ z ∧ z < 170141183460469231731687303715884105728
instance (z : Int) : Decidable (In128 z) := by unfold In128; infer_instance
theorem zku (z : Int) : wv (wide z) = z := by unfold wide wv; simp only; omega
theorem wv_in (w : zad) (h : wOk w) : In128 (wv w) := by unfold wOk at h; unfold In128 wv; omega
theorem zkx (z : Int) (h : In128 z) : wOk (wide z) := by unfold In128 at h; unfold wOk wide; simp only; omega
theorem wide_inj {a b : Int} (h : wide a = wide b) : a = b := by rw [← zku a, h, zku]
theorem shr63 (n : Int) (h : -9223372036854775808 ≤ n ∧ n ≤ 9223372036854775807) : n.fdiv (2 ^ min (Int.toNat 63) IntKind.i64.bits) = n / 18446744073709551616 := by
 have e : (2 : Int) ^ min (Int.toNat 63) IntKind.i64.bits = 9223372036854775808 := by decide +kernel
 rw [e, Int.fdiv_eq_ediv_of_nonneg _ (by omega)]; omega
def fit (z : Int) : zad × Int × Unit := if In128 z then (wide z, 0, ()) else ((0, 0, ()), 7, ())
def I64 (n : Int) : Prop := -9223372036854775808 ≤ n ∧ n ≤ 9223372036854775807
theorem zpd {n : Int} (h : I64 n) : In128 n := by unfold I64 at h; unfold In128; omega
theorem r_wOf (n : Int) (h : I64 n) : zhr n = some (wide n) := by
 show zvh stdW n = _
 unfold zvh
 rw [nn_w (by omega), shr63 n h, IntKind.wrap_u64]; rfl
def totT (V : Int) : Int × Int × Int × Unit := (V / 340282366920938463463374607431768211456, IntKind.i64.wrap (V / 18446744073709551616), V % 18446744073709551616, ())
def InTot (V : Int) : Prop := -1569275433846670190958947355801916604025588861116008628224 ≤ V ∧ V < 1569275433846670190958947355801916604025588861116008628224
theorem wrap_wrap_u (z : Int) : IntKind.u64.wrap (IntKind.i64.wrap z) = z % 18446744073709551616 := by
 rw [IntKind.wrap_u64, IntKind.wrap_i64]; omega
theorem zsi (z : Int) : IntKind.i64.wrap (z % 18446744073709551616) = IntKind.i64.wrap z := by
 rw [IntKind.wrap_i64, IntKind.wrap_i64]; omega
theorem tot_next (V x y : Int) (hV : InTot V) (hx : -9223372036854775808 ≤ x ∧ x ≤ 9223372036854775807) (hy : 0 ≤ y ∧ y < 18446744073709551616) :
  ((IntKind.i64.wrap (V / 340282366920938463463374607431768211456 + IntKind.i64.wrap (x.fdiv (2 ^ min (Int.toNat 63) IntKind.i64.bits) + IntKind.i64.wrap ((IntKind.u64.wrap (IntKind.i64.wrap (V / 18446744073709551616)) + IntKind.u64.wrap x + (V % 18446744073709551616 + y + 0) / 18446744073709551616) / 18446744073709551616))),
   IntKind.i64.wrap ((IntKind.u64.wrap (IntKind.i64.wrap (V / 18446744073709551616)) + IntKind.u64.wrap x + (V % 18446744073709551616 + y + 0) / 18446744073709551616) % 18446744073709551616),
   (V % 18446744073709551616 + y + 0) % 18446744073709551616, ()) : Int × Int × Int × Unit) = totT (V + (x * 18446744073709551616 + y)) := by
 unfold InTot at hV
 rw [wrap_wrap_u, zsi, shr63 x hx, IntKind.wrap_u64]
 have e1 : (V + (x * 18446744073709551616 + y)) / 18446744073709551616 = V / 18446744073709551616 + x + (V % 18446744073709551616 + y + 0) / 18446744073709551616 := by omega
 have e0 : (V + (x * 18446744073709551616 + y)) / 340282366920938463463374607431768211456 = (V / 18446744073709551616 + x + (V % 18446744073709551616 + y + 0) / 18446744073709551616) / 18446744073709551616 := by omega
 have e3 : V / 340282366920938463463374607431768211456 = V / 18446744073709551616 / 18446744073709551616 := by omega
 unfold totT
 rw [e1, e0, e3]
 have hc : 0 ≤ (V % 18446744073709551616 + y + 0) / 18446744073709551616 ∧ (V % 18446744073709551616 + y + 0) / 18446744073709551616 ≤ 1 := by omega
 generalize (V % 18446744073709551616 + y + 0) / 18446744073709551616 = c at *
 have hu : -92233720368547758080000000000000000000 ≤ V / 18446744073709551616 ∧ V / 18446744073709551616 < 92233720368547758080000000000000000000 := by omega
 generalize V / 18446744073709551616 = u at *
 have f1 : (V + (x * 18446744073709551616 + y)) % 18446744073709551616 = (V % 18446744073709551616 + y + 0) % 18446744073709551616 := by omega
 rw [f1]
 have g2 : (u % 18446744073709551616 + x % 18446744073709551616 + c) / 18446744073709551616 ≤ 2 ∧ 0 ≤ (u % 18446744073709551616 + x % 18446744073709551616 + c) / 18446744073709551616 := by omega
 have g1 : IntKind.i64.wrap ((u % 18446744073709551616 + x % 18446744073709551616 + c) / 18446744073709551616) = (u % 18446744073709551616 + x % 18446744073709551616 + c) / 18446744073709551616 := IntWalk.i64_in _ (by omega)
 rw [g1]
 have g3 : IntKind.i64.wrap (x / 18446744073709551616 + (u % 18446744073709551616 + x % 18446744073709551616 + c) / 18446744073709551616) = x / 18446744073709551616 + (u % 18446744073709551616 + x % 18446744073709551616 + c) / 18446744073709551616 := IntWalk.i64_in _ (by omega)
 rw [g3]
 have g4 : u / 18446744073709551616 + (x / 18446744073709551616 + (u % 18446744073709551616 + x % 18446744073709551616 + c) / 18446744073709551616) = (u + x + c) / 18446744073709551616 := by omega
 rw [g4]
 have g5 : IntKind.i64.wrap ((u + x + c) / 18446744073709551616) = (u + x + c) / 18446744073709551616 := IntWalk.i64_in _ (by omega)
 rw [g5]
 have g6 : IntKind.i64.wrap (u % 18446744073709551616 + x % 18446744073709551616 + c) = IntKind.i64.wrap (u + x + c) := by rw [IntKind.wrap_i64, IntKind.wrap_i64]; omega
 rw [g6]
theorem add64_is {x y c : Int} (hx : 0 ≤ x) (hy : 0 ≤ y) (hc0 : 0 ≤ c) (hc : c ≤ 1) : add64 x y c = some ((x + y + c) % 18446744073709551616, (x + y + c) / 18446744073709551616, ()) := by unfold add64; rw [if_pos ⟨hx, hy, hc0, hc⟩]
theorem zvo {x y b : Int} (hx : 0 ≤ x) (hy : 0 ≤ y) (hy2 : y < 18446744073709551616) (hb0 : 0 ≤ b) (hb : b ≤ 1) : sub64 x y b = some ((x - y - b) % 18446744073709551616, if x < y + b then 1 else 0, ()) := by unfold sub64; rw [if_pos ⟨hx, hy, hy2, hb0, hb⟩]
theorem r_tadd (V : Int) (x : zad) (hV : InTot V) (hx : wOk x) : zbp x (totT V).1 (totT V).2.1 (totT V).2.2.1 = some ((), totT (V + wv x)) := by
 unfold wOk at hx
 show zed stdW x (V / 340282366920938463463374607431768211456) (IntKind.i64.wrap (V / 18446744073709551616)) (V % 18446744073709551616) = _
 unfold zed wv
 rw [← tot_next V x.1 x.2.1 hV hx.1 hx.2]
 have hV' := hV
 unfold InTot at hV'
 rw [zaa (add64_is (by omega) (by omega) (by omega) (by omega)), zaa (add64_is (by rw [IntKind.wrap_u64]; omega) (by rw [IntKind.wrap_u64]; omega) (by show 0 ≤ (V % 18446744073709551616 + x.2.1 + 0) / 18446744073709551616; omega) (by show (V % 18446744073709551616 + x.2.1 + 0) / 18446744073709551616 ≤ 1; omega)), nn_w (by omega)]
theorem tot_fits (V : Int) (hV : InTot V) : (V / 340282366920938463463374607431768211456 == (IntKind.i64.wrap (V / 18446744073709551616)).fdiv (2 ^ min (Int.toNat 63) IntKind.i64.bits)) = decide (In128 V) := by
 have hr : -9223372036854775808 ≤ IntKind.i64.wrap (V / 18446744073709551616) ∧ IntKind.i64.wrap (V / 18446744073709551616) ≤ 9223372036854775807 := by
  rw [IntKind.wrap_i64]; omega
 rw [shr63 _ hr]
 unfold InTot at hV
 by_cases h : In128 V
 ·rw [decide_eq_true h]
  unfold In128 at h
  rw [IntWalk.i64_in _ (by omega)]
  first | (simp; done) | (simp; omega) | skip
 ·rw [decide_eq_false h]
  unfold In128 at h
  rw [IntKind.wrap_i64]
  simp; omega
theorem r_ranged (w : zad) (ok : Bool) : zdr w ok = some (if ok = true then (w, 0, ()) else ((0, 0, ()), 7, ())) := by
 show zgw stdW w ok = _
 unfold zgw
 cases ok <;> rfl
theorem r_tdone (V : Int) (hV : InTot V) : zcv (totT V).1 (totT V).2.1 (totT V).2.2.1 = some (fit V, totT V) := by
 show zdl stdW _ _ _ = _
 unfold zdl
 rw [nn_w (by omega), zaa (r_ranged _ _)]
 have := tot_fits V hV
 show some ((if (V / 340282366920938463463374607431768211456 == (IntKind.i64.wrap (V / 18446744073709551616)).fdiv (2 ^ min (Int.toNat 63) IntKind.i64.bits)) = true then _ else _), _) = _
 rw [this]
 unfold fit
 by_cases h : In128 V
 ·rw [if_pos (decide_eq_true h), if_pos h]
  have e : IntKind.i64.wrap (V / 18446744073709551616) = V / 18446744073709551616 := by unfold In128 at h; exact IntWalk.i64_in _ (by omega)
  show some (((IntKind.i64.wrap (V / 18446744073709551616), V % 18446744073709551616, ()), 0, ()), _) = _
  rw [e]; rfl
 ·rw [decide_eq_false h, if_neg (by simp), if_neg h]
def sumW (l : List zad) : Int := (l.map wv).sum
theorem sumW_in : ∀ (l : List zad), (∀ w ∈ l, wOk w) → -(170141183460469231731687303715884105728 * (l.length : Int)) ≤ sumW l ∧ sumW l ≤ 170141183460469231731687303715884105728 * (l.length : Int)
 | [], _ => by simp [sumW]
 | x :: l, h => by
  have h1 := wv_in x (h x (by simp))
  have h2 := sumW_in l fun w hw => h w (by simp [hw])
  unfold In128 at h1
  simp only [sumW, List.map_cons, List.sum_cons, List.length_cons] at h2 ⊢
  omega
theorem sumW_tot (l : List zad) (h : ∀ w ∈ l, wOk w) (hl : l.length < 9223372036854775807) : InTot (sumW l) := by
 have := sumW_in l h
 unfold InTot; omega
theorem sumW_app (a b : List zad) : sumW (a ++ b) = sumW a + sumW b := by unfold sumW; simp
theorem sumW_one (a : zad) : sumW [a] = wv a := by unfold sumW; simp
theorem sumW_take (l : List zad) (i : Nat) (h : i < l.length) : sumW (l.take (i + 1)) = sumW (l.take i) + wv l[i] := by
 rw [show l.take (i + 1) = l.take i ++ [l[i]] by simp, sumW_app, sumW_one]
theorem r_wAdd (l : List zad) (h : ∀ w ∈ l, wOk w) (hl : l.length < 9223372036854775807) : zvj l = some (fit (sumW l)) := by
 show zps stdW l = _
 unfold zps
 refine zcz (l := l) (by omega) (fun i s => s = totT (sumW (l.take i))) (fun _ _ => some (fit (sumW l))) (by simp [sumW]; rfl) ?_ ?_
 ·rintro _ again rfl
  rw [List.take_length, zbg, zaa (r_tdone _ (sumW_tot l h hl))]
 ·rintro i hi _ rfl again ha
  rw [cnd_lt hi, idx_w hi, zaa (r_tadd _ _ (sumW_tot _ (fun w hw => h w (List.mem_of_mem_take hw)) (by rw [List.length_take]; omega)) (h _ (List.getElem_mem hi)))]
  dsimp only
  rw [i64_s i (by omega)]
  exact ha _ (by rw [sumW_take l i hi])
end Go.Proofs.YtbpbkmngbhgpfaaGreat

namespace Go.Proofs.YtbpbkmngbhgpfaaGreat
open Go Go.Vc Go.RowKit
theorem r_neg {a : BigT} (h : Nb a) (la : a.2.1.length ≤ 1000) : zel a = some (big (-(bv a))) := by
 show zmx stdW a = _
 unfold zmx
 rw [zaa (r_trim (nb_nrm h).bits la), neg_is]
theorem r_sub {a b : BigT} (ha : Nb a) (hb : Nb b) (la : a.2.1.length ≤ 900) (lb : b.2.1.length ≤ 900) : zif a b = some (big (bv a - bv b)) := by
 show zmw stdW a b = _
 unfold zmw
 have e : ∀ z : BigT, (z.1, (z.2.1, ())) = z := fun z => rfl
 rw [e, e, zaa (r_neg hb (by omega)), e, zaa (r_add ha (nb_big _) la (by rw [neg_len hb]; exact lb)), e, bv_big]
 congr 2
theorem r_cmp {a b : BigT} (ha : Nb a) (hb : Nb b) (la : a.2.1.length ≤ 900) (lb : b.2.1.length ≤ 900) : zll a b = some (if bv a - bv b = 0 then 0 else if bv a - bv b < 0 then -1 else 1) := by
 show zna stdW a b = _
 unfold zna
 have e : ∀ z : BigT, (z.1, (z.2.1, ())) = z := fun z => rfl
 rw [e, e, zaa (r_sub ha hb la lb)]
 by_cases h : bv a - bv b = 0
 ·rw [cnd_y (by have := (big_len0 (bv a - bv b)).2 h; simp [this]), if_pos h]
 ·rw [cnd_n (by have := mt (big_len0 (bv a - bv b)).1 h; simpa using this), if_neg h, cnd_b]
  show (if decide (bv a - bv b < 0) = true then _ else _) = _
  by_cases h2 : bv a - bv b < 0
  ·rw [if_pos (by simpa using h2), if_pos h2]
  ·rw [if_neg (by simpa using h2), if_neg h2]
theorem r_of {n : Int} (h : I64 n) : zcl n = some (big n) := by
 show zqx stdW n = _
 unfold I64 at h
 unfold zqx
 by_cases h0 : 0 ≤ n
 ·rw [cnd_y (decide_eq_true h0), u64_id n (by omega)]
  obtain ⟨m, rfl⟩ := Int.eq_ofNat_of_zero_le h0
  rw [zaa (r_nat m (by omega)), bigS_f]
 ·rw [cnd_n (decide_eq_false h0), of_neg (by omega) (by omega)]
  obtain ⟨m, hm⟩ := Int.eq_ofNat_of_zero_le (show 0 ≤ -(n + 1) by omega)
  rw [hm, zaa (r_nat m (by omega))]
  have hl : (bitsOf m).length ≤ 1000 := bits_len_le (show m < 2 ^ 64 by omega) (by omega)
  show stdW.call (zeb (bitsOf m) [1]) _ = _
  rw [zaa (r_plus (nrm_bits m) nrm1 hl (by simp)), of_negB (by omega) (by omega) hm.symm]
  rfl
theorem zfa {z : Int} (h : -170141183460469231731687303715884105728 ≤ z ∧ z ≤ 170141183460469231731687303715884105728) : (big z).2.1.length ≤ 200 := by
 refine len_big z ?_
 have : (2 : Nat) ^ 200 = 1606938044258990275541962092341162602522202993782792835301376 := by decide
 omega
end Go.Proofs.YtbpbkmngbhgpfaaGreat

namespace Go.Proofs.YtbpbkmngbhgpfaaGreat
open Go Go.Vc Go.RowKit
theorem valB_drop_le (xs : List Int) (i : Nat) (h : i ≤ xs.length) : valB (xs.drop i) ≤ valB xs := by
 have h1 := zso xs i h
 have h2 : valB (xs.drop i) ≤ 2 ^ i * valB (xs.drop i) := Nat.le_mul_of_pos_left _ (Nat.two_pow_pos i)
 omega
theorem r_int {z : Int} (h : I64 z) : zcy (big z) = some z := by
 unfold I64 at h
 show zmz stdW (big z) = _
 unfold zmz
 have hb : bitL (big z).2.1 := zmg _
 have hv : valB (big z).2.1 = z.natAbs := zfd _
 have hl : (big z).2.1.length ≤ 64 := zsd 64 _ (by omega)
 have hs : (big z).1 = decide (z < 0) := rfl
 generalize (big z).1 = sg at *
 generalize (big z).2.1 = xs at *
 refine (zdd (fun z => z.2.1.toNat) (fun y => ∃ i : Nat, i ≤ xs.length ∧ y = ((if z < 0 then -((valB (xs.drop i) : Nat) : Int) else ((valB (xs.drop i) : Nat) : Int)), ((i : Int), ()))) (fun _ => some z) ⟨xs.length, Nat.le_refl _, by simp [valB]⟩ (by show ((xs.length : Nat) : Int).toNat < _; omega) ?_)
 rintro _ ⟨i, hi, rfl⟩ again ha
 show stdW.cnd (decide ((0 : Int) < ((i : Nat) : Int))) _ _ = _
 by_cases h0 : i = 0
 ·subst h0
  rw [cnd_n (c := decide ((0 : Int) < ((0 : Nat) : Int))) rfl, List.drop_zero, hv]
  congr 1; split <;> omega
 ·have hm : i - 1 < xs.length := by omega
  rw [cnd_y (decide_eq_true (by omega)), join_w, zhm i (by omega) (by rw [zam]; omega)]
  have hd : xs.drop (i - 1) = xs[i - 1] :: xs.drop i := by rw [List.drop_eq_getElem_cons hm, show i - 1 + 1 = i by omega]
  have hbit := hb _ (List.getElem_mem hm)
  have hle := valB_drop_le xs (i - 1) (by omega)
  rw [hv, hd, valB] at hle
  have hx0 : 0 ≤ xs[i - 1] ∧ xs[i - 1] ≤ 1 := by rcases hbit with e | e <;> rw [e] <;> omega
  have next : ∀ n : Int, n = (if z < 0 then -((valB (xs.drop (i - 1)) : Nat) : Int) else ((valB (xs.drop (i - 1)) : Nat) : Int)) → again (n, (((i - 1 : Nat) : Int), ())) = some z := fun n hn => ha _ ⟨i - 1, by omega, by rw [hn]⟩ (by show ((i - 1 : Nat) : Int).toNat < ((i : Nat) : Int).toNat; omega)
  rw [hd, valB] at next
  by_cases hz : z < 0
  ·rw [hs, cnd_y (decide_eq_true hz), idx_w hm]
   refine next _ ?_
   rw [if_pos hz, if_pos hz, IntWalk.i64_in xs[i - 1] (by omega), IntWalk.i64_in (2 * -((valB (xs.drop i) : Nat) : Int)) (by omega), IntWalk.i64_in _ (by omega)]
   omega
  ·rw [hs, cnd_n (decide_eq_false hz), idx_w hm]
   refine next _ ?_
   rw [if_neg hz, if_neg hz, IntWalk.i64_in xs[i - 1] (by omega), IntWalk.i64_in (2 * ((valB (xs.drop i) : Nat) : Int)) (by omega), IntWalk.i64_in _ (by omega)]
   omega
def sml (z : Int) : Prop := -170141183460469231731687303715884105728 ≤ z ∧ z ≤ 170141183460469231731687303715884105728
instance (z : Int) : Decidable (I64 z) := by unfold I64; infer_instance
theorem len_lt63 (n : Nat) : (bitsOf n).length < 64 ↔ n < 9223372036854775808 := by
 constructor
 ·intro h
  have := valB_lt' (nrm_bits n) (k := 63) (by omega)
  rw [zfd] at this; simpa using this
 ·intro h
  have := zsd 63 n (by simpa using h)
  omega
theorem r_fits {z : Int} (h : sml z) : zcd (big z) = some (decide (I64 z)) := by
 unfold sml at h
 have hw : zli ((big z).1, ((big z).2.1, ())) 64 = some (decide (I64 z)) := by
  show zfy stdW (big z) 64 = _
  unfold zfy
  rw [join_w]
  by_cases hz : z < 0
  ·have hs : (big z).1 = true := decide_eq_true hz
   have e1 : zgn 1 = some (big 1) := r_nat 1 (by omega)
   have e2 : zce ((big z).1, ((big z).2.1, ())) ((big 1).1, ((big 1).2.1, ())) = some (big (z + 1)) := by
    have := r_add (nb_big z) (nb_big 1) (Nat.le_trans (zfa h) (by decide)) (Nat.le_trans (zfa (by omega)) (by decide))
    rw [bv_big, bv_big] at this; exact this
   have e3 : (decide (((big (z + 1)).2.1.length : Int) < 64)) = decide (I64 z) := by
    refine decide_eq_decide.2 ?_
    have := len_lt63 (z + 1).natAbs
    show (((bitsOf (z + 1).natAbs).length : Int) < 64) ↔ _
    unfold I64; omega
   rw [cnd_y hs, both_w, zaa e1, zaa e2]
   show some (decide _) = _
   rw [e3]
  ·have hs : (big z).1 = false := decide_eq_false hz
   rw [cnd_n hs]
   show some (decide (((bitsOf z.natAbs).length : Int) < 64)) = _
   congr 1
   refine decide_eq_decide.2 ?_
   have := len_lt63 z.natAbs
   unfold I64; omega
 show zjr stdW (big z) = _
 unfold zjr
 rw [zaa hw]
def fits64 (z : Int) : Int × Int × Unit := if I64 z then (z, 0, ()) else (0, 7, ())
theorem nif_t (c : Bool) : notIf true c = !c := by cases c <;> rfl
theorem nif_f (c : Bool) : notIf false c = c := by cases c <;> rfl
theorem r_wInt {z : Int} (h : In128 z) : zpr (wide z) = some (fits64 z) := by
 show zpq stdW (wide z) = _
 unfold zpq
 have hw : IntKind.i64.wrap (wide z).2.1 = IntKind.i64.wrap z := zsi z
 have hI : I64 (IntKind.i64.wrap z) := by unfold I64; rw [IntKind.wrap_i64]; omega
 rw [hw, zaa (r_wOf _ hI), nif_t]
 unfold fits64
 by_cases hz : I64 z
 ·have e : IntKind.i64.wrap z = z := by unfold I64 at hz; exact IntWalk.i64_in _ (by omega)
  rw [if_pos hz, e, cnd_n (by simp)]
 ·rw [if_neg hz, cnd_y ?_]
  rw [Bool.not_eq_true']
  cases hc : ((wide (IntKind.i64.wrap z)).1 == (wide z).1 && (wide (IntKind.i64.wrap z)).2.1 == (wide z).2.1) with
  | false => rfl
  | true =>
   simp only [Bool.and_eq_true, beq_iff_eq] at hc
   have : wide (IntKind.i64.wrap z) = wide z := Prod.ext hc.1 (Prod.ext hc.2 rfl)
   exact absurd (wide_inj this ▸ hI) hz
theorem r_narrow0 {z : Int} (h : In128 z) : zik (wide z) 0 = some (fits64 z) := by
 show zkd stdW (wide z) 0 = _
 unfold zkd
 rw [cnd_n (by decide), zaa (r_wInt h)]
theorem sum_in {l : List Int} (h : ∀ x ∈ l, I64 x) : -(9223372036854775808 * (l.length : Int)) ≤ l.sum ∧ l.sum ≤ 9223372036854775808 * (l.length : Int) := by
 have := sumBy_in (f := fun x : Int => x) (B := 9223372036854775808) (l := l) (fun x hx => by have := h x hx; unfold I64 at this; omega)
 simpa [sumBy] using this
theorem sumW_wide (l : List Int) : sumW (l.map wide) = l.sum := by
 unfold sumW
 rw [List.map_map]
 have : (wv ∘ wide) = id := funext zku
 rw [this, List.map_id]
theorem wides_ok {l : List Int} (h : ∀ x ∈ l, I64 x) : ∀ w ∈ l.map wide, wOk w := by
 intro w hw
 obtain ⟨x, hx, rfl⟩ := List.mem_map.1 hw
 exact zkx _ (zpd (h x hx))
theorem sum128 {l : List Int} (h : ∀ x ∈ l, I64 x) (hl : l.length ≤ 1000000) : In128 l.sum := by
 have := sum_in h; unfold In128; omega
theorem r_wSum {l : List Int} (h : ∀ x ∈ l, I64 x) (hl : l.length ≤ 1000000) : zvj (l.map wide) = some (wide l.sum, 0, ()) := by
 rw [r_wAdd _ (wides_ok h) (by rw [List.length_map]; omega), sumW_wide]
 unfold fit; rw [if_pos (sum128 h hl)]
theorem r_fSum {l : List Int} (h : ∀ x ∈ l, I64 x) (hl : l.length ≤ 1000000) : ztv l = some (fits64 l.sum) := by
 show zwl stdW l = _
 unfold zwl
 rw [nn_w (by omega), room_w (by simp; omega) (by simp; omega)]
 refine loop_n (N := l.length) (by omega) (fun i s => s = ((l.take i).map wide, ())) (some (fits64 l.sum)) rfl ?_ ?_
 ·rintro _ again rfl
  rw [zbg, List.take_length, zaa (r_wSum h hl), zaa (r_narrow0 (sum128 h hl))]
 ·rintro i hi _ rfl again ha
  rw [cnd_lt hi, idx_w hi, zaa (r_wOf _ (h _ (List.getElem_mem hi))), i64_s i (by omega), room_w (by simp; omega) (by simp; omega)]
  refine ha _ ?_
  rw [List.take_succ_eq_append_getElem hi, List.map_append]; rfl
end Go.Proofs.YtbpbkmngbhgpfaaGreat

namespace Go.Proofs.YtbpbkmngbhgpfaaGreat
open Go Go.Vc Go.RowKit
theorem join_g {X β : Type} {k0 : X → Option β} {f : (X → Option β) → Option β} {r : Option β} (h : ∀ k, k = k0 → f k = r) : stdW.join k0 f = r := h k0 rfl
theorem r_lessA (a b : AUnit') : zis a b = some (decide (ltA a b)) := by
 show zof stdW a b = _
 unfold zof
 by_cases h : a.1 = b.1
 ·rw [cnd_n (by simp [h])]
  congr 1; refine decide_eq_decide.2 ?_; unfold ltA; omega
 ·rw [cnd_y (by simp [h])]
  congr 1; refine decide_eq_decide.2 ?_; unfold ltA; omega
theorem zvv (a b : AUnit') : zdy a b = some (decide (ltA a b)) := by
 show zjg stdW a b = _
 unfold zjg
 by_cases h1 : a.1 < b.1
 ·rw [cnd_y (decide_eq_true h1), decide_eq_true (by unfold ltA; omega)]
 ·rw [cnd_n (decide_eq_false h1)]
  by_cases h : a.1 = b.1
  ·rw [cnd_y (by simp [h])]
   congr 1; refine decide_eq_decide.2 ?_; unfold ltA; omega
  ·rw [cnd_n (by simp [h]), decide_eq_false (by unfold ltA; omega)]
def PInv (l : List AFlow') : Prop := (∀ x ∈ l, x.2.1 ≠ 0) ∧ SrtA (l.map (·.1))
instance (l : List AFlow') : Decidable (PInv l) := by unfold PInv SrtA; infer_instance
def isP (l : List AFlow') : Bool := decide (PInv l)
theorem isP_bad0 {l : List AFlow'} {i : Nat} (hi : i < l.length) (h : l[i].2.1 = 0) : isP l = false :=
 decide_eq_false fun hp => hp.1 _ (List.getElem_mem hi) h
theorem isP_bad1 {l : List AFlow'} {i : Nat} (hi : i < l.length) (h0 : 0 < i) (h : ¬ ltA (l[i - 1]'(by omega)).1 l[i].1) : isP l = false :=
 decide_eq_false fun hp => h (by
  have := List.pairwise_iff_getElem.1 hp.2 (i - 1) i (by simp; omega) (by simpa using hi) (by omega)
  simpa using this)
theorem zwd {l : List AFlow'} {i : Nat} (hi : i < l.length) (inv : PInv (l.take i)) (h1 : l[i].2.1 ≠ 0) (h2 : ∀ h0 : 0 < i, ltA (l[i - 1]'(by omega)).1 l[i].1) : PInv (l.take (i + 1)) := by
 rw [List.take_succ_eq_append_getElem hi]
 refine ⟨fun x hx => ?_, ?_⟩
 ·rcases List.mem_append.1 hx with hx | hx
  ·exact inv.1 x hx
  ·simp at hx; rw [hx]; exact h1
 ·show SrtA ((l.take i ++ [l[i]]).map (·.1))
  rw [List.map_append]
  refine List.pairwise_append.2 ⟨inv.2, by simp, fun a ha b hb => ?_⟩
  simp only [List.map_cons, List.map_nil, List.mem_singleton] at hb
  subst hb
  obtain ⟨k, hk, hka⟩ := List.mem_iff_getElem.1 ha
  have hk' : k < i := by simp at hk; omega
  have h3 := h2 (by omega)
  by_cases hki : k = i - 1
  ·subst hki; rw [← hka]; simpa using h3
  ·have h4 := List.pairwise_iff_getElem.1 inv.2 k (i - 1) (by simpa using hk) (by simp; omega) (by omega)
   rw [hka] at h4
   refine ltA_tr h4 ?_
   simpa using h3
theorem isP_end {l : List AFlow'} (h : PInv (l.take l.length)) : isP l = true := by rw [List.take_length] at h; exact decide_eq_true h
theorem r_is {l : List AFlow'} (hl : l.length ≤ 1000000) : zrb l = some (isP l) := by
 show zra stdW l = _
 unfold zra
 refine loop_n (N := l.length) (by omega) (fun i _ => PInv (l.take i)) (some (isP l)) (by simp [PInv]) ?_ ?_
 ·rintro _ again h
  rw [zbg, isP_end h]
 ·rintro i hi _ inv again ha
  rw [cnd_lt hi, idx_w hi]
  refine join_g fun k hk => ?_
  have kt : k (true, ()) = some false := by subst hk; rfl
  have kf : k (false, ()) = again (((i + 1 : Nat) : Int), ()) := by rw [← i64_s i (by omega)]; subst hk; rfl
  clear hk
  by_cases h1 : l[i].2.1 = 0
  ·rw [cnd_y (by simpa using h1), kt, isP_bad0 hi h1]
  ·rw [cnd_n (by simpa using h1)]
   by_cases h0 : 0 < i
   ·rw [cnd_y (decide_eq_true (by omega)), zhm i h0 (by rw [zam]; omega), idx_w (by omega), zaa (r_lessA _ _)]
    by_cases h2 : ltA (l[i - 1]'(by omega)).1 l[i].1
    ·rw [decide_eq_true h2]
     exact kf.trans (ha _ (zwd hi inv h1 fun _ => h2))
    ·rw [decide_eq_false h2, isP_bad1 hi h0 h2]; exact kt
   ·rw [cnd_n (decide_eq_false (by omega))]
    exact kf.trans (ha _ (zwd hi inv h1 fun h => absurd h h0))
theorem r_is17 {l : List AFlow'} (hl : l.length ≤ 1000000) : zvu l = some (isP l) := by
 show zqo stdW l = _
 unfold zqo
 refine loop_n (N := l.length) (by omega) (fun i _ => PInv (l.take i)) (some (isP l)) (by simp [PInv]) ?_ ?_
 ·rintro _ again h
  rw [zbg, isP_end h]
 ·rintro i hi _ inv again ha
  rw [cnd_lt hi]
  refine join_g fun k hk => ?_
  have kt : k (true, ()) = some false := by subst hk; rfl
  have kf : k (false, ()) = again (((i + 1 : Nat) : Int), ()) := by rw [← i64_s i (by omega)]; subst hk; rfl
  clear hk
  rw [idx_w hi]
  by_cases h1 : l[i].2.1 = 0
  ·rw [cnd_y (by simpa using h1), kt, isP_bad0 hi h1]
  ·rw [cnd_n (by simpa using h1)]
   by_cases h0 : 0 < i
   ·rw [cnd_y (decide_eq_true (by omega)), zhm i h0 (by rw [zam]; omega), idx_w (by omega), idx_w hi, zaa (zvv _ _)]
    by_cases h2 : ltA (l[i - 1]'(by omega)).1 l[i].1
    ·rw [decide_eq_true h2]
     exact kf.trans (ha _ (zwd hi inv h1 fun _ => h2))
    ·rw [decide_eq_false h2, isP_bad1 hi h0 h2]; exact kt
   ·rw [cnd_n (decide_eq_false (by omega))]
    exact kf.trans (ha _ (zwd hi inv h1 fun h => absurd h h0))
theorem eqA (a b : AUnit') : (a.1 == b.1 && a.2.1 == b.2.1) = decide (a = b) := by
 by_cases h : a = b
 ·subst h; simp
 ·rw [decide_eq_false h]
  cases hc : (a.1 == b.1 && a.2.1 == b.2.1) with
  | false => rfl
  | true => simp only [Bool.and_eq_true, beq_iff_eq] at hc; exact absurd (extA hc.1 hc.2) h
def getP : List AFlow' → AUnit' → Int
 | [], _ => 0
 | x :: l, u => if x.1 = u then x.2.1 else getP l u
theorem r_get {l : List AFlow'} {u : AUnit'} (hl : l.length ≤ 1000000) : zig l u = some (getP l u) := by
 show znh stdW l u = _
 unfold znh
 refine zcz (l := l) (by omega) (fun _ _ => True) (fun l _ => some (getP l u)) trivial ?_ ?_
 ·rintro _ again _
  rw [zbg]; rfl
 ·rintro i hi _ _ again ha
  rw [cnd_lt hi, idx_w hi, nif_f, eqA]
  unfold getP
  by_cases h : l[i].1 = u
  ·rw [cnd_y (decide_eq_true h), if_pos h]
  ·rw [cnd_n (decide_eq_false h), if_neg h, i64_s i (by omega)]
   exact ha _ trivial
def amt (x : AFlow') : Int := x.2.1
def okF (l : List AFlow') : Prop := ∀ x ∈ l, I64 (amt x)
theorem okF.take {l : List AFlow'} (h : okF l) (i : Nat) : okF (l.take i) := fun x hx => h x (List.mem_of_mem_take hx)
theorem r_addB {a b : Int} (ha : sml a) (hb : sml b) : zce (big a) (big b) = some (big (a + b)) := by
 unfold sml at *
 have := r_add (nb_big a) (nb_big b) (Nat.le_trans (zfa ha) (by decide)) (Nat.le_trans (zfa hb) (by decide))
 rwa [bv_big, bv_big] at this
theorem big0 : big 0 = (false, ([], ())) := by unfold big; simp [bits0]
theorem i64_sml {n : Int} (h : I64 n) : sml n := by unfold I64 at h; unfold sml; omega
end Go.Proofs.YtbpbkmngbhgpfaaGreat

namespace Go.Proofs.YtbpbkmngbhgpfaaGreat
open Go Go.Vc Go.RowKit
def ofFlow (u : AUnit') (x : AFlow') : Bool := decide (x.1 = u)
def amts (l : List AFlow') (u : AUnit') : List Int := (l.filter (ofFlow u)).map amt
def sumU (l : List AFlow') (u : AUnit') : Int := (amts l u).sum
theorem amts_len (l : List AFlow') (u : AUnit') : (amts l u).length ≤ l.length := by
 unfold amts; rw [List.length_map]; exact List.length_filter_le _ _
theorem amts_ok {l : List AFlow'} (h : okF l) (u : AUnit') : ∀ x ∈ amts l u, I64 x := by
 intro x hx
 obtain ⟨y, hy, rfl⟩ := List.mem_map.1 hx
 exact h y (List.mem_filter.1 hy).1
theorem amts_take (l : List AFlow') (u : AUnit') (i : Nat) (h : i < l.length) : amts (l.take (i + 1)) u = amts (l.take i) u ++ (if l[i].1 = u then [l[i].2.1] else []) := by
 unfold amts
 rw [filter_take _ _ _ h, List.map_append]
 unfold ofFlow
 by_cases hu : l[i].1 = u <;> simp [hu, amt]
theorem r_amounts {l : List AFlow'} {u : AUnit'} (hl : l.length ≤ 1000000) : zjt l u = some (amts l u) := by
 show zez stdW l u = _
 unfold zez
 refine loop_n (N := l.length) (by omega) (fun i s => s = (amts (l.take i) u, ())) (some (amts l u)) rfl ?_ ?_
 ·rintro _ again rfl
  rw [zbg, List.take_length]
 ·rintro i hi _ rfl again ha
  rw [cnd_lt hi]
  refine join_g fun k hk => ?_
  have kk : ∀ v : List Int, k (v, ()) = again (((i + 1 : Nat) : Int), (v, ())) := by intro v; rw [← i64_s i (by omega)]; subst hk; rfl
  clear hk
  have hlen := amts_len (l.take i) u
  rw [List.length_take] at hlen
  rw [idx_w hi, nif_f, eqA]
  by_cases h : l[i].1 = u
  ·rw [cnd_y (decide_eq_true h), room_w (by simp; omega) (by simp; omega), kk]
   refine ha _ ?_
   rw [amts_take _ _ _ hi, if_pos h]
  ·rw [cnd_n (decide_eq_false h), kk]
   refine ha _ ?_
   rw [amts_take _ _ _ hi, if_neg h, List.append_nil]
def payGo (all : List AFlow') : List AUnit' → List AFlow' → List AFlow' × Int × Unit
 | [], acc => (acc, 0, ())
 | u :: us, acc => if I64 (sumU all u) then (if sumU all u ≠ 0 then payGo all us (acc ++ [(u, sumU all u, ())]) else payGo all us acc) else ([], 7, ())
def payP (l fl : List AFlow') : List AFlow' × Int × Unit := if isP l = true then payGo (l ++ fl) (zbm (l ++ fl)) [] else ([], 3, ())
theorem zpv (l : List AFlow') : (zbm l).length ≤ l.length := by
 unfold zbm
 rw [List.length_map, srt_len]
 exact Nat.le_trans (uniq_len _) (by simp)
theorem r_pay {l fl : List AFlow'} (h : okF l) (hf : okF fl) (hl : l.length + fl.length ≤ 1000000) : zlq l fl = some (payP l fl) := by
 show zne stdW l fl = _
 unfold zne payP
 rw [zaa (r_is (by omega))]
 by_cases hp : isP l = true
 ·rw [hp, cnd_n (by decide), if_pos rfl]
  have hall : okF (l ++ fl) := fun x hx => (List.mem_append.1 hx).elim (h x) (hf x)
  have e1 : zty (l :: (fl :: [])) = some (l ++ fl) := by
   unfold zty
   rw [show (l :: (fl :: [])).flatten = l ++ fl by simp, if_pos (by rw [List.length_append]; omega)]
  have hlen : (l ++ fl).length ≤ 1000000 := by rw [List.length_append]; exact hl
  have e2 : namedO (l ++ fl) = some (zbm (l ++ fl)) := by unfold namedO; rw [if_pos (by omega)]
  rw [zaa e1, zaa e2]
  have hul := zpv (l ++ fl)
  generalize l ++ fl = all at *
  generalize zbm all = us at *
  refine zcz (l := us) (by omega) (fun i (s : List AUnit' × List AFlow' × Unit) => s.1 = us ∧ s.2.1.length ≤ i) (fun us' (s : List AUnit' × List AFlow' × Unit) => some (payGo all us' s.2.1)) ⟨rfl, Nat.le_refl _⟩ ?_ ?_
  ·rintro ⟨_, acc, ⟨⟩⟩ again ⟨rfl, _⟩
   rw [zbg]; rfl
  ·rintro i hi ⟨us', acc, ⟨⟩⟩ ⟨hus, hacc⟩ again ha
   have hus : us = us' := hus.symm
   subst hus
   simp only at hacc
   rw [cnd_lt hi]
   refine join_g fun k hk => ?_
   have kk : ∀ v : List AFlow', k (us, (v, ())) = again (((i + 1 : Nat) : Int), (us, (v, ()))) := by intro v; rw [← i64_s i (by omega)]; subst hk; rfl
   clear hk
   show stdW.idx us (i : Int) _ = _
   rw [idx_w hi]
   show stdW.nth us (Int.toNat (i : Int)) _ = _
   rw [nth_w hi, zaa (r_amounts hlen)]
   show _ = some (payGo all (us[i] :: us.drop (i + 1)) acc)
   rw [payGo]
   have e3 := r_fSum (amts_ok hall us[i]) (Nat.le_trans (amts_len _ _) hlen)
   change ztv (amts all us[i]) = some (if I64 (sumU all us[i]) then (sumU all us[i], 0, ()) else (0, 7, ())) at e3
   by_cases hI : I64 (sumU all us[i])
   ·rw [if_pos hI] at e3
    rw [if_pos hI, zaa e3]
    show stdW.cnd ((0 : Int) != 0) _ (stdW.cnd (sumU all us[i] != 0) (stdW.room (acc.length + 1) 24 (k (us, (acc ++ [(us[i], sumU all us[i], ())], ())))) (k (us, (acc, ())))) = _
    rw [cnd_n (by decide)]
    by_cases h0 : sumU all us[i] = 0
    ·rw [if_neg (by simp [h0]), cnd_n (by simp [h0])]
     exact (kk acc).trans (ha _ ⟨rfl, by simp only; omega⟩)
    ·rw [if_pos h0, cnd_y (by simp [h0]), room_w (by omega) (by omega)]
     exact (kk (acc ++ [(us[i], sumU all us[i], ())])).trans (ha _ ⟨rfl, by simp; omega⟩)
   ·rw [if_neg hI] at e3
    rw [if_neg hI, zaa e3]
    show stdW.cnd ((7 : Int) != 0) (some ([], (7, ()))) _ = _
    rw [cnd_y (by decide)]
 ·have hp : isP l = false := by simpa using hp
  rw [hp, cnd_y (by decide), if_neg (by simp)]
end Go.Proofs.YtbpbkmngbhgpfaaGreat

namespace Go.Proofs.YtbpbkmngbhgpfaaGreat
open Go Go.Vc Go.RowKit
theorem eqF (a b : AFlow') : (a.1.1 == b.1.1 && (a.1.2.1 == b.1.2.1 && a.2.1 == b.2.1)) = decide (a = b) := by
 by_cases h : a = b
 ·subst h; simp
 ·rw [decide_eq_false h]
  cases hc : (a.1.1 == b.1.1 && (a.1.2.1 == b.1.2.1 && a.2.1 == b.2.1)) with
  | false => rfl
  | true =>
   simp only [Bool.and_eq_true, beq_iff_eq] at hc
   exact absurd (Prod.ext (extA hc.1 hc.2.1) (Prod.ext hc.2.2 rfl)) h
theorem r_same {a : List AFlow'} (hl : a.length ≤ 1000000) : zta a a = some true := by
 show zjf stdW a a = _
 unfold zjf
 rw [cnd_n (by simp)]
 refine loop_n (N := a.length) (by omega) (fun _ _ => True) (some true) trivial ?_ ?_
 ·rintro _ again _
  rw [zbg]
 ·rintro i hi _ _ again ha
  rw [cnd_lt hi, idx_w hi, idx_w hi, nif_t, eqF, cnd_n (by simp), i64_s i (by omega)]
  exact ha _ trivial
theorem zyk (all : List AFlow') : ∀ (us : List AUnit') (acc : List AFlow'), (payGo all us acc).1.length ≤ acc.length + us.length
 | [], acc => by simp [payGo]
 | u :: us, acc => by
  unfold payGo
  split
  ·split
   ·have := zyk all us (acc ++ [(u, sumU all u, ())]); simp at this ⊢; omega
   ·have := zyk all us acc; simp at this ⊢; omega
  ·simp
theorem payP_len (l f : List AFlow') : (payP l f).1.length ≤ l.length + f.length := by
 unfold payP
 split
 ·have := zyk (l ++ f) (zbm (l ++ f)) []
  have h2 := zpv (l ++ f)
  simp at this h2 ⊢; omega
 ·simp
theorem r_few17 (l : List AFlow') (hl : l.length ≤ 9223372036854775807) : zza l = some (l.take 20) := by
 show znr stdW l = _
 unfold znr
 by_cases h : 20 < l.length
 ·rw [cnd_y (decide_eq_true (by omega)), bnd_w (by omega) (by omega)]; rfl
 ·rw [cnd_n (decide_eq_false (by omega)), List.take_of_length_le (by omega)]
end Go.Proofs.YtbpbkmngbhgpfaaGreat

namespace Go.Proofs.YtbpbkmngbhgpfaaGreat
open Go Go.Vc Go.RowKit
theorem loop_at {X β : Type} {N : Nat} (hN : N < 9223372036854775808) {f : X → (X → Option β) → Option β} (st : Nat → X) (r : Option β)
  (hend : ∀ again : X → Option β, f (st N) again = r) (hstep : ∀ i, i < N → ∀ again : X → Option β, again (st (i + 1)) = r → f (st i) again = r) : stdW.loop f (st 0) = r := by
 have key : ∀ n i, i ≤ N → N - i < n → loopF n f (st i) = r := by
  intro n
  induction n with
  | zero => intro i _ h; omega
  | succ n ih =>
   intro i hi hn
   show f (st i) (loopF n f) = r
   by_cases h : i < N
   ·exact hstep i h _ (ih (i + 1) (by omega) (by omega))
   ·have : i = N := by omega
    subst this; exact hend _
 show loopF FU f (st 0) = r
 exact key FU 0 (Nat.zero_le _) (by rw [FU_eq]; omega)
def insL (l : List AFlow') : List AUnit' := l.foldl (fun a x => insA x.1 a) []
theorem insL_srt (l : List AFlow') : SrtA (insL l) := (ins_all l [] List.Pairwise.nil).1
theorem insL_units (l : List AFlow') : insL l = zbm l := ins_units l
theorem insL_len (l : List AFlow') : (insL l).length ≤ l.length := by rw [insL_units]; exact zpv l
theorem insL_step (l : List AFlow') (i : Nat) (h : i < l.length) : insL (l.take (i + 1)) = insA l[i].1 (insL (l.take i)) := by
 unfold insL
 rw [List.take_succ_eq_append_getElem h, List.foldl_append]; rfl
theorem r_units {l : List AFlow'} (hl : l.length ≤ 1000000) : zor l = some (zbm l) := by
 show zha stdW l = _
 unfold zha
 refine loop_at (N := l.length) (by omega) (fun i => (insL (l.take i), ((i : Int), ()))) (some (zbm l)) ?_ ?_
 ·intro again
  show stdW.cnd (decide ((l.length : Int) < (l.length : Int))) _ _ = _
  rw [zbg, List.take_length, insL_units]
 ·intro i hi again ha
  show stdW.cnd (decide ((i : Int) < (l.length : Int))) _ _ = _
  rw [cnd_lt hi]
  refine join_g fun k hk => ?_
  have kk : k (insL (l.take (i + 1)), ()) = some (zbm l) := by
   subst hk
   show again (insL (l.take (i + 1)), (IntKind.i64.wrap ((i : Int) + 1), ())) = _
   rw [i64_s i (by omega)]; exact ha
  clear hk ha
  show stdW.idx l (i : Int) _ = _
  rw [idx_w hi]
  rw [insL_step l i hi] at kk
  have hs := insL_srt (l.take i)
  have hlen : (insL (l.take i)).length ≤ 1000000 := Nat.le_trans (insL_len _) (by rw [List.length_take]; omega)
  generalize insL (l.take i) = out at *
  generalize l[i].1 = u at *
  refine loop_at (N := out.length) (by omega) (fun j => ((((lowU u (out.take j)).length : Nat) : Int), (decide (u ∈ out.take j), ((j : Int), ())))) (some (zbm l)) ?_ ?_
  ·intro again2
   show stdW.cnd (decide ((out.length : Int) < (out.length : Int))) _ (stdW.cnd (!decide (u ∈ out.take out.length)) (stdW.bnd (((lowU u (out.take out.length)).length : Nat) : Int) out.length _) (k (out, ()))) = _
   rw [zbg, List.take_length]
   obtain ⟨e1, e2⟩ := low_take hs u
   have hle : (lowU u out).length ≤ out.length := List.length_filter_le _ _
   by_cases hu : u ∈ out
   ·rw [cnd_n (by simp [hu])]
    rw [insA, if_pos hu] at kk; exact kk
   ·rw [cnd_y (by simp [hu]), bnd_w (by omega) (by omega)]
    have l1 : (out.take (lowU u out).length).length ≤ 1000000 := by rw [List.length_take]; omega
    show stdW.room (out.take (lowU u out).length).length 16 (stdW.room ((out.take (lowU u out).length).length + 1) 16 (stdW.bnd (((lowU u out).length : Nat) : Int) out.length _)) = _
    rw [room_w (by omega) (by omega), room_w (by omega) (by omega), bnd_w (by omega) (by omega)]
    show stdW.room ((out.take (lowU u out).length ++ [u]).length + (out.drop (lowU u out).length).length) 16 (k ((out.take (lowU u out).length ++ [u]) ++ out.drop (lowU u out).length, ())) = _
    rw [room_w (by simp only [List.length_append, List.length_drop, List.length_cons, List.length_nil]; omega) (by simp only [List.length_append, List.length_drop, List.length_cons, List.length_nil]; omega), e1, e2]
    rw [insA, if_neg hu] at kk
    rw [List.append_assoc]; exact kk
  ·intro j hj again2 ha2
   show stdW.cnd (decide ((j : Int) < (out.length : Int))) _ _ = _
   rw [cnd_lt hj]
   refine join_g fun k9 hk9 => ?_
   have k9k : ∀ a b, k9 (a, (b, ())) = again2 (a, (b, (((j + 1 : Nat) : Int), ()))) := by
    intro a b; rw [← i64_s j (by omega)]; subst hk9; rfl
   clear hk9
   refine join_g fun k13 hk13 => ?_
   have mem : decide (u ∈ out.take (j + 1)) = (decide (u ∈ out.take j) || decide (out[j] = u)) := by
    rw [List.take_succ_eq_append_getElem hj]
    rw [Bool.eq_iff_iff]
    simp only [decide_eq_true_eq, Bool.or_eq_true, List.mem_append, List.mem_singleton]
    exact or_congr_right ⟨fun h => h.symm, fun h => h.symm⟩
   have fin : ∀ b, b = decide (u ∈ out.take (j + 1)) → k13 (b, ()) = some (zbm l) := by
    rintro _ rfl
    subst hk13
    show stdW.idx out (j : Int) _ = _
    rw [idx_w hj, zaa (zvv _ _)]
    rw [low_step hs u j hj] at ha2
    by_cases hlt : ltA out[j] u
    ·rw [if_pos hlt] at ha2
     rw [decide_eq_true hlt, cnd_y rfl]
     show k9 (IntKind.i64.wrap ((j : Int) + 1), _) = _
     rw [i64_s j (by omega)]
     exact (k9k _ _).trans ha2
    ·rw [if_neg hlt] at ha2
     rw [decide_eq_false hlt, cnd_n rfl]
     exact (k9k _ _).trans ha2
   clear hk13
   show stdW.cnd (decide (u ∈ out.take j)) (k13 (true, ())) (stdW.idx out (j : Int) _) = _
   by_cases h1 : u ∈ out.take j
   ·rw [cnd_y (decide_eq_true h1)]
    exact fin _ (by rw [mem]; simp [h1])
   ·rw [cnd_n (decide_eq_false h1), idx_w hj, nif_f, eqA]
    exact fin _ (by rw [mem]; simp [h1])
end Go.Proofs.YtbpbkmngbhgpfaaGreat

namespace Go.Proofs.YtbpbkmngbhgpfaaGreat
open Go Go.Vc Go.RowKit
theorem zpa {X β : Type} {N : Nat} (hN : N < 9223372036854775808) {f : X → (X → Option β) → Option β} (st : Nat → X) (r : Option β) {z0 : X} (hz : z0 = st 0)
  (hend : ∀ again : X → Option β, f (st N) again = r) (hstep : ∀ i, i < N → ∀ again : X → Option β, again (st (i + 1)) = r → f (st i) again = r) : stdW.loop f z0 = r := by
 subst hz; exact loop_at hN st r hend hstep
theorem sumU_take (l : List AFlow') (u : AUnit') (i : Nat) (h : i < l.length) : sumU (l.take (i + 1)) u = sumU (l.take i) u + (if l[i].1 = u then l[i].2.1 else 0) := by
 unfold sumU
 rw [amts_take _ _ _ h, List.sum_append]
 split <;> simp
theorem sumU_sml {l : List AFlow'} (h : okF l) (u : AUnit') (hl : l.length ≤ 1000000) : sml (sumU l u) := by
 have h1 := sum_in (amts_ok h u)
 have h2 := amts_len l u
 unfold sumU sml; omega
theorem r_pay17 {l fl : List AFlow'} (h : okF l) (hf : okF fl) (hl : l.length + fl.length ≤ 1000000) : zqn l fl = some (payP l fl) := by
 show zmq stdW l fl = _
 unfold zmq payP
 rw [zaa (r_is17 (by omega))]
 by_cases hp : isP l = true
 ·rw [hp, cnd_n (by decide), if_pos rfl, room_w (by omega) (by omega), room_w (by omega) (by omega)]
  have hall : okF (l ++ fl) := fun x hx => (List.mem_append.1 hx).elim (h x) (hf x)
  have hlen : (l ++ fl).length ≤ 1000000 := by rw [List.length_append]; exact hl
  rw [zaa (r_units hlen)]
  have hul := zpv (l ++ fl)
  generalize l ++ fl = all at *
  generalize zbm all = us at *
  refine zcz (l := us) (by omega) (fun i (s : List AFlow' × Unit) => s.1.length ≤ i) (fun us' (s : List AFlow' × Unit) => some (payGo all us' s.1)) (Nat.le_refl _) ?_ ?_
  ·rintro ⟨acc, ⟨⟩⟩ again _
   rw [zbg]; rfl
  ·rintro i hi ⟨acc, ⟨⟩⟩ hacc again ha
   simp only at hacc
   rw [cnd_lt hi]
   refine join_g fun k hk => ?_
   have kk : ∀ v : List AFlow', v.length ≤ i + 1 → k (v, ()) = some (payGo all (us.drop (i + 1)) v) := by
    intro v hv
    subst hk
    show again (IntKind.i64.wrap ((i : Int) + 1), (v, ())) = _
    rw [i64_s i (by omega)]
    exact ha (v, ()) hv
   clear hk ha
   show _ = some (payGo all (us[i] :: us.drop (i + 1)) acc)
   rw [payGo]
   refine zpa (N := all.length) (by omega) (fun j => (((j : Nat) : Int), ((big (sumU (all.take j) us[i])).1, ((big (sumU (all.take j) us[i])).2.1, (acc, ()))))) _ (by rw [List.take_zero, show sumU [] us[i] = 0 from rfl, big0]; rfl) ?_ ?_
   ·intro again2
    show stdW.cnd (decide ((all.length : Int) < (all.length : Int))) _ (stdW.call (zcd (big (sumU (all.take all.length) us[i]))) _) = _
    rw [zbg, List.take_length, zaa (r_fits (sumU_sml hall us[i] hlen))]
    by_cases hI : I64 (sumU all us[i])
    ·rw [decide_eq_true hI, cnd_n (by decide), if_pos hI]
     have e := r_int hI
     show stdW.call (zcy (big (sumU all us[i]))) _ = _
     rw [zaa e]
     by_cases h0 : sumU all us[i] = 0
     ·rw [cnd_n (by simp [h0]), if_neg (by simp [h0])]
      exact kk acc (by omega)
     ·rw [cnd_y (by simp [h0]), if_pos h0]
      show stdW.idx us (i : Int) _ = _
      rw [idx_w hi, zaa e]
      show stdW.room (acc.length + 1) 24 (k (acc ++ [(us[i], sumU all us[i], ())], ())) = _
      rw [room_w (by omega) (by omega)]
      exact kk _ (by simp; omega)
    ·rw [decide_eq_false hI, cnd_y (by decide), if_neg hI]
   ·intro j hj again2 ha2
    show stdW.cnd (decide ((j : Int) < (all.length : Int))) _ _ = _
    rw [cnd_lt hj]
    refine join_g fun k2 hk2 => ?_
    have kk2 : k2 ((big (sumU (all.take (j + 1)) us[i])).1, ((big (sumU (all.take (j + 1)) us[i])).2.1, (acc, ()))) = again2 (((j + 1 : Nat) : Int), ((big (sumU (all.take (j + 1)) us[i])).1, ((big (sumU (all.take (j + 1)) us[i])).2.1, (acc, ())))) := by
     rw [← i64_s j (by omega)]; subst hk2; rfl
    rw [ha2] at kk2
    clear hk2 ha2
    show stdW.idx all (j : Int) _ = _
    rw [idx_w hj]
    show stdW.idx us (i : Int) _ = _
    rw [idx_w hi, nif_f, eqA]
    rw [sumU_take _ _ _ hj] at kk2
    by_cases hu : all[j].1 = us[i]
    ·rw [if_pos hu] at kk2
     rw [cnd_y (decide_eq_true hu)]
     show stdW.idx all (j : Int) _ = _
     have h2 : I64 all[j].2.1 := hall _ (List.getElem_mem hj)
     rw [idx_w hj, both_w, zaa (r_of h2)]
     show stdW.call (zce (big (sumU (all.take j) us[i])) (big all[j].2.1)) _ = _
     rw [zaa (r_addB (sumU_sml (hall.take j) us[i] (by rw [List.length_take]; omega)) (i64_sml h2))]
     exact kk2
    ·rw [if_neg hu, Int.add_zero] at kk2
     rw [cnd_n (decide_eq_false hu)]
     exact kk2
 ·have hp : isP l = false := by simpa using hp
  rw [hp, cnd_y (by decide), if_neg (by simp)]
end Go.Proofs.YtbpbkmngbhgpfaaGreat

namespace Go.Proofs.YtbpbkmngbhgpfaaGreat
open Go Go.Vc Go.RowKit
theorem r_cmpB {a b : Int} (ha : sml a) (hb : sml b) : zll (big a) (big b) = some (if a - b = 0 then 0 else if a - b < 0 then -1 else 1) := by
 unfold sml at *
 have := r_cmp (nb_big a) (nb_big b) (Nat.le_trans (zfa ha) (by decide)) (Nat.le_trans (zfa hb) (by decide))
 rwa [bv_big, bv_big] at this
theorem payGo_ok (all : List AFlow') : ∀ (us : List AUnit') (acc : List AFlow'), (payGo all us acc).2.1 = 0 →
  (payGo all us acc).1 = acc ++ (us.filter fun u => decide (sumU all u ≠ 0)).map (fun u => (u, sumU all u, ())) ∧ ∀ u ∈ us, I64 (sumU all u)
 | [], acc, _ => by simp [payGo]
 | u :: us, acc, h => by
  unfold payGo at h ⊢
  by_cases hI : I64 (sumU all u)
  ·rw [if_pos hI] at h ⊢
   by_cases h0 : sumU all u ≠ 0
   ·rw [if_pos h0] at h ⊢
    obtain ⟨h1, h2⟩ := payGo_ok all us _ h
    refine ⟨?_, fun x hx => ?_⟩
    ·rw [h1, List.filter_cons, if_pos (by simpa using h0)]; simp
    ·rcases List.mem_cons.1 hx with rfl | hx
     ·exact hI
     ·exact h2 x hx
   ·rw [if_neg h0] at h ⊢
    obtain ⟨h1, h2⟩ := payGo_ok all us _ h
    refine ⟨?_, fun x hx => ?_⟩
    ·rw [h1, List.filter_cons, if_neg (by simpa using h0)]
    ·rcases List.mem_cons.1 hx with rfl | hx
     ·exact hI
     ·exact h2 x hx
  ·rw [if_neg hI] at h; simp at h
theorem zgj (x : AFlow') (l : List AFlow') (u : AUnit') : sumU (x :: l) u = (if x.1 = u then amt x else 0) + sumU l u := by
 unfold sumU amts ofFlow
 rw [List.filter_cons]
 by_cases h : x.1 = u <;> simp [h]
theorem sumU_app (a b : List AFlow') (u : AUnit') : sumU (a ++ b) u = sumU a u + sumU b u := by
 unfold sumU amts; rw [List.filter_append, List.map_append, List.sum_append]
theorem sumU_none {l : List AFlow'} {u : AUnit'} (h : ∀ x ∈ l, x.1 ≠ u) : sumU l u = 0 := by
 induction l with
 | nil => rfl
 | cons x l ih => rw [zgj, if_neg (h x (by simp)), ih fun y hy => h y (by simp [hy])]; rfl
theorem one_of {us : List AUnit'} (hn : us.Nodup) {v : AUnit'} (z : Int) : sumBy (fun u => if v = u then z else 0) us = if v ∈ us then z else 0 := by
 induction us with
 | nil => rfl
 | cons u us ih =>
  obtain ⟨h1, h2⟩ := List.nodup_cons.1 hn
  rw [zcm, ih h2]
  by_cases hv : v = u
  ·subst hv; rw [if_pos rfl, if_neg h1, if_pos (by simp)]; omega
  ·rw [if_neg hv]
   by_cases hm : v ∈ us
   ·rw [if_pos hm, if_pos (by simp [hm])]; omega
   ·rw [if_neg hm, if_neg (by simp [hm, hv])]; rfl
theorem sumBy_add {α : Type} (f g : α → Int) (l : List α) : sumBy (fun x => f x + g x) l = sumBy f l + sumBy g l := by
 induction l with
 | nil => rfl
 | cons x l ih => rw [zcm, zcm, zcm, ih]; omega
theorem sum_units : ∀ (l : List AFlow') {us : List AUnit'}, us.Nodup → (∀ x ∈ l, x.1 ∈ us) → sumBy (sumU l) us = sumBy amt l
 | [], us, _, _ => by
  have : ∀ us : List AUnit', sumBy (sumU []) us = 0 := by
   intro us; induction us with
   | nil => rfl
   | cons u us ih => rw [zcm, ih]; rfl
  rw [this]; rfl
 | x :: l, us, hn, h => by
  have e : sumU (x :: l) = fun u => (if x.1 = u then amt x else 0) + sumU l u := funext (zgj x l)
  rw [e, sumBy_add, one_of hn, if_pos (h x (by simp)), sum_units l hn fun y hy => h y (by simp [hy]), zcm]
def resP (all : List AFlow') (us : List AUnit') : List AFlow' := (us.filter fun u => decide (sumU all u ≠ 0)).map fun u => (u, sumU all u, ())
theorem srt_nd {us : List AUnit'} (h : SrtA us) : us.Nodup := List.Pairwise.imp (fun {a b} (hab : ltA a b) (e : a = b) => by subst e; exact zdu _ hab) h
theorem resP_sum (all : List AFlow') : sumBy amt (resP all (zbm all)) = sumBy amt all := by
 have e : ∀ us : List AUnit', sumBy amt (resP all us) = sumBy (sumU all) us := by
  intro us
  induction us with
  | nil => rfl
  | cons u us ih =>
   unfold resP at ih ⊢
   rw [List.filter_cons, zcm, ← ih]
   by_cases h : sumU all u = 0
   ·rw [if_neg (by simp [h]), h]; omega
   ·rw [if_pos (by simp [h]), List.map_cons, zcm]; rfl
 rw [e, sum_units all (srt_nd (zia all)) fun x hx => (zpu all x.1).2 ⟨x, hx, rfl⟩]
theorem resP_is {all : List AFlow'} {us : List AUnit'} (h : SrtA us) : isP (resP all us) = true := by
 refine decide_eq_true ⟨fun x hx => ?_, ?_⟩
 ·obtain ⟨u, hu, rfl⟩ := List.mem_map.1 hx
  simpa using (List.mem_filter.1 hu).2
 ·unfold resP
  rw [List.map_map]
  have : ((fun x : AFlow' => x.1) ∘ fun u => ((u, sumU all u, ()) : AFlow')) = id := rfl
  rw [this, List.map_id]
  exact h.filter _
theorem getP_none {l : List AFlow'} {u : AUnit'} (h : ∀ x ∈ l, x.1 ≠ u) : getP l u = 0 := by
 induction l with
 | nil => rfl
 | cons x l ih => rw [getP, if_neg (h x (by simp)), ih fun y hy => h y (by simp [hy])]
theorem getP_sum : ∀ {l : List AFlow'}, (l.map (·.1)).Nodup → ∀ u, getP l u = sumU l u
 | [], _, u => rfl
 | x :: l, h, u => by
  obtain ⟨h1, h2⟩ := List.nodup_cons.1 h
  rw [getP, zgj]
  by_cases hu : x.1 = u
  ·rw [if_pos hu, if_pos hu, sumU_none fun y hy e => h1 (List.mem_map.2 ⟨y, hy, e.trans hu.symm⟩)]
   show amt x = _; omega
  ·rw [if_neg hu, if_neg hu, getP_sum h2]; omega
theorem isP_nd {l : List AFlow'} (h : isP l = true) : (l.map (·.1)).Nodup := srt_nd (of_decide_eq_true h).2
theorem resP_get (all : List AFlow') (u : AUnit') : getP (resP all (zbm all)) u = sumU all u := by
 by_cases h0 : sumU all u = 0
 ·rw [h0]
  refine getP_none fun x hx e => ?_
  obtain ⟨v, hv, rfl⟩ := List.mem_map.1 hx
  have := (List.mem_filter.1 hv).2
  simp only [decide_eq_true_eq] at this
  exact this (by rw [show v = u from e]; exact h0)
 ·rw [getP_sum (isP_nd (resP_is (zia all)))]
  have hu : u ∈ zbm all := by
   rw [zpu]
   by_cases hx : ∃ x ∈ all, x.1 = u
   ·exact hx
   ·exact absurd (sumU_none fun x hx' e => hx ⟨x, hx', e⟩) h0
  have key : ∀ us : List AUnit', us.Nodup → sumU (resP all us) u = if u ∈ us then sumU all u else 0 := by
   intro us
   induction us with
   | nil => intro _; rfl
   | cons v us ih =>
    intro hn
    obtain ⟨h1, h2⟩ := List.nodup_cons.1 hn
    have ih := ih h2
    unfold resP at ih ⊢
    rw [List.filter_cons]
    by_cases hv : v = u
    ·subst hv
     rw [if_pos (by simpa using h0), List.map_cons, zgj, ih, if_neg h1, if_pos rfl, if_pos (by simp)]
     show sumU all v + 0 = _; omega
    ·have e : (if u ∈ v :: us then sumU all u else 0) = if u ∈ us then sumU all u else 0 := by
      by_cases hm : u ∈ us
      ·rw [if_pos hm, if_pos (by simp [hm])]
      ·rw [if_neg hm, if_neg (by simp [hm, Ne.symm hv])]
     rw [e, ← ih]
     by_cases hz : sumU all v = 0
     ·rw [if_neg (by simp [hz])]
     ·rw [if_pos (by simp [hz]), List.map_cons, zgj, if_neg hv]; omega
  rw [key _ (srt_nd (zia all)), if_pos hu]
end Go.Proofs.YtbpbkmngbhgpfaaGreat

namespace Go.Proofs.YtbpbkmngbhgpfaaGreat
open Go Go.Vc Go.RowKit
theorem payP_ok {l f : List AFlow'} (h : (payP l f).2.1 = 0) : isP l = true ∧ (payP l f).1 = resP (l ++ f) (zbm (l ++ f)) ∧ ∀ u ∈ zbm (l ++ f), I64 (sumU (l ++ f) u) := by
 unfold payP at h ⊢
 by_cases hp : isP l = true
 ·rw [if_pos hp] at h ⊢
  obtain ⟨h1, h2⟩ := payGo_ok _ _ _ h
  exact ⟨hp, by rw [h1, List.nil_append]; rfl, h2⟩
 ·rw [if_neg hp] at h; simp at h
theorem resP_ok {all : List AFlow'} {us : List AUnit'} (h : ∀ u ∈ us, I64 (sumU all u)) : okF (resP all us) := by
 intro x hx
 obtain ⟨u, hu, rfl⟩ := List.mem_map.1 hx
 exact h u (List.mem_filter.1 hu).1
end Go.Proofs.YtbpbkmngbhgpfaaGreat
