import Derived.Test.YtllkmncnmlmefaaGreatB4
namespace Go.Proofs.YtllkmncnmlmefaaGreat
open Go Go.Vc Go.RowKit
open Lot
set_option maxRecDepth 100000
set_option synthInstance.maxSize 100000
set_option synthInstance.maxHeartbeats 0
set_option maxHeartbeats 8000000
@[reducible] def tLedgerChecker : DT := (.pair tAState (.pair .set .unit))
abbrev LedgerChecker' := AState' × (List KU) × Unit
abbrev SL0 := Int × List AChoice' × List AFlow' × List APos' × List APos' × List AHold' × List AMember' × List ALot' × List AAccount' × List AInst' × Unit
abbrev SL1 := Int × List AChoice' × List AFlow' × List APos' × List APos' × List AHold' × List AMember' × List ALot' × List AAccount' × List AInst' × List AGroup' × List AGive' × Unit
abbrev SL2 := Int × List AChoice' × List AFlow' × Int × Int × Int × Int × List (Int) × List APos' × List APos' × List AHold' × List AMember' × List ALot' × List AAccount' × List AInst' × Unit
abbrev SL3 := Int × Int × List AChoice' × List AFlow' × List APos' × List APos' × List AHold' × List AMember' × List ALot' × List AAccount' × List AInst' × List AGroup' × List AGive' × Unit
abbrev SL4 := Int × Int × List AChoice' × List AFlow' × List APos' × List APos' × List AHold' × List AMember' × List ALot' × List AAccount' × List AInst' × Unit
abbrev SL5 := Int × Bool × List (Int) × Unit
abbrev SL6 := Bool × Int × List AMember' × List AInst' × List ALot' × List AAccount' × List AChoice' × List AGroup' × List AGive' × List APos' × List APos' × List AFlow' × List AHold' × List AUnit' × Unit
abbrev SL7 := Int × List (Int) × Unit
abbrev SL8 := Int × Bool × List (Int) × Int × List (Int) × Unit
abbrev SL9 := Int × Bool × List (Int) × Int × List ALot' × Unit
abbrev SL10 := Bool × List (Int) × Int × List (Int) × Unit
abbrev SL11 := Bool × List (Int) × Int × List ALot' × Unit
abbrev SL12 := Int × Int × Unit
def law16_FewW (W : Wd) (l : List AChoice') : Option (List AChoice') := 
 W.cnd (decide (20 < (l.length : Int))) (W.bnd 20 l.length fun h1 => some (l.take h1))
  (some l)
abbrev law16_Few := law16_FewW stdW
def law11_FewW (W : Wd) (l : List AUnit') : Option (List AUnit') := 
 W.cnd (decide (12 < (l.length : Int))) (W.bnd 12 l.length fun h1 => some (l.take h1))
  (some l)
abbrev law11_Few := law11_FewW stdW
def law19_FewW (W : Wd) (l : List APos') : Option (List APos') := 
 W.join (fun (z1 : List APos' × Unit) => some z1.1)
  fun k2 => 
  W.loop (fun (z3 : Int × List APos' × Unit) again4 => 
   W.cnd (decide (z3.1 < (l.length : Int))) (
    W.cnd (decide (z3.1 < 12)) (W.idx l z3.1 fun x5 => W.idx l z3.1 fun x6 => W.call (law11_FewW W x6.2.1) fun v7 => W.room (z3.2.1.length + ((x5.1, (v7, ())) :: []).length) 40 ((again4 ((IntKind.i64.wrap (z3.1 + 1)), ((z3.2.1 ++ ((x5.1, (v7, ())) :: [])), ())))))
     ((k2 z3.2)))
    ((k2 z3.2)))
   (0, ([], ()))
abbrev law19_Few := law19_FewW stdW
def law33_FewW (W : Wd) (s : AState') : Option AState' := W.both (W.call (law16_FewW W s.2.2.2.2.2.1) fun v1 => W.both (W.call (law19_FewW W s.2.2.2.2.2.2.2.2.1) fun v2 => W.both (W.call (law19_FewW W s.2.2.2.2.2.2.2.2.2.1) fun v3 => W.both (W.call (law17_FewW W s.2.2.2.2.2.2.2.2.2.2.1) fun v4 => W.two (W.call (law26_FewW W s.2.2.2.2.2.2.2.2.2.2.2.1) fun v5 => 
      W.loop (fun (z6 : SL4) again7 => 
       W.cnd (decide (z6.1 < 20)) (
        W.join (fun (z8 : SL0) => (again7 ((IntKind.i64.wrap (z6.1 + 1)), z8)))
         fun k9 => 
         W.join (fun (z10 : SL0) => 
          W.join (fun (z11 : SL0) => 
           W.join (fun (z12 : SL0) => 
            W.cnd (decide (z6.1 < (s.2.2.1.length : Int))) (W.idx s.2.2.1 z6.1 fun x13 => 
             W.join (fun (z14 : SL2) => W.room (z14.2.2.2.2.2.2.2.2.2.2.2.2.2.2.1.length + ((U5 z14.2.2.2 ()) :: []).length) 56 ((k9 (U3 z14 (U6 z14.2.2.2.2.2.2.2.2 ((z14.2.2.2.2.2.2.2.2.2.2.2.2.2.2.1 ++ ((U5 z14.2.2.2 ()) :: [])), ()))))))
              fun k15 => 
              W.cnd (decide (12 < (x13.2.2.2.2.1.length : Int))) (W.bnd 12 x13.2.2.2.2.1.length fun h16 => (k15 (U3 z12 (U4 x13 ((x13.2.2.2.2.1.take h16), z12.2.2.2)))))
               ((k15 (U3 z12 (U5 x13 z12.2.2.2)))))
             ((k9 z12)))
            fun k17 => 
            W.cnd (decide (z6.1 < (s.2.2.2.2.1.length : Int))) (W.idx s.2.2.2.2.1 z6.1 fun x18 => W.both (W.call (law25_ShortW W x18) fun v19 => W.room (z11.2.2.2.2.2.2.2.2.1.length + (v19 :: []).length) 48 ((k17 (U8 z11 ((z11.2.2.2.2.2.2.2.2.1 ++ (v19 :: [])), z11.2.2.2.2.2.2.2.2.2))))) (W.call (law25_ShortW W x18) fun v20 => W.two (W.room (z11.2.2.2.2.2.2.2.2.1.length + (v20 :: []).length) 48 ((k17 (U8 z11 ((z11.2.2.2.2.2.2.2.2.1 ++ (v20 :: [])), z11.2.2.2.2.2.2.2.2.2)))))))
             ((k17 z11)))
           fun k21 => 
           W.cnd (decide (z6.1 < (s.2.2.2.1.length : Int))) (W.idx s.2.2.2.1 z6.1 fun x22 => W.two (W.room (z10.2.2.2.2.2.2.2.1.length + (x22 :: []).length) 24 ((k21 (U7 z10 ((z10.2.2.2.2.2.2.2.1 ++ (x22 :: [])), z10.2.2.2.2.2.2.2.2))))))
            ((k21 z10)))
          fun k23 => 
          W.cnd (decide (z6.1 < (s.2.1.length : Int))) (W.idx s.2.1 z6.1 fun x24 => W.two (W.room (z6.2.2.2.2.2.2.2.1.length + (x24 :: []).length) 32 ((k23 (U6 z6.2 ((z6.2.2.2.2.2.2.2.1 ++ (x24 :: [])), z6.2.2.2.2.2.2.2.2))))))
           ((k23 z6.2)))
        (
        W.loop (fun (z25 : SL3) again26 => 
         W.cnd (decide (z25.1 < 70)) (
          W.join (fun (z27 : SL1) => (again26 ((IntKind.i64.wrap (z25.1 + 1)), z27)))
           fun k28 => 
           W.join (fun (z29 : SL1) => 
            W.cnd (decide (z25.1 < (s.2.2.2.2.2.2.2.1.length : Int))) (W.idx s.2.2.2.2.2.2.2.1 z25.1 fun x30 => W.two (W.room (z29.2.2.2.2.2.2.2.2.2.2.2.1.length + (x30 :: []).length) 88 ((k28 (U11 z29 ((z29.2.2.2.2.2.2.2.2.2.2.2.1 ++ (x30 :: [])), ()))))))
             ((k28 z29)))
            fun k31 => 
            W.cnd (decide (z25.1 < (s.2.2.2.2.2.2.1.length : Int))) (W.idx s.2.2.2.2.2.2.1 z25.1 fun x32 => W.two (W.room (z25.2.2.2.2.2.2.2.2.2.2.2.1.length + (x32 :: []).length) 48 ((k31 (U10 z25.2 ((z25.2.2.2.2.2.2.2.2.2.2.2.1 ++ (x32 :: [])), z25.2.2.2.2.2.2.2.2.2.2.2.2))))))
             ((k31 z25.2)))
          (some (z25.2.1, (z25.2.2.2.2.2.2.2.1, (z25.2.2.2.2.2.2.2.2.2.2.1, (z25.2.2.2.2.2.2.2.2.1, (z25.2.2.2.2.2.2.2.2.2.1, (z25.2.2.1, (z25.2.2.2.2.2.2.2.2.2.2.2.1, (z25.2.2.2.2.2.2.2.2.2.2.2.2.1, (z25.2.2.2.2.1, (z25.2.2.2.2.2.1, (z25.2.2.2.1, (z25.2.2.2.2.2.2.1, ()))))))))))))))
         (0, (U10 z6.2 ([], ([], ()))))))
       (0, (s.1, (v1, (v4, (v2, (v3, (v5, ([], ([], ([], ([], ()))))))))))))) (W.call (law17_FewW W s.2.2.2.2.2.2.2.2.2.2.1) fun v61 => W.call (law26_FewW W s.2.2.2.2.2.2.2.2.2.2.2.1) fun v62 => 
     W.loop (fun (z63 : SL4) again64 => 
      W.cnd (decide (z63.1 < 20)) (
       W.join (fun (z65 : SL0) => (again64 ((IntKind.i64.wrap (z63.1 + 1)), z65)))
        fun k66 => 
        W.join (fun (z67 : SL0) => 
         W.join (fun (z68 : SL0) => 
          W.join (fun (z69 : SL0) => 
           W.cnd (decide (z63.1 < (s.2.2.1.length : Int))) (W.idx s.2.2.1 z63.1 fun x70 => 
            W.join (fun (z71 : SL2) => W.room (z71.2.2.2.2.2.2.2.2.2.2.2.2.2.2.1.length + ((U5 z71.2.2.2 ()) :: []).length) 56 ((k66 (U3 z71 (U6 z71.2.2.2.2.2.2.2.2 ((z71.2.2.2.2.2.2.2.2.2.2.2.2.2.2.1 ++ ((U5 z71.2.2.2 ()) :: [])), ()))))))
             fun k72 => 
             W.cnd (decide (12 < (x70.2.2.2.2.1.length : Int))) (W.bnd 12 x70.2.2.2.2.1.length fun h73 => (k72 (U3 z69 (U4 x70 ((x70.2.2.2.2.1.take h73), z69.2.2.2)))))
              ((k72 (U3 z69 (U5 x70 z69.2.2.2)))))
            ((k66 z69)))
           fun k74 => 
           W.cnd (decide (z63.1 < (s.2.2.2.2.1.length : Int))) (W.idx s.2.2.2.2.1 z63.1 fun x75 => W.both (W.call (law25_ShortW W x75) fun v76 => W.room (z68.2.2.2.2.2.2.2.2.1.length + (v76 :: []).length) 48 ((k74 (U8 z68 ((z68.2.2.2.2.2.2.2.2.1 ++ (v76 :: [])), z68.2.2.2.2.2.2.2.2.2))))) (W.call (law25_ShortW W x75) fun v77 => W.two (W.room (z68.2.2.2.2.2.2.2.2.1.length + (v77 :: []).length) 48 ((k74 (U8 z68 ((z68.2.2.2.2.2.2.2.2.1 ++ (v77 :: [])), z68.2.2.2.2.2.2.2.2.2)))))))
            ((k74 z68)))
          fun k78 => 
          W.cnd (decide (z63.1 < (s.2.2.2.1.length : Int))) (W.idx s.2.2.2.1 z63.1 fun x79 => W.two (W.room (z67.2.2.2.2.2.2.2.1.length + (x79 :: []).length) 24 ((k78 (U7 z67 ((z67.2.2.2.2.2.2.2.1 ++ (x79 :: [])), z67.2.2.2.2.2.2.2.2))))))
           ((k78 z67)))
         fun k80 => 
         W.cnd (decide (z63.1 < (s.2.1.length : Int))) (W.idx s.2.1 z63.1 fun x81 => W.two (W.room (z63.2.2.2.2.2.2.2.1.length + (x81 :: []).length) 32 ((k80 (U6 z63.2 ((z63.2.2.2.2.2.2.2.1 ++ (x81 :: [])), z63.2.2.2.2.2.2.2.2))))))
          ((k80 z63.2)))
       (
       W.loop (fun (z82 : SL3) again83 => 
        W.cnd (decide (z82.1 < 70)) (
         W.join (fun (z84 : SL1) => (again83 ((IntKind.i64.wrap (z82.1 + 1)), z84)))
          fun k85 => 
          W.join (fun (z86 : SL1) => 
           W.cnd (decide (z82.1 < (s.2.2.2.2.2.2.2.1.length : Int))) (W.idx s.2.2.2.2.2.2.2.1 z82.1 fun x87 => W.two (W.room (z86.2.2.2.2.2.2.2.2.2.2.2.1.length + (x87 :: []).length) 88 ((k85 (U11 z86 ((z86.2.2.2.2.2.2.2.2.2.2.2.1 ++ (x87 :: [])), ()))))))
            ((k85 z86)))
           fun k88 => 
           W.cnd (decide (z82.1 < (s.2.2.2.2.2.2.1.length : Int))) (W.idx s.2.2.2.2.2.2.1 z82.1 fun x89 => W.two (W.room (z82.2.2.2.2.2.2.2.2.2.2.2.1.length + (x89 :: []).length) 48 ((k88 (U10 z82.2 ((z82.2.2.2.2.2.2.2.2.2.2.2.1 ++ (x89 :: [])), z82.2.2.2.2.2.2.2.2.2.2.2.2))))))
            ((k88 z82.2)))
         (some (z82.2.1, (z82.2.2.2.2.2.2.2.1, (z82.2.2.2.2.2.2.2.2.2.2.1, (z82.2.2.2.2.2.2.2.2.1, (z82.2.2.2.2.2.2.2.2.2.1, (z82.2.2.1, (z82.2.2.2.2.2.2.2.2.2.2.2.1, (z82.2.2.2.2.2.2.2.2.2.2.2.2.1, (z82.2.2.2.2.1, (z82.2.2.2.2.2.1, (z82.2.2.2.1, (z82.2.2.2.2.2.2.1, ()))))))))))))))
        (0, (U10 z63.2 ([], ([], ()))))))
      (0, (s.1, (v1, (v61, (v2, (v3, (v62, ([], ([], ([], ([], ()))))))))))))) (W.call (law19_FewW W s.2.2.2.2.2.2.2.2.2.1) fun v90 => W.call (law17_FewW W s.2.2.2.2.2.2.2.2.2.2.1) fun v91 => W.call (law26_FewW W s.2.2.2.2.2.2.2.2.2.2.2.1) fun v92 => 
    W.loop (fun (z93 : SL4) again94 => 
     W.cnd (decide (z93.1 < 20)) (
      W.join (fun (z95 : SL0) => (again94 ((IntKind.i64.wrap (z93.1 + 1)), z95)))
       fun k96 => 
       W.join (fun (z97 : SL0) => 
        W.join (fun (z98 : SL0) => 
         W.join (fun (z99 : SL0) => 
          W.cnd (decide (z93.1 < (s.2.2.1.length : Int))) (W.idx s.2.2.1 z93.1 fun x100 => 
           W.join (fun (z101 : SL2) => W.room (z101.2.2.2.2.2.2.2.2.2.2.2.2.2.2.1.length + ((U5 z101.2.2.2 ()) :: []).length) 56 ((k96 (U3 z101 (U6 z101.2.2.2.2.2.2.2.2 ((z101.2.2.2.2.2.2.2.2.2.2.2.2.2.2.1 ++ ((U5 z101.2.2.2 ()) :: [])), ()))))))
            fun k102 => 
            W.cnd (decide (12 < (x100.2.2.2.2.1.length : Int))) (W.bnd 12 x100.2.2.2.2.1.length fun h103 => (k102 (U3 z99 (U4 x100 ((x100.2.2.2.2.1.take h103), z99.2.2.2)))))
             ((k102 (U3 z99 (U5 x100 z99.2.2.2)))))
           ((k96 z99)))
          fun k104 => 
          W.cnd (decide (z93.1 < (s.2.2.2.2.1.length : Int))) (W.idx s.2.2.2.2.1 z93.1 fun x105 => W.both (W.call (law25_ShortW W x105) fun v106 => W.room (z98.2.2.2.2.2.2.2.2.1.length + (v106 :: []).length) 48 ((k104 (U8 z98 ((z98.2.2.2.2.2.2.2.2.1 ++ (v106 :: [])), z98.2.2.2.2.2.2.2.2.2))))) (W.call (law25_ShortW W x105) fun v107 => W.two (W.room (z98.2.2.2.2.2.2.2.2.1.length + (v107 :: []).length) 48 ((k104 (U8 z98 ((z98.2.2.2.2.2.2.2.2.1 ++ (v107 :: [])), z98.2.2.2.2.2.2.2.2.2)))))))
           ((k104 z98)))
         fun k108 => 
         W.cnd (decide (z93.1 < (s.2.2.2.1.length : Int))) (W.idx s.2.2.2.1 z93.1 fun x109 => W.two (W.room (z97.2.2.2.2.2.2.2.1.length + (x109 :: []).length) 24 ((k108 (U7 z97 ((z97.2.2.2.2.2.2.2.1 ++ (x109 :: [])), z97.2.2.2.2.2.2.2.2))))))
          ((k108 z97)))
        fun k110 => 
        W.cnd (decide (z93.1 < (s.2.1.length : Int))) (W.idx s.2.1 z93.1 fun x111 => W.two (W.room (z93.2.2.2.2.2.2.2.1.length + (x111 :: []).length) 32 ((k110 (U6 z93.2 ((z93.2.2.2.2.2.2.2.1 ++ (x111 :: [])), z93.2.2.2.2.2.2.2.2))))))
         ((k110 z93.2)))
      (
      W.loop (fun (z112 : SL3) again113 => 
       W.cnd (decide (z112.1 < 70)) (
        W.join (fun (z114 : SL1) => (again113 ((IntKind.i64.wrap (z112.1 + 1)), z114)))
         fun k115 => 
         W.join (fun (z116 : SL1) => 
          W.cnd (decide (z112.1 < (s.2.2.2.2.2.2.2.1.length : Int))) (W.idx s.2.2.2.2.2.2.2.1 z112.1 fun x117 => W.two (W.room (z116.2.2.2.2.2.2.2.2.2.2.2.1.length + (x117 :: []).length) 88 ((k115 (U11 z116 ((z116.2.2.2.2.2.2.2.2.2.2.2.1 ++ (x117 :: [])), ()))))))
           ((k115 z116)))
          fun k118 => 
          W.cnd (decide (z112.1 < (s.2.2.2.2.2.2.1.length : Int))) (W.idx s.2.2.2.2.2.2.1 z112.1 fun x119 => W.two (W.room (z112.2.2.2.2.2.2.2.2.2.2.2.1.length + (x119 :: []).length) 48 ((k118 (U10 z112.2 ((z112.2.2.2.2.2.2.2.2.2.2.2.1 ++ (x119 :: [])), z112.2.2.2.2.2.2.2.2.2.2.2.2))))))
           ((k118 z112.2)))
        (some (z112.2.1, (z112.2.2.2.2.2.2.2.1, (z112.2.2.2.2.2.2.2.2.2.2.1, (z112.2.2.2.2.2.2.2.2.1, (z112.2.2.2.2.2.2.2.2.2.1, (z112.2.2.1, (z112.2.2.2.2.2.2.2.2.2.2.2.1, (z112.2.2.2.2.2.2.2.2.2.2.2.2.1, (z112.2.2.2.2.1, (z112.2.2.2.2.2.1, (z112.2.2.2.1, (z112.2.2.2.2.2.2.1, ()))))))))))))))
       (0, (U10 z93.2 ([], ([], ()))))))
     (0, (s.1, (v1, (v91, (v2, (v90, (v92, ([], ([], ([], ([], ()))))))))))))) (W.call (law19_FewW W s.2.2.2.2.2.2.2.2.1) fun v120 => W.call (law19_FewW W s.2.2.2.2.2.2.2.2.2.1) fun v121 => W.call (law17_FewW W s.2.2.2.2.2.2.2.2.2.2.1) fun v122 => W.call (law26_FewW W s.2.2.2.2.2.2.2.2.2.2.2.1) fun v123 => 
   W.loop (fun (z124 : SL4) again125 => 
    W.cnd (decide (z124.1 < 20)) (
     W.join (fun (z126 : SL0) => (again125 ((IntKind.i64.wrap (z124.1 + 1)), z126)))
      fun k127 => 
      W.join (fun (z128 : SL0) => 
       W.join (fun (z129 : SL0) => 
        W.join (fun (z130 : SL0) => 
         W.cnd (decide (z124.1 < (s.2.2.1.length : Int))) (W.idx s.2.2.1 z124.1 fun x131 => 
          W.join (fun (z132 : SL2) => W.room (z132.2.2.2.2.2.2.2.2.2.2.2.2.2.2.1.length + ((U5 z132.2.2.2 ()) :: []).length) 56 ((k127 (U3 z132 (U6 z132.2.2.2.2.2.2.2.2 ((z132.2.2.2.2.2.2.2.2.2.2.2.2.2.2.1 ++ ((U5 z132.2.2.2 ()) :: [])), ()))))))
           fun k133 => 
           W.cnd (decide (12 < (x131.2.2.2.2.1.length : Int))) (W.bnd 12 x131.2.2.2.2.1.length fun h134 => (k133 (U3 z130 (U4 x131 ((x131.2.2.2.2.1.take h134), z130.2.2.2)))))
            ((k133 (U3 z130 (U5 x131 z130.2.2.2)))))
          ((k127 z130)))
         fun k135 => 
         W.cnd (decide (z124.1 < (s.2.2.2.2.1.length : Int))) (W.idx s.2.2.2.2.1 z124.1 fun x136 => W.both (W.call (law25_ShortW W x136) fun v137 => W.room (z129.2.2.2.2.2.2.2.2.1.length + (v137 :: []).length) 48 ((k135 (U8 z129 ((z129.2.2.2.2.2.2.2.2.1 ++ (v137 :: [])), z129.2.2.2.2.2.2.2.2.2))))) (W.call (law25_ShortW W x136) fun v138 => W.two (W.room (z129.2.2.2.2.2.2.2.2.1.length + (v138 :: []).length) 48 ((k135 (U8 z129 ((z129.2.2.2.2.2.2.2.2.1 ++ (v138 :: [])), z129.2.2.2.2.2.2.2.2.2)))))))
          ((k135 z129)))
        fun k139 => 
        W.cnd (decide (z124.1 < (s.2.2.2.1.length : Int))) (W.idx s.2.2.2.1 z124.1 fun x140 => W.two (W.room (z128.2.2.2.2.2.2.2.1.length + (x140 :: []).length) 24 ((k139 (U7 z128 ((z128.2.2.2.2.2.2.2.1 ++ (x140 :: [])), z128.2.2.2.2.2.2.2.2))))))
         ((k139 z128)))
       fun k141 => 
       W.cnd (decide (z124.1 < (s.2.1.length : Int))) (W.idx s.2.1 z124.1 fun x142 => W.two (W.room (z124.2.2.2.2.2.2.2.1.length + (x142 :: []).length) 32 ((k141 (U6 z124.2 ((z124.2.2.2.2.2.2.2.1 ++ (x142 :: [])), z124.2.2.2.2.2.2.2.2))))))
        ((k141 z124.2)))
     (
     W.loop (fun (z143 : SL3) again144 => 
      W.cnd (decide (z143.1 < 70)) (
       W.join (fun (z145 : SL1) => (again144 ((IntKind.i64.wrap (z143.1 + 1)), z145)))
        fun k146 => 
        W.join (fun (z147 : SL1) => 
         W.cnd (decide (z143.1 < (s.2.2.2.2.2.2.2.1.length : Int))) (W.idx s.2.2.2.2.2.2.2.1 z143.1 fun x148 => W.two (W.room (z147.2.2.2.2.2.2.2.2.2.2.2.1.length + (x148 :: []).length) 88 ((k146 (U11 z147 ((z147.2.2.2.2.2.2.2.2.2.2.2.1 ++ (x148 :: [])), ()))))))
          ((k146 z147)))
         fun k149 => 
         W.cnd (decide (z143.1 < (s.2.2.2.2.2.2.1.length : Int))) (W.idx s.2.2.2.2.2.2.1 z143.1 fun x150 => W.two (W.room (z143.2.2.2.2.2.2.2.2.2.2.2.1.length + (x150 :: []).length) 48 ((k149 (U10 z143.2 ((z143.2.2.2.2.2.2.2.2.2.2.2.1 ++ (x150 :: [])), z143.2.2.2.2.2.2.2.2.2.2.2.2))))))
          ((k149 z143.2)))
       (some (z143.2.1, (z143.2.2.2.2.2.2.2.1, (z143.2.2.2.2.2.2.2.2.2.2.1, (z143.2.2.2.2.2.2.2.2.1, (z143.2.2.2.2.2.2.2.2.2.1, (z143.2.2.1, (z143.2.2.2.2.2.2.2.2.2.2.2.1, (z143.2.2.2.2.2.2.2.2.2.2.2.2.1, (z143.2.2.2.2.1, (z143.2.2.2.2.2.1, (z143.2.2.2.1, (z143.2.2.2.2.2.2.1, ()))))))))))))))
      (0, (U10 z124.2 ([], ([], ()))))))
    (0, (s.1, (v1, (v122, (v120, (v121, (v123, ([], ([], ([], ([], ()))))))))))))) (W.call (law16_FewW W s.2.2.2.2.2.1) fun v151 => W.call (law19_FewW W s.2.2.2.2.2.2.2.2.1) fun v152 => W.call (law19_FewW W s.2.2.2.2.2.2.2.2.2.1) fun v153 => W.call (law17_FewW W s.2.2.2.2.2.2.2.2.2.2.1) fun v154 => W.call (law26_FewW W s.2.2.2.2.2.2.2.2.2.2.2.1) fun v155 => 
  W.loop (fun (z156 : SL4) again157 => 
   W.cnd (decide (z156.1 < 20)) (
    W.join (fun (z158 : SL0) => (again157 ((IntKind.i64.wrap (z156.1 + 1)), z158)))
     fun k159 => 
     W.join (fun (z160 : SL0) => 
      W.join (fun (z161 : SL0) => 
       W.join (fun (z162 : SL0) => 
        W.cnd (decide (z156.1 < (s.2.2.1.length : Int))) (W.idx s.2.2.1 z156.1 fun x163 => 
         W.join (fun (z164 : SL2) => W.room (z164.2.2.2.2.2.2.2.2.2.2.2.2.2.2.1.length + ((U5 z164.2.2.2 ()) :: []).length) 56 ((k159 (U3 z164 (U6 z164.2.2.2.2.2.2.2.2 ((z164.2.2.2.2.2.2.2.2.2.2.2.2.2.2.1 ++ ((U5 z164.2.2.2 ()) :: [])), ()))))))
          fun k165 => 
          W.cnd (decide (12 < (x163.2.2.2.2.1.length : Int))) (W.bnd 12 x163.2.2.2.2.1.length fun h166 => (k165 (U3 z162 (U4 x163 ((x163.2.2.2.2.1.take h166), z162.2.2.2)))))
           ((k165 (U3 z162 (U5 x163 z162.2.2.2)))))
         ((k159 z162)))
        fun k167 => 
        W.cnd (decide (z156.1 < (s.2.2.2.2.1.length : Int))) (W.idx s.2.2.2.2.1 z156.1 fun x168 => W.both (W.call (law25_ShortW W x168) fun v169 => W.room (z161.2.2.2.2.2.2.2.2.1.length + (v169 :: []).length) 48 ((k167 (U8 z161 ((z161.2.2.2.2.2.2.2.2.1 ++ (v169 :: [])), z161.2.2.2.2.2.2.2.2.2))))) (W.call (law25_ShortW W x168) fun v170 => W.two (W.room (z161.2.2.2.2.2.2.2.2.1.length + (v170 :: []).length) 48 ((k167 (U8 z161 ((z161.2.2.2.2.2.2.2.2.1 ++ (v170 :: [])), z161.2.2.2.2.2.2.2.2.2)))))))
         ((k167 z161)))
       fun k171 => 
       W.cnd (decide (z156.1 < (s.2.2.2.1.length : Int))) (W.idx s.2.2.2.1 z156.1 fun x172 => W.two (W.room (z160.2.2.2.2.2.2.2.1.length + (x172 :: []).length) 24 ((k171 (U7 z160 ((z160.2.2.2.2.2.2.2.1 ++ (x172 :: [])), z160.2.2.2.2.2.2.2.2))))))
        ((k171 z160)))
      fun k173 => 
      W.cnd (decide (z156.1 < (s.2.1.length : Int))) (W.idx s.2.1 z156.1 fun x174 => W.two (W.room (z156.2.2.2.2.2.2.2.1.length + (x174 :: []).length) 32 ((k173 (U6 z156.2 ((z156.2.2.2.2.2.2.2.1 ++ (x174 :: [])), z156.2.2.2.2.2.2.2.2))))))
       ((k173 z156.2)))
    (
    W.loop (fun (z175 : SL3) again176 => 
     W.cnd (decide (z175.1 < 70)) (
      W.join (fun (z177 : SL1) => (again176 ((IntKind.i64.wrap (z175.1 + 1)), z177)))
       fun k178 => 
       W.join (fun (z179 : SL1) => 
        W.cnd (decide (z175.1 < (s.2.2.2.2.2.2.2.1.length : Int))) (W.idx s.2.2.2.2.2.2.2.1 z175.1 fun x180 => W.two (W.room (z179.2.2.2.2.2.2.2.2.2.2.2.1.length + (x180 :: []).length) 88 ((k178 (U11 z179 ((z179.2.2.2.2.2.2.2.2.2.2.2.1 ++ (x180 :: [])), ()))))))
         ((k178 z179)))
        fun k181 => 
        W.cnd (decide (z175.1 < (s.2.2.2.2.2.2.1.length : Int))) (W.idx s.2.2.2.2.2.2.1 z175.1 fun x182 => W.two (W.room (z175.2.2.2.2.2.2.2.2.2.2.2.1.length + (x182 :: []).length) 48 ((k181 (U10 z175.2 ((z175.2.2.2.2.2.2.2.2.2.2.2.1 ++ (x182 :: [])), z175.2.2.2.2.2.2.2.2.2.2.2.2))))))
         ((k181 z175.2)))
      (some (z175.2.1, (z175.2.2.2.2.2.2.2.1, (z175.2.2.2.2.2.2.2.2.2.2.1, (z175.2.2.2.2.2.2.2.2.1, (z175.2.2.2.2.2.2.2.2.2.1, (z175.2.2.1, (z175.2.2.2.2.2.2.2.2.2.2.2.1, (z175.2.2.2.2.2.2.2.2.2.2.2.2.1, (z175.2.2.2.2.1, (z175.2.2.2.2.2.1, (z175.2.2.2.1, (z175.2.2.2.2.2.2.1, ()))))))))))))))
     (0, (U10 z156.2 ([], ([], ()))))))
   (0, (s.1, (v151, (v154, (v152, (v153, (v155, ([], ([], ([], ([], ()))))))))))))
abbrev law33_Few := law33_FewW stdW
def pack_NewW (W : Wd) : Option (Unit × (Bool × (List Int) × Unit)) := some ((), (true, ([], ())))
def pack_Writer_okW (W : Wd) (w0 : Bool) (w1 : List Int) : Option (Bool × (Bool × (List Int) × Unit)) := some (w0, (w0, (w1, ())))
abbrev pack_Writer_ok := pack_Writer_okW stdW
def pack_foldedW (W : Wd) (n : Int) : Option Int := W.nn 1 (W.nn 63 (some (Go.bits Go.BinOp.xor Go.IntKind.u64 (IntKind.u64.wrap (IntKind.i64.wrap (n * (2 ^ (Min.min (Int.toNat 1) (Go.IntKind.bits Go.IntKind.i64)))))) (IntKind.u64.wrap (Int.fdiv n (2 ^ (Min.min (Int.toNat 63) (Go.IntKind.bits Go.IntKind.i64))))))))
abbrev pack_folded := pack_foldedW stdW
def pack_Writer_oneW (W : Wd) (w0 : Bool) (w1 : List Int) (u : Int) : Option (Unit × (Bool × (List Int) × Unit)) := 
 W.loop (fun (z1 : SL5) again2 => 
  W.cnd (decide (128 ≤ z1.1)) (W.room (z1.2.2.1.length + ((Go.bits Go.BinOp.or Go.IntKind.u8 (IntKind.u8.wrap z1.1) 128) :: []).length) 1 (W.nn 7 ((again2 ((Int.fdiv z1.1 (2 ^ (Min.min (Int.toNat 7) (Go.IntKind.bits Go.IntKind.u64)))), (z1.2.1, ((z1.2.2.1 ++ ((Go.bits Go.BinOp.or Go.IntKind.u8 (IntKind.u8.wrap z1.1) 128) :: [])), ())))))))
   (W.room (z1.2.2.1.length + ((IntKind.u8.wrap z1.1) :: []).length) 1 (some ((), (z1.2.1, ((z1.2.2.1 ++ ((IntKind.u8.wrap z1.1) :: [])), ()))))))
  (u, (w0, (w1, ())))
abbrev pack_Writer_one := pack_Writer_oneW stdW
def pack_Writer_IntW (W : Wd) (w0 : Bool) (w1 : List Int) (l : List Int) : Option (Unit × (Bool × (List Int) × Unit)) := 
 W.join (fun (z1 : Bool × List (Int) × Unit) => some ((), z1))
  fun k2 => W.call (pack_Writer_okW W w0 w1) fun v3 => 
  W.cnd v3.1 (
   W.loop (fun (z4 : SL5) again5 => 
    W.cnd (decide (z4.1 < (l.length : Int))) (W.idx l z4.1 fun x6 => W.call (pack_foldedW W x6) fun v7 => W.call (pack_Writer_oneW W z4.2.1 z4.2.2.1 v7) fun v8 => (again5 ((IntKind.i64.wrap (z4.1 + 1)), v8.2)))
     ((k2 z4.2)))
    (0, v3.2))
   ((k2 v3.2))
abbrev pack_Writer_Int := pack_Writer_IntW stdW
def ledger_writer_numsW (W : Wd) (w0 : Bool) (w1 : List Int) (l : List Int) : Option (Unit × (Bool × (List Int) × Unit)) := 
 W.loop (fun (z1 : SL5) again2 => 
  W.cnd (decide (z1.1 < (l.length : Int))) (W.idx l z1.1 fun x3 => W.call (pack_Writer_IntW W z1.2.1 z1.2.2.1 (x3 :: [])) fun v4 => (again2 ((IntKind.i64.wrap (z1.1 + 1)), v4.2)))
   (some ((), z1.2)))
  (0, (w0, (w1, ())))
abbrev ledger_writer_nums := ledger_writer_numsW stdW
def ledger_writer_tablesW (W : Wd) (w0 : Bool) (w1 : List Int) (s : AState') : Option (Unit × (Bool × (List Int) × Unit)) := W.call (ledger_writer_numsW W w0 w1 ((s.2.1.length : Int) :: [])) fun v1 => 
 W.loop (fun (z2 : SL5) again3 => 
  W.cnd (decide (z2.1 < (s.2.1.length : Int))) (W.idx s.2.1 z2.1 fun x4 => W.call (ledger_writer_numsW W z2.2.1 z2.2.2.1 (x4.1 :: [])) fun v5 => W.call (pack_Writer_IntW W v5.2.1 v5.2.2.1 (x4.2.1 :: [])) fun v6 => W.call (ledger_writer_numsW W v6.2.1 v6.2.2.1 (x4.2.2.1 :: (x4.2.2.2.1 :: []))) fun v7 => (again3 ((IntKind.i64.wrap (z2.1 + 1)), v7.2)))
   (W.call (ledger_writer_numsW W z2.2.1 z2.2.2.1 ((s.2.2.1.length : Int) :: [])) fun v8 => 
   W.loop (fun (z9 : SL5) again10 => 
    W.cnd (decide (z9.1 < (s.2.2.1.length : Int))) (W.idx s.2.2.1 z9.1 fun x11 => W.call (ledger_writer_numsW W z9.2.1 z9.2.2.1 (x11.1 :: [])) fun v12 => W.call (pack_Writer_IntW W v12.2.1 v12.2.2.1 (x11.2.1 :: (x11.2.2.1 :: (x11.2.2.2.1 :: [])))) fun v13 => W.call (ledger_writer_numsW W v13.2.1 v13.2.2.1 ((x11.2.2.2.2.1.length : Int) :: [])) fun v14 => W.call (pack_Writer_IntW W v14.2.1 v14.2.2.1 x11.2.2.2.2.1) fun v15 => (again10 ((IntKind.i64.wrap (z9.1 + 1)), v15.2)))
     (W.call (ledger_writer_numsW W z9.2.1 z9.2.2.1 ((s.2.2.2.1.length : Int) :: [])) fun v16 => 
     W.loop (fun (z17 : SL5) again18 => 
      W.cnd (decide (z17.1 < (s.2.2.2.1.length : Int))) (W.idx s.2.2.2.1 z17.1 fun x19 => W.call (ledger_writer_numsW W z17.2.1 z17.2.2.1 (x19.1 :: [])) fun v20 => W.call (pack_Writer_IntW W v20.2.1 v20.2.2.1 (x19.2.1 :: (x19.2.2.1 :: []))) fun v21 => (again18 ((IntKind.i64.wrap (z17.1 + 1)), v21.2)))
       (some ((), z17.2)))
      (0, v16.2)))
    (0, v8.2)))
  (0, v1.2)
abbrev ledger_writer_tables := ledger_writer_tablesW stdW
def ledger_writer_unitsW (W : Wd) (w0 : Bool) (w1 : List Int) (l : List AUnit') : Option (Unit × (Bool × (List Int) × Unit)) := 
 W.loop (fun (z1 : SL5) again2 => 
  W.cnd (decide (z1.1 < (l.length : Int))) (W.idx l z1.1 fun x3 => W.call (ledger_writer_numsW W z1.2.1 z1.2.2.1 (x3.1 :: (x3.2.1 :: []))) fun v4 => (again2 ((IntKind.i64.wrap (z1.1 + 1)), v4.2)))
   (some ((), z1.2)))
  (0, (w0, (w1, ())))
abbrev ledger_writer_units := ledger_writer_unitsW stdW
def ledger_writer_flagW (W : Wd) (w0 : Bool) (w1 : List Int) (is : Bool) : Option (Unit × (Bool × (List Int) × Unit)) := 
 W.join (fun (z1 : SL5) => W.call (ledger_writer_numsW W z1.2.1 z1.2.2.1 (z1.1 :: [])) fun v2 => some ((), v2.2))
  fun k3 => 
  W.cnd is ((k3 (1, (w0, (w1, ())))))
   ((k3 (0, (w0, (w1, ())))))
abbrev ledger_writer_flag := ledger_writer_flagW stdW
def ledger_writer_accountsW (W : Wd) (w0 : Bool) (w1 : List Int) (s : AState') : Option (Unit × (Bool × (List Int) × Unit)) := W.call (ledger_writer_numsW W w0 w1 ((s.2.2.2.2.1.length : Int) :: [])) fun v1 => 
 W.loop (fun (z2 : SL5) again3 => 
  W.cnd (decide (z2.1 < (s.2.2.2.2.1.length : Int))) (W.idx s.2.2.2.2.1 z2.1 fun x4 => W.call (ledger_writer_numsW W z2.2.1 z2.2.2.1 (x4.1 :: (x4.2.1 :: (x4.2.2.1 :: ((x4.2.2.2.1.length : Int) :: []))))) fun v5 => W.call (ledger_writer_numsW W v5.2.1 v5.2.2.1 x4.2.2.2.1) fun v6 => (again3 ((IntKind.i64.wrap (z2.1 + 1)), v6.2)))
   (W.call (ledger_writer_numsW W z2.2.1 z2.2.2.1 ((s.2.2.2.2.2.1.length : Int) :: [])) fun v7 => 
   W.loop (fun (z8 : SL5) again9 => 
    W.cnd (decide (z8.1 < (s.2.2.2.2.2.1.length : Int))) (W.idx s.2.2.2.2.2.1 z8.1 fun x10 => W.call (ledger_writer_unitsW W z8.2.1 z8.2.2.1 (x10.1 :: (x10.2.1 :: []))) fun v11 => W.call (ledger_writer_flagW W v11.2.1 v11.2.2.1 x10.2.2.1) fun v12 => (again9 ((IntKind.i64.wrap (z8.1 + 1)), v12.2)))
     (some ((), z8.2)))
    (0, v7.2)))
  (0, v1.2)
abbrev ledger_writer_accounts := ledger_writer_accountsW stdW
def ledger_writer_dealsW (W : Wd) (w0 : Bool) (w1 : List Int) (s : AState') : Option (Unit × (Bool × (List Int) × Unit)) := W.call (ledger_writer_numsW W w0 w1 ((s.2.2.2.2.2.2.1.length : Int) :: [])) fun v1 => 
 W.loop (fun (z2 : SL5) again3 => 
  W.cnd (decide (z2.1 < (s.2.2.2.2.2.2.1.length : Int))) (W.idx s.2.2.2.2.2.2.1 z2.1 fun x4 => W.call (ledger_writer_numsW W z2.2.1 z2.2.2.1 (x4.1 :: [])) fun v5 => W.call (ledger_writer_unitsW W v5.2.1 v5.2.2.1 (x4.2.1 :: [])) fun v6 => W.call (ledger_writer_numsW W v6.2.1 v6.2.2.1 (x4.2.2.1 :: [])) fun v7 => W.call (pack_Writer_IntW W v7.2.1 v7.2.2.1 (x4.2.2.2.1 :: (x4.2.2.2.2.1 :: []))) fun v8 => (again3 ((IntKind.i64.wrap (z2.1 + 1)), v8.2)))
   (W.call (ledger_writer_numsW W z2.2.1 z2.2.2.1 ((s.2.2.2.2.2.2.2.1.length : Int) :: [])) fun v9 => 
   W.loop (fun (z10 : SL5) again11 => 
    W.cnd (decide (z10.1 < (s.2.2.2.2.2.2.2.1.length : Int))) (W.idx s.2.2.2.2.2.2.2.1 z10.1 fun x12 => W.call (ledger_writer_numsW W z10.2.1 z10.2.2.1 (x12.1 :: [])) fun v13 => W.call (ledger_writer_unitsW W v13.2.1 v13.2.2.1 (x12.2.1 :: (x12.2.2.1 :: []))) fun v14 => W.call (ledger_writer_numsW W v14.2.1 v14.2.2.1 (x12.2.2.2.1.1 :: [])) fun v15 => W.call (pack_Writer_IntW W v15.2.1 v15.2.2.1 (x12.2.2.2.1.2.1 :: (x12.2.2.2.2.1 :: []))) fun v16 => W.call (ledger_writer_numsW W v16.2.1 v16.2.2.1 (x12.2.2.2.2.2.1 :: (x12.2.2.2.2.2.2.1 :: (x12.2.2.2.2.2.2.2.1 :: [])))) fun v17 => (again11 ((IntKind.i64.wrap (z10.1 + 1)), v17.2)))
     (some ((), z10.2)))
    (0, v9.2)))
  (0, v1.2)
abbrev ledger_writer_deals := ledger_writer_dealsW stdW
def ledger_writer_bookW (W : Wd) (w0 : Bool) (w1 : List Int) (l : List APos') : Option (Unit × (Bool × (List Int) × Unit)) := W.call (ledger_writer_numsW W w0 w1 ((l.length : Int) :: [])) fun v1 => 
 W.loop (fun (z2 : SL5) again3 => 
  W.cnd (decide (z2.1 < (l.length : Int))) (W.idx l z2.1 fun x4 => W.call (ledger_writer_unitsW W z2.2.1 z2.2.2.1 (x4.1 :: [])) fun v5 => W.call (ledger_writer_numsW W v5.2.1 v5.2.2.1 ((x4.2.1.length : Int) :: [])) fun v6 => 
   W.loop (fun (z7 : SL5) again8 => 
    W.cnd (decide (z7.1 < (x4.2.1.length : Int))) (W.idx x4.2.1 z7.1 fun x9 => W.call (ledger_writer_numsW W z7.2.1 z7.2.2.1 (x9.1 :: [])) fun v10 => W.call (pack_Writer_IntW W v10.2.1 v10.2.2.1 (x9.2.1 :: [])) fun v11 => (again8 ((IntKind.i64.wrap (z7.1 + 1)), v11.2)))
     ((again3 ((IntKind.i64.wrap (z2.1 + 1)), z7.2))))
    (0, v6.2))
   (some ((), z2.2)))
  (0, v1.2)
abbrev ledger_writer_book := ledger_writer_bookW stdW
def ledger_writer_moneyW (W : Wd) (w0 : Bool) (w1 : List Int) (s : AState') : Option (Unit × (Bool × (List Int) × Unit)) := W.call (ledger_writer_numsW W w0 w1 ((s.2.2.2.2.2.2.2.2.2.2.1.length : Int) :: [])) fun v1 => 
 W.loop (fun (z2 : SL5) again3 => 
  W.cnd (decide (z2.1 < (s.2.2.2.2.2.2.2.2.2.2.1.length : Int))) (W.idx s.2.2.2.2.2.2.2.2.2.2.1 z2.1 fun x4 => W.call (ledger_writer_unitsW W z2.2.1 z2.2.2.1 (x4.1 :: [])) fun v5 => W.call (pack_Writer_IntW W v5.2.1 v5.2.2.1 (x4.2.1 :: [])) fun v6 => (again3 ((IntKind.i64.wrap (z2.1 + 1)), v6.2)))
   (W.call (ledger_writer_numsW W z2.2.1 z2.2.2.1 ((s.2.2.2.2.2.2.2.2.2.2.2.1.length : Int) :: [])) fun v7 => 
   W.loop (fun (z8 : SL5) again9 => 
    W.cnd (decide (z8.1 < (s.2.2.2.2.2.2.2.2.2.2.2.1.length : Int))) (W.idx s.2.2.2.2.2.2.2.2.2.2.2.1 z8.1 fun x10 => W.call (ledger_writer_unitsW W z8.2.1 z8.2.2.1 (x10.1 :: [])) fun v11 => W.call (ledger_writer_numsW W v11.2.1 v11.2.2.1 ((x10.2.1.length : Int) :: [])) fun v12 => 
     W.loop (fun (z13 : SL5) again14 => 
      W.cnd (decide (z13.1 < (x10.2.1.length : Int))) (W.idx x10.2.1 z13.1 fun x15 => W.call (ledger_writer_numsW W z13.2.1 z13.2.2.1 (x15.1 :: (x15.2.1 :: []))) fun v16 => W.call (pack_Writer_IntW W v16.2.1 v16.2.2.1 (x15.2.2.1 :: [])) fun v17 => (again14 ((IntKind.i64.wrap (z13.1 + 1)), v17.2)))
       ((again9 ((IntKind.i64.wrap (z8.1 + 1)), z13.2))))
      (0, v12.2))
     (some ((), z8.2)))
    (0, v7.2)))
  (0, v1.2)
abbrev ledger_writer_money := ledger_writer_moneyW stdW
def slices_Clonebyte_byteW (W : Wd) (s : List Int) : Option (List Int) := W.nilq (List.isEmpty s) fun g1 => 
 W.cnd (Go.Vc.notIf false g1) (some [])
  (W.room ((0 : Nat) + s.length) 1 (some ([] ++ s)))
abbrev slices_Clonebyte_byte := slices_Clonebyte_byteW stdW
def pack_Writer_DoneW (W : Wd) (w0 : Bool) (w1 : List Int) : Option ((List Int) × (Bool × (List Int) × Unit)) := W.call (pack_Writer_okW W w0 w1) fun v1 => 
 W.cnd (!v1.1) (some ([], v1.2))
  (W.call (slices_Clonebyte_byteW W v1.2.2.1) fun v2 => some (v2, v1.2))
abbrev pack_Writer_Done := pack_Writer_DoneW stdW
def ledger_EncodeW (W : Wd) (s : AState') : Option (List Int) := W.call (pack_NewW W) fun v1 => W.call (ledger_writer_numsW W v1.2.1 v1.2.2.1 (s.1 :: [])) fun v2 => W.call (ledger_writer_tablesW W v2.2.1 v2.2.2.1 s) fun v3 => W.call (ledger_writer_accountsW W v3.2.1 v3.2.2.1 s) fun v4 => W.call (ledger_writer_dealsW W v4.2.1 v4.2.2.1 s) fun v5 => W.call (ledger_writer_bookW W v5.2.1 v5.2.2.1 s.2.2.2.2.2.2.2.2.1) fun v6 => W.call (ledger_writer_bookW W v6.2.1 v6.2.2.1 s.2.2.2.2.2.2.2.2.2.1) fun v7 => W.call (ledger_writer_moneyW W v7.2.1 v7.2.2.1 s) fun v8 => W.call (pack_Writer_DoneW W v8.2.1 v8.2.2.1) fun v9 => some v9.1
abbrev ledger_Encode := ledger_EncodeW stdW
def ref04_IntW (W : Wd) (n : Int) : Option (List Int) := 
 W.join (fun (z1 : Int × Unit) => 
  W.loop (fun (z2 : SL7) again3 => 
   W.cnd (decide (128 ≤ z2.1)) (W.nz 128 (W.room (z2.2.1.length + ((IntKind.u8.wrap (IntKind.u64.wrap ((Int.tmod z2.1 128) + 128))) :: []).length) 1 (W.nz 128 ((again3 ((IntKind.u64.wrap (Int.tdiv z2.1 128)), ((z2.2.1 ++ ((IntKind.u8.wrap (IntKind.u64.wrap ((Int.tmod z2.1 128) + 128))) :: [])), ())))))))
    (W.room (z2.2.1.length + ((IntKind.u8.wrap z2.1) :: []).length) 1 (some (z2.2.1 ++ ((IntKind.u8.wrap z2.1) :: [])))))
   (z1.1, ([], ())))
  fun k4 => 
  W.cnd (decide (0 ≤ n)) ((k4 ((IntKind.u64.wrap (2 * (IntKind.u64.wrap n))), ())))
   ((k4 ((IntKind.u64.wrap ((IntKind.u64.wrap (2 * (IntKind.u64.wrap (IntKind.i64.wrap (0 - (IntKind.i64.wrap (n + 1))))))) + 1)), ())))
abbrev ref04_Int := ref04_IntW stdW
def ref33_countW (W : Wd) (b : List Int) (n : Int) : Option ((List Int) × Unit) := W.call (ref04_IntW W n) fun v1 => W.room (b.length + v1.length) 1 (some ((b ++ v1), ()))
abbrev ref33_count := ref33_countW stdW
def ref04_IntsW (W : Wd) (l : List Int) : Option (List Int) := 
 W.loop (fun (z1 : SL7) again2 => 
  W.cnd (decide (z1.1 < (l.length : Int))) (W.idx l z1.1 fun x3 => W.call (ref04_IntW W x3) fun v4 => W.room (z1.2.1.length + v4.length) 1 ((again2 ((IntKind.i64.wrap (z1.1 + 1)), ((z1.2.1 ++ v4), ())))))
   (some z1.2.1))
  (0, ([], ()))
abbrev ref04_Ints := ref04_IntsW stdW
def ref33_numsW (W : Wd) (b : List Int) (l : List Int) : Option ((List Int) × Unit) := W.call (ref04_IntsW W l) fun v1 => W.room (b.length + v1.length) 1 (some ((b ++ v1), ()))
abbrev ref33_nums := ref33_numsW stdW
def ref33_positionsW (W : Wd) (b : List Int) (l : List APos') : Option ((List Int) × Unit) := W.call (ref33_countW W b (l.length : Int)) fun v1 => 
 W.loop (fun (z2 : SL7) again3 => 
  W.cnd (decide (z2.1 < (l.length : Int))) (W.idx l z2.1 fun x4 => W.idx l z2.1 fun x5 => W.idx l z2.1 fun x6 => W.call (ref33_numsW W z2.2.1 (x4.1.1 :: (x5.1.2.1 :: ((x6.2.1.length : Int) :: [])))) fun v7 => 
   W.loop (fun (z8 : SL7) again9 => W.idx l z2.1 fun x10 => 
    W.cnd (decide (z8.1 < (x10.2.1.length : Int))) (W.idx l z2.1 fun x11 => W.idx x11.2.1 z8.1 fun x12 => W.idx l z2.1 fun x13 => W.idx x13.2.1 z8.1 fun x14 => W.call (ref33_numsW W z8.2.1 (x12.1 :: (x14.2.1 :: []))) fun v15 => (again9 ((IntKind.i64.wrap (z8.1 + 1)), v15)))
     ((again3 ((IntKind.i64.wrap (z2.1 + 1)), z8.2))))
    (0, v7))
   (some z2.2))
  (0, v1)
abbrev ref33_positions := ref33_positionsW stdW
def ref33_EncodeW (W : Wd) (s : AState') : Option (List Int) := W.call (ref04_IntW W s.1) fun v1 => W.call (ref33_countW W v1 (s.2.1.length : Int)) fun v2 => 
 W.loop (fun (z3 : SL7) again4 => 
  W.cnd (decide (z3.1 < (s.2.1.length : Int))) (W.idx s.2.1 z3.1 fun x5 => W.call (ref33_numsW W z3.2.1 (x5.1 :: (x5.2.1 :: (x5.2.2.1 :: (x5.2.2.2.1 :: []))))) fun v6 => (again4 ((IntKind.i64.wrap (z3.1 + 1)), v6)))
   (W.call (ref33_countW W z3.2.1 (s.2.2.1.length : Int)) fun v7 => 
   W.loop (fun (z8 : SL7) again9 => 
    W.cnd (decide (z8.1 < (s.2.2.1.length : Int))) (W.idx s.2.2.1 z8.1 fun x10 => W.call (ref33_numsW W z8.2.1 (x10.1 :: (x10.2.1 :: (x10.2.2.1 :: (x10.2.2.2.1 :: ((x10.2.2.2.2.1.length : Int) :: [])))))) fun v11 => W.call (ref33_numsW W v11.1 x10.2.2.2.2.1) fun v12 => (again9 ((IntKind.i64.wrap (z8.1 + 1)), v12)))
     (W.call (ref33_countW W z8.2.1 (s.2.2.2.1.length : Int)) fun v13 => 
     W.loop (fun (z14 : SL7) again15 => 
      W.cnd (decide (z14.1 < (s.2.2.2.1.length : Int))) (W.idx s.2.2.2.1 z14.1 fun x16 => W.idx s.2.2.2.1 z14.1 fun x17 => W.idx s.2.2.2.1 z14.1 fun x18 => W.call (ref33_numsW W z14.2.1 (x16.1 :: (x17.2.1 :: (x18.2.2.1 :: [])))) fun v19 => (again15 ((IntKind.i64.wrap (z14.1 + 1)), v19)))
       (W.call (ref33_countW W z14.2.1 (s.2.2.2.2.1.length : Int)) fun v20 => 
       W.loop (fun (z21 : SL7) again22 => 
        W.cnd (decide (z21.1 < (s.2.2.2.2.1.length : Int))) (W.idx s.2.2.2.2.1 z21.1 fun x23 => W.call (ref33_numsW W z21.2.1 (x23.1 :: (x23.2.1 :: (x23.2.2.1 :: ((x23.2.2.2.1.length : Int) :: []))))) fun v24 => 
         W.loop (fun (z25 : SL7) again26 => 
          W.cnd (decide (z25.1 < (x23.2.2.2.1.length : Int))) (W.idx x23.2.2.2.1 z25.1 fun x27 => W.call (ref33_countW W z25.2.1 x27) fun v28 => (again26 ((IntKind.i64.wrap (z25.1 + 1)), v28)))
           ((again22 ((IntKind.i64.wrap (z21.1 + 1)), z25.2))))
          (0, v24))
         (W.call (ref33_countW W z21.2.1 (s.2.2.2.2.2.1.length : Int)) fun v29 => 
         W.loop (fun (z30 : SL7) again31 => 
          W.cnd (decide (z30.1 < (s.2.2.2.2.2.1.length : Int))) (W.idx s.2.2.2.2.2.1 z30.1 fun x32 => 
           W.join (fun (z33 : SL7) => W.call (ref33_numsW W z33.2.1 (x32.1.1 :: (x32.1.2.1 :: (x32.2.1.1 :: (x32.2.1.2.1 :: (z33.1 :: [])))))) fun v34 => (again31 ((IntKind.i64.wrap (z30.1 + 1)), v34)))
            fun k35 => 
            W.cnd x32.2.2.1 ((k35 (1, z30.2)))
             ((k35 (0, z30.2))))
           (W.call (ref33_countW W z30.2.1 (s.2.2.2.2.2.2.1.length : Int)) fun v36 => 
           W.loop (fun (z37 : SL7) again38 => 
            W.cnd (decide (z37.1 < (s.2.2.2.2.2.2.1.length : Int))) (W.idx s.2.2.2.2.2.2.1 z37.1 fun x39 => W.call (ref33_numsW W z37.2.1 (x39.1 :: (x39.2.1.1 :: (x39.2.1.2.1 :: (x39.2.2.1 :: (x39.2.2.2.1 :: (x39.2.2.2.2.1 :: []))))))) fun v40 => (again38 ((IntKind.i64.wrap (z37.1 + 1)), v40)))
             (W.call (ref33_countW W z37.2.1 (s.2.2.2.2.2.2.2.1.length : Int)) fun v41 => 
             W.loop (fun (z42 : SL7) again43 => 
              W.cnd (decide (z42.1 < (s.2.2.2.2.2.2.2.1.length : Int))) (W.idx s.2.2.2.2.2.2.2.1 z42.1 fun x44 => W.call (ref33_numsW W z42.2.1 (x44.1 :: (x44.2.1.1 :: (x44.2.1.2.1 :: (x44.2.2.1.1 :: (x44.2.2.1.2.1 :: (x44.2.2.2.1.1 :: (x44.2.2.2.1.2.1 :: (x44.2.2.2.2.1 :: (x44.2.2.2.2.2.1 :: (x44.2.2.2.2.2.2.1 :: (x44.2.2.2.2.2.2.2.1 :: [])))))))))))) fun v45 => (again43 ((IntKind.i64.wrap (z42.1 + 1)), v45)))
               (W.call (ref33_positionsW W z42.2.1 s.2.2.2.2.2.2.2.2.1) fun v46 => W.call (ref33_positionsW W v46.1 s.2.2.2.2.2.2.2.2.2.1) fun v47 => W.call (ref33_countW W v47.1 (s.2.2.2.2.2.2.2.2.2.2.1.length : Int)) fun v48 => 
               W.loop (fun (z49 : SL7) again50 => 
                W.cnd (decide (z49.1 < (s.2.2.2.2.2.2.2.2.2.2.1.length : Int))) (W.idx s.2.2.2.2.2.2.2.2.2.2.1 z49.1 fun x51 => W.call (ref33_numsW W z49.2.1 (x51.1.1 :: (x51.1.2.1 :: (x51.2.1 :: [])))) fun v52 => (again50 ((IntKind.i64.wrap (z49.1 + 1)), v52)))
                 (W.call (ref33_countW W z49.2.1 (s.2.2.2.2.2.2.2.2.2.2.2.1.length : Int)) fun v53 => 
                 W.loop (fun (z54 : SL7) again55 => 
                  W.cnd (decide (z54.1 < (s.2.2.2.2.2.2.2.2.2.2.2.1.length : Int))) (W.idx s.2.2.2.2.2.2.2.2.2.2.2.1 z54.1 fun x56 => W.call (ref33_numsW W z54.2.1 (x56.1.1 :: (x56.1.2.1 :: ((x56.2.1.length : Int) :: [])))) fun v57 => 
                   W.loop (fun (z58 : SL7) again59 => 
                    W.cnd (decide (z58.1 < (x56.2.1.length : Int))) (W.idx x56.2.1 z58.1 fun x60 => W.idx x56.2.1 z58.1 fun x61 => W.idx x56.2.1 z58.1 fun x62 => W.call (ref33_numsW W z58.2.1 (x60.1 :: (x61.2.1 :: (x62.2.2.1 :: [])))) fun v63 => (again59 ((IntKind.i64.wrap (z58.1 + 1)), v63)))
                     ((again55 ((IntKind.i64.wrap (z54.1 + 1)), z58.2))))
                    (0, v57))
                   (some z54.2.1))
                  (0, v53)))
                (0, v48)))
              (0, v41)))
            (0, v36)))
          (0, v29)))
        (0, v20)))
      (0, v13)))
    (0, v7)))
  (0, v2)
abbrev ref33_Encode := ref33_EncodeW stdW
def ref01_SameW (W : Wd) (a : List Int) (b : List Int) : Option Bool := 
 W.cnd ((a.length : Int) != (b.length : Int)) (some false)
  (
  W.loop (fun (z1 : Int × Unit) again2 => 
   W.cnd (decide (z1.1 < (a.length : Int))) (W.idx a z1.1 fun x3 => W.idx b z1.1 fun x4 => 
    W.cnd (x3 != x4) (some false)
     ((again2 ((IntKind.i64.wrap (z1.1 + 1)), ()))))
    (some true))
   (0, ()))
abbrev ref01_Same := ref01_SameW stdW
def ledger_EmptyW (W : Wd) : Option AState' := some (0, ([], ([], ([], ([], ([], ([], ([], ([], ([], ([], ([], ()))))))))))))
def pack_OpenW (W : Wd) (b : List Int) : Option (Unit × (Bool × (List Int) × Int × Unit)) := W.call (slices_Clonebyte_byteW W b) fun v1 => some ((), (true, (v1, (0, ()))))
abbrev pack_Open := pack_OpenW stdW
def pack_Reader_goodW (W : Wd) (r0 : Bool) (r1 : List Int) (r2 : Int) : Option (Bool × (Bool × (List Int) × Int × Unit)) := 
 W.cnd r0 (some ((r2 == 0), (r0, (r1, (r2, ())))))
  (some (false, (r0, (r1, (r2, ())))))
abbrev pack_Reader_good := pack_Reader_goodW stdW
def pack_Reader_failW (W : Wd) (r0 : Bool) (r1 : List Int) (r2 : Int) (e : Int) : Option (Unit × (Bool × (List Int) × Int × Unit)) := some ((), (r0, ([], (e, ()))))
abbrev pack_Reader_fail := pack_Reader_failW stdW
def pack_Reader_numberW (W : Wd) (r0 : Bool) (r1 : List Int) (r2 : Int) : Option ((Int × Bool × Unit) × (Bool × (List Int) × Int × Unit)) := 
 W.loop (fun (z1 : Int × Int × Bool × List (Int) × Int × Unit) again2 => 
  W.cnd ((z1.2.2.2.1.length : Int) == 0) (W.call (pack_Reader_failW W z1.2.2.1 z1.2.2.2.1 z1.2.2.2.2.1 4) fun v3 => some ((0, (false, ())), v3.2))
   (W.idx z1.2.2.2.1 0 fun x4 => W.bnd 1 z1.2.2.2.1.length fun h5 => 
   W.join (fun (z6 : Bool × Unit) => 
    W.cnd z6.1 (W.call (pack_Reader_failW W z1.2.2.1 ((z1.2.2.2.1.take z1.2.2.2.1.length).drop h5) z1.2.2.2.2.1 3) fun v7 => some ((0, (false, ())), v7.2))
     (W.nn z1.2.1 (
     W.cnd (decide (x4 < 128)) (some (((Go.bits Go.BinOp.or Go.IntKind.u64 z1.1 (IntKind.u64.wrap ((IntKind.u64.wrap (Go.bits Go.BinOp.and Go.IntKind.u8 x4 127)) * (2 ^ (Min.min (Int.toNat z1.2.1) (Go.IntKind.bits Go.IntKind.u64)))))), (true, ())), (z1.2.2.1, (((z1.2.2.2.1.take z1.2.2.2.1.length).drop h5), z1.2.2.2.2))))
      ((again2 ((Go.bits Go.BinOp.or Go.IntKind.u64 z1.1 (IntKind.u64.wrap ((IntKind.u64.wrap (Go.bits Go.BinOp.and Go.IntKind.u8 x4 127)) * (2 ^ (Min.min (Int.toNat z1.2.1) (Go.IntKind.bits Go.IntKind.u64)))))), ((IntKind.i64.wrap (z1.2.1 + 7)), (z1.2.2.1, (((z1.2.2.2.1.take z1.2.2.2.1.length).drop h5), z1.2.2.2.2)))))))))
    fun k8 => 
    W.cnd (decide (63 < z1.2.1)) ((k8 (true, ())))
     (
     W.cnd (z1.2.1 == 63) (
      W.cnd (decide (1 < x4)) ((k8 (true, ())))
       (
       W.cnd (x4 == 0) ((k8 ((decide (0 < z1.2.1)), ())))
        ((k8 (false, ())))))
      (
      W.cnd (x4 == 0) ((k8 ((decide (0 < z1.2.1)), ())))
       ((k8 (false, ())))))))
  (0, (0, (r0, (r1, (r2, ())))))
abbrev pack_Reader_number := pack_Reader_numberW stdW
def pack_unfoldedW (W : Wd) (u : Int) : Option Int := W.nn 1 (some (Go.bits Go.BinOp.xor Go.IntKind.i64 (IntKind.i64.wrap (Int.fdiv u (2 ^ (Min.min (Int.toNat 1) (Go.IntKind.bits Go.IntKind.u64))))) (IntKind.i64.wrap (0 - (IntKind.i64.wrap (Go.bits Go.BinOp.and Go.IntKind.u64 u 1))))))
abbrev pack_unfolded := pack_unfoldedW stdW
def pack_Reader_IntW (W : Wd) (r0 : Bool) (r1 : List Int) (r2 : Int) (lo : Int) (hi : Int) : Option (Int × (Bool × (List Int) × Int × Unit)) := W.call (pack_Reader_goodW W r0 r1 r2) fun v1 => 
 W.cnd (!v1.1) (some (0, v1.2))
  (W.call (pack_Reader_numberW W v1.2.1 v1.2.2.1 v1.2.2.2.1) fun v2 => W.call (pack_unfoldedW W v2.1.1) fun v3 => 
  W.cnd (!v2.1.2.1) (some (0, v2.2))
   (
   W.join (fun (z4 : Bool × Unit) => 
    W.cnd z4.1 (W.call (pack_Reader_failW W v2.2.1 v2.2.2.1 v2.2.2.2.1 7) fun v5 => some (0, v5.2))
     (some (v3, v2.2)))
    fun k6 => 
    W.cnd (decide (v3 < lo)) ((k6 (true, ())))
     ((k6 ((decide (hi < v3)), ())))))
abbrev pack_Reader_Int := pack_Reader_IntW stdW
def ledger_reader_numW (W : Wd) (r0 : Bool) (r1 : List Int) (r2 : Int) : Option (Int × (Bool × (List Int) × Int × Unit)) := W.call (pack_Reader_IntW W r0 r1 r2 (-9223372036854775808) 9223372036854775807) fun v1 => some v1
abbrev ledger_reader_num := ledger_reader_numW stdW
def pack_Reader_ErrW (W : Wd) (r0 : Bool) (r1 : List Int) (r2 : Int) : Option (Int × (Bool × (List Int) × Int × Unit)) := 
 W.cnd (!r0) (some (1, (r0, (r1, (r2, ())))))
  (some (r2, (r0, (r1, (r2, ())))))
abbrev pack_Reader_Err := pack_Reader_ErrW stdW
def ledger_reader_longW (W : Wd) (r0 : Bool) (r1 : List Int) (r2 : Int) : Option (Int × (Bool × (List Int) × Int × Unit)) := W.call (pack_Reader_IntW W r0 r1 r2 (-9223372036854775808) 9223372036854775807) fun v1 => some v1
abbrev ledger_reader_long := ledger_reader_longW stdW
def ledger_reader_tables_1W (W : Wd) (free00_0 : Bool) (free00_1 : List Int) (free00_2 : Int) : Option (AMember' × (Bool × (List Int) × Int × Unit)) := W.call (ledger_reader_numW W free00_0 free00_1 free00_2) fun v1 => W.call (ledger_reader_longW W v1.2.1 v1.2.2.1 v1.2.2.2.1) fun v2 => W.call (ledger_reader_numW W v2.2.1 v2.2.2.1 v2.2.2.2.1) fun v3 => W.call (ledger_reader_numW W v3.2.1 v3.2.2.1 v3.2.2.2.1) fun v4 => some ((v1.1, (v2.1, (v3.1, (v4.1, ())))), v4.2)
abbrev ledger_reader_tables_1 := ledger_reader_tables_1W stdW
def ledger_list_ledger_reader_tables_1W (W : Wd) (r0 : Bool) (r1 : List Int) (r2 : Int) : Option ((List AMember') × (Bool × (List Int) × Int × Unit)) := 
 W.join (fun (z1 : Bool × List (Int) × Int × List AMember' × Unit) => some (z1.2.2.2.1, (U3 z1 ())))
  fun k2 => W.call (pack_Reader_IntW W r0 r1 r2 0 4096) fun v3 => 
  W.loop (fun (z4 : Int × Bool × List (Int) × Int × List AMember' × Unit) again5 => 
   W.cnd (decide (0 < z4.1)) (W.call (pack_Reader_ErrW W z4.2.1 z4.2.2.1 z4.2.2.2.1) fun v6 => 
    W.cnd (v6.1 == 0) (W.call (ledger_reader_tables_1W W v6.2.1 v6.2.2.1 v6.2.2.2.1) fun v7 => W.room (z4.2.2.2.2.1.length + (v7.1 :: []).length) 32 ((again5 ((IntKind.i64.wrap (z4.1 - 1)), (U3 v7.2 ((z4.2.2.2.2.1 ++ (v7.1 :: [])), ()))))))
     ((k2 (U3 v6.2 z4.2.2.2.2))))
    ((k2 z4.2)))
   (U4 v3 ([], ()))
abbrev ledger_list_ledger_reader_tables_1 := ledger_list_ledger_reader_tables_1W stdW
def ledger_list_ledger_reader_longW (W : Wd) (r0 : Bool) (r1 : List Int) (r2 : Int) : Option ((List Int) × (Bool × (List Int) × Int × Unit)) := 
 W.join (fun (z1 : SL10) => some (z1.2.2.2.1, (U3 z1 ())))
  fun k2 => W.call (pack_Reader_IntW W r0 r1 r2 0 4096) fun v3 => 
  W.loop (fun (z4 : SL8) again5 => 
   W.cnd (decide (0 < z4.1)) (W.call (pack_Reader_ErrW W z4.2.1 z4.2.2.1 z4.2.2.2.1) fun v6 => 
    W.cnd (v6.1 == 0) (W.call (ledger_reader_longW W v6.2.1 v6.2.2.1 v6.2.2.2.1) fun v7 => W.room (z4.2.2.2.2.1.length + (v7.1 :: []).length) 8 ((again5 ((IntKind.i64.wrap (z4.1 - 1)), (U3 v7.2 ((z4.2.2.2.2.1 ++ (v7.1 :: [])), ()))))))
     ((k2 (U3 v6.2 z4.2.2.2.2))))
    ((k2 z4.2)))
   (U4 v3 ([], ()))
abbrev ledger_list_ledger_reader_long := ledger_list_ledger_reader_longW stdW
def ledger_reader_tables_2W (W : Wd) (free00_0 : Bool) (free00_1 : List Int) (free00_2 : Int) : Option (AInst' × (Bool × (List Int) × Int × Unit)) := W.call (ledger_reader_numW W free00_0 free00_1 free00_2) fun v1 => W.call (ledger_reader_longW W v1.2.1 v1.2.2.1 v1.2.2.2.1) fun v2 => W.call (ledger_reader_longW W v2.2.1 v2.2.2.1 v2.2.2.2.1) fun v3 => W.call (ledger_reader_longW W v3.2.1 v3.2.2.1 v3.2.2.2.1) fun v4 => W.call (ledger_list_ledger_reader_longW W v4.2.1 v4.2.2.1 v4.2.2.2.1) fun v5 => some ((v1.1, (v2.1, (v3.1, (v4.1, (v5.1, ()))))), v5.2)
abbrev ledger_reader_tables_2 := ledger_reader_tables_2W stdW
def ledger_list_ledger_reader_tables_2W (W : Wd) (r0 : Bool) (r1 : List Int) (r2 : Int) : Option ((List AInst') × (Bool × (List Int) × Int × Unit)) := 
 W.join (fun (z1 : Bool × List (Int) × Int × List AInst' × Unit) => some (z1.2.2.2.1, (U3 z1 ())))
  fun k2 => W.call (pack_Reader_IntW W r0 r1 r2 0 4096) fun v3 => 
  W.loop (fun (z4 : Int × Bool × List (Int) × Int × List AInst' × Unit) again5 => 
   W.cnd (decide (0 < z4.1)) (W.call (pack_Reader_ErrW W z4.2.1 z4.2.2.1 z4.2.2.2.1) fun v6 => 
    W.cnd (v6.1 == 0) (W.call (ledger_reader_tables_2W W v6.2.1 v6.2.2.1 v6.2.2.2.1) fun v7 => W.room (z4.2.2.2.2.1.length + (v7.1 :: []).length) 56 ((again5 ((IntKind.i64.wrap (z4.1 - 1)), (U3 v7.2 ((z4.2.2.2.2.1 ++ (v7.1 :: [])), ()))))))
     ((k2 (U3 v6.2 z4.2.2.2.2))))
    ((k2 z4.2)))
   (U4 v3 ([], ()))
abbrev ledger_list_ledger_reader_tables_2 := ledger_list_ledger_reader_tables_2W stdW
def ledger_reader_tables_3W (W : Wd) (free00_0 : Bool) (free00_1 : List Int) (free00_2 : Int) : Option (ALot' × (Bool × (List Int) × Int × Unit)) := W.call (ledger_reader_numW W free00_0 free00_1 free00_2) fun v1 => W.call (ledger_reader_longW W v1.2.1 v1.2.2.1 v1.2.2.2.1) fun v2 => W.call (ledger_reader_longW W v2.2.1 v2.2.2.1 v2.2.2.2.1) fun v3 => some ((v1.1, (v2.1, (v3.1, ()))), v3.2)
abbrev ledger_reader_tables_3 := ledger_reader_tables_3W stdW
def ledger_list_ledger_reader_tables_3W (W : Wd) (r0 : Bool) (r1 : List Int) (r2 : Int) : Option ((List ALot') × (Bool × (List Int) × Int × Unit)) := 
 W.join (fun (z1 : SL11) => some (z1.2.2.2.1, (U3 z1 ())))
  fun k2 => W.call (pack_Reader_IntW W r0 r1 r2 0 4096) fun v3 => 
  W.loop (fun (z4 : SL9) again5 => 
   W.cnd (decide (0 < z4.1)) (W.call (pack_Reader_ErrW W z4.2.1 z4.2.2.1 z4.2.2.2.1) fun v6 => 
    W.cnd (v6.1 == 0) (W.call (ledger_reader_tables_3W W v6.2.1 v6.2.2.1 v6.2.2.2.1) fun v7 => W.room (z4.2.2.2.2.1.length + (v7.1 :: []).length) 24 ((again5 ((IntKind.i64.wrap (z4.1 - 1)), (U3 v7.2 ((z4.2.2.2.2.1 ++ (v7.1 :: [])), ()))))))
     ((k2 (U3 v6.2 z4.2.2.2.2))))
    ((k2 z4.2)))
   (U4 v3 ([], ()))
abbrev ledger_list_ledger_reader_tables_3 := ledger_list_ledger_reader_tables_3W stdW
def ledger_reader_tablesW (W : Wd) (r0 : Bool) (r1 : List Int) (r2 : Int) (s0 : Int) (s1 : List AMember') (s2 : List AInst') (s3 : List ALot') (s4 : List AAccount') (s5 : List AChoice') (s6 : List AGroup') (s7 : List AGive') (s8 : List APos') (s9 : List APos') (s10 : List AFlow') (s11 : List AHold') : Option (Unit × (Bool × (List Int) × Int × Int × (List AMember') × (List AInst') × (List ALot') × (List AAccount') × (List AChoice') × (List AGroup') × (List AGive') × (List APos') × (List APos') × (List AFlow') × (List AHold') × Unit)) := W.call (ledger_list_ledger_reader_tables_1W W r0 r1 r2) fun v1 => W.call (ledger_list_ledger_reader_tables_2W W v1.2.1 v1.2.2.1 v1.2.2.2.1) fun v2 => W.call (ledger_list_ledger_reader_tables_3W W v2.2.1 v2.2.2.1 v2.2.2.2.1) fun v3 => some ((), (U3 v3.2 (s0, (v1.1, (v2.1, (v3.1, (s4, (s5, (s6, (s7, (s8, (s9, (s10, (s11, ()))))))))))))))
abbrev ledger_reader_tables := ledger_reader_tablesW stdW
def ledger_list_ledger_reader_numW (W : Wd) (r0 : Bool) (r1 : List Int) (r2 : Int) : Option ((List Int) × (Bool × (List Int) × Int × Unit)) := 
 W.join (fun (z1 : SL10) => some (z1.2.2.2.1, (U3 z1 ())))
  fun k2 => W.call (pack_Reader_IntW W r0 r1 r2 0 4096) fun v3 => 
  W.loop (fun (z4 : SL8) again5 => 
   W.cnd (decide (0 < z4.1)) (W.call (pack_Reader_ErrW W z4.2.1 z4.2.2.1 z4.2.2.2.1) fun v6 => 
    W.cnd (v6.1 == 0) (W.call (ledger_reader_numW W v6.2.1 v6.2.2.1 v6.2.2.2.1) fun v7 => W.room (z4.2.2.2.2.1.length + (v7.1 :: []).length) 8 ((again5 ((IntKind.i64.wrap (z4.1 - 1)), (U3 v7.2 ((z4.2.2.2.2.1 ++ (v7.1 :: [])), ()))))))
     ((k2 (U3 v6.2 z4.2.2.2.2))))
    ((k2 z4.2)))
   (U4 v3 ([], ()))
abbrev ledger_list_ledger_reader_num := ledger_list_ledger_reader_numW stdW
def ledger_reader_accounts_1W (W : Wd) (free00_0 : Bool) (free00_1 : List Int) (free00_2 : Int) : Option (AAccount' × (Bool × (List Int) × Int × Unit)) := W.call (ledger_reader_numW W free00_0 free00_1 free00_2) fun v1 => W.call (ledger_reader_numW W v1.2.1 v1.2.2.1 v1.2.2.2.1) fun v2 => W.call (ledger_reader_numW W v2.2.1 v2.2.2.1 v2.2.2.2.1) fun v3 => W.call (ledger_list_ledger_reader_numW W v3.2.1 v3.2.2.1 v3.2.2.2.1) fun v4 => some ((v1.1, (v2.1, (v3.1, (v4.1, ())))), v4.2)
abbrev ledger_reader_accounts_1 := ledger_reader_accounts_1W stdW
def ledger_list_ledger_reader_accounts_1W (W : Wd) (r0 : Bool) (r1 : List Int) (r2 : Int) : Option ((List AAccount') × (Bool × (List Int) × Int × Unit)) := 
 W.join (fun (z1 : Bool × List (Int) × Int × List AAccount' × Unit) => some (z1.2.2.2.1, (U3 z1 ())))
  fun k2 => W.call (pack_Reader_IntW W r0 r1 r2 0 4096) fun v3 => 
  W.loop (fun (z4 : Int × Bool × List (Int) × Int × List AAccount' × Unit) again5 => 
   W.cnd (decide (0 < z4.1)) (W.call (pack_Reader_ErrW W z4.2.1 z4.2.2.1 z4.2.2.2.1) fun v6 => 
    W.cnd (v6.1 == 0) (W.call (ledger_reader_accounts_1W W v6.2.1 v6.2.2.1 v6.2.2.2.1) fun v7 => W.room (z4.2.2.2.2.1.length + (v7.1 :: []).length) 48 ((again5 ((IntKind.i64.wrap (z4.1 - 1)), (U3 v7.2 ((z4.2.2.2.2.1 ++ (v7.1 :: [])), ()))))))
     ((k2 (U3 v6.2 z4.2.2.2.2))))
    ((k2 z4.2)))
   (U4 v3 ([], ()))
abbrev ledger_list_ledger_reader_accounts_1 := ledger_list_ledger_reader_accounts_1W stdW
def ledger_reader_unitW (W : Wd) (r0 : Bool) (r1 : List Int) (r2 : Int) : Option (AUnit' × (Bool × (List Int) × Int × Unit)) := W.call (ledger_reader_numW W r0 r1 r2) fun v1 => W.call (ledger_reader_numW W v1.2.1 v1.2.2.1 v1.2.2.2.1) fun v2 => some ((v1.1, (v2.1, ())), v2.2)
abbrev ledger_reader_unit := ledger_reader_unitW stdW
def ledger_reader_accounts_2W (W : Wd) (free00_0 : Bool) (free00_1 : List Int) (free00_2 : Int) : Option (AChoice' × (Bool × (List Int) × Int × Unit)) := W.call (ledger_reader_unitW W free00_0 free00_1 free00_2) fun v1 => W.call (ledger_reader_unitW W v1.2.1 v1.2.2.1 v1.2.2.2.1) fun v2 => W.call (pack_Reader_IntW W v2.2.1 v2.2.2.1 v2.2.2.2.1 0 1) fun v3 => some ((v1.1, (v2.1, ((v3.1 == 1), ()))), v3.2)
abbrev ledger_reader_accounts_2 := ledger_reader_accounts_2W stdW
def ledger_list_ledger_reader_accounts_2W (W : Wd) (r0 : Bool) (r1 : List Int) (r2 : Int) : Option ((List AChoice') × (Bool × (List Int) × Int × Unit)) := 
 W.join (fun (z1 : Bool × List (Int) × Int × List AChoice' × Unit) => some (z1.2.2.2.1, (U3 z1 ())))
  fun k2 => W.call (pack_Reader_IntW W r0 r1 r2 0 4096) fun v3 => 
  W.loop (fun (z4 : Int × Bool × List (Int) × Int × List AChoice' × Unit) again5 => 
   W.cnd (decide (0 < z4.1)) (W.call (pack_Reader_ErrW W z4.2.1 z4.2.2.1 z4.2.2.2.1) fun v6 => 
    W.cnd (v6.1 == 0) (W.call (ledger_reader_accounts_2W W v6.2.1 v6.2.2.1 v6.2.2.2.1) fun v7 => W.room (z4.2.2.2.2.1.length + (v7.1 :: []).length) 40 ((again5 ((IntKind.i64.wrap (z4.1 - 1)), (U3 v7.2 ((z4.2.2.2.2.1 ++ (v7.1 :: [])), ()))))))
     ((k2 (U3 v6.2 z4.2.2.2.2))))
    ((k2 z4.2)))
   (U4 v3 ([], ()))
abbrev ledger_list_ledger_reader_accounts_2 := ledger_list_ledger_reader_accounts_2W stdW
def ledger_reader_accountsW (W : Wd) (r0 : Bool) (r1 : List Int) (r2 : Int) (s0 : Int) (s1 : List AMember') (s2 : List AInst') (s3 : List ALot') (s4 : List AAccount') (s5 : List AChoice') (s6 : List AGroup') (s7 : List AGive') (s8 : List APos') (s9 : List APos') (s10 : List AFlow') (s11 : List AHold') : Option (Unit × (Bool × (List Int) × Int × Int × (List AMember') × (List AInst') × (List ALot') × (List AAccount') × (List AChoice') × (List AGroup') × (List AGive') × (List APos') × (List APos') × (List AFlow') × (List AHold') × Unit)) := W.call (ledger_list_ledger_reader_accounts_1W W r0 r1 r2) fun v1 => W.call (ledger_list_ledger_reader_accounts_2W W v1.2.1 v1.2.2.1 v1.2.2.2.1) fun v2 => some ((), (U3 v2.2 (s0, (s1, (s2, (s3, (v1.1, (v2.1, (s6, (s7, (s8, (s9, (s10, (s11, ()))))))))))))))
abbrev ledger_reader_accounts := ledger_reader_accountsW stdW
def ledger_reader_deals_1W (W : Wd) (free00_0 : Bool) (free00_1 : List Int) (free00_2 : Int) : Option (AGroup' × (Bool × (List Int) × Int × Unit)) := W.call (ledger_reader_numW W free00_0 free00_1 free00_2) fun v1 => W.call (ledger_reader_unitW W v1.2.1 v1.2.2.1 v1.2.2.2.1) fun v2 => W.call (ledger_reader_numW W v2.2.1 v2.2.2.1 v2.2.2.2.1) fun v3 => W.call (ledger_reader_longW W v3.2.1 v3.2.2.1 v3.2.2.2.1) fun v4 => W.call (ledger_reader_longW W v4.2.1 v4.2.2.1 v4.2.2.2.1) fun v5 => some ((v1.1, (v2.1, (v3.1, (v4.1, (v5.1, ()))))), v5.2)
abbrev ledger_reader_deals_1 := ledger_reader_deals_1W stdW
def ledger_list_ledger_reader_deals_1W (W : Wd) (r0 : Bool) (r1 : List Int) (r2 : Int) : Option ((List AGroup') × (Bool × (List Int) × Int × Unit)) := 
 W.join (fun (z1 : Bool × List (Int) × Int × List AGroup' × Unit) => some (z1.2.2.2.1, (U3 z1 ())))
  fun k2 => W.call (pack_Reader_IntW W r0 r1 r2 0 4096) fun v3 => 
  W.loop (fun (z4 : Int × Bool × List (Int) × Int × List AGroup' × Unit) again5 => 
   W.cnd (decide (0 < z4.1)) (W.call (pack_Reader_ErrW W z4.2.1 z4.2.2.1 z4.2.2.2.1) fun v6 => 
    W.cnd (v6.1 == 0) (W.call (ledger_reader_deals_1W W v6.2.1 v6.2.2.1 v6.2.2.2.1) fun v7 => W.room (z4.2.2.2.2.1.length + (v7.1 :: []).length) 48 ((again5 ((IntKind.i64.wrap (z4.1 - 1)), (U3 v7.2 ((z4.2.2.2.2.1 ++ (v7.1 :: [])), ()))))))
     ((k2 (U3 v6.2 z4.2.2.2.2))))
    ((k2 z4.2)))
   (U4 v3 ([], ()))
abbrev ledger_list_ledger_reader_deals_1 := ledger_list_ledger_reader_deals_1W stdW
def ledger_reader_legW (W : Wd) (r0 : Bool) (r1 : List Int) (r2 : Int) : Option (AUnit' × (Bool × (List Int) × Int × Unit)) := W.call (ledger_reader_numW W r0 r1 r2) fun v1 => W.call (ledger_reader_longW W v1.2.1 v1.2.2.1 v1.2.2.2.1) fun v2 => some ((v1.1, (v2.1, ())), v2.2)
abbrev ledger_reader_leg := ledger_reader_legW stdW
def ledger_reader_deals_2W (W : Wd) (free00_0 : Bool) (free00_1 : List Int) (free00_2 : Int) : Option (AGive' × (Bool × (List Int) × Int × Unit)) := W.both (W.call (ledger_reader_numW W free00_0 free00_1 free00_2) fun v1 => W.both (W.call (ledger_reader_unitW W v1.2.1 v1.2.2.1 v1.2.2.2.1) fun v2 => W.both (W.call (ledger_reader_unitW W v2.2.1 v2.2.2.1 v2.2.2.2.1) fun v3 => W.both (W.call (ledger_reader_legW W v3.2.1 v3.2.2.1 v3.2.2.2.1) fun v4 => W.two (W.call (ledger_reader_longW W v4.2.1 v4.2.2.1 v4.2.2.2.1) fun v5 => W.call (ledger_reader_numW W v5.2.1 v5.2.2.1 v5.2.2.2.1) fun v6 => W.call (ledger_reader_numW W v6.2.1 v6.2.2.1 v6.2.2.2.1) fun v7 => W.call (ledger_reader_numW W v7.2.1 v7.2.2.1 v7.2.2.2.1) fun v8 => some ((v1.1, (v2.1, (v3.1, (v4.1, (v5.1, (v6.1, (v7.1, (v8.1, ())))))))), v8.2))) (W.call (ledger_reader_legW W v3.2.1 v3.2.2.1 v3.2.2.2.1) fun v13 => W.call (ledger_reader_longW W v13.2.1 v13.2.2.1 v13.2.2.2.1) fun v14 => W.call (ledger_reader_numW W v14.2.1 v14.2.2.1 v14.2.2.2.1) fun v15 => W.call (ledger_reader_numW W v15.2.1 v15.2.2.1 v15.2.2.2.1) fun v16 => W.call (ledger_reader_numW W v16.2.1 v16.2.2.1 v16.2.2.2.1) fun v17 => some ((v1.1, (v2.1, (v3.1, (v13.1, (v14.1, (v15.1, (v16.1, (v17.1, ())))))))), v17.2))) (W.call (ledger_reader_unitW W v2.2.1 v2.2.2.1 v2.2.2.2.1) fun v18 => W.call (ledger_reader_legW W v18.2.1 v18.2.2.1 v18.2.2.2.1) fun v19 => W.call (ledger_reader_longW W v19.2.1 v19.2.2.1 v19.2.2.2.1) fun v20 => W.call (ledger_reader_numW W v20.2.1 v20.2.2.1 v20.2.2.2.1) fun v21 => W.call (ledger_reader_numW W v21.2.1 v21.2.2.1 v21.2.2.2.1) fun v22 => W.call (ledger_reader_numW W v22.2.1 v22.2.2.1 v22.2.2.2.1) fun v23 => some ((v1.1, (v2.1, (v18.1, (v19.1, (v20.1, (v21.1, (v22.1, (v23.1, ())))))))), v23.2))) (W.call (ledger_reader_unitW W v1.2.1 v1.2.2.1 v1.2.2.2.1) fun v24 => W.call (ledger_reader_unitW W v24.2.1 v24.2.2.1 v24.2.2.2.1) fun v25 => W.call (ledger_reader_legW W v25.2.1 v25.2.2.1 v25.2.2.2.1) fun v26 => W.call (ledger_reader_longW W v26.2.1 v26.2.2.1 v26.2.2.2.1) fun v27 => W.call (ledger_reader_numW W v27.2.1 v27.2.2.1 v27.2.2.2.1) fun v28 => W.call (ledger_reader_numW W v28.2.1 v28.2.2.1 v28.2.2.2.1) fun v29 => W.call (ledger_reader_numW W v29.2.1 v29.2.2.1 v29.2.2.2.1) fun v30 => some ((v1.1, (v24.1, (v25.1, (v26.1, (v27.1, (v28.1, (v29.1, (v30.1, ())))))))), v30.2))) (W.call (ledger_reader_numW W free00_0 free00_1 free00_2) fun v31 => W.call (ledger_reader_unitW W v31.2.1 v31.2.2.1 v31.2.2.2.1) fun v32 => W.call (ledger_reader_unitW W v32.2.1 v32.2.2.1 v32.2.2.2.1) fun v33 => W.call (ledger_reader_legW W v33.2.1 v33.2.2.1 v33.2.2.2.1) fun v34 => W.call (ledger_reader_longW W v34.2.1 v34.2.2.1 v34.2.2.2.1) fun v35 => W.call (ledger_reader_numW W v35.2.1 v35.2.2.1 v35.2.2.2.1) fun v36 => W.call (ledger_reader_numW W v36.2.1 v36.2.2.1 v36.2.2.2.1) fun v37 => W.call (ledger_reader_numW W v37.2.1 v37.2.2.1 v37.2.2.2.1) fun v38 => some ((v31.1, (v32.1, (v33.1, (v34.1, (v35.1, (v36.1, (v37.1, (v38.1, ())))))))), v38.2))
abbrev ledger_reader_deals_2 := ledger_reader_deals_2W stdW
def ledger_list_ledger_reader_deals_2W (W : Wd) (r0 : Bool) (r1 : List Int) (r2 : Int) : Option ((List AGive') × (Bool × (List Int) × Int × Unit)) := 
 W.join (fun (z1 : Bool × List (Int) × Int × List AGive' × Unit) => some (z1.2.2.2.1, (U3 z1 ())))
  fun k2 => W.call (pack_Reader_IntW W r0 r1 r2 0 4096) fun v3 => 
  W.loop (fun (z4 : Int × Bool × List (Int) × Int × List AGive' × Unit) again5 => 
   W.cnd (decide (0 < z4.1)) (W.call (pack_Reader_ErrW W z4.2.1 z4.2.2.1 z4.2.2.2.1) fun v6 => 
    W.cnd (v6.1 == 0) (W.call (ledger_reader_deals_2W W v6.2.1 v6.2.2.1 v6.2.2.2.1) fun v7 => W.room (z4.2.2.2.2.1.length + (v7.1 :: []).length) 88 ((again5 ((IntKind.i64.wrap (z4.1 - 1)), (U3 v7.2 ((z4.2.2.2.2.1 ++ (v7.1 :: [])), ()))))))
     ((k2 (U3 v6.2 z4.2.2.2.2))))
    ((k2 z4.2)))
   (U4 v3 ([], ()))
abbrev ledger_list_ledger_reader_deals_2 := ledger_list_ledger_reader_deals_2W stdW
def ledger_reader_dealsW (W : Wd) (r0 : Bool) (r1 : List Int) (r2 : Int) (s0 : Int) (s1 : List AMember') (s2 : List AInst') (s3 : List ALot') (s4 : List AAccount') (s5 : List AChoice') (s6 : List AGroup') (s7 : List AGive') (s8 : List APos') (s9 : List APos') (s10 : List AFlow') (s11 : List AHold') : Option (Unit × (Bool × (List Int) × Int × Int × (List AMember') × (List AInst') × (List ALot') × (List AAccount') × (List AChoice') × (List AGroup') × (List AGive') × (List APos') × (List APos') × (List AFlow') × (List AHold') × Unit)) := W.call (ledger_list_ledger_reader_deals_1W W r0 r1 r2) fun v1 => W.call (ledger_list_ledger_reader_deals_2W W v1.2.1 v1.2.2.1 v1.2.2.2.1) fun v2 => some ((), (U3 v2.2 (s0, (s1, (s2, (s3, (s4, (s5, (v1.1, (v2.1, (s8, (s9, (s10, (s11, ()))))))))))))))
abbrev ledger_reader_deals := ledger_reader_dealsW stdW
def ledger_list_ledger_reader_legW (W : Wd) (r0 : Bool) (r1 : List Int) (r2 : Int) : Option ((List AUnit') × (Bool × (List Int) × Int × Unit)) := 
 W.join (fun (z1 : Bool × List (Int) × Int × List AUnit' × Unit) => some (z1.2.2.2.1, (U3 z1 ())))
  fun k2 => W.call (pack_Reader_IntW W r0 r1 r2 0 4096) fun v3 => 
  W.loop (fun (z4 : Int × Bool × List (Int) × Int × List AUnit' × Unit) again5 => 
   W.cnd (decide (0 < z4.1)) (W.call (pack_Reader_ErrW W z4.2.1 z4.2.2.1 z4.2.2.2.1) fun v6 => 
    W.cnd (v6.1 == 0) (W.call (ledger_reader_legW W v6.2.1 v6.2.2.1 v6.2.2.2.1) fun v7 => W.room (z4.2.2.2.2.1.length + (v7.1 :: []).length) 16 ((again5 ((IntKind.i64.wrap (z4.1 - 1)), (U3 v7.2 ((z4.2.2.2.2.1 ++ (v7.1 :: [])), ()))))))
     ((k2 (U3 v6.2 z4.2.2.2.2))))
    ((k2 z4.2)))
   (U4 v3 ([], ()))
abbrev ledger_list_ledger_reader_leg := ledger_list_ledger_reader_legW stdW
def ledger_reader_book_1W (W : Wd) (free00_0 : Bool) (free00_1 : List Int) (free00_2 : Int) : Option (APos' × (Bool × (List Int) × Int × Unit)) := W.call (ledger_reader_unitW W free00_0 free00_1 free00_2) fun v1 => W.call (ledger_list_ledger_reader_legW W v1.2.1 v1.2.2.1 v1.2.2.2.1) fun v2 => some ((v1.1, (v2.1, ())), v2.2)
abbrev ledger_reader_book_1 := ledger_reader_book_1W stdW
def ledger_list_ledger_reader_book_1W (W : Wd) (r0 : Bool) (r1 : List Int) (r2 : Int) : Option ((List APos') × (Bool × (List Int) × Int × Unit)) := 
 W.join (fun (z1 : Bool × List (Int) × Int × List APos' × Unit) => some (z1.2.2.2.1, (U3 z1 ())))
  fun k2 => W.call (pack_Reader_IntW W r0 r1 r2 0 4096) fun v3 => 
  W.loop (fun (z4 : Int × Bool × List (Int) × Int × List APos' × Unit) again5 => 
   W.cnd (decide (0 < z4.1)) (W.call (pack_Reader_ErrW W z4.2.1 z4.2.2.1 z4.2.2.2.1) fun v6 => 
    W.cnd (v6.1 == 0) (W.call (ledger_reader_book_1W W v6.2.1 v6.2.2.1 v6.2.2.2.1) fun v7 => W.room (z4.2.2.2.2.1.length + (v7.1 :: []).length) 40 ((again5 ((IntKind.i64.wrap (z4.1 - 1)), (U3 v7.2 ((z4.2.2.2.2.1 ++ (v7.1 :: [])), ()))))))
     ((k2 (U3 v6.2 z4.2.2.2.2))))
    ((k2 z4.2)))
   (U4 v3 ([], ()))
abbrev ledger_list_ledger_reader_book_1 := ledger_list_ledger_reader_book_1W stdW
def ledger_reader_bookW (W : Wd) (r0 : Bool) (r1 : List Int) (r2 : Int) : Option ((List APos') × (Bool × (List Int) × Int × Unit)) := W.call (ledger_list_ledger_reader_book_1W W r0 r1 r2) fun v1 => some v1
abbrev ledger_reader_book := ledger_reader_bookW stdW
def ledger_Decode_1W (W : Wd) (free00_0 : Bool) (free00_1 : List Int) (free00_2 : Int) : Option (AFlow' × (Bool × (List Int) × Int × Unit)) := W.call (ledger_reader_unitW W free00_0 free00_1 free00_2) fun v1 => W.call (ledger_reader_longW W v1.2.1 v1.2.2.1 v1.2.2.2.1) fun v2 => some ((v1.1, (v2.1, ())), v2.2)
abbrev ledger_Decode_1 := ledger_Decode_1W stdW
def ledger_list_ledger_Decode_1W (W : Wd) (r0 : Bool) (r1 : List Int) (r2 : Int) : Option ((List AFlow') × (Bool × (List Int) × Int × Unit)) := 
 W.join (fun (z1 : Bool × List (Int) × Int × List AFlow' × Unit) => some (z1.2.2.2.1, (U3 z1 ())))
  fun k2 => W.call (pack_Reader_IntW W r0 r1 r2 0 4096) fun v3 => 
  W.loop (fun (z4 : Int × Bool × List (Int) × Int × List AFlow' × Unit) again5 => 
   W.cnd (decide (0 < z4.1)) (W.call (pack_Reader_ErrW W z4.2.1 z4.2.2.1 z4.2.2.2.1) fun v6 => 
    W.cnd (v6.1 == 0) (W.call (ledger_Decode_1W W v6.2.1 v6.2.2.1 v6.2.2.2.1) fun v7 => W.room (z4.2.2.2.2.1.length + (v7.1 :: []).length) 24 ((again5 ((IntKind.i64.wrap (z4.1 - 1)), (U3 v7.2 ((z4.2.2.2.2.1 ++ (v7.1 :: [])), ()))))))
     ((k2 (U3 v6.2 z4.2.2.2.2))))
    ((k2 z4.2)))
   (U4 v3 ([], ()))
abbrev ledger_list_ledger_Decode_1 := ledger_list_ledger_Decode_1W stdW
def ledger_reader_lotW (W : Wd) (r0 : Bool) (r1 : List Int) (r2 : Int) : Option (ALot' × (Bool × (List Int) × Int × Unit)) := W.call (ledger_reader_numW W r0 r1 r2) fun v1 => W.call (ledger_reader_numW W v1.2.1 v1.2.2.1 v1.2.2.2.1) fun v2 => W.call (ledger_reader_longW W v2.2.1 v2.2.2.1 v2.2.2.2.1) fun v3 => some ((v1.1, (v2.1, (v3.1, ()))), v3.2)
abbrev ledger_reader_lot := ledger_reader_lotW stdW
def ledger_list_ledger_reader_lotW (W : Wd) (r0 : Bool) (r1 : List Int) (r2 : Int) : Option ((List ALot') × (Bool × (List Int) × Int × Unit)) := 
 W.join (fun (z1 : SL11) => some (z1.2.2.2.1, (U3 z1 ())))
  fun k2 => W.call (pack_Reader_IntW W r0 r1 r2 0 4096) fun v3 => 
  W.loop (fun (z4 : SL9) again5 => 
   W.cnd (decide (0 < z4.1)) (W.call (pack_Reader_ErrW W z4.2.1 z4.2.2.1 z4.2.2.2.1) fun v6 => 
    W.cnd (v6.1 == 0) (W.call (ledger_reader_lotW W v6.2.1 v6.2.2.1 v6.2.2.2.1) fun v7 => W.room (z4.2.2.2.2.1.length + (v7.1 :: []).length) 24 ((again5 ((IntKind.i64.wrap (z4.1 - 1)), (U3 v7.2 ((z4.2.2.2.2.1 ++ (v7.1 :: [])), ()))))))
     ((k2 (U3 v6.2 z4.2.2.2.2))))
    ((k2 z4.2)))
   (U4 v3 ([], ()))
abbrev ledger_list_ledger_reader_lot := ledger_list_ledger_reader_lotW stdW
def ledger_Decode_2W (W : Wd) (free00_0 : Bool) (free00_1 : List Int) (free00_2 : Int) : Option (AHold' × (Bool × (List Int) × Int × Unit)) := W.call (ledger_reader_unitW W free00_0 free00_1 free00_2) fun v1 => W.call (ledger_list_ledger_reader_lotW W v1.2.1 v1.2.2.1 v1.2.2.2.1) fun v2 => some ((v1.1, (v2.1, ())), v2.2)
abbrev ledger_Decode_2 := ledger_Decode_2W stdW
def ledger_list_ledger_Decode_2W (W : Wd) (r0 : Bool) (r1 : List Int) (r2 : Int) : Option ((List AHold') × (Bool × (List Int) × Int × Unit)) := 
 W.join (fun (z1 : Bool × List (Int) × Int × List AHold' × Unit) => some (z1.2.2.2.1, (U3 z1 ())))
  fun k2 => W.call (pack_Reader_IntW W r0 r1 r2 0 4096) fun v3 => 
  W.loop (fun (z4 : Int × Bool × List (Int) × Int × List AHold' × Unit) again5 => 
   W.cnd (decide (0 < z4.1)) (W.call (pack_Reader_ErrW W z4.2.1 z4.2.2.1 z4.2.2.2.1) fun v6 => 
    W.cnd (v6.1 == 0) (W.call (ledger_Decode_2W W v6.2.1 v6.2.2.1 v6.2.2.2.1) fun v7 => W.room (z4.2.2.2.2.1.length + (v7.1 :: []).length) 40 ((again5 ((IntKind.i64.wrap (z4.1 - 1)), (U3 v7.2 ((z4.2.2.2.2.1 ++ (v7.1 :: [])), ()))))))
     ((k2 (U3 v6.2 z4.2.2.2.2))))
    ((k2 z4.2)))
   (U4 v3 ([], ()))
abbrev ledger_list_ledger_Decode_2 := ledger_list_ledger_Decode_2W stdW
def pack_Reader_EndW (W : Wd) (r0 : Bool) (r1 : List Int) (r2 : Int) : Option (Int × (Bool × (List Int) × Int × Unit)) := W.call (pack_Reader_ErrW W r0 r1 r2) fun v1 => 
 W.cnd (v1.1 != 0) (some v1)
  (
  W.cnd (decide (0 < (v1.2.2.1.length : Int))) (some (5, v1.2))
   (some (0, v1.2)))
abbrev pack_Reader_End := pack_Reader_EndW stdW
def ledger_UnitsW (W : Wd) (s : AState') : Option (List AUnit') := 
 W.loop (fun (z1 : Int × List AUnit' × Unit) again2 => 
  W.cnd (decide (z1.1 < (s.2.2.2.2.1.length : Int))) (W.idx s.2.2.2.2.1 z1.1 fun x3 => W.call (acct_UnitsW W x3) fun v4 => W.room (z1.2.1.length + v4.length) 16 ((again2 ((IntKind.i64.wrap (z1.1 + 1)), ((z1.2.1 ++ v4), ())))))
   (some z1.2.1))
  (0, ([], ()))
abbrev ledger_Units := ledger_UnitsW stdW
def member_CheckW (W : Wd) (m : AMember') : Option Int := 
 W.join (fun (z1 : Bool × Unit) => 
  W.cnd z1.1 (some 2)
   (some 0))
  fun k2 => 
  W.cnd (decide (m.1 < 1)) ((k2 (true, ())))
   (
   W.cnd (decide (8 < m.1)) ((k2 (true, ())))
    (
    W.cnd (decide (m.2.1 < 0)) ((k2 (true, ())))
     (
     W.cnd (decide (4611686018427387904 < m.2.1)) ((k2 (true, ())))
      (
      W.cnd (decide (m.2.2.1 < 0)) ((k2 (true, ())))
       (
       W.cnd (decide (3 < m.2.2.1)) ((k2 (true, ())))
        (
        W.cnd (decide (m.2.2.2.1 < 0)) ((k2 (true, ())))
         ((k2 ((decide (2097152 < m.2.2.2.1)), ())))))))))
abbrev member_Check := member_CheckW stdW
def inst_pricedW (W : Wd) (p : Int) : Option Bool := 
 W.cnd (decide (0 ≤ p)) (some (decide (p ≤ 2147483647)))
  (some false)
abbrev inst_priced := inst_pricedW stdW
def inst_farW (W : Wd) (m : Int) : Option Bool := 
 W.cnd (decide (m < (-2147483647))) (some true)
  (some (decide (2147483647 < m)))
abbrev inst_far := inst_farW stdW
def slices_IndexFuncint64_int64_inst_farW (W : Wd) (s : List Int) : Option (Int × Unit) := 
 W.loop (fun (z1 : Int × Unit) again2 => 
  W.cnd (decide (z1.1 < (s.length : Int))) (W.idx s z1.1 fun x3 => W.call (inst_farW W x3) fun v4 => 
   W.cnd v4 (some z1)
    ((again2 ((IntKind.i64.wrap (z1.1 + 1)), ()))))
   (some ((-1), ())))
  (0, ())
def slices_ContainsFuncint64_int64_inst_farW (W : Wd) (s : List Int) : Option (Bool × Unit) := W.call (slices_IndexFuncint64_int64_inst_farW W s) fun v1 => some ((decide (0 ≤ v1.1)), ())
abbrev slices_ContainsFuncint64_int64_inst_far := slices_ContainsFuncint64_int64_inst_farW stdW
def inst_CheckW (W : Wd) (i : AInst') : Option Int := 
 W.join (fun (z1 : Bool × Unit) => 
  W.join (fun (z2 : Bool × Unit) => 
   W.cnd z2.1 (some 2)
    (some 0))
   fun k3 => 
   W.cnd (!z1.1) ((k3 (true, ())))
    (W.call (inst_pricedW W i.2.2.1) fun v4 => 
    W.cnd (!v4) ((k3 (true, ())))
     (W.call (inst_pricedW W i.2.2.2.1) fun v5 => 
     W.cnd (!v5) ((k3 (true, ())))
      (
      W.cnd (decide (8 < (i.2.2.2.2.1.length : Int))) ((k3 (true, ())))
       (W.call (slices_ContainsFuncint64_int64_inst_farW W i.2.2.2.2.1) fun v6 => (k3 v6))))))
  fun k7 => 
  W.cnd (decide (1 ≤ i.1)) (
   W.cnd (decide (i.1 ≤ 8)) (
    W.cnd (decide (1 ≤ i.2.1)) ((k7 ((decide (i.2.1 ≤ 65536)), ())))
     ((k7 (false, ()))))
    ((k7 (false, ()))))
   ((k7 (false, ())))
abbrev inst_Check := inst_CheckW stdW
def member_at_1W (W : Wd) (free10 : Int) (m : AMember') : Option (Bool × (Int × Unit)) := some ((m.1 == free10), (free10, ()))
def slices_IndexFuncapi_Member_api_Member_member_at_1W (W : Wd) (f0_0 : Int) (s : List AMember') : Option (Int × (Int × Unit)) := 
 W.loop (fun (z1 : SL12) again2 => 
  W.cnd (decide (z1.1 < (s.length : Int))) (W.idx s z1.1 fun x3 => W.call (member_at_1W W z1.2.1 x3) fun v4 => 
   W.cnd v4.1 (some (z1.1, v4.2))
    ((again2 ((IntKind.i64.wrap (z1.1 + 1)), v4.2))))
   (some ((-1), z1.2)))
  (0, (f0_0, ()))
def member_atW (W : Wd) (l : List AMember') (id : Int) : Option Int := W.call (slices_IndexFuncapi_Member_api_Member_member_at_1W W id l) fun v1 => some v1.1
abbrev member_at := member_atW stdW
def member_FindW (W : Wd) (l : List AMember') (id : Int) : Option (AMember' × Bool × Unit) := W.call (member_atW W l id) fun v1 => 
 W.cnd (decide (v1 < 0)) (some ((0, (0, (0, (0, ())))), (false, ())))
  (W.idx l v1 fun x2 => some (x2, (true, ())))
abbrev member_Find := member_FindW stdW
def acct_mostW (W : Wd) (kind : Int) : Option Int := 
 W.cnd (kind == 1) (some 0)
  (
  W.cnd (kind == 4) (some 1)
   (some 16))
abbrev acct_most := acct_mostW stdW
def acct_CheckW (W : Wd) (a : AAccount') : Option Int := 
 W.join (fun (z1 : Bool × Unit) => 
  W.join (fun (z2 : Bool × Unit) => 
   W.cnd z2.1 (some 2)
    (
    W.loop (fun (z3 : SL12) again4 => 
     W.cnd (decide (z3.2.1 < (a.2.2.2.1.length : Int))) (W.idx a.2.2.2.1 z3.2.1 fun x5 => 
      W.join (fun (z6 : Bool × Unit) => 
       W.cnd z6.1 (some 2)
        ((again4 (x5, ((IntKind.i64.wrap (z3.2.1 + 1)), ())))))
       fun k7 => 
       W.cnd (decide (x5 ≤ z3.1)) ((k7 (true, ())))
        ((k7 ((decide (16 < x5)), ()))))
      (some 0))
     (0, (0, ()))))
   fun k8 => 
   W.cnd (!z1.1) ((k8 (true, ())))
    (
    W.cnd (decide (a.2.2.1 < 1)) ((k8 (true, ())))
     (
     W.cnd (decide (4 < a.2.2.1)) ((k8 (true, ())))
      (W.call (acct_mostW W a.2.2.1) fun v9 => (k8 ((decide (v9 < (a.2.2.2.1.length : Int))), ()))))))
  fun k10 => 
  W.cnd (decide (1 ≤ a.1)) (
   W.cnd (decide (a.1 ≤ 16)) (
    W.cnd (decide (1 ≤ a.2.1)) ((k10 ((decide (a.2.1 ≤ 8)), ())))
     ((k10 (false, ()))))
    ((k10 (false, ()))))
   ((k10 (false, ())))
abbrev acct_Check := acct_CheckW stdW
def ledger_checker_accountsW (W : Wd) (c : LedgerChecker') : Option Bool := 
 W.loop (fun (z1 : Int × Unit) again2 => 
  W.cnd (decide (z1.1 < (c.1.2.2.2.2.1.length : Int))) (W.idx c.1.2.2.2.2.1 z1.1 fun x3 => W.call (member_FindW W c.1.2.1 x3.2.1) fun v4 => 
   W.join (fun (z5 : Bool × Unit) => 
    W.cnd z5.1 (some false)
     ((again2 ((IntKind.i64.wrap (z1.1 + 1)), ()))))
    fun k6 => 
    W.cnd (!v4.2.1) (W.both (W.two ((k6 (true, ())))) ((k6 (true, ()))))
     (W.call (acct_CheckW W x3) fun v7 => 
     W.cnd (v7 != 0) (W.both (W.two ((k6 (true, ())))) ((k6 (true, ()))))
      (
      W.cnd (decide (0 < z1.1)) (W.both (W.idx c.1.2.2.2.2.1 (IntKind.i64.wrap (z1.1 - 1)) fun x8 => W.two ((k6 ((decide (x3.1 ≤ x8.1)), ())))) (W.idx c.1.2.2.2.2.1 (IntKind.i64.wrap (z1.1 - 1)) fun x9 => (k6 ((decide (x3.1 ≤ x9.1)), ()))))
       (W.both (W.two ((k6 (false, ())))) ((k6 (false, ())))))))
   (some true))
  (0, ())
abbrev ledger_checker_accounts := ledger_checker_accountsW stdW
def ledger_checker_tablesW (W : Wd) (c : LedgerChecker') : Option Bool := 
 W.loop (fun (z1 : Int × Unit) again2 => 
  W.cnd (decide (z1.1 < (c.1.2.1.length : Int))) (W.idx c.1.2.1 z1.1 fun x3 => 
   W.join (fun (z4 : Bool × Unit) => 
    W.cnd z4.1 (some false)
     ((again2 ((IntKind.i64.wrap (z1.1 + 1)), ()))))
    fun k5 => W.call (member_CheckW W x3) fun v6 => 
    W.cnd (v6 != 0) (W.both (W.two ((k5 (true, ())))) ((k5 (true, ()))))
     (
     W.cnd (decide (0 < z1.1)) (W.both (W.idx c.1.2.1 (IntKind.i64.wrap (z1.1 - 1)) fun x7 => W.two ((k5 ((decide (x3.1 ≤ x7.1)), ())))) (W.idx c.1.2.1 (IntKind.i64.wrap (z1.1 - 1)) fun x8 => (k5 ((decide (x3.1 ≤ x8.1)), ()))))
      (W.both (W.two ((k5 (false, ())))) ((k5 (false, ()))))))
   (
   W.loop (fun (z9 : Int × Unit) again10 => 
    W.cnd (decide (z9.1 < (c.1.2.2.1.length : Int))) (W.idx c.1.2.2.1 z9.1 fun x11 => 
     W.join (fun (z12 : Bool × Unit) => 
      W.cnd z12.1 (some false)
       ((again10 ((IntKind.i64.wrap (z9.1 + 1)), ()))))
      fun k13 => W.call (inst_CheckW W x11) fun v14 => 
      W.cnd (v14 != 0) (W.both (W.two ((k13 (true, ())))) ((k13 (true, ()))))
       (
       W.cnd (decide (0 < z9.1)) (W.both (W.idx c.1.2.2.1 (IntKind.i64.wrap (z9.1 - 1)) fun x15 => W.two ((k13 ((decide (x11.1 ≤ x15.1)), ())))) (W.idx c.1.2.2.1 (IntKind.i64.wrap (z9.1 - 1)) fun x16 => (k13 ((decide (x11.1 ≤ x16.1)), ()))))
        (W.both (W.two ((k13 (false, ())))) ((k13 (false, ()))))))
     (
     W.loop (fun (z17 : Int × Unit) again18 => 
      W.cnd (decide (z17.1 < (c.1.2.2.2.1.length : Int))) (W.idx c.1.2.2.2.1 z17.1 fun x19 => 
       W.join (fun (z20 : Bool × Unit) => 
        W.cnd z20.1 (some false)
         ((again18 ((IntKind.i64.wrap (z17.1 + 1)), ()))))
        fun k21 => W.call (asset_CheckW W x19) fun v22 => 
        W.cnd (v22 != 0) (W.both (W.two ((k21 (true, ())))) ((k21 (true, ()))))
         (
         W.cnd (decide (0 < z17.1)) (W.both (W.idx c.1.2.2.2.1 (IntKind.i64.wrap (z17.1 - 1)) fun x23 => W.two ((k21 ((decide (x19.1 ≤ x23.1)), ())))) (W.idx c.1.2.2.2.1 (IntKind.i64.wrap (z17.1 - 1)) fun x24 => (k21 ((decide (x19.1 ≤ x24.1)), ()))))
          (W.both (W.two ((k21 (false, ())))) ((k21 (false, ()))))))
       (W.call (ledger_checker_accountsW W c) fun v25 => some v25))
      (0, ())))
    (0, ())))
  (0, ())
abbrev ledger_checker_tables := ledger_checker_tablesW stdW
def ledger_checker_unitW (W : Wd) (c : LedgerChecker') (u : AUnit') : Option Bool := some (Go.Vc.memU u c.2.1)
abbrev ledger_checker_unit := ledger_checker_unitW stdW
def elect_IsW (W : Wd) (l : List AChoice') : Option Bool := 
 W.loop (fun (z1 : Int × Unit) again2 => 
  W.cnd (decide (z1.1 < (l.length : Int))) (W.idx l z1.1 fun x3 => 
   W.join (fun (z4 : Bool × Unit) => 
    W.cnd z4.1 (some false)
     ((again2 ((IntKind.i64.wrap (z1.1 + 1)), ()))))
    fun k5 => 
    W.cnd (Go.Vc.notIf false ((x3.1.1 == x3.2.1.1) && (x3.1.2.1 == x3.2.1.2.1))) ((k5 (true, ())))
     (
     W.cnd (decide (0 < z1.1)) (W.idx l (IntKind.i64.wrap (z1.1 - 1)) fun x6 => W.call (acct_LessW W x6.1 x3.1) fun v7 => (k5 ((!v7), ())))
      ((k5 (false, ())))))
   (some true))
  (0, ())
abbrev elect_Is := elect_IsW stdW
def ledger_checker_choicesW (W : Wd) (c : LedgerChecker') : Option Bool := 
 W.loop (fun (z1 : Int × Unit) again2 => 
  W.cnd (decide (z1.1 < (c.1.2.2.2.2.2.1.length : Int))) (W.idx c.1.2.2.2.2.2.1 z1.1 fun x3 => 
   W.join (fun (z4 : Bool × Unit) => 
    W.cnd z4.1 (some false)
     ((again2 ((IntKind.i64.wrap (z1.1 + 1)), ()))))
    fun k5 => W.call (ledger_checker_unitW W c x3.1) fun v6 => 
    W.cnd (!v6) ((k5 (true, ())))
     (W.call (ledger_checker_unitW W c x3.2.1) fun v7 => (k5 ((!v7), ()))))
   (W.call (elect_IsW W c.1.2.2.2.2.2.1) fun v8 => some v8))
  (0, ())
abbrev ledger_checker_choices := ledger_checker_choicesW stdW
def inst_at_1W (W : Wd) (free10 : Int) (i : AInst') : Option (Bool × (Int × Unit)) := some ((i.1 == free10), (free10, ()))
def slices_IndexFuncapi_Inst_api_Inst_inst_at_1W (W : Wd) (f0_0 : Int) (s : List AInst') : Option (Int × (Int × Unit)) := 
 W.loop (fun (z1 : SL12) again2 => 
  W.cnd (decide (z1.1 < (s.length : Int))) (W.idx s z1.1 fun x3 => W.call (inst_at_1W W z1.2.1 x3) fun v4 => 
   W.cnd v4.1 (some (z1.1, v4.2))
    ((again2 ((IntKind.i64.wrap (z1.1 + 1)), v4.2))))
   (some ((-1), z1.2)))
  (0, (f0_0, ()))
def inst_atW (W : Wd) (l : List AInst') (id : Int) : Option Int := W.call (slices_IndexFuncapi_Inst_api_Inst_inst_at_1W W id l) fun v1 => some v1.1
abbrev inst_at := inst_atW stdW
def slices_Cloneint64_int64W (W : Wd) (s : List Int) : Option (List Int) := W.nilq (List.isEmpty s) fun g1 => 
 W.cnd (Go.Vc.notIf false g1) (some [])
  (W.room ((0 : Nat) + s.length) 8 (some ([] ++ s)))
abbrev slices_Cloneint64_int64 := slices_Cloneint64_int64W stdW
def inst_ownW (W : Wd) (i : AInst') : Option AInst' := W.call (slices_Cloneint64_int64W W i.2.2.2.2.1) fun v1 => some (U4 i (v1, ()))
def inst_FindW (W : Wd) (l : List AInst') (id : Int) : Option (AInst' × Bool × Unit) := W.call (inst_atW W l id) fun v1 => 
 W.cnd (decide (v1 < 0)) (some ((0, (0, (0, (0, ([], ()))))), (false, ())))
  (W.idx l v1 fun x2 => W.call (inst_ownW W x2) fun v3 => some (v3, (true, ())))
abbrev inst_Find := inst_FindW stdW
def ledger_checker_legsW (W : Wd) (c : LedgerChecker') (l : List AUnit') : Option Bool := 
 W.loop (fun (z1 : Int × Unit) again2 => 
  W.cnd (decide (z1.1 < (l.length : Int))) (W.idx l z1.1 fun x3 => W.call (inst_FindW W c.1.2.2.1 x3.1) fun v4 => 
   W.cnd (!v4.2.1) (some false)
    ((again2 ((IntKind.i64.wrap (z1.1 + 1)), ()))))
   (some true))
  (0, ())
abbrev ledger_checker_legs := ledger_checker_legsW stdW
def ledger_pricedW (W : Wd) (p : Int) : Option Bool := 
 W.cnd (decide (0 ≤ p)) (some (decide (p ≤ 2147483647)))
  (some false)
abbrev ledger_priced := ledger_pricedW stdW
def ledger_fewW (W : Wd) (n : Int) : Option Bool := 
 W.cnd (decide ((-1099511627776) ≤ n)) (some (decide (n ≤ 1099511627776)))
  (some false)
abbrev ledger_few := ledger_fewW stdW
def ledger_checker_groupsW (W : Wd) (c : LedgerChecker') : Option Bool := 
 W.loop (fun (z1 : Int × Unit) again2 => 
  W.cnd (decide (z1.1 < (c.1.2.2.2.2.2.2.1.length : Int))) (W.idx c.1.2.2.2.2.2.2.1 z1.1 fun x3 => 
   W.join (fun (z4 : Bool × Unit) => 
    W.cnd z4.1 (some false)
     ((again2 ((IntKind.i64.wrap (z1.1 + 1)), ()))))
    fun k5 => 
    W.cnd (x3.1 != (IntKind.i64.wrap (z1.1 + 1))) ((k5 (true, ())))
     (W.call (ledger_checker_unitW W c x3.2.1) fun v6 => 
     W.cnd (!v6) ((k5 (true, ())))
      (W.call (ledger_checker_legsW W c ((x3.2.2.1, (0, ())) :: [])) fun v7 => 
      W.cnd (!v7) ((k5 (true, ())))
       (W.call (ledger_pricedW W x3.2.2.2.1) fun v8 => 
       W.cnd (!v8) ((k5 (true, ())))
        (W.call (ledger_fewW W x3.2.2.2.2.1) fun v9 => (k5 ((!v9), ())))))))
   (some (decide ((c.1.2.2.2.2.2.2.1.length : Int) ≤ 64))))
  (0, ())
abbrev ledger_checker_groups := ledger_checker_groupsW stdW
def ledger_checker_givesW (W : Wd) (c : LedgerChecker') : Option Bool := 
 W.loop (fun (z1 : Int × Unit) again2 => 
  W.cnd (decide (z1.1 < (c.1.2.2.2.2.2.2.2.1.length : Int))) (W.idx c.1.2.2.2.2.2.2.2.1 z1.1 fun x3 => 
   W.join (fun (z4 : Bool × Unit) => 
    W.join (fun (z5 : Bool × Unit) => 
     W.cnd z5.1 (some false)
      (
      W.join (fun (z6 : Bool × Unit) => 
       W.cnd z6.1 (some false)
        ((again2 ((IntKind.i64.wrap (z1.1 + 1)), ()))))
       fun k7 => 
       W.cnd (decide (x3.2.2.2.2.2.1 < 0)) ((k7 (true, ())))
        (
        W.cnd (decide ((c.1.2.2.2.2.2.2.1.length : Int) < x3.2.2.2.2.2.1)) ((k7 (true, ())))
         (
         W.cnd (decide (x3.2.2.2.2.2.2.1 < 0)) ((k7 (true, ())))
          (
          W.cnd (decide (2097152 < x3.2.2.2.2.2.2.1)) ((k7 (true, ())))
           (
           W.cnd (decide (x3.2.2.2.2.2.2.2.1 < 1)) ((k7 (true, ())))
            ((k7 ((decide (5 < x3.2.2.2.2.2.2.2.1)), ())))))))))
     fun k8 => 
     W.cnd (x3.1 != (IntKind.i64.wrap (z1.1 + 1))) ((k8 (true, ())))
      (
      W.cnd (!z4.1) ((k8 (true, ())))
       (
       W.cnd (x3.2.2.2.1.2.1 == 0) ((k8 (true, ())))
        (W.call (ledger_fewW W x3.2.2.2.1.2.1) fun v9 => 
        W.cnd (!v9) ((k8 (true, ())))
         (W.call (ledger_pricedW W x3.2.2.2.2.1) fun v10 => (k8 ((!v10), ())))))))
    fun k11 => W.call (ledger_checker_unitW W c x3.2.1) fun v12 => 
    W.cnd v12 (W.call (ledger_checker_unitW W c x3.2.2.1) fun v13 => 
     W.cnd v13 (
      W.cnd (Go.Vc.notIf true ((x3.2.1.1 == x3.2.2.1.1) && (x3.2.1.2.1 == x3.2.2.1.2.1))) (W.call (ledger_checker_legsW W c (x3.2.2.2.1 :: [])) fun v14 => (k11 (v14, ())))
       ((k11 (false, ()))))
      ((k11 (false, ()))))
     ((k11 (false, ()))))
   (some (decide ((c.1.2.2.2.2.2.2.2.1.length : Int) ≤ 64))))
  (0, ())
abbrev ledger_checker_gives := ledger_checker_givesW stdW
def vec_IsW (W : Wd) (l : List AUnit') : Option Bool := 
 W.loop (fun (z1 : SL12) again2 => 
  W.cnd (decide (z1.2.1 < (l.length : Int))) (W.idx l z1.2.1 fun x3 => 
   W.join (fun (z4 : Bool × Unit) => 
    W.cnd z4.1 (some false)
     ((again2 (x3.1, ((IntKind.i64.wrap (z1.2.1 + 1)), ())))))
    fun k5 => 
    W.cnd (decide (x3.1 ≤ z1.1)) ((k5 (true, ())))
     (
     W.cnd (decide (8 < x3.1)) ((k5 (true, ())))
      ((k5 ((x3.2.1 == 0), ())))))
   (some true))
  (0, (0, ()))
abbrev vec_Is := vec_IsW stdW
def book_IsW (W : Wd) (l : List APos') : Option Bool := 
 W.loop (fun (z1 : Int × Unit) again2 => 
  W.cnd (decide (z1.1 < (l.length : Int))) (W.idx l z1.1 fun x3 => 
   W.join (fun (z4 : Bool × Unit) => 
    W.cnd z4.1 (some false)
     ((again2 ((IntKind.i64.wrap (z1.1 + 1)), ()))))
    fun k5 => 
    W.cnd ((x3.2.1.length : Int) == 0) (W.two ((k5 (true, ()))))
     (W.call (vec_IsW W x3.2.1) fun v6 => 
     W.cnd (!v6) (W.two ((k5 (true, ()))))
      (
      W.cnd (decide (0 < z1.1)) (W.idx l (IntKind.i64.wrap (z1.1 - 1)) fun x7 => W.two (W.call (acct_LessW W x7.1 x3.1) fun v8 => (k5 ((!v8), ()))))
       (W.two ((k5 (false, ())))))))
   (some true))
  (0, ())
abbrev book_Is := book_IsW stdW
def ledger_checker_bookW (W : Wd) (c : LedgerChecker') (l : List APos') : Option Bool := 
 W.loop (fun (z1 : Int × Unit) again2 => 
  W.cnd (decide (z1.1 < (l.length : Int))) (W.idx l z1.1 fun x3 => 
   W.join (fun (z4 : Bool × Unit) => 
    W.cnd z4.1 (some false)
     ((again2 ((IntKind.i64.wrap (z1.1 + 1)), ()))))
    fun k5 => W.call (ledger_checker_unitW W c x3.1) fun v6 => 
    W.cnd (!v6) ((k5 (true, ())))
     (W.call (ledger_checker_legsW W c x3.2.1) fun v7 => (k5 ((!v7), ()))))
   (W.call (book_IsW W l) fun v8 => some v8))
  (0, ())
abbrev ledger_checker_book := ledger_checker_bookW stdW
def ledger_checker_namedW (W : Wd) (c : LedgerChecker') (u : AUnit') : Option Bool := W.call (ledger_checker_unitW W c u) fun v1 => 
 W.cnd v1 (some true)
  (
  W.cnd (u.1 == 0) (
   W.cnd (u.2.1 == 0) (some true)
    (some (u.2.1 == 1)))
   (some false))
abbrev ledger_checker_named := ledger_checker_namedW stdW
def ledger_checker_moneyW (W : Wd) (c : LedgerChecker') : Option Bool := 
 W.loop (fun (z1 : Int × Unit) again2 => 
  W.cnd (decide (z1.1 < (c.1.2.2.2.2.2.2.2.2.2.2.1.length : Int))) (W.idx c.1.2.2.2.2.2.2.2.2.2.2.1 z1.1 fun x3 => W.call (ledger_checker_namedW W c x3.1) fun v4 => 
   W.cnd (!v4) (some false)
    ((again2 ((IntKind.i64.wrap (z1.1 + 1)), ()))))
   (
   W.loop (fun (z5 : Int × Unit) again6 => 
    W.cnd (decide (z5.1 < (c.1.2.2.2.2.2.2.2.2.2.2.2.1.length : Int))) (W.idx c.1.2.2.2.2.2.2.2.2.2.2.2.1 z5.1 fun x7 => W.call (ledger_checker_namedW W c x7.1) fun v8 => 
     W.cnd (!v8) (some false)
      (
      W.loop (fun (z9 : Int × Unit) again10 => 
       W.cnd (decide (z9.1 < (x7.2.1.length : Int))) (W.idx x7.2.1 z9.1 fun x11 => W.call (asset_FindW W c.1.2.2.2.1 x11.1) fun v12 => 
        W.cnd (!v12.2.1) (some false)
         ((again10 ((IntKind.i64.wrap (z9.1 + 1)), ()))))
        ((again6 ((IntKind.i64.wrap (z5.1 + 1)), ()))))
       (0, ())))
     (W.call (purse_IsW W c.1.2.2.2.2.2.2.2.2.2.2.1) fun v13 => 
     W.cnd v13 (W.call (hold_IsW W c.1.2.2.2.2.2.2.2.2.2.2.2.1) fun v14 => some v14)
      (some false)))
    (0, ())))
  (0, ())
abbrev ledger_checker_money := ledger_checker_moneyW stdW
def ledger_CheckW (W : Wd) (s : AState') : Option Int := W.call (ledger_UnitsW W s) fun v1 => 
 W.loop (fun (z2 : Int × Int × List AMember' × List AInst' × List ALot' × List AAccount' × List AChoice' × List AGroup' × List AGive' × List APos' × List APos' × List AFlow' × List AHold' × List AUnit' × List AUnit' × Unit) again3 => 
  W.cnd (decide (z2.1 < (v1.length : Int))) (W.idx z2.2.2.2.2.2.2.2.2.2.2.2.2.2.2.1 z2.1 fun x4 => W.nth z2.2.2.2.2.2.2.2.2.2.2.2.2.2.2.1 (Int.toNat z2.1) fun x5 => (again3 ((IntKind.i64.wrap (z2.1 + 1)), (U12 z2.2 ((Go.Vc.addU z2.2.2.2.2.2.2.2.2.2.2.2.2.2.1 x5), z2.2.2.2.2.2.2.2.2.2.2.2.2.2.2)))))
   (
   W.join (fun (z6 : SL6) => 
    W.join (fun (z7 : SL6) => 
     W.cnd z7.1 (some 3)
      (some 0))
     fun k8 => 
     W.cnd (!z6.1) ((k8 (true, z6.2)))
      (W.call (ledger_checker_tablesW W ((U12 z6.2 ()), z6.2.2.2.2.2.2.2.2.2.2.2.2.2)) fun v9 => 
      W.cnd (!v9) ((k8 (true, z6.2)))
       (W.call (ledger_checker_choicesW W ((U12 z6.2 ()), z6.2.2.2.2.2.2.2.2.2.2.2.2.2)) fun v10 => 
       W.cnd (!v10) ((k8 (true, z6.2)))
        (W.call (ledger_checker_groupsW W ((U12 z6.2 ()), z6.2.2.2.2.2.2.2.2.2.2.2.2.2)) fun v11 => 
        W.cnd (!v11) ((k8 (true, z6.2)))
         (W.call (ledger_checker_givesW W ((U12 z6.2 ()), z6.2.2.2.2.2.2.2.2.2.2.2.2.2)) fun v12 => 
         W.cnd (!v12) ((k8 (true, z6.2)))
          (W.call (ledger_checker_bookW W ((U12 z6.2 ()), z6.2.2.2.2.2.2.2.2.2.2.2.2.2) s.2.2.2.2.2.2.2.2.1) fun v13 => 
          W.cnd (!v13) ((k8 (true, z6.2)))
           (W.call (ledger_checker_bookW W ((U12 z6.2 ()), z6.2.2.2.2.2.2.2.2.2.2.2.2.2) s.2.2.2.2.2.2.2.2.2.1) fun v14 => 
           W.cnd (!v14) ((k8 (true, z6.2)))
            (W.call (ledger_checker_moneyW W ((U12 z6.2 ()), z6.2.2.2.2.2.2.2.2.2.2.2.2.2)) fun v15 => (k8 ((!v15), z6.2))))))))))
    fun k16 => 
    W.cnd (decide (0 ≤ s.1)) ((k16 ((decide (s.1 ≤ 1048576)), (U13 z2.2 ()))))
     ((k16 (false, (U13 z2.2 ()))))))
  (0, (U12 s ([], (v1, ()))))
abbrev ledger_Check := ledger_CheckW stdW
def bytes_EqualW (W : Wd) (a : List Int) (b : List Int) : Option Bool := some (Go.Vc.notIf false ((Go.Vc.strOf a).toList == (Go.Vc.strOf b).toList))
def ledger_DecodeW (W : Wd) (b : List Int) : Option (AState' × Int × Unit) := W.call (pack_OpenW W b) fun v1 => W.call (ledger_reader_numW W v1.2.1 v1.2.2.1 v1.2.2.2.1) fun v2 => W.call (ledger_reader_tablesW W v2.2.1 v2.2.2.1 v2.2.2.2.1 v2.1 [] [] [] [] [] [] [] [] [] [] []) fun v3 => W.call (ledger_reader_accountsW W v3.2.1 v3.2.2.1 v3.2.2.2.1 v3.2.2.2.2.1 v3.2.2.2.2.2.1 v3.2.2.2.2.2.2.1 v3.2.2.2.2.2.2.2.1 v3.2.2.2.2.2.2.2.2.1 v3.2.2.2.2.2.2.2.2.2.1 v3.2.2.2.2.2.2.2.2.2.2.1 v3.2.2.2.2.2.2.2.2.2.2.2.1 v3.2.2.2.2.2.2.2.2.2.2.2.2.1 v3.2.2.2.2.2.2.2.2.2.2.2.2.2.1 v3.2.2.2.2.2.2.2.2.2.2.2.2.2.2.1 v3.2.2.2.2.2.2.2.2.2.2.2.2.2.2.2.1) fun v4 => W.call (ledger_reader_dealsW W v4.2.1 v4.2.2.1 v4.2.2.2.1 v4.2.2.2.2.1 v4.2.2.2.2.2.1 v4.2.2.2.2.2.2.1 v4.2.2.2.2.2.2.2.1 v4.2.2.2.2.2.2.2.2.1 v4.2.2.2.2.2.2.2.2.2.1 v4.2.2.2.2.2.2.2.2.2.2.1 v4.2.2.2.2.2.2.2.2.2.2.2.1 v4.2.2.2.2.2.2.2.2.2.2.2.2.1 v4.2.2.2.2.2.2.2.2.2.2.2.2.2.1 v4.2.2.2.2.2.2.2.2.2.2.2.2.2.2.1 v4.2.2.2.2.2.2.2.2.2.2.2.2.2.2.2.1) fun v5 => W.call (ledger_reader_bookW W v5.2.1 v5.2.2.1 v5.2.2.2.1) fun v6 => W.call (ledger_reader_bookW W v6.2.1 v6.2.2.1 v6.2.2.2.1) fun v7 => W.call (ledger_list_ledger_Decode_1W W v7.2.1 v7.2.2.1 v7.2.2.2.1) fun v8 => W.call (ledger_list_ledger_Decode_2W W v8.2.1 v8.2.2.1 v8.2.2.2.1) fun v9 => 
 W.join (fun (z10 : Bool × Bool × List (Int) × Int × Int × List AChoice' × List AMember' × List AInst' × List ALot' × List AAccount' × List AGroup' × List AGive' × List APos' × List APos' × List AFlow' × List AHold' × Unit) => 
  W.cnd z10.1 (some ((0, ([], ([], ([], ([], ([], ([], ([], ([], ([], ([], ([], ())))))))))))), (3, ())))
   (some ((z10.2.2.2.2.1, (U4 z10.2.2.2.2.2.2 (z10.2.2.2.2.2.1, z10.2.2.2.2.2.2.2.2.2.2))), (0, ()))))
  fun k11 => W.call (pack_Reader_EndW W v9.2.1 v9.2.2.1 v9.2.2.2.1) fun v12 => 
  W.cnd (v12.1 != 0) ((k11 (true, (U3 v12.2 (v5.2.2.2.2.1, (v5.2.2.2.2.2.2.2.2.2.1, (U4 v5.2.2.2.2.2 (v5.2.2.2.2.2.2.2.2.2.2.1, (v5.2.2.2.2.2.2.2.2.2.2.2.1, (v6.1, (v7.1, (v8.1, (v9.1, ())))))))))))))
   (W.call (ledger_CheckW W (U8 v5.2.2.2.2 (v6.1, (v7.1, (v8.1, (v9.1, ())))))) fun v13 => 
   W.cnd (v13 != 0) ((k11 (true, (U3 v12.2 (v5.2.2.2.2.1, (v5.2.2.2.2.2.2.2.2.2.1, (U4 v5.2.2.2.2.2 (v5.2.2.2.2.2.2.2.2.2.2.1, (v5.2.2.2.2.2.2.2.2.2.2.2.1, (v6.1, (v7.1, (v8.1, (v9.1, ())))))))))))))
    (W.call (ledger_EncodeW W (U8 v5.2.2.2.2 (v6.1, (v7.1, (v8.1, (v9.1, ())))))) fun v14 => W.call (bytes_EqualW W v14 b) fun v15 => (k11 ((!v15), (U3 v12.2 (v5.2.2.2.2.1, (v5.2.2.2.2.2.2.2.2.2.1, (U4 v5.2.2.2.2.2 (v5.2.2.2.2.2.2.2.2.2.2.1, (v5.2.2.2.2.2.2.2.2.2.2.2.1, (v6.1, (v7.1, (v8.1, (v9.1, ()))))))))))))))
abbrev ledger_Decode := ledger_DecodeW stdW
def ref14_SameW (W : Wd) (a : List AMember') (b : List AMember') : Option Bool := 
 W.cnd ((a.length : Int) != (b.length : Int)) (some false)
  (
  W.loop (fun (z1 : Int × Unit) again2 => 
   W.cnd (decide (z1.1 < (a.length : Int))) (W.idx a z1.1 fun x3 => W.idx b z1.1 fun x4 => 
    W.cnd (Go.Vc.notIf true ((x3.1 == x4.1) && ((x3.2.1 == x4.2.1) && ((x3.2.2.1 == x4.2.2.1) && (x3.2.2.2.1 == x4.2.2.2.1))))) (some false)
     ((again2 ((IntKind.i64.wrap (z1.1 + 1)), ()))))
    (some true))
   (0, ()))
abbrev ref14_Same := ref14_SameW stdW
def ref01_SameNumbersW (W : Wd) (a : List Int) (b : List Int) : Option Bool := 
 W.cnd ((a.length : Int) != (b.length : Int)) (some false)
  (
  W.loop (fun (z1 : Int × Unit) again2 => 
   W.cnd (decide (z1.1 < (a.length : Int))) (W.idx a z1.1 fun x3 => W.idx b z1.1 fun x4 => 
    W.cnd (x3 != x4) (some false)
     ((again2 ((IntKind.i64.wrap (z1.1 + 1)), ()))))
    (some true))
   (0, ()))
abbrev ref01_SameNumbers := ref01_SameNumbersW stdW
def ref13_SameOneW (W : Wd) (a : AInst') (b : AInst') : Option Bool := 
 W.cnd (a.1 == b.1) (
  W.cnd (a.2.1 == b.2.1) (
   W.cnd (a.2.2.1 == b.2.2.1) (
    W.cnd (a.2.2.2.1 == b.2.2.2.1) (W.call (ref01_SameNumbersW W a.2.2.2.2.1 b.2.2.2.2.1) fun v1 => some v1)
     (some false))
    (some false))
   (some false))
  (some false)
abbrev ref13_SameOne := ref13_SameOneW stdW
def ref13_SameW (W : Wd) (a : List AInst') (b : List AInst') : Option Bool := 
 W.cnd ((a.length : Int) != (b.length : Int)) (some false)
  (
  W.loop (fun (z1 : Int × Unit) again2 => 
   W.cnd (decide (z1.1 < (a.length : Int))) (W.idx a z1.1 fun x3 => W.idx b z1.1 fun x4 => W.call (ref13_SameOneW W x3 x4) fun v5 => 
    W.cnd (!v5) (some false)
     ((again2 ((IntKind.i64.wrap (z1.1 + 1)), ()))))
    (some true))
   (0, ()))
abbrev ref13_Same := ref13_SameW stdW
def ref12_SameW (W : Wd) (a : List ALot') (b : List ALot') : Option Bool := 
 W.cnd ((a.length : Int) != (b.length : Int)) (some false)
  (
  W.loop (fun (z1 : Int × Unit) again2 => 
   W.cnd (decide (z1.1 < (a.length : Int))) (W.idx a z1.1 fun x3 => W.idx b z1.1 fun x4 => 
    W.cnd (Go.Vc.notIf true ((x3.1 == x4.1) && ((x3.2.1 == x4.2.1) && (x3.2.2.1 == x4.2.2.1)))) (some false)
     ((again2 ((IntKind.i64.wrap (z1.1 + 1)), ()))))
    (some true))
   (0, ()))
abbrev ref12_Same := ref12_SameW stdW
def ref15_SameOneW (W : Wd) (a : AAccount') (b : AAccount') : Option Bool := 
 W.join (fun (z1 : Bool × Unit) => 
  W.cnd z1.1 (some false)
   (
   W.loop (fun (z2 : Int × Unit) again3 => 
    W.cnd (decide (z2.1 < (a.2.2.2.1.length : Int))) (W.idx a.2.2.2.1 z2.1 fun x4 => W.idx b.2.2.2.1 z2.1 fun x5 => 
     W.cnd (x4 != x5) (some false)
      ((again3 ((IntKind.i64.wrap (z2.1 + 1)), ()))))
     (some true))
    (0, ())))
  fun k6 => 
  W.cnd (a.1 != b.1) ((k6 (true, ())))
   (
   W.cnd (a.2.1 != b.2.1) ((k6 (true, ())))
    (
    W.cnd (a.2.2.1 != b.2.2.1) ((k6 (true, ())))
     ((k6 (((a.2.2.2.1.length : Int) != (b.2.2.2.1.length : Int)), ())))))
abbrev ref15_SameOne := ref15_SameOneW stdW
def ref15_SameW (W : Wd) (a : List AAccount') (b : List AAccount') : Option Bool := 
 W.cnd ((a.length : Int) != (b.length : Int)) (some false)
  (
  W.loop (fun (z1 : Int × Unit) again2 => 
   W.cnd (decide (z1.1 < (a.length : Int))) (W.idx a z1.1 fun x3 => W.idx b z1.1 fun x4 => W.call (ref15_SameOneW W x3 x4) fun v5 => 
    W.cnd (!v5) (some false)
     ((again2 ((IntKind.i64.wrap (z1.1 + 1)), ()))))
    (some true))
   (0, ()))
abbrev ref15_Same := ref15_SameW stdW
def ref16_SameW (W : Wd) (a : List AChoice') (b : List AChoice') : Option Bool := 
 W.cnd ((a.length : Int) != (b.length : Int)) (some false)
  (
  W.loop (fun (z1 : Int × Unit) again2 => 
   W.cnd (decide (z1.1 < (a.length : Int))) (W.idx a z1.1 fun x3 => W.idx b z1.1 fun x4 => 
    W.cnd (Go.Vc.notIf true ((x3.1.1 == x4.1.1) && ((x3.1.2.1 == x4.1.2.1) && ((x3.2.1.1 == x4.2.1.1) && ((x3.2.1.2.1 == x4.2.1.2.1) && (x3.2.2.1 == x4.2.2.1)))))) (some false)
     ((again2 ((IntKind.i64.wrap (z1.1 + 1)), ()))))
    (some true))
   (0, ()))
abbrev ref16_Same := ref16_SameW stdW
def ref22_SameW (W : Wd) (a : List AGroup') (b : List AGroup') : Option Bool := 
 W.cnd ((a.length : Int) != (b.length : Int)) (some false)
  (
  W.loop (fun (z1 : Int × Unit) again2 => 
   W.cnd (decide (z1.1 < (a.length : Int))) (W.idx a z1.1 fun x3 => W.idx b z1.1 fun x4 => 
    W.cnd (Go.Vc.notIf true ((x3.1 == x4.1) && ((x3.2.1.1 == x4.2.1.1) && ((x3.2.1.2.1 == x4.2.1.2.1) && ((x3.2.2.1 == x4.2.2.1) && ((x3.2.2.2.1 == x4.2.2.2.1) && (x3.2.2.2.2.1 == x4.2.2.2.2.1))))))) (some false)
     ((again2 ((IntKind.i64.wrap (z1.1 + 1)), ()))))
    (some true))
   (0, ()))
abbrev ref22_Same := ref22_SameW stdW
def ref23_SameW (W : Wd) (a : List AGive') (b : List AGive') : Option Bool := 
 W.cnd ((a.length : Int) != (b.length : Int)) (some false)
  (
  W.loop (fun (z1 : Int × Unit) again2 => 
   W.cnd (decide (z1.1 < (a.length : Int))) (W.idx a z1.1 fun x3 => W.idx b z1.1 fun x4 => 
    W.cnd (Go.Vc.notIf true ((x3.1 == x4.1) && ((x3.2.1.1 == x4.2.1.1) && ((x3.2.1.2.1 == x4.2.1.2.1) && ((x3.2.2.1.1 == x4.2.2.1.1) && ((x3.2.2.1.2.1 == x4.2.2.1.2.1) && ((x3.2.2.2.1.1 == x4.2.2.2.1.1) && ((x3.2.2.2.1.2.1 == x4.2.2.2.1.2.1) && ((x3.2.2.2.2.1 == x4.2.2.2.2.1) && ((x3.2.2.2.2.2.1 == x4.2.2.2.2.2.1) && ((x3.2.2.2.2.2.2.1 == x4.2.2.2.2.2.2.1) && (x3.2.2.2.2.2.2.2.1 == x4.2.2.2.2.2.2.2.1)))))))))))) (some false)
     ((again2 ((IntKind.i64.wrap (z1.1 + 1)), ()))))
    (some true))
   (0, ()))
abbrev ref23_Same := ref23_SameW stdW
def ref11_SameW (W : Wd) (a : List AUnit') (b : List AUnit') : Option Bool := 
 W.cnd ((a.length : Int) != (b.length : Int)) (some false)
  (
  W.loop (fun (z1 : Int × Unit) again2 => 
   W.cnd (decide (z1.1 < (a.length : Int))) (W.idx a z1.1 fun x3 => W.idx b z1.1 fun x4 => 
    W.cnd (Go.Vc.notIf true ((x3.1 == x4.1) && (x3.2.1 == x4.2.1))) (some false)
     ((again2 ((IntKind.i64.wrap (z1.1 + 1)), ()))))
    (some true))
   (0, ()))
abbrev ref11_Same := ref11_SameW stdW
def ref19_SameW (W : Wd) (a : List APos') (b : List APos') : Option Bool := 
 W.cnd ((a.length : Int) != (b.length : Int)) (some false)
  (
  W.loop (fun (z1 : Int × Unit) again2 => 
   W.cnd (decide (z1.1 < (a.length : Int))) (
    W.join (fun (z3 : Bool × Unit) => 
     W.cnd z3.1 (some false)
      ((again2 ((IntKind.i64.wrap (z1.1 + 1)), ()))))
     fun k4 => W.idx a z1.1 fun x5 => W.idx b z1.1 fun x6 => 
     W.cnd (Go.Vc.notIf true ((x5.1.1 == x6.1.1) && (x5.1.2.1 == x6.1.2.1))) ((k4 (true, ())))
      (W.idx a z1.1 fun x7 => W.idx b z1.1 fun x8 => W.call (ref11_SameW W x7.2.1 x8.2.1) fun v9 => (k4 ((!v9), ()))))
    (some true))
   (0, ()))
abbrev ref19_Same := ref19_SameW stdW
def ref33_SameW (W : Wd) (a : AState') (b : AState') : Option Bool := 
 W.join (fun (z1 : Bool × Unit) => 
  W.cnd z1.1 (some false)
   (W.call (ref22_SameW W a.2.2.2.2.2.2.1 b.2.2.2.2.2.2.1) fun v2 => 
   W.cnd v2 (W.call (ref23_SameW W a.2.2.2.2.2.2.2.1 b.2.2.2.2.2.2.2.1) fun v3 => 
    W.cnd v3 (W.call (ref19_SameW W a.2.2.2.2.2.2.2.2.1 b.2.2.2.2.2.2.2.2.1) fun v4 => 
     W.cnd v4 (W.call (ref19_SameW W a.2.2.2.2.2.2.2.2.2.1 b.2.2.2.2.2.2.2.2.2.1) fun v5 => 
      W.cnd v5 (W.call (ref17_SameW W a.2.2.2.2.2.2.2.2.2.2.1 b.2.2.2.2.2.2.2.2.2.2.1) fun v6 => 
       W.cnd v6 (W.call (ref26_SameW W a.2.2.2.2.2.2.2.2.2.2.2.1 b.2.2.2.2.2.2.2.2.2.2.2.1) fun v7 => some v7)
        (some false))
       (some false))
      (some false))
     (some false))
    (some false)))
  fun k8 => 
  W.cnd (a.1 != b.1) ((k8 (true, ())))
   (W.call (ref14_SameW W a.2.1 b.2.1) fun v9 => 
   W.cnd (!v9) ((k8 (true, ())))
    (W.call (ref13_SameW W a.2.2.1 b.2.2.1) fun v10 => 
    W.cnd (!v10) ((k8 (true, ())))
     (W.call (ref12_SameW W a.2.2.2.1 b.2.2.2.1) fun v11 => 
     W.cnd (!v11) ((k8 (true, ())))
      (W.call (ref15_SameW W a.2.2.2.2.1 b.2.2.2.2.1) fun v12 => 
      W.cnd (!v12) ((k8 (true, ())))
       (W.call (ref16_SameW W a.2.2.2.2.2.1 b.2.2.2.2.2.1) fun v13 => (k8 ((!v13), ())))))))
abbrev ref33_Same := ref33_SameW stdW
def law33_livesW (W : Wd) : Option Bool := W.call (ledger_EmptyW W) fun v1 => W.call (ledger_EncodeW W (5, (((1, (9, (0, (0, ())))) :: []), v1.2.2))) fun v2 => W.call (ledger_DecodeW W v2) fun v3 => 
 W.cnd (v3.2.1 == 0) (W.call (ref33_SameW W (5, (((1, (9, (0, (0, ())))) :: []), v1.2.2)) v3.1) fun v4 => W.both (
   W.cnd v4 (W.call (ledger_EmptyW W) fun v5 => W.both (W.call (ledger_EncodeW W v5) fun v6 => W.nn 12 (W.room (Int.toNat 12) 1 (W.bnd 12 (Int.toNat 12) fun h7 => W.call (ref01_SameW W v6 (List.replicate h7 0)) fun v8 => some v8))) (W.nn 12 (W.room (Int.toNat 12) 1 (W.bnd 12 (Int.toNat 12) fun h9 => W.call (ledger_EncodeW W v5) fun v10 => W.call (ref01_SameW W v10 (List.replicate h9 0)) fun v11 => some v11))))
    (W.two (some false))) (
   W.cnd v4 (W.nn 12 (W.room (Int.toNat 12) 1 (W.bnd 12 (Int.toNat 12) fun h12 => W.call (ledger_EmptyW W) fun v13 => W.call (ledger_EncodeW W v13) fun v14 => W.call (ref01_SameW W v14 (List.replicate h12 0)) fun v15 => some v15)))
    (some false)))
  (W.both (W.two (some false)) (some false))
abbrev law33_lives := law33_livesW stdW
def law33_LedgerEncodesW (W : Wd) (s : AState') : Option Bool := W.call (law33_FewW W s) fun v1 => W.call (ledger_EncodeW W v1) fun v2 => W.call (ref33_EncodeW W v1) fun v3 => W.call (ref01_SameW W v2 v3) fun v4 => 
 W.cnd v4 (W.call (law33_livesW W) fun v5 => some v5)
  (some false)
def ref01_CutW (W : Wd) (b : List Int) (n : Int) : Option (List Int) := 
 W.cnd (decide (n < (b.length : Int))) (W.bnd n b.length fun h1 => some (b.take h1))
  (some b)
abbrev ref01_Cut := ref01_CutW stdW
def ref14_IsW (W : Wd) (m : AMember') : Option Bool := 
 W.cnd (decide (0 < m.1)) (
  W.cnd (decide (m.1 < 9)) (
   W.cnd (decide (0 ≤ m.2.1)) (
    W.cnd (decide (m.2.1 ≤ 4611686018427387904)) (
     W.cnd (decide (0 ≤ m.2.2.1)) (
      W.cnd (decide (m.2.2.1 < 4)) (
       W.cnd (decide (0 ≤ m.2.2.2.1)) (some (decide (m.2.2.2.1 ≤ 2097152)))
        (some false))
       (some false))
      (some false))
     (some false))
    (some false))
   (some false))
  (some false)
abbrev ref14_Is := ref14_IsW stdW
def ref13_priceW (W : Wd) (p : Int) : Option Bool := 
 W.cnd (decide (0 ≤ p)) (some (decide (p < 2147483648)))
  (some false)
abbrev ref13_price := ref13_priceW stdW
def ref13_IsW (W : Wd) (i : AInst') : Option Bool := 
 W.join (fun (z1 : Bool × Unit) => 
  W.cnd z1.1 (some false)
   (
   W.loop (fun (z2 : Int × Unit) again3 => 
    W.cnd (decide (z2.1 < (i.2.2.2.2.1.length : Int))) (
     W.join (fun (z4 : Bool × Unit) => 
      W.cnd z4.1 (some false)
       ((again3 ((IntKind.i64.wrap (z2.1 + 1)), ()))))
      fun k5 => W.idx i.2.2.2.2.1 z2.1 fun x6 => 
      W.cnd (decide (x6 < (-2147483647))) ((k5 (true, ())))
       (W.idx i.2.2.2.2.1 z2.1 fun x7 => (k5 ((decide (2147483647 < x7)), ()))))
     (some true))
    (0, ())))
  fun k8 => 
  W.cnd (decide (i.1 < 1)) ((k8 (true, ())))
   (
   W.cnd (decide (8 < i.1)) ((k8 (true, ())))
    (
    W.cnd (decide (i.2.1 < 1)) ((k8 (true, ())))
     (
     W.cnd (decide (65536 < i.2.1)) ((k8 (true, ())))
      (W.call (ref13_priceW W i.2.2.1) fun v9 => 
      W.cnd (!v9) ((k8 (true, ())))
       (W.call (ref13_priceW W i.2.2.2.1) fun v10 => 
       W.cnd (!v10) ((k8 (true, ())))
        ((k8 ((decide (8 < (i.2.2.2.2.1.length : Int))), ()))))))))
abbrev ref13_Is := ref13_IsW stdW
def ref14_FindW (W : Wd) (l : List AMember') (id : Int) : Option (AMember' × Bool × Unit) := 
 W.loop (fun (z1 : Int × Unit) again2 => 
  W.cnd (decide (z1.1 < (l.length : Int))) (W.idx l z1.1 fun x3 => 
   W.cnd (x3.1 == id) (W.idx l z1.1 fun x4 => some (x4, (true, ())))
    ((again2 ((IntKind.i64.wrap (z1.1 + 1)), ()))))
   (some ((0, (0, (0, (0, ())))), (false, ()))))
  (0, ())
abbrev ref14_Find := ref14_FindW stdW
def ref33_HasW (W : Wd) (s : AState') (u : AUnit') : Option Bool := 
 W.loop (fun (z1 : Int × Unit) again2 => 
  W.cnd (decide (z1.1 < (s.2.2.2.2.1.length : Int))) (W.idx s.2.2.2.2.1 z1.1 fun x3 => W.call (ref15_HasW W x3 u) fun v4 => 
   W.cnd v4 (some true)
    ((again2 ((IntKind.i64.wrap (z1.1 + 1)), ()))))
   (some false))
  (0, ())
abbrev ref33_Has := ref33_HasW stdW
def ref16_IsW (W : Wd) (l : List AChoice') : Option Bool := 
 W.loop (fun (z1 : Int × Unit) again2 => 
  W.cnd (decide (z1.1 < (l.length : Int))) (
   W.join (fun (z3 : Bool × Unit) => 
    W.cnd z3.1 (some false)
     ((again2 ((IntKind.i64.wrap (z1.1 + 1)), ()))))
    fun k4 => W.idx l z1.1 fun x5 => W.idx l z1.1 fun x6 => 
    W.cnd (Go.Vc.notIf false ((x5.1.1 == x6.2.1.1) && (x5.1.2.1 == x6.2.1.2.1))) ((k4 (true, ())))
     (
     W.cnd (decide (0 < z1.1)) (W.idx l (IntKind.i64.wrap (z1.1 - 1)) fun x7 => W.idx l z1.1 fun x8 => W.call (ref15_LessW W x7.1 x8.1) fun v9 => (k4 ((!v9), ())))
      ((k4 (false, ())))))
   (some true))
  (0, ())
abbrev ref16_Is := ref16_IsW stdW
def ref33_tablesW (W : Wd) (s : AState') : Option Bool := 
 W.loop (fun (z1 : Int × Unit) again2 => 
  W.cnd (decide (z1.1 < (s.2.1.length : Int))) (
   W.join (fun (z3 : Bool × Unit) => 
    W.cnd z3.1 (some false)
     ((again2 ((IntKind.i64.wrap (z1.1 + 1)), ()))))
    fun k4 => W.idx s.2.1 z1.1 fun x5 => W.call (ref14_IsW W x5) fun v6 => 
    W.cnd (!v6) (W.both (W.both ((k4 (true, ()))) (W.two ((k4 (true, ()))))) (W.both (W.two ((k4 (true, ())))) ((k4 (true, ())))))
     (
     W.cnd (decide (0 < z1.1)) (W.both (W.idx s.2.1 (IntKind.i64.wrap (z1.1 - 1)) fun x7 => W.both (W.idx s.2.1 z1.1 fun x8 => (k4 ((decide (x8.1 ≤ x7.1)), ()))) (W.idx s.2.1 z1.1 fun x9 => W.two ((k4 ((decide (x9.1 ≤ x7.1)), ()))))) (W.idx s.2.1 z1.1 fun x10 => W.both (W.idx s.2.1 (IntKind.i64.wrap (z1.1 - 1)) fun x11 => W.two ((k4 ((decide (x10.1 ≤ x11.1)), ())))) (W.idx s.2.1 (IntKind.i64.wrap (z1.1 - 1)) fun x12 => (k4 ((decide (x10.1 ≤ x12.1)), ())))))
      (W.both (W.both ((k4 (false, ()))) (W.two ((k4 (false, ()))))) (W.both (W.two ((k4 (false, ())))) ((k4 (false, ())))))))
   (
   W.loop (fun (z13 : Int × Unit) again14 => 
    W.cnd (decide (z13.1 < (s.2.2.1.length : Int))) (
     W.join (fun (z15 : Bool × Unit) => 
      W.cnd z15.1 (some false)
       ((again14 ((IntKind.i64.wrap (z13.1 + 1)), ()))))
      fun k16 => W.idx s.2.2.1 z13.1 fun x17 => W.call (ref13_IsW W x17) fun v18 => 
      W.cnd (!v18) (W.both (W.both ((k16 (true, ()))) (W.two ((k16 (true, ()))))) (W.both (W.two ((k16 (true, ())))) ((k16 (true, ())))))
       (
       W.cnd (decide (0 < z13.1)) (W.both (W.idx s.2.2.1 (IntKind.i64.wrap (z13.1 - 1)) fun x19 => W.both (W.idx s.2.2.1 z13.1 fun x20 => (k16 ((decide (x20.1 ≤ x19.1)), ()))) (W.idx s.2.2.1 z13.1 fun x21 => W.two ((k16 ((decide (x21.1 ≤ x19.1)), ()))))) (W.idx s.2.2.1 z13.1 fun x22 => W.both (W.idx s.2.2.1 (IntKind.i64.wrap (z13.1 - 1)) fun x23 => W.two ((k16 ((decide (x22.1 ≤ x23.1)), ())))) (W.idx s.2.2.1 (IntKind.i64.wrap (z13.1 - 1)) fun x24 => (k16 ((decide (x22.1 ≤ x24.1)), ())))))
        (W.both (W.both ((k16 (false, ()))) (W.two ((k16 (false, ()))))) (W.both (W.two ((k16 (false, ())))) ((k16 (false, ())))))))
     (
     W.loop (fun (z25 : Int × Unit) again26 => 
      W.cnd (decide (z25.1 < (s.2.2.2.1.length : Int))) (
       W.join (fun (z27 : Bool × Unit) => 
        W.cnd z27.1 (some false)
         ((again26 ((IntKind.i64.wrap (z25.1 + 1)), ()))))
        fun k28 => W.idx s.2.2.2.1 z25.1 fun x29 => W.call (ref12_IsW W x29) fun v30 => 
        W.cnd (!v30) (W.both (W.both ((k28 (true, ()))) (W.two ((k28 (true, ()))))) (W.both (W.two ((k28 (true, ())))) ((k28 (true, ())))))
         (
         W.cnd (decide (0 < z25.1)) (W.both (W.idx s.2.2.2.1 (IntKind.i64.wrap (z25.1 - 1)) fun x31 => W.both (W.idx s.2.2.2.1 z25.1 fun x32 => (k28 ((decide (x32.1 ≤ x31.1)), ()))) (W.idx s.2.2.2.1 z25.1 fun x33 => W.two ((k28 ((decide (x33.1 ≤ x31.1)), ()))))) (W.idx s.2.2.2.1 z25.1 fun x34 => W.both (W.idx s.2.2.2.1 (IntKind.i64.wrap (z25.1 - 1)) fun x35 => W.two ((k28 ((decide (x34.1 ≤ x35.1)), ())))) (W.idx s.2.2.2.1 (IntKind.i64.wrap (z25.1 - 1)) fun x36 => (k28 ((decide (x34.1 ≤ x36.1)), ())))))
          (W.both (W.both ((k28 (false, ()))) (W.two ((k28 (false, ()))))) (W.both (W.two ((k28 (false, ())))) ((k28 (false, ())))))))
       (
       W.loop (fun (z37 : Int × Unit) again38 => 
        W.cnd (decide (z37.1 < (s.2.2.2.2.1.length : Int))) (
         W.join (fun (z39 : Bool × Unit) => 
          W.join (fun (z40 : Bool × Unit) => 
           W.cnd z40.1 (some false)
            ((again38 ((IntKind.i64.wrap (z37.1 + 1)), ()))))
           fun k41 => 
           W.cnd (!z39.1) (W.both (W.both ((k41 (true, ()))) (W.two ((k41 (true, ()))))) (W.both (W.two ((k41 (true, ())))) ((k41 (true, ())))))
            (W.idx s.2.2.2.2.1 z37.1 fun x42 => W.call (ref15_IsW W x42) fun v43 => 
            W.cnd (!v43) (W.both (W.both ((k41 (true, ()))) (W.two ((k41 (true, ()))))) (W.both (W.two ((k41 (true, ())))) ((k41 (true, ())))))
             (
             W.cnd (decide (0 < z37.1)) (W.both (W.idx s.2.2.2.2.1 (IntKind.i64.wrap (z37.1 - 1)) fun x44 => W.both (W.idx s.2.2.2.2.1 z37.1 fun x45 => (k41 ((decide (x45.1 ≤ x44.1)), ()))) (W.idx s.2.2.2.2.1 z37.1 fun x46 => W.two ((k41 ((decide (x46.1 ≤ x44.1)), ()))))) (W.idx s.2.2.2.2.1 z37.1 fun x47 => W.both (W.idx s.2.2.2.2.1 (IntKind.i64.wrap (z37.1 - 1)) fun x48 => W.two ((k41 ((decide (x47.1 ≤ x48.1)), ())))) (W.idx s.2.2.2.2.1 (IntKind.i64.wrap (z37.1 - 1)) fun x49 => (k41 ((decide (x47.1 ≤ x49.1)), ())))))
              (W.both (W.both ((k41 (false, ()))) (W.two ((k41 (false, ()))))) (W.both (W.two ((k41 (false, ())))) ((k41 (false, ()))))))))
          fun k50 => W.idx s.2.2.2.2.1 z37.1 fun x51 => W.two (W.call (ref14_FindW W s.2.1 x51.2.1) fun v52 => (k50 v52.2)))
         (
         W.loop (fun (z54 : Int × Unit) again55 => 
          W.cnd (decide (z54.1 < (s.2.2.2.2.2.1.length : Int))) (
           W.join (fun (z56 : Bool × Unit) => 
            W.cnd z56.1 (some false)
             ((again55 ((IntKind.i64.wrap (z54.1 + 1)), ()))))
            fun k57 => W.idx s.2.2.2.2.2.1 z54.1 fun x58 => W.call (ref33_HasW W s x58.1) fun v59 => 
            W.cnd (!v59) (W.both ((k57 (true, ()))) (W.two ((k57 (true, ())))))
             (W.both (W.idx s.2.2.2.2.2.1 z54.1 fun x60 => W.call (ref33_HasW W s x60.2.1) fun v61 => (k57 ((!v61), ()))) (W.idx s.2.2.2.2.2.1 z54.1 fun x62 => W.two (W.call (ref33_HasW W s x62.2.1) fun v63 => (k57 ((!v63), ()))))))
           (W.call (ref16_IsW W s.2.2.2.2.2.1) fun v65 => some v65))
          (0, ())))
        (0, ())))
      (0, ())))
    (0, ())))
  (0, ())
abbrev ref33_tables := ref33_tablesW stdW
def ref13_FindW (W : Wd) (l : List AInst') (id : Int) : Option (AInst' × Bool × Unit) := 
 W.loop (fun (z1 : Int × Unit) again2 => 
  W.cnd (decide (z1.1 < (l.length : Int))) (W.idx l z1.1 fun x3 => 
   W.cnd (x3.1 == id) (W.idx l z1.1 fun x4 => some (x4, (true, ())))
    ((again2 ((IntKind.i64.wrap (z1.1 + 1)), ()))))
   (some ((0, (0, (0, (0, ([], ()))))), (false, ()))))
  (0, ())
abbrev ref13_Find := ref13_FindW stdW
def ref33_instW (W : Wd) (s : AState') (id : Int) : Option Bool := W.call (ref13_FindW W s.2.2.1 id) fun v1 => some v1.2.1
abbrev ref33_inst := ref33_instW stdW
def ref33_dealsW (W : Wd) (s : AState') : Option Bool := 
 W.join (fun (z1 : Bool × Unit) => 
  W.cnd z1.1 (some false)
   (
   W.loop (fun (z2 : Int × Unit) again3 => 
    W.cnd (decide (z2.1 < (s.2.2.2.2.2.2.1.length : Int))) (W.idx s.2.2.2.2.2.2.1 z2.1 fun x4 => 
     W.join (fun (z5 : Bool × Unit) => 
      W.cnd z5.1 (some false)
       ((again3 ((IntKind.i64.wrap (z2.1 + 1)), ()))))
      fun k6 => 
      W.cnd (x4.1 != (IntKind.i64.wrap (z2.1 + 1))) ((k6 (true, ())))
       (W.call (ref33_HasW W s x4.2.1) fun v7 => 
       W.cnd (!v7) ((k6 (true, ())))
        (W.call (ref33_instW W s x4.2.2.1) fun v8 => 
        W.cnd (!v8) ((k6 (true, ())))
         (
         W.cnd (decide (x4.2.2.2.1 < 0)) ((k6 (true, ())))
          (
          W.cnd (decide (2147483647 < x4.2.2.2.1)) ((k6 (true, ())))
           (
           W.cnd (decide (x4.2.2.2.2.1 < (-1099511627776))) ((k6 (true, ())))
            ((k6 ((decide (1099511627776 < x4.2.2.2.2.1)), ())))))))))
     (
     W.loop (fun (z9 : Int × Unit) again10 => 
      W.cnd (decide (z9.1 < (s.2.2.2.2.2.2.2.1.length : Int))) (W.idx s.2.2.2.2.2.2.2.1 z9.1 fun x11 => 
       W.join (fun (z12 : Bool × Unit) => 
        W.cnd z12.1 (some false)
         (
         W.join (fun (z13 : Bool × Unit) => 
          W.cnd z13.1 (some false)
           ((again10 ((IntKind.i64.wrap (z9.1 + 1)), ()))))
          fun k14 => 
          W.cnd (decide (x11.2.2.2.2.1 < 0)) ((k14 (true, ())))
           (
           W.cnd (decide (2147483647 < x11.2.2.2.2.1)) ((k14 (true, ())))
            (
            W.cnd (decide (x11.2.2.2.2.2.1 < 0)) ((k14 (true, ())))
             (
             W.cnd (decide ((s.2.2.2.2.2.2.1.length : Int) < x11.2.2.2.2.2.1)) ((k14 (true, ())))
              (
              W.cnd (decide (x11.2.2.2.2.2.2.1 < 0)) ((k14 (true, ())))
               (
               W.cnd (decide (2097152 < x11.2.2.2.2.2.2.1)) ((k14 (true, ())))
                (
                W.cnd (decide (x11.2.2.2.2.2.2.2.1 < 1)) ((k14 (true, ())))
                 ((k14 ((decide (5 < x11.2.2.2.2.2.2.2.1)), ())))))))))))
        fun k15 => 
        W.cnd (x11.1 != (IntKind.i64.wrap (z9.1 + 1))) ((k15 (true, ())))
         (W.call (ref33_HasW W s x11.2.1) fun v16 => 
         W.cnd (!v16) ((k15 (true, ())))
          (W.call (ref33_HasW W s x11.2.2.1) fun v17 => 
          W.cnd (!v17) ((k15 (true, ())))
           (
           W.cnd (Go.Vc.notIf false ((x11.2.1.1 == x11.2.2.1.1) && (x11.2.1.2.1 == x11.2.2.1.2.1))) ((k15 (true, ())))
            (W.call (ref33_instW W s x11.2.2.2.1.1) fun v18 => 
            W.cnd (!v18) ((k15 (true, ())))
             (
             W.cnd (x11.2.2.2.1.2.1 == 0) ((k15 (true, ())))
              (
              W.cnd (decide (x11.2.2.2.1.2.1 < (-1099511627776))) ((k15 (true, ())))
               ((k15 ((decide (1099511627776 < x11.2.2.2.1.2.1)), ()))))))))))
       (some true))
      (0, ())))
    (0, ())))
  fun k19 => 
  W.cnd (decide (64 < (s.2.2.2.2.2.2.1.length : Int))) ((k19 (true, ())))
   ((k19 ((decide (64 < (s.2.2.2.2.2.2.2.1.length : Int))), ())))
abbrev ref33_deals := ref33_dealsW stdW
def ref11_IsW (W : Wd) (l : List AUnit') : Option Bool := 
 W.loop (fun (z1 : Int × Unit) again2 => 
  W.cnd (decide (z1.1 < (l.length : Int))) (
   W.join (fun (z3 : Bool × Unit) => 
    W.cnd z3.1 (some false)
     ((again2 ((IntKind.i64.wrap (z1.1 + 1)), ()))))
    fun k4 => W.idx l z1.1 fun x5 => 
    W.cnd (decide (x5.1 < 1)) ((k4 (true, ())))
     (W.idx l z1.1 fun x6 => 
     W.cnd (decide (8 < x6.1)) ((k4 (true, ())))
      (W.idx l z1.1 fun x7 => 
      W.cnd (x7.2.1 == 0) ((k4 (true, ())))
       (
       W.cnd (decide (0 < z1.1)) (W.idx l (IntKind.i64.wrap (z1.1 - 1)) fun x8 => W.idx l z1.1 fun x9 => (k4 ((decide (x9.1 ≤ x8.1)), ())))
        ((k4 (false, ())))))))
   (some true))
  (0, ())
abbrev ref11_Is := ref11_IsW stdW
def ref19_IsW (W : Wd) (l : List APos') : Option Bool := 
 W.loop (fun (z1 : Int × Unit) again2 => 
  W.cnd (decide (z1.1 < (l.length : Int))) (
   W.join (fun (z3 : Bool × Unit) => 
    W.cnd z3.1 (some false)
     ((again2 ((IntKind.i64.wrap (z1.1 + 1)), ()))))
    fun k4 => W.idx l z1.1 fun x5 => 
    W.cnd ((x5.2.1.length : Int) == 0) (W.two ((k4 (true, ()))))
     (W.idx l z1.1 fun x6 => W.call (ref11_IsW W x6.2.1) fun v7 => 
     W.cnd (!v7) (W.two ((k4 (true, ()))))
      (
      W.cnd (decide (0 < z1.1)) (W.idx l (IntKind.i64.wrap (z1.1 - 1)) fun x8 => W.idx l z1.1 fun x9 => W.two (W.call (ref15_LessW W x8.1 x9.1) fun v10 => (k4 ((!v10), ()))))
       (W.two ((k4 (false, ())))))))
   (some true))
  (0, ())
abbrev ref19_Is := ref19_IsW stdW
def ref33_bookW (W : Wd) (s : AState') (l : List APos') : Option Bool := 
 W.loop (fun (z1 : Int × Unit) again2 => 
  W.cnd (decide (z1.1 < (l.length : Int))) (W.idx l z1.1 fun x3 => W.call (ref33_HasW W s x3.1) fun v4 => 
   W.cnd (!v4) (some false)
    (
    W.loop (fun (z5 : Int × Unit) again6 => W.idx l z1.1 fun x7 => 
     W.cnd (decide (z5.1 < (x7.2.1.length : Int))) (W.idx l z1.1 fun x8 => W.idx x8.2.1 z5.1 fun x9 => W.call (ref33_instW W s x9.1) fun v10 => 
      W.cnd (!v10) (some false)
       ((again6 ((IntKind.i64.wrap (z5.1 + 1)), ()))))
      ((again2 ((IntKind.i64.wrap (z1.1 + 1)), ()))))
     (0, ())))
   (W.call (ref19_IsW W l) fun v11 => some v11))
  (0, ())
abbrev ref33_book := ref33_bookW stdW
def ref33_ownerW (W : Wd) (s : AState') (u : AUnit') : Option Bool := W.call (ref33_HasW W s u) fun v1 => 
 W.cnd v1 (some true)
  (
  W.cnd (Go.Vc.notIf false ((u.1 == 0) && (u.2.1 == 0))) (some true)
   (some (Go.Vc.notIf false ((u.1 == 0) && (u.2.1 == 1)))))
abbrev ref33_owner := ref33_ownerW stdW
def ref33_IsW (W : Wd) (s : AState') : Option Bool := 
 W.join (fun (z1 : Bool × Unit) => 
  W.cnd z1.1 (some false)
   (
   W.loop (fun (z2 : Int × Unit) again3 => 
    W.cnd (decide (z2.1 < (s.2.2.2.2.2.2.2.2.2.2.1.length : Int))) (W.idx s.2.2.2.2.2.2.2.2.2.2.1 z2.1 fun x4 => W.call (ref33_ownerW W s x4.1) fun v5 => 
     W.cnd (!v5) (some false)
      ((again3 ((IntKind.i64.wrap (z2.1 + 1)), ()))))
     (
     W.loop (fun (z6 : Int × Unit) again7 => 
      W.cnd (decide (z6.1 < (s.2.2.2.2.2.2.2.2.2.2.2.1.length : Int))) (W.idx s.2.2.2.2.2.2.2.2.2.2.2.1 z6.1 fun x8 => W.call (ref33_ownerW W s x8.1) fun v9 => 
       W.cnd (!v9) (some false)
        (
        W.loop (fun (z10 : Int × Unit) again11 => W.idx s.2.2.2.2.2.2.2.2.2.2.2.1 z6.1 fun x12 => 
         W.cnd (decide (z10.1 < (x12.2.1.length : Int))) (
          W.join (fun (z13 : Bool × Unit) => 
           W.cnd (!z13.1) (some false)
            ((again11 ((IntKind.i64.wrap (z10.1 + 1)), ()))))
           fun k14 => W.idx s.2.2.2.2.2.2.2.2.2.2.2.1 z6.1 fun x15 => W.idx x15.2.1 z10.1 fun x16 => W.two (W.call (ref12_FindW W s.2.2.2.1 x16.1) fun v17 => (k14 v17.2)))
          ((again7 ((IntKind.i64.wrap (z6.1 + 1)), ()))))
         (0, ())))
       (some true))
      (0, ())))
    (0, ())))
  fun k19 => 
  W.cnd (decide (s.1 < 0)) ((k19 (true, ())))
   (
   W.cnd (decide (1048576 < s.1)) ((k19 (true, ())))
    (W.call (ref33_tablesW W s) fun v20 => 
    W.cnd (!v20) ((k19 (true, ())))
     (W.call (ref33_dealsW W s) fun v21 => 
     W.cnd (!v21) ((k19 (true, ())))
      (W.call (ref33_bookW W s s.2.2.2.2.2.2.2.2.1) fun v22 => 
      W.cnd (!v22) ((k19 (true, ())))
       (W.call (ref33_bookW W s s.2.2.2.2.2.2.2.2.2.1) fun v23 => 
       W.cnd (!v23) ((k19 (true, ())))
        (W.call (ref17_IsW W s.2.2.2.2.2.2.2.2.2.2.1) fun v24 => 
        W.cnd (!v24) ((k19 (true, ())))
         (W.call (ref26_IsW W s.2.2.2.2.2.2.2.2.2.2.2.1) fun v25 => (k19 ((!v25), ())))))))))
abbrev ref33_Is := ref33_IsW stdW
def law33_LedgerDecodesW (W : Wd) (b : List Int) (s : AState') : Option Bool := 
 W.join (fun (z1 : List (Int) × Int × List AMember' × List AInst' × List ALot' × List AAccount' × List AChoice' × List AGroup' × List AGive' × List APos' × List APos' × List AFlow' × List AHold' × Unit) => W.call (ref33_EncodeW W z1.2) fun v2 => W.call (ledger_DecodeW W v2) fun v3 => 
  W.join (fun (z4 : Bool × Unit) => 
   W.cnd z4.1 (some false)
    (W.call (ledger_DecodeW W z1.1) fun v5 => 
    W.cnd (v5.2.1 != 0) (
     W.cnd (v5.2.1 == 3) (W.call (ref33_SameW W v5.1 (0, ([], ([], ([], ([], ([], ([], ([], ([], ([], ([], ([], ()))))))))))))) fun v6 => 
      W.cnd v6 (W.call (law33_livesW W) fun v7 => some v7)
       (some false))
      (some false))
     (W.call (ref33_IsW W v5.1) fun v8 => 
     W.cnd v8 (W.call (ref33_EncodeW W v5.1) fun v9 => W.call (ref01_SameW W v9 z1.1) fun v10 => 
      W.cnd v10 (W.call (law33_livesW W) fun v11 => some v11)
       (some false))
      (some false))))
   fun k12 => W.call (ref33_IsW W z1.2) fun v13 => 
   W.cnd (Go.Vc.notIf true (v13 == (v3.2.1 == 0))) ((k12 (true, ())))
    (
    W.cnd (v3.2.1 == 0) (W.call (ref33_SameW W v3.1 z1.2) fun v14 => 
     W.cnd (!v14) ((k12 (true, ())))
      (
      W.cnd (v3.2.1 != 0) (
       W.cnd (v3.2.1 != 3) ((k12 (true, ())))
        (W.call (ref33_SameW W v3.1 (0, ([], ([], ([], ([], ([], ([], ([], ([], ([], ([], ([], ()))))))))))))) fun v15 => (k12 ((!v15), ()))))
       ((k12 (false, ())))))
     (
     W.cnd (v3.2.1 != 0) (
      W.cnd (v3.2.1 != 3) ((k12 (true, ())))
       (W.call (ref33_SameW W v3.1 (0, ([], ([], ([], ([], ([], ([], ([], ([], ([], ([], ([], ()))))))))))))) fun v16 => (k12 ((!v16), ()))))
      ((k12 (false, ()))))))
  fun k17 => W.two (W.call (ref01_CutW W b 600) fun v18 => W.call (law33_FewW W s) fun v19 => (k17 (v18, v19)))
end Go.Proofs.YtllkmncnmlmefaaGreat

namespace Go.Proofs.YtllkmncnmlmefaaGreat
open Go Go.Vc Go.RowKit
/-! ### pack, in plain words -/
theorem join_b {β : Type} {k : Bool × Unit → Option β} {f : (Bool × Unit → Option β) → Option β} (b : Bool) (h : ∀ K : Bool × Unit → Option β, f K = K (b, ())) : stdW.join k f = k (b, ()) := h k
theorem idx_z {α β : Type} {x : α} {l : List α} (K : α → Option β) : stdW.idx (x :: l) 0 K = K x := by show idxF (x :: l) 0 K = _; unfold idxF; simp
def Bt (l : List Int) : Prop := ∀ b ∈ l, 0 ≤ b ∧ b < 256
theorem r_unfolded (u : Nat) (hu : u < 18446744073709551616) : pack_unfolded (u : Int) = some (unf u) := by
  show pack_unfoldedW stdW u = _
  unfold pack_unfoldedW
  rw [nn_w (by omega), unf_bits u hu]
theorem r_folded {n : Int} (hn : Is64 n) : pack_folded n = some (fold n : Int) := by
  show pack_foldedW stdW n = _
  unfold pack_foldedW
  rw [nn_w (by omega), nn_w (by omega), fold_bits n hn]
def resN (x : Option Nat × List Int × Int) : Option ((Int × Bool × Unit) × (Bool × (List Int) × Int × Unit)) := some ((((x.1.getD 0 : Nat) : Int), (x.1.isSome, ())), (true, (x.2.1, (x.2.2, ()))))
theorem r_number {bs : List Int} (hb : Bt bs) (hl : bs.length < 9223372036854775807) : pack_Reader_number true bs 0 = resN (numS 0 0 bs) := by
  show pack_Reader_numberW stdW true bs 0 = _
  unfold pack_Reader_numberW
  refine (loop_std (fun z => z.2.2.2.1.length) (fun z => ∃ (u sh : Nat) (l : List Int), z = ((u : Int), ((sh : Int), (true, (l, (0, ()))))) ∧ u < 18446744073709551616 ∧ sh ≤ 70 ∧ Bt l ∧ l.length < 9223372036854775807) (fun z => resN (numS z.2.1.toNat z.1.toNat z.2.2.2.1)) ⟨0, 0, bs, rfl, by omega, by omega, hb, hl⟩ (by show bs.length < _; omega) ?_)
  rintro _ ⟨u, sh, l, rfl, hu, hsh, hbt, hlen⟩ again ha
  cases l with
  | nil =>
    rw [cnd_y (by rfl), call_w (show pack_Reader_fail true [] 0 4 = some ((), (true, ([], (4, ())))) from rfl)]
    show _ = resN (numS sh u [])
    unfold numS; rfl
  | cons b r =>
    have h0 := hbt b (by simp)
    have hr : Bt r := fun x hx => hbt x (by simp [hx])
    show stdW.cnd (((b :: r).length : Int) == 0) _ _ = resN (numS sh u (b :: r))
    rw [cnd_n (by simp; omega)]
    show stdW.idx (b :: r) 0 _ = _
    rw [idx_z, bnd_w (by omega) (by simp; omega)]
    refine (join_b (decide (63 < sh ∨ (sh = 63 ∧ 1 < b) ∨ (b = 0 ∧ 0 < sh))) fun K => ?_).trans ?_
    · show stdW.cnd (decide ((63 : Int) < (sh : Int))) _ _ = _
      by_cases h1 : 63 < sh
      · rw [cnd_y (by simpa using by omega), decide_eq_true (.inl h1)]
      · rw [cnd_n (by simpa using by omega)]
        show stdW.cnd ((sh : Int) == 63) _ _ = _
        by_cases h2 : sh = 63
        · rw [cnd_y (by simp [h2])]
          by_cases h3 : 1 < b
          · rw [cnd_y (by simpa using h3), decide_eq_true (.inr (.inl ⟨h2, h3⟩))]
          · rw [cnd_n (by simpa using h3)]
            by_cases h4 : b = 0
            · rw [cnd_y (by simp [h4]), decide_eq_true (show 63 < sh ∨ (sh = 63 ∧ 1 < b) ∨ (b = 0 ∧ 0 < sh) from .inr (.inr ⟨h4, by omega⟩))]
              show K (decide ((0 : Int) < (sh : Int)), ()) = _
              rw [decide_eq_true (by omega)]
            · rw [cnd_n (by simp [h4]), decide_eq_false (by omega)]
        · rw [cnd_n (by simp; omega)]
          by_cases h4 : b = 0
          · rw [cnd_y (by simp [h4])]
            show K (decide ((0 : Int) < (sh : Int)), ()) = _
            congr 2
            apply decide_eq_decide.2; omega
          · rw [cnd_n (by simp [h4]), decide_eq_false (by omega)]
    · have ed : (List.take (b :: r).length (b :: r)).drop (Int.toNat 1) = r := by simp
      by_cases hbad : 63 < sh ∨ (sh = 63 ∧ 1 < b) ∨ (b = 0 ∧ 0 < sh)
      · rw [decide_eq_true hbad]
        show stdW.cnd true _ _ = _
        rw [cnd_y (by rfl), call_w (show pack_Reader_fail true _ 0 3 = some ((), (true, ([], (3, ())))) from rfl)]
        unfold numS; rw [if_pos hbad]; rfl
      · rw [decide_eq_false hbad]
        show stdW.cnd false _ _ = _
        rw [cnd_n (by rfl)]
        show stdW.nn (sh : Int) _ = _
        rw [nn_w (by omega)]
        unfold numS; rw [if_neg hbad]
        have ub := uNext_bits (sh := sh) (u := u) (b := b) hu (by omega) h0
        by_cases h128 : b < 128
        · rw [cnd_y (by simpa using h128), if_pos h128]
          show some ((Go.bits Go.BinOp.or Go.IntKind.u64 (u : Int) (IntKind.u64.wrap ((IntKind.u64.wrap (Go.bits Go.BinOp.and Go.IntKind.u8 b 127)) * (2 ^ (Min.min (Int.toNat (sh : Int)) (Go.IntKind.bits Go.IntKind.u64))))), (true, ())), (true, ((List.take (b :: r).length (b :: r)).drop (Int.toNat 1), (0, ())))) = _
          rw [ub, ed]; rfl
        · rw [cnd_n (by simpa using h128), if_neg h128]
          show again (Go.bits Go.BinOp.or Go.IntKind.u64 (u : Int) (IntKind.u64.wrap ((IntKind.u64.wrap (Go.bits Go.BinOp.and Go.IntKind.u8 b 127)) * (2 ^ (Min.min (Int.toNat (sh : Int)) (Go.IntKind.bits Go.IntKind.u64))))), (IntKind.i64.wrap ((sh : Int) + 7), (true, ((List.take (b :: r).length (b :: r)).drop (Int.toNat 1), (0, ()))))) = _
          rw [ub, ed]
          have es : IntKind.i64.wrap ((sh : Int) + 7) = ((sh + 7 : Nat) : Int) := by rw [IntWalk.i64_in _ (by omega)]; omega
          rw [es]
          exact ha _ ⟨uNext sh u b, sh + 7, r, rfl, uNext_lt hu, by omega, hr, by simp at hlen; omega⟩ (by show r.length < (b :: r).length; simp)
theorem numS_len : ∀ (bs : List Int) (sh u : Nat), (numS sh u bs).2.1.length ≤ bs.length
  | [], sh, u => by simp [numS]
  | b :: r, sh, u => by
    unfold numS
    split
    · simp
    · split
      · simp
      · have := numS_len r (sh + 7) (uNext sh u b); simp; omega
/-- a reading, as data -/
def rd (lo hi : Int) (s : List Int × Int) : Int × (List Int × Int) := ((rdInt s.1 s.2 lo hi).1, ((rdInt s.1 s.2 lo hi).2.1, (rdInt s.1 s.2 lo hi).2.2))
theorem r_pInt {lo hi : Int} {s : List Int × Int} (hb : Bt s.1) (hl : s.1.length < 9223372036854775807) : pack_Reader_Int true s.1 s.2 lo hi = some ((rd lo hi s).1, (true, ((rd lo hi s).2.1, ((rd lo hi s).2.2, ())))) := by
  obtain ⟨bs, e⟩ := s
  show pack_Reader_IntW stdW true bs e lo hi = _
  unfold pack_Reader_IntW rd rdInt
  rw [call_w (show pack_Reader_good true bs e = some ((e == 0), (true, (bs, (e, ())))) from rfl)]
  by_cases he : e = 0
  · subst he
    rw [cnd_n (by rfl)]
    rw [if_neg (by simp)]
    show stdW.call (pack_Reader_number true bs 0) _ = _
    rw [r_number hb hl]
    have hlt := numS_lt bs 0 0 (by decide)
    rcases hN : numS 0 0 bs with ⟨_ | u, r, e'⟩
    · rw [call_w (show resN (none, r, e') = some ((((0 : Nat) : Int), (false, ())), (true, (r, (e', ())))) from rfl)]
      show stdW.call (pack_unfolded ((0 : Nat) : Int)) _ = _
      rw [call_w (r_unfolded 0 (by decide)), cnd_y (by rfl)]
    · rw [hN] at hlt
      rw [call_w (show resN (some u, r, e') = some (((u : Int), (true, ())), (true, (r, (e', ())))) from rfl)]
      show stdW.call (pack_unfolded (u : Int)) _ = _
      rw [call_w (r_unfolded u (hlt u rfl)), cnd_n (by rfl)]
      refine (join_b (decide (unf u < lo ∨ hi < unf u)) fun K => ?_).trans ?_
      · by_cases h1 : unf u < lo
        · rw [cnd_y (by simpa using h1), decide_eq_true (.inl h1)]
        · rw [cnd_n (by simpa using h1)]
          congr 2; apply decide_eq_decide.2; simp [h1]
      · show stdW.cnd _ _ _ = _
        by_cases h1 : unf u < lo ∨ hi < unf u
        · rw [cnd_y (by simpa using h1)]
          show _ = some ((if unf u < lo ∨ hi < unf u then _ else _ : Int × List Int × Int).1, (true, ((if unf u < lo ∨ hi < unf u then _ else _ : Int × List Int × Int).2.1, ((if unf u < lo ∨ hi < unf u then _ else _ : Int × List Int × Int).2.2, ()))))
          rw [if_pos h1]; rfl
        · rw [cnd_n (by simpa using h1)]
          show _ = some ((if unf u < lo ∨ hi < unf u then _ else _ : Int × List Int × Int).1, (true, ((if unf u < lo ∨ hi < unf u then _ else _ : Int × List Int × Int).2.1, ((if unf u < lo ∨ hi < unf u then _ else _ : Int × List Int × Int).2.2, ()))))
          rw [if_neg h1]
  · rw [cnd_y (by simp [he])]
    rw [if_pos he]
end Go.Proofs.YtllkmncnmlmefaaGreat
namespace Go.Vc
open Go Go.RowKit
end Go.Vc

namespace Go.Vc
open Go Go.RowKit
end Go.Vc

namespace Go.Vc
open Go Go.RowKit
end Go.Vc

namespace Go.Vc
open Go Go.RowKit
end Go.Vc

namespace Go.Proofs.YtllkmncnmlmefaaGreat
open Go Go.Vc Go.RowKit
end Go.Proofs.YtllkmncnmlmefaaGreat

namespace Go.Proofs.YtllkmncnmlmefaaGreat
open Go Go.Vc Go.RowKit
theorem call_eq {α β : Type} {o : Option α} {a : α} (h : o = some a) (K : α → Option β) : stdW.call o K = K a := by subst h; rfl
end Go.Proofs.YtllkmncnmlmefaaGreat

namespace Go.Proofs.YtllkmncnmlmefaaGreat
open Go Go.Vc Go.RowKit
/-! ### numbers of 128 bits, by their values -/
def In128 (z : Int) : Prop := -170141183460469231731687303715884105728 ≤ z ∧ z < 170141183460469231731687303715884105728
instance (z : Int) : Decidable (In128 z) := by unfold In128; infer_instance
def I64 (n : Int) : Prop := -9223372036854775808 ≤ n ∧ n ≤ 9223372036854775807
/-! a running sum -/
/-! ### numbers without bounds: the reference's -/
/-! ### Units in order, plain -/
def ltA (a b : U0') : Prop := a.1 < b.1 ∨ (a.1 = b.1 ∧ a.2.1 < b.2.1)
instance (a b : U0') : Decidable (ltA a b) := by unfold ltA; infer_instance
instance : DecidableEq U0' := inferInstanceAs (DecidableEq (Int × Int × Unit))
theorem extA {a b : U0'} (h1 : a.1 = b.1) (h2 : a.2.1 = b.2.1) : a = b := by
  obtain ⟨a1, a2, ⟨⟩⟩ := a; obtain ⟨b1, b2, ⟨⟩⟩ := b; simp only at h1 h2; subst h1 h2; rfl
theorem ltA_tr {a b c : U0'} (h1 : ltA a b) (h2 : ltA b c) : ltA a c := by unfold ltA at *; omega
abbrev SrtA (l : List U0') : Prop := l.Pairwise ltA
/-! the reference's way: each one put where it belongs -/
/-! ### numbers: what fits, what it is -/
/-! 64 bits of 128 -/
theorem nif_f (c : Bool) : notIf false c = c := by cases c <;> rfl
theorem join_g {X β : Type} {k0 : X → Option β} {f : (X → Option β) → Option β} {r : Option β} (h : ∀ k, k = k0 → f k = r) : stdW.join k0 f = r := h k0 rfl
/-! ### purses: which are, what each unit has, what there is in all -/
theorem r_lessA (a b : AUnit') : acct_Less a b = some (decide (ltA a b)) := by
  show acct_LessW stdW a b = _
  unfold acct_LessW
  by_cases h : a.1 = b.1
  · rw [cnd_n (by simp [h])]
    congr 1; refine decide_eq_decide.2 ?_; unfold ltA; omega
  · rw [cnd_y (by simp [h])]
    congr 1; refine decide_eq_decide.2 ?_; unfold ltA; omega
theorem r_less15 (a b : AUnit') : ref15_Less a b = some (decide (ltA a b)) := by
  show ref15_LessW stdW a b = _
  unfold ref15_LessW
  by_cases h1 : a.1 < b.1
  · rw [cnd_y (decide_eq_true h1), decide_eq_true (by unfold ltA; omega)]
  · rw [cnd_n (decide_eq_false h1)]
    by_cases h : a.1 = b.1
    · rw [cnd_y (by simp [h])]
      congr 1; refine decide_eq_decide.2 ?_; unfold ltA; omega
    · rw [cnd_n (by simp [h]), decide_eq_false (by unfold ltA; omega)]
def PInv (l : List AFlow') : Prop := (∀ x ∈ l, x.2.1 ≠ 0) ∧ SrtA (l.map (·.1))
instance (l : List AFlow') : Decidable (PInv l) := by unfold PInv SrtA; infer_instance
def isP (l : List AFlow') : Bool := decide (PInv l)
theorem isP_bad0 {l : List AFlow'} {i : Nat} (hi : i < l.length) (h : l[i].2.1 = 0) : isP l = false :=
  decide_eq_false fun hp => hp.1 _ (List.getElem_mem hi) h
theorem isP_bad1 {l : List AFlow'} {i : Nat} (hi : i < l.length) (h0 : 0 < i) (h : ¬ ltA (l[i - 1]'(by omega)).1 l[i].1) : isP l = false :=
  decide_eq_false fun hp => h (by
    have := List.pairwise_iff_getElem.1 hp.2 (i - 1) i (by simp; omega) (by simpa using hi) (by omega)
    simpa using this)
theorem isP_next {l : List AFlow'} {i : Nat} (hi : i < l.length) (inv : PInv (l.take i)) (h1 : l[i].2.1 ≠ 0) (h2 : ∀ h0 : 0 < i, ltA (l[i - 1]'(by omega)).1 l[i].1) : PInv (l.take (i + 1)) := by
  rw [List.take_succ_eq_append_getElem hi]
  refine ⟨fun x hx => ?_, ?_⟩
  · rcases List.mem_append.1 hx with hx | hx
    · exact inv.1 x hx
    · simp at hx; rw [hx]; exact h1
  · show SrtA ((l.take i ++ [l[i]]).map (·.1))
    rw [List.map_append]
    refine List.pairwise_append.2 ⟨inv.2, by simp, fun a ha b hb => ?_⟩
    simp only [List.map_cons, List.map_nil, List.mem_singleton] at hb
    subst hb
    obtain ⟨k, hk, hka⟩ := List.mem_iff_getElem.1 ha
    have hk' : k < i := by simp at hk; omega
    have h3 := h2 (by omega)
    by_cases hki : k = i - 1
    · subst hki; rw [← hka]; simpa using h3
    · have h4 := List.pairwise_iff_getElem.1 inv.2 k (i - 1) (by simpa using hk) (by simp; omega) (by omega)
      rw [hka] at h4
      refine ltA_tr h4 ?_
      simpa using h3
theorem isP_end {l : List AFlow'} (h : PInv (l.take l.length)) : isP l = true := by rw [List.take_length] at h; exact decide_eq_true h
theorem r_is {l : List AFlow'} (hl : l.length ≤ 1000000) : purse_Is l = some (isP l) := by
  show purse_IsW stdW l = _
  unfold purse_IsW
  refine loop_n (N := l.length) (by omega) (fun i _ => PInv (l.take i)) (some (isP l)) (by simp [PInv]) ?_ ?_
  · rintro _ again h
    rw [cnd_end, isP_end h]
  · rintro i hi _ inv again ha
    rw [cnd_lt hi, idx_w hi]
    refine join_g fun k hk => ?_
    have kt : k (true, ()) = some false := by subst hk; rfl
    have kf : k (false, ()) = again (((i + 1 : Nat) : Int), ()) := by rw [← i64_s i (by omega)]; subst hk; rfl
    clear hk
    by_cases h1 : l[i].2.1 = 0
    · rw [cnd_y (by simpa using h1), kt, isP_bad0 hi h1]
    · rw [cnd_n (by simpa using h1)]
      by_cases h0 : 0 < i
      · rw [cnd_y (decide_eq_true (by omega)), i64_pred i h0 (by rw [maxLen_eq]; omega), idx_w (by omega), call_eq (r_lessA _ _)]
        by_cases h2 : ltA (l[i - 1]'(by omega)).1 l[i].1
        · rw [decide_eq_true h2]
          exact kf.trans (ha _ (isP_next hi inv h1 fun _ => h2))
        · rw [decide_eq_false h2, isP_bad1 hi h0 h2]; exact kt
      · rw [cnd_n (decide_eq_false (by omega))]
        exact kf.trans (ha _ (isP_next hi inv h1 fun h => absurd h h0))
theorem r_is17 {l : List AFlow'} (hl : l.length ≤ 1000000) : ref17_Is l = some (isP l) := by
  show ref17_IsW stdW l = _
  unfold ref17_IsW
  refine loop_n (N := l.length) (by omega) (fun i _ => PInv (l.take i)) (some (isP l)) (by simp [PInv]) ?_ ?_
  · rintro _ again h
    rw [cnd_end, isP_end h]
  · rintro i hi _ inv again ha
    rw [cnd_lt hi]
    refine join_g fun k hk => ?_
    have kt : k (true, ()) = some false := by subst hk; rfl
    have kf : k (false, ()) = again (((i + 1 : Nat) : Int), ()) := by rw [← i64_s i (by omega)]; subst hk; rfl
    clear hk
    rw [idx_w hi]
    by_cases h1 : l[i].2.1 = 0
    · rw [cnd_y (by simpa using h1), kt, isP_bad0 hi h1]
    · rw [cnd_n (by simpa using h1)]
      by_cases h0 : 0 < i
      · rw [cnd_y (decide_eq_true (by omega)), i64_pred i h0 (by rw [maxLen_eq]; omega), idx_w (by omega), idx_w hi, call_eq (r_less15 _ _)]
        by_cases h2 : ltA (l[i - 1]'(by omega)).1 l[i].1
        · rw [decide_eq_true h2]
          exact kf.trans (ha _ (isP_next hi inv h1 fun _ => h2))
        · rw [decide_eq_false h2, isP_bad1 hi h0 h2]; exact kt
      · rw [cnd_n (decide_eq_false (by omega))]
        exact kf.trans (ha _ (isP_next hi inv h1 fun h => absurd h h0))
theorem eqA (a b : AUnit') : (a.1 == b.1 && a.2.1 == b.2.1) = decide (a = b) := by
  by_cases h : a = b
  · subst h; simp
  · rw [decide_eq_false h]
    cases hc : (a.1 == b.1 && a.2.1 == b.2.1) with
    | false => rfl
    | true => simp only [Bool.and_eq_true, beq_iff_eq] at hc; exact absurd (extA hc.1 hc.2) h
/-! ### all units that are named -/
theorem addU_cases (ks : List KU) (x : KU) : addU ks x = if x ∈ ks then ks else ks ++ [x] := by
  unfold addU
  by_cases h : x ∈ ks
  · rw [memU_iff.2 h, if_pos h]; rfl
  · have : memU x ks = false := by
      cases hm : memU x ks with
      | true => exact absurd (memU_iff.1 hm) h
      | false => rfl
    rw [this, if_neg h]; rfl
/-! ### rows of flows as one -/
/-! ### a purse behind some flows -/
/-! ### differences of 128 bits; a payment; that anything is paid at all -/
/-! ### flows may come in any order -/
theorem r_few17 (l : List AFlow') (hl : l.length ≤ 9223372036854775807) : law17_Few l = some (l.take 20) := by
  show law17_FewW stdW l = _
  unfold law17_FewW
  by_cases h : 20 < l.length
  · rw [cnd_y (decide_eq_true (by omega)), bnd_w (by omega) (by omega)]; rfl
  · rw [cnd_n (decide_eq_false (by omega)), List.take_of_length_le (by omega)]
/-- a loop whose state is known round by round -/
theorem loop_at {X β : Type} {N : Nat} (hN : N < 9223372036854775808) {f : X → (X → Option β) → Option β} (st : Nat → X) (r : Option β)
    (hend : ∀ again : X → Option β, f (st N) again = r) (hstep : ∀ i, i < N → ∀ again : X → Option β, again (st (i + 1)) = r → f (st i) again = r) : stdW.loop f (st 0) = r := by
  have key : ∀ n i, i ≤ N → N - i < n → loopF n f (st i) = r := by
    intro n
    induction n with
    | zero => intro i _ h; omega
    | succ n ih =>
      intro i hi hn
      show f (st i) (loopF n f) = r
      by_cases h : i < N
      · exact hstep i h _ (ih (i + 1) (by omega) (by omega))
      · have : i = N := by omega
        subst this; exact hend _
  show loopF FU f (st 0) = r
  exact key FU 0 (Nat.zero_le _) (by rw [FU_eq]; omega)
/-! ### the reference's units -/
theorem loop_az {X β : Type} {N : Nat} (hN : N < 9223372036854775808) {f : X → (X → Option β) → Option β} (st : Nat → X) (r : Option β) {z0 : X} (hz : z0 = st 0)
    (hend : ∀ again : X → Option β, f (st N) again = r) (hstep : ∀ i, i < N → ∀ again : X → Option β, again (st (i + 1)) = r → f (st i) again = r) : stdW.loop f z0 = r := by
  subst hz; exact loop_at hN st r hend hstep
/-! ### the reference's purse behind some flows -/
/-! ### what a payment leaves -/
end Go.Proofs.YtllkmncnmlmefaaGreat
namespace Go.Proofs.YtllkmncnmlmefaaGreat
open Go Go.Vc Go.RowKit
end Go.Proofs.YtllkmncnmlmefaaGreat

namespace Go.Proofs.YtllkmncnmlmefaaGreat
open Go Go.Vc Go.RowKit
end Go.Proofs.YtllkmncnmlmefaaGreat

namespace Go.Proofs.YtllkmncnmlmefaaGreat
open Go Go.Vc Go.RowKit
/-! sign -/
/-! products of 64 bits -/
/-! ### what a move makes of a leg -/
theorem both_of {β : Type} [EqB β] {a b r : Option β} (ha : a = r) (hb : b = r) : stdW.both a b = r := by rw [ha, hb]; exact both_w r
theorem nilq_w {β : Type} [EqB β] (e : Bool) (f : Bool → Option β) : stdW.nilq e f = nilF e f := rfl
/-! ### pack: writing, the ends -/
theorem fd7 (u : Nat) : (u : Int).fdiv (2 ^ (Min.min (Int.toNat 7) (Go.IntKind.bits Go.IntKind.u64))) = ((u / 128 : Nat) : Int) := by
  have e : (2 : Int) ^ (Min.min (Int.toNat 7) (Go.IntKind.bits Go.IntKind.u64)) = 128 := by decide +kernel
  rw [e, Int.fdiv_eq_ediv_of_nonneg _ (by omega)]; omega
theorem r_pkOne {u : Nat} {b : List Int} (hu : u < 18446744073709551616) (hb : b.length ≤ 100000000) : pack_Writer_one true b (u : Int) = some ((), (true, (b ++ encU u, ()))) := by
  show pack_Writer_oneW stdW true b u = _
  unfold pack_Writer_oneW
  refine (loop_std (fun z => z.1.toNat) (fun z => ∃ (v : Nat) (l : List Int), z = ((v : Int), (true, (l, ()))) ∧ v < 18446744073709551616 ∧ l.length + (encU v).length ≤ 100000020) (fun z => some ((), (true, (z.2.2.1 ++ encU z.1.toNat, ())))) ⟨u, b, rfl, hu, by have := encU_len10 hu; omega⟩ (by show (u : Int).toNat < _; omega) ?_)
  rintro _ ⟨v, l, rfl, hv, hl⟩ again ha
  show stdW.cnd (decide ((128 : Int) ≤ (v : Int))) _ _ = some ((), (true, (l ++ encU (v : Int).toNat, ())))
  rw [Int.toNat_natCast]
  by_cases h : 128 ≤ v
  · rw [cnd_y (by simpa using by omega)]
    rw [encU_ge h] at hl ⊢
    simp only [List.length_cons] at hl
    rw [room_w (by simp only [List.length_cons, List.length_nil]; omega) (by simp only [List.length_cons, List.length_nil]; omega), nn_w (by omega)]
    show again ((v : Int).fdiv (2 ^ (Min.min (Int.toNat 7) (Go.IntKind.bits Go.IntKind.u64))), (true, (l ++ (Go.bits Go.BinOp.or Go.IntKind.u8 (IntKind.u8.wrap (v : Int)) 128) :: [], ()))) = _
    rw [fd7, or128]
    refine (ha _ ⟨v / 128, _, rfl, by omega, by simp only [List.length_append, List.length_cons, List.length_nil]; omega⟩ (by show ((v / 128 : Nat) : Int).toNat < ((v : Nat) : Int).toNat; omega)).trans ?_
    rw [Int.toNat_natCast, List.append_assoc]; rfl
  · rw [cnd_n (by simpa using by omega)]
    rw [encU_lt (by omega)] at hl ⊢
    rw [room_w (by simp only [List.length_cons, List.length_nil] at hl ⊢; omega) (by simp only [List.length_cons, List.length_nil] at hl ⊢; omega)]
    show some ((), (true, (l ++ (IntKind.u8.wrap (v : Int)) :: [], ()))) = _
    rw [u8c _ (by omega)]
theorem encs_app (a b : List Int) : encs (a ++ b) = encs a ++ encs b := by unfold encs; rw [List.flatMap_append]
theorem encs_one (n : Int) : encs [n] = encU (fold n) := by unfold encs; simp
theorem encs_len {l : List Int} (h : ∀ n ∈ l, Is64 n) : (encs l).length ≤ 10 * l.length := by
  induction l with
  | nil => simp [encs]
  | cons x l ih =>
    have h1 := encU_len10 (fold_lt x (h x (by simp)))
    have h2 := ih fun n hn => h n (by simp [hn])
    unfold encs at h2 ⊢
    rw [List.flatMap_cons, List.length_append, List.length_cons]; omega
theorem r_pkInt {l b : List Int} (hl : ∀ n ∈ l, Is64 n) (hn : l.length ≤ 1000000) (hb : b.length ≤ 50000000) : pack_Writer_Int true b l = some ((), (true, (b ++ encs l, ()))) := by
  show pack_Writer_IntW stdW true b l = _
  unfold pack_Writer_IntW
  rw [join_w, call_w (show pack_Writer_ok true b = some (true, (true, (b, ()))) from rfl), cnd_y (by rfl)]
  refine loop_list (l := l) (by omega) (fun i s => s = (true, (b ++ encs (l.take i), ()))) (fun _ _ => some ((), (true, (b ++ encs l, ())))) (by simp [encs]) ?_ ?_
  · rintro _ again rfl
    rw [cnd_end, List.take_length]
  · rintro i hi _ rfl again ha
    have hx := hl _ (List.getElem_mem hi)
    have hlen : (encs (l.take i)).length ≤ 10 * (l.take i).length := encs_len fun n hn => hl n (List.mem_of_mem_take hn)
    rw [List.length_take] at hlen
    rw [cnd_lt hi, idx_w hi, call_w (r_folded hx)]
    show stdW.call (pack_Writer_one true (b ++ encs (l.take i)) (fold l[i] : Int)) _ = _
    rw [call_w (r_pkOne (fold_lt _ hx) (by rw [List.length_append]; omega)), i64_s i (by omega)]
    refine ha _ ?_
    rw [show l.take (i + 1) = l.take i ++ [l[i]] by simp, encs_app, encs_one, List.append_assoc]
theorem r_clone {l : List Int} (hl : l.length ≤ 100000000) : slices_Clonebyte_byte l = some l := by
  show slices_Clonebyte_byteW stdW l = _
  unfold slices_Clonebyte_byteW
  rw [nilq_w]
  refine nilF_eq ?_ ?_
  · rw [cnd_n (by rfl), room_w (by omega) (by omega)]; rfl
  · intro h
    rw [cnd_y (by rfl), List.isEmpty_iff.1 h]
theorem r_open {l : List Int} (hl : l.length ≤ 100000000) : pack_Open l = some ((), (true, (l, (0, ())))) := by
  show pack_OpenW stdW l = _
  unfold pack_OpenW
  rw [call_w (r_clone hl)]
theorem r_done {l : List Int} (hl : l.length ≤ 100000000) : pack_Writer_Done true l = some (l, (true, (l, ()))) := by
  show pack_Writer_DoneW stdW true l = _
  unfold pack_Writer_DoneW
  rw [call_w (show pack_Writer_ok true l = some (true, (true, (l, ()))) from rfl), cnd_n (by rfl)]
  show stdW.call (slices_Clonebyte_byte l) _ = _
  rw [call_w (r_clone hl)]
/-- how a reading ends -/
def endE (s : List Int × Int) : Int := if s.2 ≠ 0 then s.2 else if 0 < s.1.length then 5 else 0
theorem r_pEnd (s : List Int × Int) : pack_Reader_End true s.1 s.2 = some (endE s, (true, (s.1, (s.2, ())))) := by
  obtain ⟨l, e⟩ := s
  show pack_Reader_EndW stdW true l e = _
  unfold pack_Reader_EndW endE
  rw [call_w (show pack_Reader_Err true l e = some (e, (true, (l, (e, ())))) from rfl)]
  by_cases he : e = 0
  · subst he
    rw [cnd_n (by rfl)]
    by_cases h : 0 < l.length
    · rw [cnd_y (decide_eq_true (by show (0 : Int) < (l.length : Int); omega))]; simp [h]
    · rw [cnd_n (decide_eq_false (by show ¬ (0 : Int) < (l.length : Int); omega))]; simp [h]
  · rw [cnd_y (by simp [he])]; simp [he]
end Go.Proofs.YtllkmncnmlmefaaGreat
namespace Go.Vc
open Go
/-- a loop over a list, by what is left of it -/
theorem loop_go {α X S β : Type} {l : List α} (hN : l.length < 9223372036854775808) {f : X → (X → Option β) → Option β} (st : Nat → S → X) (Inv : Nat → S → Prop) (G : List α → S → Option β) {z0 : X} {s0 : S} (hz : z0 = st 0 s0) (h0 : Inv 0 s0)
    (hend : ∀ s, Inv l.length s → ∀ again : X → Option β, f (st l.length s) again = G [] s)
    (hstep : ∀ (i : Nat) (hi : i < l.length) (s : S), Inv i s → ∀ again : X → Option β, (∀ s', Inv (i + 1) s' → again (st (i + 1) s') = G (l.drop (i + 1)) s') → f (st i s) again = G (l[i] :: l.drop (i + 1)) s) : stdW.loop f z0 = G l s0 := by
  subst hz
  have key : ∀ n i s, i ≤ l.length → l.length - i < n → Inv i s → loopF n f (st i s) = G (l.drop i) s := by
    intro n
    induction n with
    | zero => intro i s _ h; omega
    | succ n ih =>
      intro i s hi hn hv
      show f (st i s) (loopF n f) = _
      by_cases h : i < l.length
      · rw [List.drop_eq_getElem_cons h]
        exact hstep i h s hv _ fun s' hv' => ih (i + 1) s' (by omega) (by omega) hv'
      · have : i = l.length := by omega
        subst this; rw [List.drop_length]; exact hend s hv _
  show loopF FU f (st 0 s0) = _
  have := key FU 0 s0 (Nat.zero_le _) (by rw [FU_eq]; omega) h0
  rwa [List.drop_zero] at this
end Go.Vc
namespace Go.Proofs.YtllkmncnmlmefaaGreat
open Go Go.Vc Go.RowKit
set_option synthInstance.maxSize 100000
set_option synthInstance.maxHeartbeats 0
/-! ### the ledger: the writer -/
abbrev WrT := Unit × (Bool × List Int × Unit)
def wrT (b : List Int) : WrT := ((), (true, (b, ())))
/-- numbers that may be written behind so many bytes -/
def okN (b : List Int) (l : List Int) : Prop := (∀ n ∈ l, Is64 n) ∧ b.length + 10 * l.length ≤ 40000000 ∧ l.length ≤ 1000000
theorem okN.bytes {b l : List Int} (h : okN b l) : (b ++ encs l).length ≤ 40000000 := by
  have := encs_len h.1
  rw [List.length_append]; have := h.2.1; omega
theorem okN.left {b l m : List Int} (h : okN b (l ++ m)) : okN b l := by
  obtain ⟨h1, h2, h3⟩ := h
  rw [List.length_append] at h2 h3
  exact ⟨fun n hn => h1 n (List.mem_append_left _ hn), by omega, by omega⟩
theorem okN.right {b l m : List Int} (h : okN b (l ++ m)) : okN (b ++ encs l) m := by
  have hl := encs_len h.left.1
  obtain ⟨h1, h2, h3⟩ := h
  rw [List.length_append] at h2 h3
  exact ⟨fun n hn => h1 n (List.mem_append_right _ hn), by rw [List.length_append]; omega, by omega⟩
theorem w_int {b l : List Int} (h : okN b l) : pack_Writer_Int true b l = some (wrT (b ++ encs l)) := r_pkInt h.1 h.2.2 (by have := h.2.1; omega)
/-- what is written for each of a row -/
theorem wr_each {α β : Type} {l : List α} (f : α → List Int) (hl : l.length < 9223372036854775808) {F : Int × Bool × List Int × Unit → (Int × Bool × List Int × Unit → Option β) → Option β} {b : List Int} {r : Option β}
    (hb : okN b (l.flatMap f))
    (hend : ∀ again : Int × Bool × List Int × Unit → Option β, F ((l.length : Int), (wrT (b ++ encs (l.flatMap f))).2) again = r)
    (hstep : ∀ (i : Nat) (hi : i < l.length) (b' : List Int), okN b' (f l[i]) → ∀ again : Int × Bool × List Int × Unit → Option β, again (((i + 1 : Nat) : Int), (wrT (b' ++ encs (f l[i]))).2) = r → F ((i : Int), (wrT b').2) again = r) :
    stdW.loop F (0, (wrT b).2) = r := by
  refine loop_go (l := l) (s0 := b) hl (fun i (b' : List Int) => ((i : Int), (wrT b').2)) (fun i b' => b' = b ++ encs ((l.take i).flatMap f)) (fun _ _ => r) rfl (by simp [encs]) ?_ ?_
  · intro b' hb' again
    rw [List.take_length] at hb'
    subst hb'
    exact hend again
  · intro i hi b' hb' again ha
    have e : l.flatMap f = (l.take i).flatMap f ++ (f l[i] ++ (l.drop (i + 1)).flatMap f) := by
      conv => lhs; rw [← List.take_append_drop i l, List.drop_eq_getElem_cons hi]
      rw [List.flatMap_append, List.flatMap_cons]
    rw [e] at hb
    have hk := hb.right.left
    rw [← hb'] at hk
    refine hstep i hi b' hk again ?_
    refine ha _ ?_
    rw [hb', List.take_succ_eq_append_getElem hi, List.flatMap_append, encs_app]
    simp [encs]
theorem w_nums {b l : List Int} (h : okN b l) : ledger_writer_nums true b l = some (wrT (b ++ encs l)) := by
  show ledger_writer_numsW stdW true b l = _
  unfold ledger_writer_numsW
  have hl := h.2.2
  have e : l.flatMap (fun n => [n]) = l := by induction l with
    | nil => rfl
    | cons x l ih => rw [List.flatMap_cons, ih ⟨fun n hn => h.1 n (List.mem_cons_of_mem _ hn), by have := h.2.1; simp only [List.length_cons] at this; omega, by simp only [List.length_cons] at hl; omega⟩ (by simp only [List.length_cons] at hl; omega)]; rfl
  refine wr_each (l := l) (fun n => [n]) (by omega) (by rw [e]; exact h) ?_ ?_
  · intro again
    show stdW.cnd (decide ((l.length : Int) < (l.length : Int))) _ (some ((), (wrT (b ++ encs (l.flatMap fun n => [n]))).2)) = _
    rw [cnd_end, e]
  · intro i hi b' hk again ha
    show stdW.cnd (decide ((i : Int) < (l.length : Int))) (stdW.idx l (i : Int) _) _ = _
    rw [cnd_lt hi, idx_w hi]
    show stdW.call (pack_Writer_Int true b' [l[i]]) _ = _
    rw [call_eq (w_int hk)]
    show again (IntKind.i64.wrap ((i : Int) + 1), (wrT (b' ++ encs [l[i]])).2) = _
    rw [i64_s i (by omega)]; exact ha
def nU (u : AUnit') : List Int := [u.1, u.2.1]
theorem w_units {b : List Int} {l : List AUnit'} (h : okN b (l.flatMap nU)) (hl : l.length ≤ 1000000) : ledger_writer_units true b l = some (wrT (b ++ encs (l.flatMap nU))) := by
  show ledger_writer_unitsW stdW true b l = _
  unfold ledger_writer_unitsW
  refine wr_each (l := l) nU (by omega) h ?_ ?_
  · intro again
    show stdW.cnd (decide ((l.length : Int) < (l.length : Int))) _ (some ((), (wrT (b ++ encs (l.flatMap nU))).2)) = _
    rw [cnd_end]
  · intro i hi b' hk again ha
    show stdW.cnd (decide ((i : Int) < (l.length : Int))) (stdW.idx l (i : Int) _) _ = _
    rw [cnd_lt hi, idx_w hi]
    show stdW.call (ledger_writer_nums true b' (nU l[i])) _ = _
    rw [call_eq (w_nums hk)]
    show again (IntKind.i64.wrap ((i : Int) + 1), (wrT (b' ++ encs (nU l[i]))).2) = _
    rw [i64_s i (by omega)]; exact ha
def nB (b : Bool) : Int := if b = true then 1 else 0
theorem w_flag {b : List Int} {f : Bool} (h : okN b [nB f]) : ledger_writer_flag true b f = some (wrT (b ++ encs [nB f])) := by
  show ledger_writer_flagW stdW true b f = _
  unfold ledger_writer_flagW
  cases f <;> exact call_eq (w_nums h) _
end Go.Proofs.YtllkmncnmlmefaaGreat

namespace Go.Proofs.YtllkmncnmlmefaaGreat
open Go Go.Vc Go.RowKit
set_option synthInstance.maxSize 100000
set_option synthInstance.maxHeartbeats 0
/-! ### the ledger's numbers -/
def nL {α : Type} (f : α → List Int) (l : List α) : List Int := (l.length : Int) :: l.flatMap f
def nM (m : AMember') : List Int := [m.1, m.2.1, m.2.2.1, m.2.2.2.1]
def nI (x : AInst') : List Int := [x.1, x.2.1, x.2.2.1, x.2.2.2.1] ++ nL (fun n => [n]) x.2.2.2.2.1
def nA (a : ALot') : List Int := [a.1, a.2.1, a.2.2.1]
def nAc (a : AAccount') : List Int := [a.1, a.2.1, a.2.2.1] ++ nL (fun n => [n]) a.2.2.2.1
def nC (c : AChoice') : List Int := nU c.1 ++ (nU c.2.1 ++ [nB c.2.2.1])
def nG (g : AGroup') : List Int := [g.1] ++ (nU g.2.1 ++ ([g.2.2.1] ++ [g.2.2.2.1, g.2.2.2.2.1]))
def nV (x : AGive') : List Int := [x.1] ++ ((nU x.2.1 ++ nU x.2.2.1) ++ ([x.2.2.2.1.1] ++ ([x.2.2.2.1.2.1, x.2.2.2.2.1] ++ [x.2.2.2.2.2.1, x.2.2.2.2.2.2.1, x.2.2.2.2.2.2.2.1])))
def nP (p : APos') : List Int := nU p.1 ++ nL nU p.2.1
def nF (f : AFlow') : List Int := nU f.1 ++ [f.2.1]
def nH (h : AHold') : List Int := nU h.1 ++ nL nA h.2.1
def nT (s : AState') : List Int := nL nM s.2.1 ++ (nL nI s.2.2.1 ++ nL nA s.2.2.2.1)
def nAs (s : AState') : List Int := nL nAc s.2.2.2.2.1 ++ nL nC s.2.2.2.2.2.1
def nDs (s : AState') : List Int := nL nG s.2.2.2.2.2.2.1 ++ nL nV s.2.2.2.2.2.2.2.1
def nMo (s : AState') : List Int := nL nF s.2.2.2.2.2.2.2.2.2.2.1 ++ nL nH s.2.2.2.2.2.2.2.2.2.2.2.1
def nS (s : AState') : List Int := [s.1] ++ (nT s ++ (nAs s ++ (nDs s ++ (nL nP s.2.2.2.2.2.2.2.2.1 ++ (nL nP s.2.2.2.2.2.2.2.2.2.1 ++ nMo s)))))
theorem encs_j (b l m : List Int) : b ++ encs l ++ encs m = b ++ encs (l ++ m) := by rw [encs_app, List.append_assoc]
theorem flat1 (l : List Int) : l.flatMap (fun n => [n]) = l := by
  induction l with
  | nil => rfl
  | cons x l ih => rw [List.flatMap_cons, ih]; rfl
theorem flat_len1 {α : Type} {f : α → List Int} (hf : ∀ x, 0 < (f x).length) : ∀ l : List α, l.length ≤ (l.flatMap f).length
  | [] => Nat.le_refl _
  | x :: l => by
    have := flat_len1 hf l
    have := hf x
    rw [List.flatMap_cons, List.length_append, List.length_cons]; omega
/-- how many, then each -/
theorem okN.list {α : Type} {f : α → List Int} {b : List Int} {l : List α} (h : okN b (nL f l)) : okN b [(l.length : Int)] ∧ okN (b ++ encs [(l.length : Int)]) (l.flatMap f) := by
  have h' : okN b ([(l.length : Int)] ++ l.flatMap f) := h
  exact ⟨h'.left, h'.right⟩
theorem encs_l {α : Type} (f : α → List Int) (b : List Int) (l : List α) : b ++ encs [(l.length : Int)] ++ encs (l.flatMap f) = b ++ encs (nL f l) := encs_j ..
theorem okN.len {α : Type} {f : α → List Int} (hf : ∀ x, 0 < (f x).length) {b : List Int} {l : List α} (h : okN b (nL f l)) : l.length ≤ 1000000 := by
  have h1 := flat_len1 hf l
  have h2 := h.2.2
  unfold nL at h2
  rw [List.length_cons] at h2
  omega
theorem w_tables {s : AState'} {b : List Int} (h : okN b (nT s)) : ledger_writer_tables true b s = some (wrT (b ++ encs (nT s))) := by
  show ledger_writer_tablesW stdW true b s = _
  unfold ledger_writer_tablesW
  have h1 := h.left
  have h2 := h.right.left
  have h3 := h.right.right
  have l1 := h1.len fun x => by simp [nM]
  have l2 := h2.len fun x => by simp [nI, nL]
  have l3 := h3.len fun x => by simp [nA]
  obtain ⟨a1, a2⟩ := h1.list
  rw [call_eq (w_nums a1)]
  refine wr_each (l := s.2.1) nM (by omega) a2 ?_ ?_
  · intro again
    rw [encs_l]
    show stdW.cnd (decide ((s.2.1.length : Int) < (s.2.1.length : Int))) _ (stdW.call (ledger_writer_nums true (b ++ encs (nL nM s.2.1)) [(s.2.2.1.length : Int)]) _) = _
    rw [cnd_end]
    obtain ⟨b1, b2⟩ := h2.list
    rw [call_eq (w_nums b1)]
    refine wr_each (l := s.2.2.1) nI (by omega) b2 ?_ ?_
    · intro again
      rw [encs_l, encs_j]
      rw [encs_j] at h3
      show stdW.cnd (decide ((s.2.2.1.length : Int) < (s.2.2.1.length : Int))) _ (stdW.call (ledger_writer_nums true (b ++ encs (nL nM s.2.1 ++ nL nI s.2.2.1)) [(s.2.2.2.1.length : Int)]) _) = _
      rw [cnd_end]
      obtain ⟨c1, c2⟩ := h3.list
      rw [call_eq (w_nums c1)]
      refine wr_each (l := s.2.2.2.1) nA (by omega) c2 ?_ ?_
      · intro again
        rw [encs_l, encs_j]
        show stdW.cnd (decide ((s.2.2.2.1.length : Int) < (s.2.2.2.1.length : Int))) _ (some ((), (wrT _).2)) = _
        rw [cnd_end]
        show some (wrT (b ++ encs (nL nM s.2.1 ++ nL nI s.2.2.1 ++ nL nA s.2.2.2.1))) = _
        unfold nT
        rw [List.append_assoc]
      · intro i hi b' hk again ha
        show stdW.cnd (decide ((i : Int) < (s.2.2.2.1.length : Int))) (stdW.idx s.2.2.2.1 (i : Int) _) _ = _
        rw [cnd_lt hi, idx_w hi]
        have k : okN b' ([s.2.2.2.1[i].1] ++ [s.2.2.2.1[i].2.1, s.2.2.2.1[i].2.2.1]) := hk
        show stdW.call (ledger_writer_nums true b' [s.2.2.2.1[i].1]) _ = _
        rw [call_eq (w_nums k.left)]
        show stdW.call (pack_Writer_Int true (b' ++ encs [s.2.2.2.1[i].1]) [s.2.2.2.1[i].2.1, s.2.2.2.1[i].2.2.1]) _ = _
        rw [call_eq (w_int k.right)]
        show again (IntKind.i64.wrap ((i : Int) + 1), (wrT _).2) = _
        rw [i64_s i (by omega), encs_j]; exact ha
    · intro i hi b' hk again ha
      show stdW.cnd (decide ((i : Int) < (s.2.2.1.length : Int))) (stdW.idx s.2.2.1 (i : Int) _) _ = _
      rw [cnd_lt hi, idx_w hi]
      generalize s.2.2.1[i] = x at *
      have k : okN b' ([x.1] ++ ([x.2.1, x.2.2.1, x.2.2.2.1] ++ ([(x.2.2.2.2.1.length : Int)] ++ x.2.2.2.2.1))) := by
        have := hk
        unfold nI nL at this
        rw [flat1] at this
        exact this
      show stdW.call (ledger_writer_nums true b' [x.1]) _ = _
      rw [call_eq (w_nums k.left)]
      show stdW.call (pack_Writer_Int true (b' ++ encs [x.1]) [x.2.1, x.2.2.1, x.2.2.2.1]) _ = _
      rw [call_eq (w_int k.right.left)]
      show stdW.call (ledger_writer_nums true (b' ++ encs [x.1] ++ encs [x.2.1, x.2.2.1, x.2.2.2.1]) [(x.2.2.2.2.1.length : Int)]) _ = _
      rw [call_eq (w_nums k.right.right.left)]
      show stdW.call (pack_Writer_Int true (b' ++ encs [x.1] ++ encs [x.2.1, x.2.2.1, x.2.2.2.1] ++ encs [(x.2.2.2.2.1.length : Int)]) x.2.2.2.2.1) _ = _
      rw [call_eq (w_int k.right.right.right)]
      show again (IntKind.i64.wrap ((i : Int) + 1), (wrT _).2) = _
      rw [i64_s i (by omega), encs_j, encs_j, encs_j]
      unfold nI nL at ha
      rw [flat1] at ha
      exact ha
  · intro i hi b' hk again ha
    show stdW.cnd (decide ((i : Int) < (s.2.1.length : Int))) (stdW.idx s.2.1 (i : Int) _) _ = _
    rw [cnd_lt hi, idx_w hi]
    generalize s.2.1[i] = x at *
    have k : okN b' ([x.1] ++ ([x.2.1] ++ [x.2.2.1, x.2.2.2.1])) := hk
    show stdW.call (ledger_writer_nums true b' [x.1]) _ = _
    rw [call_eq (w_nums k.left)]
    show stdW.call (pack_Writer_Int true (b' ++ encs [x.1]) [x.2.1]) _ = _
    rw [call_eq (w_int k.right.left)]
    show stdW.call (ledger_writer_nums true (b' ++ encs [x.1] ++ encs [x.2.1]) [x.2.2.1, x.2.2.2.1]) _ = _
    rw [call_eq (w_nums k.right.right)]
    show again (IntKind.i64.wrap ((i : Int) + 1), (wrT _).2) = _
    rw [i64_s i (by omega), encs_j, encs_j]; exact ha
theorem w_accounts {s : AState'} {b : List Int} (h : okN b (nAs s)) : ledger_writer_accounts true b s = some (wrT (b ++ encs (nAs s))) := by
  show ledger_writer_accountsW stdW true b s = _
  unfold ledger_writer_accountsW
  have h1 := h.left
  have h2 := h.right
  have l1 := h1.len fun x => by simp [nAc, nL]
  have l2 := h2.len fun x => by simp [nC, nU]
  obtain ⟨a1, a2⟩ := h1.list
  rw [call_eq (w_nums a1)]
  refine wr_each (l := s.2.2.2.2.1) nAc (by omega) a2 ?_ ?_
  · intro again
    rw [encs_l]
    show stdW.cnd (decide ((s.2.2.2.2.1.length : Int) < (s.2.2.2.2.1.length : Int))) _ (stdW.call (ledger_writer_nums true (b ++ encs (nL nAc s.2.2.2.2.1)) [(s.2.2.2.2.2.1.length : Int)]) _) = _
    rw [cnd_end]
    obtain ⟨b1, b2⟩ := h2.list
    rw [call_eq (w_nums b1)]
    refine wr_each (l := s.2.2.2.2.2.1) nC (by omega) b2 ?_ ?_
    · intro again
      rw [encs_l, encs_j]
      show stdW.cnd (decide ((s.2.2.2.2.2.1.length : Int) < (s.2.2.2.2.2.1.length : Int))) _ (some ((), (wrT _).2)) = _
      rw [cnd_end]; rfl
    · intro i hi b' hk again ha
      show stdW.cnd (decide ((i : Int) < (s.2.2.2.2.2.1.length : Int))) (stdW.idx s.2.2.2.2.2.1 (i : Int) _) _ = _
      rw [cnd_lt hi, idx_w hi]
      generalize s.2.2.2.2.2.1[i] = x at *
      have k : okN b' ([x.1, x.2.1].flatMap nU ++ [nB x.2.2.1]) := hk
      show stdW.call (ledger_writer_units true b' [x.1, x.2.1]) _ = _
      rw [call_eq (w_units k.left (by simp))]
      show stdW.call (ledger_writer_flag true (b' ++ encs ([x.1, x.2.1].flatMap nU)) x.2.2.1) _ = _
      rw [call_eq (w_flag k.right)]
      show again (IntKind.i64.wrap ((i : Int) + 1), (wrT _).2) = _
      rw [i64_s i (by omega), encs_j]; exact ha
  · intro i hi b' hk again ha
    show stdW.cnd (decide ((i : Int) < (s.2.2.2.2.1.length : Int))) (stdW.idx s.2.2.2.2.1 (i : Int) _) _ = _
    rw [cnd_lt hi, idx_w hi]
    generalize s.2.2.2.2.1[i] = x at *
    have k : okN b' ([x.1, x.2.1, x.2.2.1, (x.2.2.2.1.length : Int)] ++ x.2.2.2.1) := by
      have := hk
      unfold nAc nL at this
      rw [flat1] at this
      exact this
    show stdW.call (ledger_writer_nums true b' [x.1, x.2.1, x.2.2.1, (x.2.2.2.1.length : Int)]) _ = _
    rw [call_eq (w_nums k.left)]
    show stdW.call (ledger_writer_nums true (b' ++ encs [x.1, x.2.1, x.2.2.1, (x.2.2.2.1.length : Int)]) x.2.2.2.1) _ = _
    rw [call_eq (w_nums k.right)]
    show again (IntKind.i64.wrap ((i : Int) + 1), (wrT _).2) = _
    rw [i64_s i (by omega), encs_j]
    unfold nAc nL at ha
    rw [flat1] at ha
    exact ha
theorem w_deals {s : AState'} {b : List Int} (h : okN b (nDs s)) : ledger_writer_deals true b s = some (wrT (b ++ encs (nDs s))) := by
  show ledger_writer_dealsW stdW true b s = _
  unfold ledger_writer_dealsW
  have h1 := h.left
  have h2 := h.right
  have l1 := h1.len fun x => by simp [nG]
  have l2 := h2.len fun x => by simp [nV]
  obtain ⟨a1, a2⟩ := h1.list
  rw [call_eq (w_nums a1)]
  refine wr_each (l := s.2.2.2.2.2.2.1) nG (by omega) a2 ?_ ?_
  · intro again
    rw [encs_l]
    show stdW.cnd (decide ((s.2.2.2.2.2.2.1.length : Int) < (s.2.2.2.2.2.2.1.length : Int))) _ (stdW.call (ledger_writer_nums true (b ++ encs (nL nG s.2.2.2.2.2.2.1)) [(s.2.2.2.2.2.2.2.1.length : Int)]) _) = _
    rw [cnd_end]
    obtain ⟨b1, b2⟩ := h2.list
    rw [call_eq (w_nums b1)]
    refine wr_each (l := s.2.2.2.2.2.2.2.1) nV (by omega) b2 ?_ ?_
    · intro again
      rw [encs_l, encs_j]
      show stdW.cnd (decide ((s.2.2.2.2.2.2.2.1.length : Int) < (s.2.2.2.2.2.2.2.1.length : Int))) _ (some ((), (wrT _).2)) = _
      rw [cnd_end]; rfl
    · intro i hi b' hk again ha
      show stdW.cnd (decide ((i : Int) < (s.2.2.2.2.2.2.2.1.length : Int))) (stdW.idx s.2.2.2.2.2.2.2.1 (i : Int) _) _ = _
      rw [cnd_lt hi, idx_w hi]
      generalize s.2.2.2.2.2.2.2.1[i] = x at *
      have k : okN b' ([x.1] ++ ([x.2.1, x.2.2.1].flatMap nU ++ ([x.2.2.2.1.1] ++ ([x.2.2.2.1.2.1, x.2.2.2.2.1] ++ [x.2.2.2.2.2.1, x.2.2.2.2.2.2.1, x.2.2.2.2.2.2.2.1])))) := hk
      show stdW.call (ledger_writer_nums true b' [x.1]) _ = _
      rw [call_eq (w_nums k.left)]
      have k := k.right
      generalize eb : b' ++ encs [x.1] = c at *
      show stdW.call (ledger_writer_units true c [x.2.1, x.2.2.1]) _ = _
      rw [call_eq (w_units k.left (by simp))]
      have k := k.right
      show stdW.call (ledger_writer_nums true (c ++ encs ([x.2.1, x.2.2.1].flatMap nU)) [x.2.2.2.1.1]) _ = _
      rw [call_eq (w_nums k.left)]
      have k := k.right
      show stdW.call (pack_Writer_Int true (c ++ encs ([x.2.1, x.2.2.1].flatMap nU) ++ encs [x.2.2.2.1.1]) [x.2.2.2.1.2.1, x.2.2.2.2.1]) _ = _
      rw [call_eq (w_int k.left)]
      have k := k.right
      show stdW.call (ledger_writer_nums true (c ++ encs ([x.2.1, x.2.2.1].flatMap nU) ++ encs [x.2.2.2.1.1] ++ encs [x.2.2.2.1.2.1, x.2.2.2.2.1]) [x.2.2.2.2.2.1, x.2.2.2.2.2.2.1, x.2.2.2.2.2.2.2.1]) _ = _
      rw [call_eq (w_nums k)]
      show again (IntKind.i64.wrap ((i : Int) + 1), (wrT _).2) = _
      rw [i64_s i (by omega), ← eb, encs_j, encs_j, encs_j, encs_j]; exact ha
  · intro i hi b' hk again ha
    show stdW.cnd (decide ((i : Int) < (s.2.2.2.2.2.2.1.length : Int))) (stdW.idx s.2.2.2.2.2.2.1 (i : Int) _) _ = _
    rw [cnd_lt hi, idx_w hi]
    generalize s.2.2.2.2.2.2.1[i] = x at *
    have k : okN b' ([x.1] ++ ([x.2.1].flatMap nU ++ ([x.2.2.1] ++ [x.2.2.2.1, x.2.2.2.2.1]))) := hk
    show stdW.call (ledger_writer_nums true b' [x.1]) _ = _
    rw [call_eq (w_nums k.left)]
    show stdW.call (ledger_writer_units true (b' ++ encs [x.1]) [x.2.1]) _ = _
    rw [call_eq (w_units k.right.left (by simp))]
    show stdW.call (ledger_writer_nums true (b' ++ encs [x.1] ++ encs ([x.2.1].flatMap nU)) [x.2.2.1]) _ = _
    rw [call_eq (w_nums k.right.right.left)]
    show stdW.call (pack_Writer_Int true (b' ++ encs [x.1] ++ encs ([x.2.1].flatMap nU) ++ encs [x.2.2.1]) [x.2.2.2.1, x.2.2.2.2.1]) _ = _
    rw [call_eq (w_int k.right.right.right)]
    show again (IntKind.i64.wrap ((i : Int) + 1), (wrT _).2) = _
    rw [i64_s i (by omega), encs_j, encs_j, encs_j]; exact ha
theorem w_book {l : List APos'} {b : List Int} (h : okN b (nL nP l)) : ledger_writer_book true b l = some (wrT (b ++ encs (nL nP l))) := by
  show ledger_writer_bookW stdW true b l = _
  unfold ledger_writer_bookW
  have l1 := h.len fun x => by simp [nP, nU]
  obtain ⟨a1, a2⟩ := h.list
  rw [call_eq (w_nums a1)]
  refine wr_each (l := l) nP (by omega) a2 ?_ ?_
  · intro again
    rw [encs_l]
    show stdW.cnd (decide ((l.length : Int) < (l.length : Int))) _ (some ((), (wrT _).2)) = _
    rw [cnd_end]
  · intro i hi b' hk again ha
    show stdW.cnd (decide ((i : Int) < (l.length : Int))) (stdW.idx l (i : Int) _) _ = _
    rw [cnd_lt hi, idx_w hi]
    generalize l[i] = x at *
    have k : okN b' ([x.1].flatMap nU ++ nL nU x.2.1) := hk
    have l2 := k.right.len fun x => by simp [nU]
    obtain ⟨c1, c2⟩ := k.right.list
    show stdW.call (ledger_writer_units true b' [x.1]) _ = _
    rw [call_eq (w_units k.left (by simp))]
    show stdW.call (ledger_writer_nums true (b' ++ encs ([x.1].flatMap nU)) [(x.2.1.length : Int)]) _ = _
    rw [call_eq (w_nums c1)]
    refine wr_each (l := x.2.1) nU (by omega) c2 ?_ ?_
    · intro again2
      rw [encs_l, encs_j]
      show stdW.cnd (decide ((x.2.1.length : Int) < (x.2.1.length : Int))) _ (again (IntKind.i64.wrap ((i : Int) + 1), (wrT _).2)) = _
      rw [cnd_end, i64_s i (by omega)]; exact ha
    · intro j hj b2 hk2 again2 ha2
      show stdW.cnd (decide ((j : Int) < (x.2.1.length : Int))) (stdW.idx x.2.1 (j : Int) _) _ = _
      rw [cnd_lt hj, idx_w hj]
      generalize x.2.1[j] = y at *
      have k2 : okN b2 ([y.1] ++ [y.2.1]) := hk2
      show stdW.call (ledger_writer_nums true b2 [y.1]) _ = _
      rw [call_eq (w_nums k2.left)]
      show stdW.call (pack_Writer_Int true (b2 ++ encs [y.1]) [y.2.1]) _ = _
      rw [call_eq (w_int k2.right)]
      show again2 (IntKind.i64.wrap ((j : Int) + 1), (wrT _).2) = _
      rw [i64_s j (by omega), encs_j]; exact ha2
theorem w_money {s : AState'} {b : List Int} (h : okN b (nMo s)) : ledger_writer_money true b s = some (wrT (b ++ encs (nMo s))) := by
  show ledger_writer_moneyW stdW true b s = _
  unfold ledger_writer_moneyW
  have h1 := h.left
  have h2 := h.right
  have l1 := h1.len fun x => by simp [nF, nU]
  have l2 := h2.len fun x => by simp [nH, nU]
  obtain ⟨a1, a2⟩ := h1.list
  rw [call_eq (w_nums a1)]
  refine wr_each (l := s.2.2.2.2.2.2.2.2.2.2.1) nF (by omega) a2 ?_ ?_
  · intro again
    rw [encs_l]
    show stdW.cnd (decide ((s.2.2.2.2.2.2.2.2.2.2.1.length : Int) < (s.2.2.2.2.2.2.2.2.2.2.1.length : Int))) _ (stdW.call (ledger_writer_nums true (b ++ encs (nL nF s.2.2.2.2.2.2.2.2.2.2.1)) [(s.2.2.2.2.2.2.2.2.2.2.2.1.length : Int)]) _) = _
    rw [cnd_end]
    obtain ⟨b1, b2⟩ := h2.list
    rw [call_eq (w_nums b1)]
    refine wr_each (l := s.2.2.2.2.2.2.2.2.2.2.2.1) nH (by omega) b2 ?_ ?_
    · intro again
      rw [encs_l, encs_j]
      show stdW.cnd (decide ((s.2.2.2.2.2.2.2.2.2.2.2.1.length : Int) < (s.2.2.2.2.2.2.2.2.2.2.2.1.length : Int))) _ (some ((), (wrT _).2)) = _
      rw [cnd_end]; rfl
    · intro i hi b' hk again ha
      show stdW.cnd (decide ((i : Int) < (s.2.2.2.2.2.2.2.2.2.2.2.1.length : Int))) (stdW.idx s.2.2.2.2.2.2.2.2.2.2.2.1 (i : Int) _) _ = _
      rw [cnd_lt hi, idx_w hi]
      generalize s.2.2.2.2.2.2.2.2.2.2.2.1[i] = x at *
      have k : okN b' ([x.1].flatMap nU ++ nL nA x.2.1) := hk
      have l3 := k.right.len fun x => by simp [nA]
      obtain ⟨c1, c2⟩ := k.right.list
      show stdW.call (ledger_writer_units true b' [x.1]) _ = _
      rw [call_eq (w_units k.left (by simp))]
      show stdW.call (ledger_writer_nums true (b' ++ encs ([x.1].flatMap nU)) [(x.2.1.length : Int)]) _ = _
      rw [call_eq (w_nums c1)]
      refine wr_each (l := x.2.1) nA (by omega) c2 ?_ ?_
      · intro again2
        rw [encs_l, encs_j]
        show stdW.cnd (decide ((x.2.1.length : Int) < (x.2.1.length : Int))) _ (again (IntKind.i64.wrap ((i : Int) + 1), (wrT _).2)) = _
        rw [cnd_end, i64_s i (by omega)]; exact ha
      · intro j hj b2 hk2 again2 ha2
        show stdW.cnd (decide ((j : Int) < (x.2.1.length : Int))) (stdW.idx x.2.1 (j : Int) _) _ = _
        rw [cnd_lt hj, idx_w hj]
        generalize x.2.1[j] = y at *
        have k2 : okN b2 ([y.1, y.2.1] ++ [y.2.2.1]) := hk2
        show stdW.call (ledger_writer_nums true b2 [y.1, y.2.1]) _ = _
        rw [call_eq (w_nums k2.left)]
        show stdW.call (pack_Writer_Int true (b2 ++ encs [y.1, y.2.1]) [y.2.2.1]) _ = _
        rw [call_eq (w_int k2.right)]
        show again2 (IntKind.i64.wrap ((j : Int) + 1), (wrT _).2) = _
        rw [i64_s j (by omega), encs_j]; exact ha2
  · intro i hi b' hk again ha
    show stdW.cnd (decide ((i : Int) < (s.2.2.2.2.2.2.2.2.2.2.1.length : Int))) (stdW.idx s.2.2.2.2.2.2.2.2.2.2.1 (i : Int) _) _ = _
    rw [cnd_lt hi, idx_w hi]
    generalize s.2.2.2.2.2.2.2.2.2.2.1[i] = x at *
    have k : okN b' ([x.1].flatMap nU ++ [x.2.1]) := hk
    show stdW.call (ledger_writer_units true b' [x.1]) _ = _
    rw [call_eq (w_units k.left (by simp))]
    show stdW.call (pack_Writer_Int true (b' ++ encs ([x.1].flatMap nU)) [x.2.1]) _ = _
    rw [call_eq (w_int k.right)]
    show again (IntKind.i64.wrap ((i : Int) + 1), (wrT _).2) = _
    rw [i64_s i (by omega), encs_j]; exact ha
theorem w_encode {s : AState'} (h : okN [] (nS s)) : ledger_Encode s = some (encs (nS s)) := by
  show ledger_EncodeW stdW s = _
  unfold ledger_EncodeW
  have k0 : okN [] ([s.1] ++ _) := h
  have k1 := k0.right
  have k2 := k1.right
  have k3 := k2.right
  have k4 := k3.right
  have k5 := k4.right
  have k6 := k5.right
  have fin := h.bytes
  rw [call_eq (show pack_NewW stdW = some (wrT []) from rfl)]
  show stdW.call (ledger_writer_nums true [] [s.1]) _ = _
  rw [call_eq (w_nums k0.left)]
  generalize e1 : ([] : List Int) ++ encs [s.1] = c1 at *
  show stdW.call (ledger_writer_tables true c1 s) _ = _
  rw [call_eq (w_tables k1.left)]
  generalize e2 : c1 ++ encs (nT s) = c2 at *
  show stdW.call (ledger_writer_accounts true c2 s) _ = _
  rw [call_eq (w_accounts k2.left)]
  generalize e3 : c2 ++ encs (nAs s) = c3 at *
  show stdW.call (ledger_writer_deals true c3 s) _ = _
  rw [call_eq (w_deals k3.left)]
  generalize e4 : c3 ++ encs (nDs s) = c4 at *
  show stdW.call (ledger_writer_book true c4 s.2.2.2.2.2.2.2.2.1) _ = _
  rw [call_eq (w_book k4.left)]
  generalize e5 : c4 ++ encs (nL nP s.2.2.2.2.2.2.2.2.1) = c5 at *
  show stdW.call (ledger_writer_book true c5 s.2.2.2.2.2.2.2.2.2.1) _ = _
  rw [call_eq (w_book k5.left)]
  generalize e6 : c5 ++ encs (nL nP s.2.2.2.2.2.2.2.2.2.1) = c6 at *
  show stdW.call (ledger_writer_money true c6 s) _ = _
  rw [call_eq (w_money k6)]
  subst e6 e5 e4 e3 e2 e1
  have e : [] ++ encs [s.1] ++ encs (nT s) ++ encs (nAs s) ++ encs (nDs s) ++ encs (nL nP s.2.2.2.2.2.2.2.2.1) ++ encs (nL nP s.2.2.2.2.2.2.2.2.2.1) ++ encs (nMo s) = encs (nS s) := by
    unfold nS
    simp only [encs_app, List.append_assoc, List.nil_append]
  rw [List.nil_append] at fin
  rw [e]
  show stdW.call (pack_Writer_Done true (encs (nS s))) _ = _
  rw [call_eq (r_done (by omega))]
end Go.Proofs.YtllkmncnmlmefaaGreat
