import Derived.Test.YtclleaffonkegaaGreatB6
namespace Go.Proofs.YtclleaffonkegaaGreat
open Go Go.Vc Go.RowKit
open Lot
set_option maxRecDepth 100000
set_option synthInstance.maxSize 100000
set_option synthInstance.maxHeartbeats 0
set_option maxHeartbeats 8000000
@[reducible] def tAMember : DT := (.pair (.int .i64) (.pair (.int .i64) (.pair (.int .i64) (.pair (.int .i64) .unit))))
abbrev AMember' := Int × Int × Int × Int × Unit
@[reducible] def tAInst : DT := (.pair (.int .i64) (.pair (.int .i64) (.pair (.int .i64) (.pair (.int .i64) (.pair (.slc (.int .i64)) .unit)))))
abbrev AInst' := Int × Int × Int × Int × (List Int) × Unit
@[reducible] def tAAsset : DT := (.pair (.int .i64) (.pair (.int .i64) (.pair (.int .i64) .unit)))
abbrev AAsset' := Int × Int × Int × Unit
@[reducible] def tAAccount : DT := (.pair (.int .i64) (.pair (.int .i64) (.pair (.int .i64) (.pair (.slc (.int .i64)) .unit))))
abbrev AAccount' := Int × Int × Int × (List Int) × Unit
@[reducible] def tAUnit : DT := (.pair (.int .i64) (.pair (.int .i64) .unit))
abbrev AUnit' := Int × Int × Unit
@[reducible] def tAChoice : DT := (.pair tAUnit (.pair tAUnit (.pair .bool .unit)))
abbrev AChoice' := AUnit' × AUnit' × Bool × Unit
@[reducible] def tAGroup : DT := (.pair (.int .i64) (.pair tAUnit (.pair (.int .i64) (.pair (.int .i64) (.pair (.int .i64) .unit)))))
abbrev AGroup' := Int × AUnit' × Int × Int × Int × Unit
@[reducible] def tAGive : DT := (.pair (.int .i64) (.pair tAUnit (.pair tAUnit (.pair tAUnit (.pair (.int .i64) (.pair (.int .i64) (.pair (.int .i64) (.pair (.int .i64) .unit))))))))
abbrev AGive' := Int × AUnit' × AUnit' × AUnit' × Int × Int × Int × Int × Unit
@[reducible] def tAPos : DT := (.pair tAUnit (.pair (.slc tAUnit) .unit))
abbrev APos' := AUnit' × (List AUnit') × Unit
@[reducible] def tAFlow : DT := (.pair tAUnit (.pair (.int .i64) .unit))
abbrev AFlow' := AUnit' × Int × Unit
@[reducible] def tAHold : DT := (.pair tAUnit (.pair (.slc tAAsset) .unit))
abbrev AHold' := AUnit' × (List AAsset') × Unit
@[reducible] def tDriveCell : DT := (.pair (.int .u8) (.pair (.int .u8) (.pair (.int .u8) (.pair (.int .u8) (.pair (.int .u8) (.pair (.int .u8) (.pair (.int .u8) (.pair (.int .u8) (.pair (.int .u8) (.pair (.int .u8) (.pair (.int .u8) (.pair (.int .u8) (.pair (.int .u8) (.pair (.int .u8) (.pair (.int .u8) (.pair (.int .u8) (.pair (.int .u8) (.pair (.int .u8) (.pair (.int .u8) (.pair (.int .u8) (.pair (.int .u8) (.pair (.int .u8) (.pair (.int .u8) (.pair (.int .u8) (.pair (.int .u8) (.pair (.int .u8) (.pair (.int .u8) (.pair (.int .u8) (.pair (.int .u8) (.pair (.int .u8) (.pair (.int .u8) (.pair (.int .u8) (.pair (.int .u8) (.pair (.int .u8) (.pair (.int .u8) (.pair (.int .u8) (.pair (.int .u8) (.pair (.int .u8) (.pair (.int .u8) (.pair (.int .u8) (.pair (.int .u8) (.pair (.int .u8) (.pair (.int .u8) (.pair (.int .u8) (.pair (.int .u8) (.pair (.int .u8) (.pair (.int .u8) (.pair (.int .u8) (.pair (.int .u8) (.pair (.int .u8) (.pair (.int .u8) (.pair (.int .u8) (.pair (.int .u8) (.pair (.int .u8) (.pair (.int .u8) (.pair (.int .u8) (.pair (.int .u8) (.pair (.int .u8) (.pair (.int .u8) (.pair (.int .u8) (.pair (.int .u8) (.pair (.int .u8) (.pair (.int .u8) (.pair (.int .u8) (.pair (.int .u8) (.pair (.int .u8) (.pair (.int .u8) (.pair (.int .u8) (.pair (.int .u8) (.pair (.int .u8) (.pair (.int .u8) (.pair (.int .u8) (.pair (.int .u8) (.pair (.int .u8) (.pair (.int .u8) (.pair (.int .u8) (.pair (.int .u8) (.pair (.int .u8) (.pair (.int .u8) (.pair (.int .u8) (.pair (.int .u8) (.pair (.int .u8) (.pair (.int .u8) (.pair (.int .u8) (.pair (.int .u8) (.pair (.int .u8) (.pair (.int .u8) (.pair (.int .u8) (.pair (.int .u8) (.pair (.int .u8) (.pair (.int .u8) (.pair (.int .u8) (.pair (.int .u8) (.pair (.int .u8) (.pair (.int .u8) (.pair (.int .u8) .unit))))))))))))))))))))))))))))))))))))))))))))))))))))))))))))))))))))))))))))))))))))))))))))))))
abbrev DriveCell' := Int × Int × Int × Int × Int × Int × Int × Int × Int × Int × Int × Int × Int × Int × Int × Int × Int × Int × Int × Int × Int × Int × Int × Int × Int × Int × Int × Int × Int × Int × Int × Int × Int × Int × Int × Int × Int × Int × Int × Int × Int × Int × Int × Int × Int × Int × Int × Int × Int × Int × Int × Int × Int × Int × Int × Int × Int × Int × Int × Int × Int × Int × Int × Int × Int × Int × Int × Int × Int × Int × Int × Int × Int × Int × Int × Int × Int × Int × Int × Int × Int × Int × Int × Int × Int × Int × Int × Int × Int × Int × Int × Int × Int × Int × Int × Int × Unit
@[reducible] def tACommand : DT := (.pair (.int .i64) (.pair (.int .i64) (.pair (.int .i64) (.pair tAUnit (.pair tAUnit (.pair (.int .i64) (.pair (.int .i64) (.pair (.int .i64) (.pair (.int .i64) (.pair (.int .i64) (.pair (.int .i64) (.pair (.slc (.int .i64)) .unit))))))))))))
abbrev ACommand' := Int × Int × Int × AUnit' × AUnit' × Int × Int × Int × Int × Int × Int × (List Int) × Unit
@[reducible] def tADebit : DT := (.pair tAUnit (.pair tAUnit (.pair (.int .i64) .unit)))
abbrev ADebit' := AUnit' × AUnit' × Int × Unit
@[reducible] def tAReturn : DT := (.pair tAUnit (.pair (.int .i64) (.pair (.slc tAAsset) .unit)))
abbrev AReturn' := AUnit' × Int × (List AAsset') × Unit
@[reducible] def tAReply : DT := (.pair (.int .i64) (.pair (.slc (.int .i64)) (.pair (.slc tADebit) (.pair (.slc tAReturn) .unit))))
abbrev AReply' := Int × (List Int) × (List ADebit') × (List AReturn') × Unit
@[reducible] def tAState : DT := (.pair (.int .i64) (.pair (.slc tAMember) (.pair (.slc tAInst) (.pair (.slc tAAsset) (.pair (.slc tAAccount) (.pair (.slc tAChoice) (.pair (.slc tAGroup) (.pair (.slc tAGive) (.pair (.slc tAPos) (.pair (.slc tAPos) (.pair (.slc tAFlow) (.pair (.slc tAHold) .unit))))))))))))
abbrev AState' := Int × (List AMember') × (List AInst') × (List AAsset') × (List AAccount') × (List AChoice') × (List AGroup') × (List AGive') × (List APos') × (List APos') × (List AFlow') × (List AHold') × Unit
@[reducible] def tFrameFrame : DT := (.pair (.int .i64) (.pair (.int .i64) (.pair (.int .i64) (.pair (.int .i64) (.pair (.int .i64) (.pair (.slc (.int .u8)) .unit))))))
abbrev FrameFrame' := Int × Int × Int × Int × Int × (List Int) × Unit
@[reducible] def tAEntry : DT := (.pair (.int .i64) (.pair (.slc (.int .u8)) (.pair (.int .i64) (.pair (.slc (.int .i64)) .unit))))
abbrev AEntry' := Int × (List Int) × Int × (List Int) × Unit
def ref01_CutW (W : Wd) (b : List Int) (n : Int) : Option (List Int) := 
 W.cnd (decide (n < (b.length : Int))) (W.bnd n b.length fun h1 => some (b.take h1))
  (some b)
abbrev ref01_Cut := ref01_CutW stdW
def ref01_Cut_k := kes kp 6 (.p2 (.slc (.int .u8)) (.int .i64)) (.v (.slc (.int .u8))) (fun W x => ref01_CutW W x.1 x.2.1) [] [] [] [] Tryz.func6 rfl (h:=fun W x=>by kernel_rfl)
def slices_Clonebyte_byteW (W : Wd) (s : List Int) : Option (List Int) := W.nilq (List.isEmpty s) fun g1 => 
 W.cnd (Go.Vc.notIf false g1) (some [])
  (W.room ((0 : Nat) + s.length) 1 (some ([] ++ s)))
abbrev slices_Clonebyte_byte := slices_Clonebyte_byteW stdW
def slices_Clonebyte_byte_k := kes kp 127 (.p1 (.slc (.int .u8))) (.own 5 (.int .u8)) (fun W x => slices_Clonebyte_byteW W x.1) [] [] [] [] Tryz.func127 rfl (h:=fun W x=>by kernel_rfl)
def pack_OpenW (W : Wd) (b : List Int) : Option (Unit × (Bool × (List Int) × Int × Unit)) := W.call (slices_Clonebyte_byteW W b) fun v1 => some ((), (true, (v1, (0, ()))))
abbrev pack_Open := pack_OpenW stdW
def pack_Open_k := kls kp 55 [] [.v (.slc (.int .u8))] [⟨215,[.b,.row 5 (.int .u8),.i]⟩] (.ptr 0) (fun W x => pack_OpenW W x.1) [slices_Clonebyte_byte_k] [] [] [] Tryz.func55 rfl (h:=fun W x=>by kernel_rfl)
def pack_Reader_goodW (W : Wd) (r0 : Bool) (r1 : List Int) (r2 : Int) : Option (Bool × (Bool × (List Int) × Int × Unit)) := 
 W.cnd r0 (some ((r2 == 0), (r0, (r1, (r2, ())))))
  (some (false, (r0, (r1, (r2, ())))))
abbrev pack_Reader_good := pack_Reader_goodW stdW
def pack_Reader_good_k := kls kp 128 [⟨215,[.b,.v (.slc (.int .u8)),.i]⟩] [.ptr 0] [⟨215,[.b,.v (.slc (.int .u8)),.i]⟩] .b (fun W x => pack_Reader_goodW W x.1 x.2.1 x.2.2.1) [] [] [] [] Tryz.func128 rfl (h:=fun W x=>by kernel_rfl)
def pack_Reader_failW (_ : Wd) (r0 : Bool) (_ : List Int) (_ : Int) (e : Int) : Option (Unit × (Bool × (List Int) × Int × Unit)) := some ((), (r0, ([], (e, ()))))
abbrev pack_Reader_fail := pack_Reader_failW stdW
def pack_Reader_fail_k := kls kp 131 [⟨215,[.b,.v (.slc (.int .u8)),.i]⟩] [.ptr 0,.i] [⟨215,[.b,.v (.slc (.int .u8)),.i]⟩] .unit (fun W x => pack_Reader_failW W x.1 x.2.1 x.2.2.1 x.2.2.2.1) [] [] [] [] Tryz.func131 rfl (h:=fun W x=>by kernel_rfl)
def pack_Reader_numberW (W : Wd) (r0 : Bool) (r1 : List Int) (r2 : Int) : Option ((Int × Bool × Unit) × (Bool × (List Int) × Int × Unit)) := 
 W.loop (fun (z1 : Int × Int × Bool × List (Int) × Int × Unit) again2 => 
  W.cnd ((z1.2.2.2.1.length : Int) == 0) (W.call (pack_Reader_failW W z1.2.2.1 z1.2.2.2.1 z1.2.2.2.2.1 4) fun v3 => some ((0, (false, ())), v3.2))
   (W.idx z1.2.2.2.1 0 fun x4 => W.bnd 1 z1.2.2.2.1.length fun h5 => 
   W.join (fun (z6 : Bool × Unit) => 
    W.cnd z6.1 (W.call (pack_Reader_failW W z1.2.2.1 ((z1.2.2.2.1.take z1.2.2.2.1.length).drop h5) z1.2.2.2.2.1 3) fun v7 => some ((0, (false, ())), v7.2))
     (W.nn z1.2.1 (
     W.cnd (decide (x4 < 128)) (some (((Go.bits Go.BinOp.or Go.IntKind.u64 z1.1 (IntKind.u64.wrap ((IntKind.u64.wrap (Go.bits Go.BinOp.and Go.IntKind.u8 x4 127)) * (2 ^ (Min.min (Int.toNat z1.2.1) (Go.IntKind.bits Go.IntKind.u64)))))), (true, ())), (z1.2.2.1, (((z1.2.2.2.1.take z1.2.2.2.1.length).drop h5), z1.2.2.2.2))))
      ((again2 ((Go.bits Go.BinOp.or Go.IntKind.u64 z1.1 (IntKind.u64.wrap ((IntKind.u64.wrap (Go.bits Go.BinOp.and Go.IntKind.u8 x4 127)) * (2 ^ (Min.min (Int.toNat z1.2.1) (Go.IntKind.bits Go.IntKind.u64)))))), ((IntKind.i64.wrap (z1.2.1 + 7)), (z1.2.2.1, (((z1.2.2.2.1.take z1.2.2.2.1.length).drop h5), z1.2.2.2.2)))))))))
    fun k8 => 
    W.cnd (decide (63 < z1.2.1)) ((k8 (true, ())))
     (
     W.cnd (z1.2.1 == 63) (
      W.cnd (decide (1 < x4)) ((k8 (true, ())))
       (
       W.cnd (x4 == 0) ((k8 ((decide (0 < z1.2.1)), ())))
        ((k8 (false, ())))))
      (
      W.cnd (x4 == 0) ((k8 ((decide (0 < z1.2.1)), ())))
       ((k8 (false, ())))))))
  (0, (0, (r0, (r1, (r2, ())))))
abbrev pack_Reader_number := pack_Reader_numberW stdW
def pack_Reader_number_k := kls kp 129 [⟨215,[.b,.v (.slc (.int .u8)),.i]⟩] [.ptr 0] [⟨215,[.b,.v (.slc (.int .u8)),.i]⟩] (.p2 (.v (.int .u64)) .b) (fun W x => pack_Reader_numberW W x.1 x.2.1 x.2.2.1) [pack_Reader_fail_k] [] [(500048,⟨[(48,.b)],[],[]⟩)] [(4,⟨[(4,.t (.int .u64)),(5,.i)],[(0,[.b,.t (.slc (.int .u8)),.i])],[]⟩)] Tryz.func129 rfl (h:=fun W x=>by kernel_rfl)
def pack_unfoldedW (W : Wd) (u : Int) : Option Int := W.nn 1 (some (Go.bits Go.BinOp.xor Go.IntKind.i64 (IntKind.i64.wrap (Int.fdiv u (2 ^ (Min.min (Int.toNat 1) (Go.IntKind.bits Go.IntKind.u64))))) (IntKind.i64.wrap (0 - (IntKind.i64.wrap (Go.bits Go.BinOp.and Go.IntKind.u64 u 1))))))
abbrev pack_unfolded := pack_unfoldedW stdW
def pack_unfolded_k := kes kp 130 (.p1 (.int .u64)) .i (fun W x => pack_unfoldedW W x.1) [] [] [] [] Tryz.func130 rfl (h:=fun W x=>by kernel_rfl)
def pack_Reader_IntW (W : Wd) (r0 : Bool) (r1 : List Int) (r2 : Int) (lo : Int) (hi : Int) : Option (Int × (Bool × (List Int) × Int × Unit)) := W.call (pack_Reader_goodW W r0 r1 r2) fun v1 => 
 W.cnd (!v1.1) (some (0, v1.2))
  (W.call (pack_Reader_numberW W v1.2.1 v1.2.2.1 v1.2.2.2.1) fun v2 => W.call (pack_unfoldedW W v2.1.1) fun v3 => 
  W.cnd (!v2.1.2.1) (some (0, v2.2))
   (
   W.join (fun (z4 : Bool × Unit) => 
    W.cnd z4.1 (W.call (pack_Reader_failW W v2.2.1 v2.2.2.1 v2.2.2.2.1 7) fun v5 => some (0, v5.2))
     (some (v3, v2.2)))
    fun k6 => 
    W.cnd (decide (v3 < lo)) ((k6 (true, ())))
     ((k6 ((decide (hi < v3)), ())))))
abbrev pack_Reader_Int := pack_Reader_IntW stdW
def pack_Reader_Int_k := kls kp 56 [⟨215,[.b,.v (.slc (.int .u8)),.i]⟩] [.ptr 0,.i,.i] [⟨215,[.b,.v (.slc (.int .u8)),.i]⟩] .i (fun W x => pack_Reader_IntW W x.1 x.2.1 x.2.2.1 x.2.2.2.1 x.2.2.2.2.1) [pack_Reader_good_k,pack_Reader_number_k,pack_unfolded_k,pack_Reader_fail_k] [] [(500023,⟨[(23,.b)],[],[]⟩)] [] Tryz.func56 rfl (h:=fun W x=>by kernel_rfl)
def cmd_smallW (W : Wd) (r0 : Bool) (r1 : List Int) (r2 : Int) (to_ : Int) : Option (Int × (Bool × (List Int) × Int × Unit)) := W.call (pack_Reader_IntW W r0 r1 r2 0 to_) fun v1 => some v1
def cmd_small_k := kls kp 137 [⟨215,[.b,.v (.slc (.int .u8)),.i]⟩] [.ptr 0,.i] [⟨215,[.b,.v (.slc (.int .u8)),.i]⟩] .i (fun W x => cmd_smallW W x.1 x.2.1 x.2.2.1 x.2.2.2.1) [pack_Reader_Int_k] [] [] [] Tryz.func137 rfl (h:=fun W x=>by kernel_rfl)
def cmd_FieldsW (W : Wd) (op : Int) : Option ByteArray := 
 W.join (fun (z1 : Bool × Unit) => 
  W.cnd z1.1 (some (ByteArray.mk (Array.mk (77 :: (81 :: [])))))
   (
   W.cnd (op == 2) (some (ByteArray.mk (Array.mk (73 :: (81 :: (80 :: (78 :: [])))))))
    (
    W.cnd (op == 3) (some (ByteArray.mk (Array.mk (65 :: (80 :: (81 :: []))))))
     (
     W.cnd (op == 4) (some (ByteArray.mk (Array.mk (85 :: (77 :: (68 :: []))))))
      (
      W.join (fun (z2 : Bool × Unit) => 
       W.cnd z2.1 (some (ByteArray.mk (Array.mk (85 :: []))))
        (
        W.join (fun (z3 : Bool × Unit) => 
         W.cnd z3.1 (some (ByteArray.mk (Array.mk (85 :: (79 :: (73 :: (81 :: (80 :: []))))))))
          (
          W.join (fun (z4 : Bool × Unit) => 
           W.cnd z4.1 (some (ByteArray.mk (Array.mk (68 :: []))))
            (
            W.cnd (op == 12) (some (ByteArray.mk (Array.mk (85 :: (73 :: (78 :: []))))))
             (
             W.cnd (op == 13) (some (ByteArray.mk (Array.mk (68 :: (79 :: (81 :: []))))))
              (
              W.cnd (op == 14) (some (ByteArray.mk (Array.mk (73 :: (80 :: [])))))
               (
               W.cnd (op == 15) (some (ByteArray.mk (Array.mk (65 :: (80 :: [])))))
                (
                W.join (fun (z5 : Bool × Unit) => 
                 W.cnd z5.1 (some (ByteArray.mk (Array.mk (85 :: (65 :: (84 :: (81 :: [])))))))
                  (
                  W.join (fun (z6 : Bool × Unit) => 
                   W.cnd z6.1 (some (ByteArray.mk (Array.mk (85 :: (79 :: [])))))
                    (
                    W.join (fun (z7 : Bool × Unit) => 
                     W.cnd z7.1 (some (ByteArray.mk (Array.mk (77 :: []))))
                      (some (ByteArray.mk (Array.mk []))))
                     fun k8 => 
                     W.join (fun (z9 : Bool × Unit) => 
                      W.cnd z9.1 ((k8 z9))
                       (
                       W.join (fun (z10 : Bool × Unit) => 
                        W.cnd z10.1 ((k8 z10))
                         ((k8 ((op == 31), ()))))
                        fun k11 => (k11 ((op == 25), ()))))
                      fun k12 => (k12 ((op == 23), ()))))
                   fun k13 => 
                   W.join (fun (z14 : Bool × Unit) => 
                    W.cnd z14.1 ((k13 z14))
                     ((k13 ((op == 20), ()))))
                    fun k15 => (k15 ((op == 19), ()))))
                 fun k16 => 
                 W.join (fun (z17 : Bool × Unit) => 
                  W.cnd z17.1 ((k16 z17))
                   ((k16 ((op == 18), ()))))
                  fun k18 => (k18 ((op == 17), ()))))))))
           fun k19 => 
           W.join (fun (z20 : Bool × Unit) => 
            W.cnd z20.1 ((k19 z20))
             (
             W.join (fun (z21 : Bool × Unit) => 
              W.cnd z21.1 ((k19 z21))
               ((k19 ((op == 11), ()))))
              fun k22 => (k22 ((op == 10), ()))))
            fun k23 => (k23 ((op == 9), ()))))
         fun k24 => 
         W.join (fun (z25 : Bool × Unit) => 
          W.cnd z25.1 ((k24 z25))
           (
           W.join (fun (z26 : Bool × Unit) => 
            W.cnd z26.1 ((k24 z26))
             ((k24 ((op == 24), ()))))
            fun k27 => (k27 ((op == 8), ()))))
          fun k28 => (k28 ((op == 7), ()))))
       fun k29 => 
       W.join (fun (z30 : Bool × Unit) => 
        W.cnd z30.1 ((k29 z30))
         (
         W.join (fun (z31 : Bool × Unit) => 
          W.cnd z31.1 ((k29 z31))
           (
           W.join (fun (z32 : Bool × Unit) => 
            W.cnd z32.1 ((k29 z32))
             (
             W.join (fun (z33 : Bool × Unit) => 
              W.cnd z33.1 ((k29 z33))
               (
               W.join (fun (z34 : Bool × Unit) => 
                W.cnd z34.1 ((k29 z34))
                 ((k29 ((op == 29), ()))))
                fun k35 => (k35 ((op == 28), ()))))
              fun k36 => (k36 ((op == 27), ()))))
            fun k37 => (k37 ((op == 26), ()))))
          fun k38 => (k38 ((op == 22), ()))))
        fun k39 => (k39 ((op == 5), ())))))))
  fun k40 => 
  W.join (fun (z41 : Bool × Unit) => 
   W.cnd z41.1 ((k40 z41))
    (
    W.join (fun (z42 : Bool × Unit) => 
     W.cnd z42.1 ((k40 z42))
      ((k40 ((op == 21), ()))))
     fun k43 => (k43 ((op == 6), ()))))
   fun k44 => (k44 ((op == 1), ()))
def cmd_Fields_k := kes kp 138 (.p1 (.int .i64)) (.v .str) (fun W x => cmd_FieldsW W x.1) [] [] [(500004,⟨[(4,.b)],[],[]⟩),(500014,⟨[(14,.b)],[],[]⟩),(500021,⟨[(21,.b)],[],[]⟩),(500025,⟨[(25,.b)],[],[]⟩),(500037,⟨[(37,.b)],[],[]⟩),(500040,⟨[(40,.b)],[],[]⟩),(500043,⟨[(43,.b)],[],[]⟩)] [] Tryz.func138 rfl (h:=fun W x=>by kernel_rfl)
def cmd_placeW (W : Wd) (r0 : Bool) (r1 : List Int) (r2 : Int) : Option (AUnit' × (Bool × (List Int) × Int × Unit)) := W.call (cmd_smallW W r0 r1 r2 16) fun v1 => W.call (cmd_smallW W v1.2.1 v1.2.2.1 v1.2.2.2.1 16) fun v2 => some ((v1.1, (v2.1, ())), v2.2)
def cmd_place_k := kls kp 197 [⟨215,[.b,.v (.slc (.int .u8)),.i]⟩] [.ptr 0] [⟨215,[.b,.v (.slc (.int .u8)),.i]⟩] (.v tAUnit) (fun W x => cmd_placeW W x.1 x.2.1 x.2.2.1) [cmd_small_k] [] [] [] Tryz.func197 rfl (h:=fun W x=>by kernel_rfl)
def pack_Reader_ErrW (W : Wd) (r0 : Bool) (r1 : List Int) (r2 : Int) : Option (Int × (Bool × (List Int) × Int × Unit)) := 
 W.cnd (!r0) (some (1, (r0, (r1, (r2, ())))))
  (some (r2, (r0, (r1, (r2, ())))))
abbrev pack_Reader_Err := pack_Reader_ErrW stdW
def pack_Reader_Err_k := kls kp 57 [⟨215,[.b,.v (.slc (.int .u8)),.i]⟩] [.ptr 0] [⟨215,[.b,.v (.slc (.int .u8)),.i]⟩] .i (fun W x => pack_Reader_ErrW W x.1 x.2.1 x.2.2.1) [] [] [] [] Tryz.func57 rfl (h:=fun W x=>by kernel_rfl)
def cmd_numbersW (W : Wd) (r0 : Bool) (r1 : List Int) (r2 : Int) (to_ : Int) : Option ((List Int) × (Bool × (List Int) × Int × Unit)) := 
 W.join (fun (z1 : Bool × List (Int) × Int × List (Int) × Unit) => some (z1.2.2.2.1, (z1.1, (z1.2.1, (z1.2.2.1, ())))))
  fun k2 => W.call (cmd_smallW W r0 r1 r2 to_) fun v3 => 
  W.loop (fun (z4 : Int × Bool × List (Int) × Int × List (Int) × Unit) again5 => 
   W.cnd (decide (0 < z4.1)) (W.call (pack_Reader_ErrW W z4.2.1 z4.2.2.1 z4.2.2.2.1) fun v6 => 
    W.cnd (v6.1 == 0) (W.call (pack_Reader_IntW W v6.2.1 v6.2.2.1 v6.2.2.2.1 (-9223372036854775808) 9223372036854775807) fun v7 => W.room (z4.2.2.2.2.1.length + (v7.1 :: []).length) 8 ((again5 ((IntKind.i64.wrap (z4.1 - 1)), (v7.2.1, (v7.2.2.1, (v7.2.2.2.1, ((z4.2.2.2.2.1 ++ (v7.1 :: [])), ()))))))))
     ((k2 (v6.2.1, (v6.2.2.1, (v6.2.2.2.1, z4.2.2.2.2))))))
    ((k2 z4.2)))
   (v3.1, (v3.2.1, (v3.2.2.1, (v3.2.2.2.1, ([], ())))))
def cmd_numbers_k := kls kp 198 [⟨215,[.b,.v (.slc (.int .u8)),.i]⟩] [.ptr 0,.i] [⟨215,[.b,.v (.slc (.int .u8)),.i]⟩] (.own 2 (.int .i64)) (fun W x => cmd_numbersW W x.1 x.2.1 x.2.2.1 x.2.2.2.1) [cmd_small_k,pack_Reader_Err_k,pack_Reader_Int_k] [] [(6,⟨[(5,.row 1)],[(0,[.b,.t (.slc (.int .u8)),.i])],[.dead,.own 2 (.int .i64)]⟩)] [(3,⟨[(5,.row 1),(6,.i)],[(0,[.b,.t (.slc (.int .u8)),.i])],[.dead,.own 2 (.int .i64)]⟩)] Tryz.func198 rfl (h:=fun W x=>by kernel_rfl)
def cmd_takeW (W : Wd) (r0 : Bool) (r1 : List Int) (r2 : Int) (c0 : Int) (c1 : Int) (c2 : Int) (c3 : Int) (c4 : Int) (c5 : Int) (c6 : Int) (c7 : Int) (c8 : Int) (c9 : Int) (c10 : Int) (c11 : Int) (c12 : Int) (c13 : List Int) (name : Int) : Option (Unit × (Bool × (List Int) × Int × Int × Int × Int × Int × Int × Int × Int × Int × Int × Int × Int × Int × Int × (List Int) × Unit)) := 
 W.cnd (name == 77) (W.call (cmd_smallW W r0 r1 r2 8) fun v1 => some ((), (v1.2.1, (v1.2.2.1, (v1.2.2.2.1, (c0, (c1, (v1.1, (c3, (c4, (c5, (c6, (c7, (c8, (c9, (c10, (c11, (c12, (c13, ())))))))))))))))))))
  (
  W.cnd (name == 85) (W.call (cmd_placeW W r0 r1 r2) fun v2 => some ((), (v2.2.1, (v2.2.2.1, (v2.2.2.2.1, (c0, (c1, (c2, (v2.1.1, (v2.1.2.1, (c5, (c6, (c7, (c8, (c9, (c10, (c11, (c12, (c13, ())))))))))))))))))))
   (
   W.cnd (name == 79) (W.call (cmd_placeW W r0 r1 r2) fun v3 => some ((), (v3.2.1, (v3.2.2.1, (v3.2.2.2.1, (c0, (c1, (c2, (c3, (c4, (v3.1.1, (v3.1.2.1, (c7, (c8, (c9, (c10, (c11, (c12, (c13, ())))))))))))))))))))
    (
    W.cnd (name == 73) (W.call (cmd_smallW W r0 r1 r2 8) fun v4 => some ((), (v4.2.1, (v4.2.2.1, (v4.2.2.2.1, (c0, (c1, (c2, (c3, (c4, (c5, (c6, (v4.1, (c8, (c9, (c10, (c11, (c12, (c13, ())))))))))))))))))))
     (
     W.cnd (name == 65) (W.call (cmd_smallW W r0 r1 r2 4) fun v5 => some ((), (v5.2.1, (v5.2.2.1, (v5.2.2.2.1, (c0, (c1, (c2, (c3, (c4, (c5, (c6, (c7, (v5.1, (c9, (c10, (c11, (c12, (c13, ())))))))))))))))))))
      (
      W.cnd (name == 84) (W.call (cmd_smallW W r0 r1 r2 255) fun v6 => some ((), (v6.2.1, (v6.2.2.1, (v6.2.2.2.1, (c0, (c1, (c2, (c3, (c4, (c5, (c6, (c7, (c8, (v6.1, (c10, (c11, (c12, (c13, ())))))))))))))))))))
       (
       W.cnd (name == 68) (W.call (cmd_smallW W r0 r1 r2 1048576) fun v7 => some ((), (v7.2.1, (v7.2.2.1, (v7.2.2.2.1, (c0, (c1, (c2, (c3, (c4, (c5, (c6, (c7, (c8, (c9, (v7.1, (c11, (c12, (c13, ())))))))))))))))))))
        (
        W.cnd (name == 81) (W.call (pack_Reader_IntW W r0 r1 r2 (-9223372036854775808) 9223372036854775807) fun v8 => some ((), (v8.2.1, (v8.2.2.1, (v8.2.2.2.1, (c0, (c1, (c2, (c3, (c4, (c5, (c6, (c7, (c8, (c9, (c10, (v8.1, (c12, (c13, ())))))))))))))))))))
         (
         W.cnd (name == 80) (W.call (pack_Reader_IntW W r0 r1 r2 (-9223372036854775808) 9223372036854775807) fun v9 => some ((), (v9.2.1, (v9.2.2.1, (v9.2.2.2.1, (c0, (c1, (c2, (c3, (c4, (c5, (c6, (c7, (c8, (c9, (c10, (c11, (v9.1, (c13, ())))))))))))))))))))
          (
          W.cnd (name == 78) (W.call (cmd_numbersW W r0 r1 r2 32) fun v10 => some ((), (v10.2.1, (v10.2.2.1, (v10.2.2.2.1, (c0, (c1, (c2, (c3, (c4, (c5, (c6, (c7, (c8, (c9, (c10, (c11, (c12, (v10.1, ())))))))))))))))))))
           (some ((), (r0, (r1, (r2, (c0, (c1, (c2, (c3, (c4, (c5, (c6, (c7, (c8, (c9, (c10, (c11, (c12, (c13, ()))))))))))))))))))))))))))))
def cmd_take_k := kls kp 139 [⟨215,[.b,.v (.slc (.int .u8)),.i]⟩,⟨74,[.i,.i,.i,.i,.i,.i,.i,.i,.i,.i,.i,.i,.i,.v (.slc (.int .i64))]⟩] [.ptr 0,.ptr 1,.v (.int .i32)] [⟨215,[.b,.v (.slc (.int .u8)),.i]⟩,⟨74,[.i,.i,.i,.i,.i,.i,.i,.i,.i,.i,.i,.i,.i,.v (.slc (.int .i64))]⟩] .unit (fun W x => cmd_takeW W x.1 x.2.1 x.2.2.1 x.2.2.2.1 x.2.2.2.2.1 x.2.2.2.2.2.1 x.2.2.2.2.2.2.1 x.2.2.2.2.2.2.2.1 x.2.2.2.2.2.2.2.2.1 x.2.2.2.2.2.2.2.2.2.1 x.2.2.2.2.2.2.2.2.2.2.1 x.2.2.2.2.2.2.2.2.2.2.2.1 x.2.2.2.2.2.2.2.2.2.2.2.2.1 x.2.2.2.2.2.2.2.2.2.2.2.2.2.1 x.2.2.2.2.2.2.2.2.2.2.2.2.2.2.1 x.2.2.2.2.2.2.2.2.2.2.2.2.2.2.2.1 x.2.2.2.2.2.2.2.2.2.2.2.2.2.2.2.2.1 x.2.2.2.2.2.2.2.2.2.2.2.2.2.2.2.2.2.1) [cmd_small_k,cmd_place_k,pack_Reader_Int_k,cmd_numbers_k] [] [] [] Tryz.func139 rfl (h:=fun W x=>by kernel_rfl)
def pack_Reader_EndW (W : Wd) (r0 : Bool) (r1 : List Int) (r2 : Int) : Option (Int × (Bool × (List Int) × Int × Unit)) := W.call (pack_Reader_ErrW W r0 r1 r2) fun v1 => 
 W.cnd (v1.1 != 0) (some v1)
  (
  W.cnd (decide (0 < (v1.2.2.1.length : Int))) (some (5, v1.2))
   (some (0, v1.2)))
abbrev pack_Reader_End := pack_Reader_EndW stdW
def pack_Reader_End_k := kls kp 59 [⟨215,[.b,.v (.slc (.int .u8)),.i]⟩] [.ptr 0] [⟨215,[.b,.v (.slc (.int .u8)),.i]⟩] .i (fun W x => pack_Reader_EndW W x.1 x.2.1 x.2.2.1) [pack_Reader_Err_k] [] [] [] Tryz.func59 rfl (h:=fun W x=>by kernel_rfl)
def cmd_readW (W : Wd) (b : List Int) : Option (ACommand' × Int × Unit) := W.call (pack_OpenW W b) fun v1 => W.call (pack_Reader_IntW W v1.2.1 v1.2.2.1 v1.2.2.2.1 1 31) fun v2 => W.call (cmd_smallW W v2.2.1 v2.2.2.1 v2.2.2.2.1 8) fun v3 => W.call (cmd_FieldsW W v2.1) fun v4 => 
 W.loop (fun (z5 : Bool × List (Int) × Int × Int × Int × Int × Int × Int × Int × Int × Int × Int × Int × Int × Int × Int × List (Int) × (ByteArray × Int × Unit) × Unit) again6 => 
  W.next z5.2.2.2.2.2.2.2.2.2.2.2.2.2.2.2.2.2.1.1 z5.2.2.2.2.2.2.2.2.2.2.2.2.2.2.2.2.2.1.2.1 (fun c8 q9 => W.call (cmd_takeW W z5.1 z5.2.1 z5.2.2.1 z5.2.2.2.1 z5.2.2.2.2.1 z5.2.2.2.2.2.1 z5.2.2.2.2.2.2.1 z5.2.2.2.2.2.2.2.1 z5.2.2.2.2.2.2.2.2.1 z5.2.2.2.2.2.2.2.2.2.1 z5.2.2.2.2.2.2.2.2.2.2.1 z5.2.2.2.2.2.2.2.2.2.2.2.1 z5.2.2.2.2.2.2.2.2.2.2.2.2.1 z5.2.2.2.2.2.2.2.2.2.2.2.2.2.1 z5.2.2.2.2.2.2.2.2.2.2.2.2.2.2.1 z5.2.2.2.2.2.2.2.2.2.2.2.2.2.2.2.1 z5.2.2.2.2.2.2.2.2.2.2.2.2.2.2.2.2.1 c8) fun v10 => (again6 (v10.2.1, (v10.2.2.1, (v10.2.2.2.1, (v10.2.2.2.2.1, (v10.2.2.2.2.2.1, (v10.2.2.2.2.2.2.1, (v10.2.2.2.2.2.2.2.1, (v10.2.2.2.2.2.2.2.2.1, (v10.2.2.2.2.2.2.2.2.2.1, (v10.2.2.2.2.2.2.2.2.2.2.1, (v10.2.2.2.2.2.2.2.2.2.2.2.1, (v10.2.2.2.2.2.2.2.2.2.2.2.2.1, (v10.2.2.2.2.2.2.2.2.2.2.2.2.2.1, (v10.2.2.2.2.2.2.2.2.2.2.2.2.2.2.1, (v10.2.2.2.2.2.2.2.2.2.2.2.2.2.2.2.1, (v10.2.2.2.2.2.2.2.2.2.2.2.2.2.2.2.2.1, (v10.2.2.2.2.2.2.2.2.2.2.2.2.2.2.2.2.2.1, ((z5.2.2.2.2.2.2.2.2.2.2.2.2.2.2.2.2.2.1.1, (q9, ())), ()))))))))))))))))))))
   (W.call (pack_Reader_EndW W z5.1 z5.2.1 z5.2.2.1) fun v7 => 
   W.cnd (v7.1 != 0) (some ((0, (0, (0, ((0, (0, ())), ((0, (0, ())), (0, (0, (0, (0, (0, (0, ([], ())))))))))))), (3, ())))
    (some ((z5.2.2.2.1, (z5.2.2.2.2.1, (z5.2.2.2.2.2.1, ((z5.2.2.2.2.2.2.1, (z5.2.2.2.2.2.2.2.1, ())), ((z5.2.2.2.2.2.2.2.2.1, (z5.2.2.2.2.2.2.2.2.2.1, ())), (z5.2.2.2.2.2.2.2.2.2.2.1, (z5.2.2.2.2.2.2.2.2.2.2.2.1, (z5.2.2.2.2.2.2.2.2.2.2.2.2.1, (z5.2.2.2.2.2.2.2.2.2.2.2.2.2.1, (z5.2.2.2.2.2.2.2.2.2.2.2.2.2.2.1, (z5.2.2.2.2.2.2.2.2.2.2.2.2.2.2.2.1, (z5.2.2.2.2.2.2.2.2.2.2.2.2.2.2.2.2.1, ())))))))))))), (0, ())))))
  (v3.2.1, (v3.2.2.1, (v3.2.2.2.1, (v2.1, (v3.1, (0, (0, (0, (0, (0, (0, (0, (0, (0, (0, (0, ([], ((v4, (0, ())), ()))))))))))))))))))
def cmd_read_k := kes kp 66 (.p1 (.slc (.int .u8))) (.p2 (.v tACommand) .i) (fun W x => cmd_readW W x.1) [pack_Open_k,pack_Reader_Int_k,cmd_small_k,cmd_Fields_k,cmd_take_k,pack_Reader_End_k] [] [] [(4,⟨[(18,.ob 1)],[(1,[.b,.t (.slc (.int .u8)),.i]),(2,[.i,.i,.i,.i,.i,.i,.i,.i,.i,.i,.i,.i,.i,.t (.slc (.int .i64))])],[.dead,.obj .itr]⟩)] Tryz.func66 rfl (h:=fun W x=>by kernel_rfl)
def cmd_DecodeW (W : Wd) (b : List Int) : Option (ACommand' × Int × Unit) := W.call (cmd_readW W b) fun v1 => some v1
def cmd_Decode_k := kes kp 22 (.p1 (.slc (.int .u8))) (.p2 (.v tACommand) .i) (fun W x => cmd_DecodeW W x.1) [cmd_read_k] [] [] [] Tryz.func22 rfl (h:=fun W x=>by kernel_rfl)
def pack_NewW (_ : Wd) : Option (Unit × (Bool × (List Int) × Unit)) := some ((), (true, ([], ())))
def pack_New_k := kls kp 73 [] [] [⟨233,[.b,.row 5 (.int .u8)]⟩] (.ptr 0) (fun W x => pack_NewW W ) [] [] [] [] Tryz.func73 rfl (h:=fun W x=>by kernel_rfl)
def pack_Writer_okW (_ : Wd) (w0 : Bool) (w1 : List Int) : Option (Bool × (Bool × (List Int) × Unit)) := some (w0, (w0, (w1, ())))
abbrev pack_Writer_ok := pack_Writer_okW stdW
def pack_Writer_ok_k := kls kp 151 [⟨233,[.b,.row 5 (.int .u8)]⟩] [.ptr 0] [⟨233,[.b,.row 5 (.int .u8)]⟩] .b (fun W x => pack_Writer_okW W x.1 x.2.1) [] [] [] [] Tryz.func151 rfl (h:=fun W x=>by kernel_rfl)
def pack_foldedW (W : Wd) (n : Int) : Option Int := W.nn 1 (W.nn 63 (some (Go.bits Go.BinOp.xor Go.IntKind.u64 (IntKind.u64.wrap (IntKind.i64.wrap (n * (2 ^ (Min.min (Int.toNat 1) (Go.IntKind.bits Go.IntKind.i64)))))) (IntKind.u64.wrap (Int.fdiv n (2 ^ (Min.min (Int.toNat 63) (Go.IntKind.bits Go.IntKind.i64))))))))
abbrev pack_folded := pack_foldedW stdW
def pack_folded_k := kes kp 153 (.p1 (.int .i64)) (.v (.int .u64)) (fun W x => pack_foldedW W x.1) [] [] [] [] Tryz.func153 rfl (h:=fun W x=>by kernel_rfl)
def pack_Writer_oneW (W : Wd) (w0 : Bool) (w1 : List Int) (u : Int) : Option (Unit × (Bool × (List Int) × Unit)) := 
 W.loop (fun (z1 : Int × Bool × List (Int) × Unit) again2 => 
  W.cnd (decide (128 ≤ z1.1)) (W.room (z1.2.2.1.length + ((Go.bits Go.BinOp.or Go.IntKind.u8 (IntKind.u8.wrap z1.1) 128) :: []).length) 1 (W.nn 7 ((again2 ((Int.fdiv z1.1 (2 ^ (Min.min (Int.toNat 7) (Go.IntKind.bits Go.IntKind.u64)))), (z1.2.1, ((z1.2.2.1 ++ ((Go.bits Go.BinOp.or Go.IntKind.u8 (IntKind.u8.wrap z1.1) 128) :: [])), ())))))))
   (W.room (z1.2.2.1.length + ((IntKind.u8.wrap z1.1) :: []).length) 1 (some ((), (z1.2.1, ((z1.2.2.1 ++ ((IntKind.u8.wrap z1.1) :: [])), ()))))))
  (u, (w0, (w1, ())))
abbrev pack_Writer_one := pack_Writer_oneW stdW
def pack_Writer_one_k := kls kp 152 [⟨233,[.b,.row 5 (.int .u8)]⟩] [.ptr 0,.v (.int .u64)] [⟨233,[.b,.row 5 (.int .u8)]⟩] .unit (fun W x => pack_Writer_oneW W x.1 x.2.1 x.2.2.1) [] [] [] [(0,⟨[(1,.t (.int .u64))],[(0,[.b,.row 0])],[.own 5 (.int .u8)]⟩)] Tryz.func152 rfl (h:=fun W x=>by kernel_rfl)
def pack_Writer_IntW (W : Wd) (w0 : Bool) (w1 : List Int) (l : List Int) : Option (Unit × (Bool × (List Int) × Unit)) := 
 W.join (fun (z1 : Bool × List (Int) × Unit) => some ((), z1))
  fun k2 => W.call (pack_Writer_okW W w0 w1) fun v3 => 
  W.cnd v3.1 (
   W.loop (fun (z4 : Int × Bool × List (Int) × Unit) again5 => 
    W.cnd (decide (z4.1 < (l.length : Int))) (W.idx l z4.1 fun x6 => W.call (pack_foldedW W x6) fun v7 => W.call (pack_Writer_oneW W z4.2.1 z4.2.2.1 v7) fun v8 => (again5 ((IntKind.i64.wrap (z4.1 + 1)), v8.2)))
     ((k2 z4.2)))
    (0, v3.2))
   ((k2 v3.2))
abbrev pack_Writer_Int := pack_Writer_IntW stdW
def pack_Writer_Int_k := kls kp 74 [⟨233,[.b,.row 5 (.int .u8)]⟩] [.ptr 0,.v (.slc (.int .i64))] [⟨233,[.b,.row 5 (.int .u8)]⟩] (.ptr 0) (fun W x => pack_Writer_IntW W x.1 x.2.1 x.2.2.1) [pack_Writer_ok_k,pack_folded_k,pack_Writer_one_k] [] [(7,⟨[],[(0,[.b,.row 0])],[.own 5 (.int .u8)]⟩)] [(3,⟨[(11,.i)],[(0,[.b,.row 0])],[.own 5 (.int .u8)]⟩)] Tryz.func74 rfl (h:=fun W x=>by kernel_rfl)
def cmd_unitW (W : Wd) (w0 : Bool) (w1 : List Int) (u : AUnit') : Option (Unit × (Bool × (List Int) × Unit)) := W.call (pack_Writer_IntW W w0 w1 (u.1 :: (u.2.1 :: []))) fun v1 => some ((), v1.2)
def cmd_unit_k := kls kp 75 [⟨233,[.b,.row 5 (.int .u8)]⟩] [.ptr 0,.v tAUnit] [⟨233,[.b,.row 5 (.int .u8)]⟩] .unit (fun W x => cmd_unitW W x.1 x.2.1 x.2.2.1) [pack_Writer_Int_k] [] [] [] Tryz.func75 rfl (h:=fun W x=>by kernel_rfl)
def pack_Writer_DoneW (W : Wd) (w0 : Bool) (w1 : List Int) : Option ((List Int) × (Bool × (List Int) × Unit)) := W.call (pack_Writer_okW W w0 w1) fun v1 => 
 W.cnd (!v1.1) (some ([], v1.2))
  (W.call (slices_Clonebyte_byteW W v1.2.2.1) fun v2 => some (v2, v1.2))
abbrev pack_Writer_Done := pack_Writer_DoneW stdW
def pack_Writer_Done_k := kls kp 76 [⟨233,[.b,.row 5 (.int .u8)]⟩] [.ptr 0] [⟨233,[.b,.row 5 (.int .u8)]⟩] (.own 5 (.int .u8)) (fun W x => pack_Writer_DoneW W x.1 x.2.1) [pack_Writer_ok_k,slices_Clonebyte_byte_k] [] [] [] Tryz.func76 rfl (h:=fun W x=>by kernel_rfl)
def cmd_EncodeReplyW (W : Wd) (r : AReply') : Option (List Int) := W.both (W.call (pack_NewW W) fun v1 => W.call (pack_Writer_IntW W v1.2.1 v1.2.2.1 (r.1 :: ((r.2.1.length : Int) :: []))) fun v2 => W.call (pack_Writer_IntW W v2.2.1 v2.2.2.1 r.2.1) fun v3 => W.call (pack_Writer_IntW W v3.2.1 v3.2.2.1 ((r.2.2.1.length : Int) :: [])) fun v4 => 
  W.loop (fun (z5 : Int × Bool × List (Int) × Unit) again6 => 
   W.cnd (decide (z5.1 < (r.2.2.1.length : Int))) (W.idx r.2.2.1 z5.1 fun x7 => W.call (cmd_unitW W z5.2.1 z5.2.2.1 x7.1) fun v8 => W.call (cmd_unitW W v8.2.1 v8.2.2.1 x7.2.1) fun v9 => W.call (pack_Writer_IntW W v9.2.1 v9.2.2.1 (x7.2.2.1 :: [])) fun v10 => (again6 ((IntKind.i64.wrap (z5.1 + 1)), v10.2)))
    (W.call (pack_Writer_IntW W z5.2.1 z5.2.2.1 ((r.2.2.2.1.length : Int) :: [])) fun v11 => 
    W.loop (fun (z12 : Int × Bool × List (Int) × Unit) again13 => 
     W.cnd (decide (z12.1 < (r.2.2.2.1.length : Int))) (W.idx r.2.2.2.1 z12.1 fun x14 => W.call (cmd_unitW W z12.2.1 z12.2.2.1 x14.1) fun v15 => W.call (pack_Writer_IntW W v15.2.1 v15.2.2.1 (x14.2.1 :: ((x14.2.2.1.length : Int) :: []))) fun v16 => 
      W.loop (fun (z17 : Int × Bool × List (Int) × Unit) again18 => 
       W.cnd (decide (z17.1 < (x14.2.2.1.length : Int))) (W.idx x14.2.2.1 z17.1 fun x19 => W.call (pack_Writer_IntW W z17.2.1 z17.2.2.1 (x19.1 :: (x19.2.1 :: (x19.2.2.1 :: [])))) fun v20 => (again18 ((IntKind.i64.wrap (z17.1 + 1)), v20.2)))
        ((again13 ((IntKind.i64.wrap (z12.1 + 1)), z17.2))))
       (0, v16.2))
      (W.call (pack_Writer_DoneW W z12.2.1 z12.2.2.1) fun v21 => some v21.1))
     (0, v11.2)))
   (0, v4.2)) (W.call (pack_NewW W) fun v22 => W.call (pack_Writer_IntW W v22.2.1 v22.2.2.1 (r.1 :: ((r.2.1.length : Int) :: []))) fun v23 => W.call (pack_Writer_IntW W v23.2.1 v23.2.2.1 r.2.1) fun v24 => W.call (pack_Writer_IntW W v24.2.1 v24.2.2.1 ((r.2.2.1.length : Int) :: [])) fun v25 => 
  W.loop (fun (z26 : Int × Bool × List (Int) × Unit) again27 => 
   W.cnd (decide (z26.1 < (r.2.2.1.length : Int))) (W.idx r.2.2.1 z26.1 fun x28 => W.call (cmd_unitW W z26.2.1 z26.2.2.1 x28.1) fun v29 => W.call (cmd_unitW W v29.2.1 v29.2.2.1 x28.2.1) fun v30 => W.call (pack_Writer_IntW W v30.2.1 v30.2.2.1 (x28.2.2.1 :: [])) fun v31 => (again27 ((IntKind.i64.wrap (z26.1 + 1)), v31.2)))
    (W.call (pack_Writer_IntW W z26.2.1 z26.2.2.1 ((r.2.2.2.1.length : Int) :: [])) fun v32 => 
    W.loop (fun (z33 : Int × Bool × List (Int) × Unit) again34 => 
     W.cnd (decide (z33.1 < (r.2.2.2.1.length : Int))) (W.idx r.2.2.2.1 z33.1 fun x35 => W.call (cmd_unitW W z33.2.1 z33.2.2.1 x35.1) fun v36 => W.call (pack_Writer_IntW W v36.2.1 v36.2.2.1 (x35.2.1 :: ((x35.2.2.1.length : Int) :: []))) fun v37 => 
      W.loop (fun (z38 : Int × Bool × List (Int) × Unit) again39 => 
       W.cnd (decide (z38.1 < (x35.2.2.1.length : Int))) (W.idx x35.2.2.1 z38.1 fun x40 => W.call (pack_Writer_IntW W z38.2.1 z38.2.2.1 (x40.1 :: (x40.2.1 :: (x40.2.2.1 :: [])))) fun v41 => (again39 ((IntKind.i64.wrap (z38.1 + 1)), v41.2)))
        ((again34 ((IntKind.i64.wrap (z33.1 + 1)), z38.2))))
       (0, v37.2))
      (W.call (pack_Writer_DoneW W z33.2.1 z33.2.2.1) fun v42 => some v42.1))
     (0, v32.2)))
   (0, v25.2))
def cmd_EncodeReply_k := kes kp 27 (.p1 tAReply) (.own 5 (.int .u8)) (fun W x => cmd_EncodeReplyW W x.1) [pack_New_k,pack_Writer_Int_k,cmd_unit_k,pack_Writer_Done_k] [(1,[],(.rd 1 (.rd 2 (.rd 3 (.rd 4 (.rd 5 (.rd 8 (.rd 9 (.two 0 6 (oN [12,14,20,23]) (oN [0,14,20,23]))))))))))] [] [(4,⟨[(30,.i)],[(1,[.b,.row 0])],[.own 5 (.int .u8)]⟩),(4,⟨[(30,.i)],[(1,[.b,.row 1])],[.dead,.own 5 (.int .u8)]⟩),(12,⟨[(57,.i)],[(1,[.b,.row 0])],[.own 5 (.int .u8)]⟩),(12,⟨[(57,.i)],[(1,[.b,.row 1])],[.dead,.own 5 (.int .u8)]⟩),(17,⟨[(76,.i)],[(1,[.b,.row 0])],[.own 5 (.int .u8)]⟩),(17,⟨[(76,.i)],[(1,[.b,.row 1])],[.dead,.own 5 (.int .u8)]⟩)] Tryz.func27 rfl (h:=fun W x=>by kernel_rfl)
def engine_refusedW (W : Wd) (e : Int) : Option (List Int) := W.call (cmd_EncodeReplyW W (e, ([], ([], ([], ()))))) fun v1 => some v1
def engine_refused_k := kes kp 23 (.p1 (.int .i64)) (.own 5 (.int .u8)) (fun W x => engine_refusedW W x.1) [cmd_EncodeReply_k] [] [] [] Tryz.func23 rfl (h:=fun W x=>by kernel_rfl)
def cmd_fieldW (W : Wd) (w0 : Bool) (w1 : List Int) (c : ACommand') (name : Int) : Option (Unit × (Bool × (List Int) × Unit)) := 
 W.cnd (name == 77) (W.call (pack_Writer_IntW W w0 w1 (c.2.2.1 :: [])) fun v1 => some ((), v1.2))
  (
  W.cnd (name == 85) (W.call (cmd_unitW W w0 w1 c.2.2.2.1) fun v2 => some ((), v2.2))
   (
   W.cnd (name == 79) (W.call (cmd_unitW W w0 w1 c.2.2.2.2.1) fun v3 => some ((), v3.2))
    (
    W.cnd (name == 73) (W.call (pack_Writer_IntW W w0 w1 (c.2.2.2.2.2.1 :: [])) fun v4 => some ((), v4.2))
     (
     W.cnd (name == 65) (W.call (pack_Writer_IntW W w0 w1 (c.2.2.2.2.2.2.1 :: [])) fun v5 => some ((), v5.2))
      (
      W.cnd (name == 84) (W.call (pack_Writer_IntW W w0 w1 (c.2.2.2.2.2.2.2.1 :: [])) fun v6 => some ((), v6.2))
       (
       W.cnd (name == 68) (W.call (pack_Writer_IntW W w0 w1 (c.2.2.2.2.2.2.2.2.1 :: [])) fun v7 => some ((), v7.2))
        (
        W.cnd (name == 81) (W.call (pack_Writer_IntW W w0 w1 (c.2.2.2.2.2.2.2.2.2.1 :: [])) fun v8 => some ((), v8.2))
         (
         W.cnd (name == 80) (W.call (pack_Writer_IntW W w0 w1 (c.2.2.2.2.2.2.2.2.2.2.1 :: [])) fun v9 => some ((), v9.2))
          (
          W.cnd (name == 78) (W.call (pack_Writer_IntW W w0 w1 ((c.2.2.2.2.2.2.2.2.2.2.2.1.length : Int) :: [])) fun v10 => W.call (pack_Writer_IntW W v10.2.1 v10.2.2.1 c.2.2.2.2.2.2.2.2.2.2.2.1) fun v11 => some ((), v11.2))
           (some ((), (w0, (w1, ())))))))))))))
def cmd_field_k := kls kp 199 [⟨233,[.b,.row 5 (.int .u8)]⟩] [.ptr 0,.v tACommand,.v (.int .i32)] [⟨233,[.b,.row 5 (.int .u8)]⟩] .unit (fun W x => cmd_fieldW W x.1 x.2.1 x.2.2.1 x.2.2.2.1) [pack_Writer_Int_k,cmd_unit_k] [(21,[0],(oN [1,3,5,7,13,15,8,10,16]))] [] [] Tryz.func199 rfl (h:=fun W x=>by kernel_rfl)
def cmd_bytesOfW (W : Wd) (c : ACommand') : Option (List Int) := W.both (W.call (pack_NewW W) fun v1 => W.call (pack_Writer_IntW W v1.2.1 v1.2.2.1 (c.1 :: (c.2.1 :: []))) fun v2 => W.call (cmd_FieldsW W c.1) fun v3 => 
  W.loop (fun (z4 : Bool × List (Int) × (ByteArray × Int × Unit) × Unit) again5 => 
   W.next z4.2.2.1.1 z4.2.2.1.2.1 (fun c7 q8 => W.call (cmd_fieldW W z4.1 z4.2.1 c c7) fun v9 => (again5 (v9.2.1, (v9.2.2.1, ((z4.2.2.1.1, (q8, ())), ())))))
    (W.call (pack_Writer_DoneW W z4.1 z4.2.1) fun v6 => some v6.1))
   (v2.2.1, (v2.2.2.1, ((v3, (0, ())), ())))) (W.call (pack_NewW W) fun v10 => W.call (pack_Writer_IntW W v10.2.1 v10.2.2.1 (c.1 :: (c.2.1 :: []))) fun v11 => W.call (cmd_FieldsW W c.1) fun v12 => 
  W.loop (fun (z13 : Bool × List (Int) × (ByteArray × Int × Unit) × Unit) again14 => 
   W.next z13.2.2.1.1 z13.2.2.1.2.1 (fun c16 q17 => W.call (cmd_fieldW W z13.1 z13.2.1 c c16) fun v18 => (again14 (v18.2.1, (v18.2.2.1, ((z13.2.2.1.1, (q17, ())), ())))))
    (W.call (pack_Writer_DoneW W z13.1 z13.2.1) fun v15 => some v15.1))
   (v11.2.1, (v11.2.2.1, ((v12, (0, ())), ()))))
def cmd_bytesOf_k := kes kp 140 (.p1 tACommand) (.own 5 (.int .u8)) (fun W x => cmd_bytesOfW W x.1) [pack_New_k,pack_Writer_Int_k,cmd_Fields_k,cmd_field_k,pack_Writer_Done_k] [(1,[],(.rd 1 (.rd 2 (.rd 3 (.rd 4 (.two 0 5 (oN [10,12,15]) (oN [0,12,15])))))))] [] [(3,⟨[(16,.ob 2)],[(1,[.b,.row 0])],[.own 5 (.int .u8),.dead,.obj .itr]⟩),(3,⟨[(16,.ob 2)],[(1,[.b,.row 1])],[.dead,.own 5 (.int .u8),.obj .itr]⟩)] Tryz.func140 rfl (h:=fun W x=>by kernel_rfl)
def slices_Equalint64_int64W (W : Wd) (s1 : List Int) (s2 : List Int) : Option Bool := 
 W.cnd ((s1.length : Int) != (s2.length : Int)) (some false)
  (
  W.loop (fun (z1 : Int × Unit) again2 => 
   W.cnd (decide (z1.1 < (s1.length : Int))) (W.idx s1 z1.1 fun x3 => W.idx s2 z1.1 fun x4 => 
    W.cnd (x3 != x4) (some false)
     ((again2 ((IntKind.i64.wrap (z1.1 + 1)), ()))))
    (some true))
   (0, ()))
def slices_Equalint64_int64_k := kes kp 200 (.p2 (.slc (.int .i64)) (.slc (.int .i64))) .b (fun W x => slices_Equalint64_int64W W x.1 x.2.1) [] [(6,[],(oI 9))] [] [(4,⟨[(13,.i)],[],[]⟩)] Tryz.func200 rfl (h:=fun W x=>by kernel_rfl)
def cmd_sameW (W : Wd) (a : ACommand') (b : ACommand') : Option Bool := W.call (slices_Equalint64_int64W W a.2.2.2.2.2.2.2.2.2.2.2.1 b.2.2.2.2.2.2.2.2.2.2.2.1) fun v1 => 
 W.cnd v1 (
  W.cnd (a.1 == b.1) (
   W.cnd (a.2.1 == b.2.1) (
    W.cnd (a.2.2.1 == b.2.2.1) (
     W.cnd (Go.Vc.notIf false ((a.2.2.2.1.1 == b.2.2.2.1.1) && (a.2.2.2.1.2.1 == b.2.2.2.1.2.1))) (
      W.cnd (Go.Vc.notIf false ((a.2.2.2.2.1.1 == b.2.2.2.2.1.1) && (a.2.2.2.2.1.2.1 == b.2.2.2.2.1.2.1))) (
       W.cnd (a.2.2.2.2.2.1 == b.2.2.2.2.2.1) (
        W.cnd (a.2.2.2.2.2.2.1 == b.2.2.2.2.2.2.1) (
         W.cnd (a.2.2.2.2.2.2.2.1 == b.2.2.2.2.2.2.2.1) (
          W.cnd (a.2.2.2.2.2.2.2.2.1 == b.2.2.2.2.2.2.2.2.1) (
           W.cnd (a.2.2.2.2.2.2.2.2.2.1 == b.2.2.2.2.2.2.2.2.2.1) (some (a.2.2.2.2.2.2.2.2.2.2.1 == b.2.2.2.2.2.2.2.2.2.2.1))
            (some false))
           (some false))
          (some false))
         (some false))
        (some false))
       (some false))
      (some false))
     (some false))
    (some false))
   (some false))
  (some false)
def cmd_same_k := kes kp 141 (.p2 tACommand tACommand) .b (fun W x => cmd_sameW W x.1 x.2.1) [slices_Equalint64_int64_k] [] [] [] Tryz.func141 rfl (h:=fun W x=>by kernel_rfl)
def cmd_CheckW (W : Wd) (c : ACommand') : Option Int := W.call (cmd_bytesOfW W c) fun v1 => W.call (cmd_readW W v1) fun v2 => 
 W.join (fun (z3 : Bool × Unit) => 
  W.cnd z3.1 (some 3)
   (some 0))
  fun k4 => 
  W.cnd (v2.2.1 != 0) ((k4 (true, ())))
   (W.call (cmd_sameW W v2.1 c) fun v5 => (k4 ((!v5), ())))
def cmd_Check_k := kes kp 68 (.p1 tACommand) .i (fun W x => cmd_CheckW W x.1) [cmd_bytesOf_k,cmd_read_k,cmd_same_k] [] [(500018,⟨[(18,.b)],[],[]⟩)] [] Tryz.func68 rfl (h:=fun W x=>by kernel_rfl)
def member_at_1W (_ : Wd) (free10 : Int) (m : AMember') : Option (Bool × (Int × Unit)) := some ((m.1 == free10), (free10, ()))
def member_at_1_k := kls kp 263 [⟨3,[.i]⟩] [.v tAMember,.ptr 0] [⟨3,[.i]⟩] .b (fun W x => member_at_1W W x.1 x.2.1) [] [] [] [] Tryz.func263 rfl (h:=fun W x=>by kernel_rfl)
def slices_IndexFuncapi_Member_api_Member_member_at_1W (W : Wd) (f0_0 : Int) (s : List AMember') : Option (Int × (Int × Unit)) := 
 W.loop (fun (z1 : Int × Int × Unit) again2 => 
  W.cnd (decide (z1.1 < (s.length : Int))) (W.idx s z1.1 fun x3 => W.call (member_at_1W W z1.2.1 x3) fun v4 => 
   W.cnd v4.1 (some (z1.1, v4.2))
    ((again2 ((IntKind.i64.wrap (z1.1 + 1)), v4.2))))
   (some ((-1), z1.2)))
  (0, (f0_0, ()))
def slices_IndexFuncapi_Member_api_Member_member_at_1_k := kls kp 262 [⟨3,[.i]⟩] [.v (.slc tAMember),.fn 263 [.ptr 0]] [⟨3,[.i]⟩] .i (fun W x => slices_IndexFuncapi_Member_api_Member_member_at_1W W x.1 x.2.1) [member_at_1_k] [] [] [(2,⟨[(8,.i)],[(0,[.i])],[]⟩)] Tryz.func262 rfl (h:=fun W x=>by kernel_rfl)
def member_atW (W : Wd) (l : List AMember') (id : Int) : Option Int := W.call (slices_IndexFuncapi_Member_api_Member_member_at_1W W id l) fun v1 => some v1.1
def member_at_k := kes kp 201 (.p2 (.slc tAMember) (.int .i64)) .i (fun W x => member_atW W x.1 x.2.1) [slices_IndexFuncapi_Member_api_Member_member_at_1_k] [] [] [] Tryz.func201 rfl (h:=fun W x=>by kernel_rfl)
def member_FindW (W : Wd) (l : List AMember') (id : Int) : Option (AMember' × Bool × Unit) := W.call (member_atW W l id) fun v1 => 
 W.cnd (decide (v1 < 0)) (some ((0, (0, (0, (0, ())))), (false, ())))
  (W.idx l v1 fun x2 => some (x2, (true, ())))
def member_Find_k := kes kp 142 (.p2 (.slc tAMember) (.int .i64)) (.p2 (.v tAMember) .b) (fun W x => member_FindW W x.1 x.2.1) [member_at_k] [] [] [] Tryz.func142 rfl (h:=fun W x=>by kernel_rfl)
def member_MayW (W : Wd) (m : AMember') : Option Int := 
 W.cnd (m.2.2.1 != 0) (some 15)
  (some 0)
def member_May_k := kes kp 143 (.p1 tAMember) .i (fun W x => member_MayW W x.1) [] [] [] [] Tryz.func143 rfl (h:=fun W x=>by kernel_rfl)
def rules_desk_senderW (W : Wd) (d0 : Int) (d1 : List AMember') (d2 : List AInst') (d3 : List AAsset') (d4 : List AAccount') (d5 : List AChoice') (d6 : List AGroup') (d7 : List AGive') (d8 : List APos') (d9 : List APos') (d10 : List AFlow') (d11 : List AHold') (d12 : Int) (d13 : Int) (d14 : Int) (d15 : Int) (d16 : Int) (d17 : Int) (d18 : Int) (d19 : Int) (d20 : Int) (d21 : Int) (d22 : Int) (d23 : Int) (d24 : Int) (d25 : List Int) (d26 : Int) (d27 : List Int) (d28 : List ADebit') (d29 : List AReturn') : Option (Int × (Int × (List AMember') × (List AInst') × (List AAsset') × (List AAccount') × (List AChoice') × (List AGroup') × (List AGive') × (List APos') × (List APos') × (List AFlow') × (List AHold') × Int × Int × Int × Int × Int × Int × Int × Int × Int × Int × Int × Int × Int × (List Int) × Int × (List Int) × (List ADebit') × (List AReturn') × Unit)) := 
 W.cnd (d13 == 0) (some (0, (d0, (d1, (d2, (d3, (d4, (d5, (d6, (d7, (d8, (d9, (d10, (d11, (d12, (d13, (d14, (d15, (d16, (d17, (d18, (d19, (d20, (d21, (d22, (d23, (d24, (d25, (d26, (d27, (d28, (d29, ()))))))))))))))))))))))))))))))))
  (W.both (W.call (member_FindW W d1 d13) fun v1 => 
   W.cnd (!v1.2.1) (some (14, (d0, (d1, (d2, (d3, (d4, (d5, (d6, (d7, (d8, (d9, (d10, (d11, (d12, (d13, (d14, (d15, (d16, (d17, (d18, (d19, (d20, (d21, (d22, (d23, (d24, (d25, (d26, (d27, (d28, (d29, ()))))))))))))))))))))))))))))))))
    (W.call (member_MayW W v1.1) fun v2 => some (v2, (d0, (d1, (d2, (d3, (d4, (d5, (d6, (d7, (d8, (d9, (d10, (d11, (d12, (d13, (d14, (d15, (d16, (d17, (d18, (d19, (d20, (d21, (d22, (d23, (d24, (d25, (d26, (d27, (d28, (d29, ()))))))))))))))))))))))))))))))))) (W.call (member_FindW W d1 d13) fun v3 => 
   W.cnd (!v3.2.1) (some (14, (d0, (d1, (d2, (d3, (d4, (d5, (d6, (d7, (d8, (d9, (d10, (d11, (d12, (d13, (d14, (d15, (d16, (d17, (d18, (d19, (d20, (d21, (d22, (d23, (d24, (d25, (d26, (d27, (d28, (d29, ()))))))))))))))))))))))))))))))))
    (W.call (member_MayW W v3.1) fun v4 => some (v4, (d0, (d1, (d2, (d3, (d4, (d5, (d6, (d7, (d8, (d9, (d10, (d11, (d12, (d13, (d14, (d15, (d16, (d17, (d18, (d19, (d20, (d21, (d22, (d23, (d24, (d25, (d26, (d27, (d28, (d29, ()))))))))))))))))))))))))))))))))))
def rules_desk_sender_k := kls kp 69 [⟨132,[.i,.v (.slc tAMember),.v (.slc tAInst),.v (.slc tAAsset),.v (.slc tAAccount),.v (.slc tAChoice),.v (.slc tAGroup),.v (.slc tAGive),.v (.slc tAPos),.v (.slc tAPos),.v (.slc tAFlow),.v (.slc tAHold),.i,.i,.i,.i,.i,.i,.i,.i,.i,.i,.i,.i,.i,.v (.slc (.int .i64)),.i,.v (.slc (.int .i64)),.v (.slc tADebit),.v (.slc tAReturn)]⟩] [.ptr 0] [⟨132,[.i,.v (.slc tAMember),.v (.slc tAInst),.v (.slc tAAsset),.v (.slc tAAccount),.v (.slc tAChoice),.v (.slc tAGroup),.v (.slc tAGive),.v (.slc tAPos),.v (.slc tAPos),.v (.slc tAFlow),.v (.slc tAHold),.i,.i,.i,.i,.i,.i,.i,.i,.i,.i,.i,.i,.i,.v (.slc (.int .i64)),.i,.v (.slc (.int .i64)),.v (.slc tADebit),.v (.slc tAReturn)]⟩] .i (fun W x => rules_desk_senderW W x.1 x.2.1 x.2.2.1 x.2.2.2.1 x.2.2.2.2.1 x.2.2.2.2.2.1 x.2.2.2.2.2.2.1 x.2.2.2.2.2.2.2.1 x.2.2.2.2.2.2.2.2.1 x.2.2.2.2.2.2.2.2.2.1 x.2.2.2.2.2.2.2.2.2.2.1 x.2.2.2.2.2.2.2.2.2.2.2.1 x.2.2.2.2.2.2.2.2.2.2.2.2.1 x.2.2.2.2.2.2.2.2.2.2.2.2.2.1 x.2.2.2.2.2.2.2.2.2.2.2.2.2.2.1 x.2.2.2.2.2.2.2.2.2.2.2.2.2.2.2.1 x.2.2.2.2.2.2.2.2.2.2.2.2.2.2.2.2.1 x.2.2.2.2.2.2.2.2.2.2.2.2.2.2.2.2.2.1 x.2.2.2.2.2.2.2.2.2.2.2.2.2.2.2.2.2.2.1 x.2.2.2.2.2.2.2.2.2.2.2.2.2.2.2.2.2.2.2.1 x.2.2.2.2.2.2.2.2.2.2.2.2.2.2.2.2.2.2.2.2.1 x.2.2.2.2.2.2.2.2.2.2.2.2.2.2.2.2.2.2.2.2.2.1 x.2.2.2.2.2.2.2.2.2.2.2.2.2.2.2.2.2.2.2.2.2.2.1 x.2.2.2.2.2.2.2.2.2.2.2.2.2.2.2.2.2.2.2.2.2.2.2.1 x.2.2.2.2.2.2.2.2.2.2.2.2.2.2.2.2.2.2.2.2.2.2.2.2.1 x.2.2.2.2.2.2.2.2.2.2.2.2.2.2.2.2.2.2.2.2.2.2.2.2.2.1 x.2.2.2.2.2.2.2.2.2.2.2.2.2.2.2.2.2.2.2.2.2.2.2.2.2.2.1 x.2.2.2.2.2.2.2.2.2.2.2.2.2.2.2.2.2.2.2.2.2.2.2.2.2.2.2.1 x.2.2.2.2.2.2.2.2.2.2.2.2.2.2.2.2.2.2.2.2.2.2.2.2.2.2.2.2.1 x.2.2.2.2.2.2.2.2.2.2.2.2.2.2.2.2.2.2.2.2.2.2.2.2.2.2.2.2.2.1) [member_Find_k,member_May_k] [(3,[],(.rd 0 (.rd 1 (.rd 2 (.rd 3 (.rd 4 (.rd 5 (.rd 6 (.rd 7 (.rd 8 (.rd 9 (.two 10 14 (oN [23,25,27,28,30,33]) (oN [20,23,25,27,30,33])))))))))))))] [] [] Tryz.func69 rfl (h:=fun W x=>by kernel_rfl)
def rules_desk_allowedW (W : Wd) (d0 : Int) (d1 : List AMember') (d2 : List AInst') (d3 : List AAsset') (d4 : List AAccount') (d5 : List AChoice') (d6 : List AGroup') (d7 : List AGive') (d8 : List APos') (d9 : List APos') (d10 : List AFlow') (d11 : List AHold') (d12 : Int) (d13 : Int) (d14 : Int) (d15 : Int) (d16 : Int) (d17 : Int) (d18 : Int) (d19 : Int) (d20 : Int) (d21 : Int) (d22 : Int) (d23 : Int) (d24 : Int) (d25 : List Int) (d26 : Int) (d27 : List Int) (d28 : List ADebit') (d29 : List AReturn') : Option (Int × (Int × (List AMember') × (List AInst') × (List AAsset') × (List AAccount') × (List AChoice') × (List AGroup') × (List AGive') × (List APos') × (List APos') × (List AFlow') × (List AHold') × Int × Int × Int × Int × Int × Int × Int × Int × Int × Int × Int × Int × Int × (List Int) × Int × (List Int) × (List ADebit') × (List AReturn') × Unit)) := 
 W.cnd (d13 == 0) (some (0, (d0, (d1, (d2, (d3, (d4, (d5, (d6, (d7, (d8, (d9, (d10, (d11, (d12, (d13, (d14, (d15, (d16, (d17, (d18, (d19, (d20, (d21, (d22, (d23, (d24, (d25, (d26, (d27, (d28, (d29, ()))))))))))))))))))))))))))))))))
  (none)
def rules_desk_allowed_k := kls kp 70 [⟨132,[.i,.v (.slc tAMember),.v (.slc tAInst),.v (.slc tAAsset),.v (.slc tAAccount),.v (.slc tAChoice),.v (.slc tAGroup),.v (.slc tAGive),.v (.slc tAPos),.v (.slc tAPos),.v (.slc tAFlow),.v (.slc tAHold),.i,.i,.i,.i,.i,.i,.i,.i,.i,.i,.i,.i,.i,.v (.slc (.int .i64)),.i,.v (.slc (.int .i64)),.v (.slc tADebit),.v (.slc tAReturn)]⟩] [.ptr 0] [⟨132,[.i,.v (.slc tAMember),.v (.slc tAInst),.v (.slc tAAsset),.v (.slc tAAccount),.v (.slc tAChoice),.v (.slc tAGroup),.v (.slc tAGive),.v (.slc tAPos),.v (.slc tAPos),.v (.slc tAFlow),.v (.slc tAHold),.i,.i,.i,.i,.i,.i,.i,.i,.i,.i,.i,.i,.i,.v (.slc (.int .i64)),.i,.v (.slc (.int .i64)),.v (.slc tADebit),.v (.slc tAReturn)]⟩] .i (fun W x => rules_desk_allowedW W x.1 x.2.1 x.2.2.1 x.2.2.2.1 x.2.2.2.2.1 x.2.2.2.2.2.1 x.2.2.2.2.2.2.1 x.2.2.2.2.2.2.2.1 x.2.2.2.2.2.2.2.2.1 x.2.2.2.2.2.2.2.2.2.1 x.2.2.2.2.2.2.2.2.2.2.1 x.2.2.2.2.2.2.2.2.2.2.2.1 x.2.2.2.2.2.2.2.2.2.2.2.2.1 x.2.2.2.2.2.2.2.2.2.2.2.2.2.1 x.2.2.2.2.2.2.2.2.2.2.2.2.2.2.1 x.2.2.2.2.2.2.2.2.2.2.2.2.2.2.2.1 x.2.2.2.2.2.2.2.2.2.2.2.2.2.2.2.2.1 x.2.2.2.2.2.2.2.2.2.2.2.2.2.2.2.2.2.1 x.2.2.2.2.2.2.2.2.2.2.2.2.2.2.2.2.2.2.1 x.2.2.2.2.2.2.2.2.2.2.2.2.2.2.2.2.2.2.2.1 x.2.2.2.2.2.2.2.2.2.2.2.2.2.2.2.2.2.2.2.2.1 x.2.2.2.2.2.2.2.2.2.2.2.2.2.2.2.2.2.2.2.2.2.1 x.2.2.2.2.2.2.2.2.2.2.2.2.2.2.2.2.2.2.2.2.2.2.1 x.2.2.2.2.2.2.2.2.2.2.2.2.2.2.2.2.2.2.2.2.2.2.2.1 x.2.2.2.2.2.2.2.2.2.2.2.2.2.2.2.2.2.2.2.2.2.2.2.2.1 x.2.2.2.2.2.2.2.2.2.2.2.2.2.2.2.2.2.2.2.2.2.2.2.2.2.1 x.2.2.2.2.2.2.2.2.2.2.2.2.2.2.2.2.2.2.2.2.2.2.2.2.2.2.1 x.2.2.2.2.2.2.2.2.2.2.2.2.2.2.2.2.2.2.2.2.2.2.2.2.2.2.2.1 x.2.2.2.2.2.2.2.2.2.2.2.2.2.2.2.2.2.2.2.2.2.2.2.2.2.2.2.2.1 x.2.2.2.2.2.2.2.2.2.2.2.2.2.2.2.2.2.2.2.2.2.2.2.2.2.2.2.2.2.1) [] [] [] [] Tryz.func70 rfl (h:=fun W x=>by kernel_rfl)
def member_CheckW (W : Wd) (m : AMember') : Option Int := 
 W.join (fun (z1 : Bool × Unit) => 
  W.cnd z1.1 (some 2)
   (some 0))
  fun k2 => 
  W.cnd (decide (m.1 < 1)) ((k2 (true, ())))
   (
   W.cnd (decide (8 < m.1)) ((k2 (true, ())))
    (
    W.cnd (decide (m.2.1 < 0)) ((k2 (true, ())))
     (
     W.cnd (decide (4611686018427387904 < m.2.1)) ((k2 (true, ())))
      (
      W.cnd (decide (m.2.2.1 < 0)) ((k2 (true, ())))
       (
       W.cnd (decide (3 < m.2.2.1)) ((k2 (true, ())))
        (
        W.cnd (decide (m.2.2.2.1 < 0)) ((k2 (true, ())))
         ((k2 ((decide (2097152 < m.2.2.2.1)), ())))))))))
def member_Check_k := kes kp 238 (.p1 tAMember) .i (fun W x => member_CheckW W x.1) [] [] [(500040,⟨[(40,.b)],[],[]⟩)] [] Tryz.func238 rfl (h:=fun W x=>by kernel_rfl)
def slices_Cloneapi_Member_api_MemberW (W : Wd) (s : List AMember') : Option (List AMember') := W.nilq (List.isEmpty s) fun g1 => 
 W.cnd (Go.Vc.notIf false g1) (some [])
  (W.room ((0 : Nat) + s.length) 32 (some ([] ++ s)))
def slices_Cloneapi_Member_api_Member_k := kes kp 111 (.p1 (.slc tAMember)) (.own 112 tAMember) (fun W x => slices_Cloneapi_Member_api_MemberW W x.1) [] [] [] [] Tryz.func111 rfl (h:=fun W x=>by kernel_rfl)
def member_PutW (W : Wd) (l : List AMember') (m : AMember') : Option ((List AMember') × Int × Unit) := W.call (member_CheckW W m) fun v1 => 
 W.cnd (v1 != 0) (some ([], (v1, ())))
  (W.call (member_atW W l m.1) fun v2 => 
  W.cnd (decide (0 ≤ v2)) (some ([], (12, ())))
   (W.both (W.call (slices_Cloneapi_Member_api_MemberW W l) fun v3 => W.room (v3.length + (m :: []).length) 32 (
    W.join (fun (z4 : List (Int × Int × Int × Int × Unit) × Unit) => some (z4.1, (0, ())))
     fun k5 => 
     W.loop (fun (z6 : Int × List (Int × Int × Int × Int × Unit) × Unit) again7 => 
      W.cnd (decide (0 < z6.1)) (W.idx z6.2.1 (IntKind.i64.wrap (z6.1 - 1)) fun _ => W.nth z6.2.1 (Int.toNat (IntKind.i64.wrap (z6.1 - 1))) fun x9 => 
       W.cnd (decide (m.1 < x9.1)) (
        W.join (fun (z10 : List (Int × Int × Int × Int × Unit) × Unit) => (again7 ((IntKind.i64.wrap (z6.1 - 1)), z10)))
         fun k11 => W.idx z6.2.1 z6.1 fun _ => W.idx z6.2.1 (IntKind.i64.wrap (z6.1 - 1)) fun _ => W.both (W.nth z6.2.1 (Int.toNat z6.1) fun x14 => W.nth z6.2.1 (Int.toNat (IntKind.i64.wrap (z6.1 - 1))) fun x15 => W.idx z6.2.1 (IntKind.i64.wrap (z6.1 - 1)) fun _ => W.nth z6.2.1 (Int.toNat (IntKind.i64.wrap (z6.1 - 1))) fun _ => W.idx (List.set z6.2.1 (Int.toNat (IntKind.i64.wrap (z6.1 - 1))) x14) z6.1 fun _ => W.nth (List.set z6.2.1 (Int.toNat (IntKind.i64.wrap (z6.1 - 1))) x14) (Int.toNat z6.1) fun _ => (k11 ((List.set (List.set z6.2.1 (Int.toNat (IntKind.i64.wrap (z6.1 - 1))) x14) (Int.toNat z6.1) x15), ()))) (W.nth z6.2.1 (Int.toNat (IntKind.i64.wrap (z6.1 - 1))) fun x20 => W.nth z6.2.1 (Int.toNat z6.1) fun x21 => W.idx z6.2.1 (IntKind.i64.wrap (z6.1 - 1)) fun _ => W.nth z6.2.1 (Int.toNat (IntKind.i64.wrap (z6.1 - 1))) fun _ => W.idx (List.set z6.2.1 (Int.toNat (IntKind.i64.wrap (z6.1 - 1))) x21) z6.1 fun _ => W.nth (List.set z6.2.1 (Int.toNat (IntKind.i64.wrap (z6.1 - 1))) x21) (Int.toNat z6.1) fun _ => (k11 ((List.set (List.set z6.2.1 (Int.toNat (IntKind.i64.wrap (z6.1 - 1))) x21) (Int.toNat z6.1) x20), ()))))
        ((k5 z6.2)))
       ((k5 z6.2)))
      ((IntKind.i64.wrap (((v3 ++ (m :: [])).length : Int) - 1)), ((v3 ++ (m :: [])), ())))) (W.call (slices_Cloneapi_Member_api_MemberW W l) fun v26 => W.room (v26.length + (m :: []).length) 32 (
    W.join (fun (z27 : List (Int × Int × Int × Int × Unit) × Unit) => some (z27.1, (0, ())))
     fun k28 => 
     W.loop (fun (z29 : Int × List (Int × Int × Int × Int × Unit) × Unit) again30 => 
      W.cnd (decide (0 < z29.1)) (W.idx z29.2.1 (IntKind.i64.wrap (z29.1 - 1)) fun _ => W.nth z29.2.1 (Int.toNat (IntKind.i64.wrap (z29.1 - 1))) fun x32 => 
       W.cnd (decide (m.1 < x32.1)) (
        W.join (fun (z33 : List (Int × Int × Int × Int × Unit) × Unit) => (again30 ((IntKind.i64.wrap (z29.1 - 1)), z33)))
         fun k34 => W.idx z29.2.1 z29.1 fun _ => W.idx z29.2.1 (IntKind.i64.wrap (z29.1 - 1)) fun _ => W.both (W.nth z29.2.1 (Int.toNat z29.1) fun x37 => W.nth z29.2.1 (Int.toNat (IntKind.i64.wrap (z29.1 - 1))) fun x38 => W.idx z29.2.1 (IntKind.i64.wrap (z29.1 - 1)) fun _ => W.nth z29.2.1 (Int.toNat (IntKind.i64.wrap (z29.1 - 1))) fun _ => W.idx (List.set z29.2.1 (Int.toNat (IntKind.i64.wrap (z29.1 - 1))) x37) z29.1 fun _ => W.nth (List.set z29.2.1 (Int.toNat (IntKind.i64.wrap (z29.1 - 1))) x37) (Int.toNat z29.1) fun _ => (k34 ((List.set (List.set z29.2.1 (Int.toNat (IntKind.i64.wrap (z29.1 - 1))) x37) (Int.toNat z29.1) x38), ()))) (W.nth z29.2.1 (Int.toNat (IntKind.i64.wrap (z29.1 - 1))) fun x43 => W.nth z29.2.1 (Int.toNat z29.1) fun x44 => W.idx z29.2.1 (IntKind.i64.wrap (z29.1 - 1)) fun _ => W.nth z29.2.1 (Int.toNat (IntKind.i64.wrap (z29.1 - 1))) fun _ => W.idx (List.set z29.2.1 (Int.toNat (IntKind.i64.wrap (z29.1 - 1))) x44) z29.1 fun _ => W.nth (List.set z29.2.1 (Int.toNat (IntKind.i64.wrap (z29.1 - 1))) x44) (Int.toNat z29.1) fun _ => (k34 ((List.set (List.set z29.2.1 (Int.toNat (IntKind.i64.wrap (z29.1 - 1))) x44) (Int.toNat z29.1) x43), ()))))
        ((k28 z29.2)))
       ((k28 z29.2)))
      ((IntKind.i64.wrap (((v26 ++ (m :: [])).length : Int) - 1)), ((v26 ++ (m :: [])), ()))))))
def member_Put_k := kes kp 206 (.p2 (.slc tAMember) tAMember) (.p2 (.own 112 tAMember) .i) (fun W x => member_PutW W x.1 x.2.1) [member_Check_k,member_at_k,slices_Cloneapi_Member_api_Member_k] [(6,[],(.rd 0 (.rd 2 (.two 1 3 (oN [6,8,11]) (oN [2,8,11]))))),(8,[],(oN [1,3,5,7,9,11,13,15,19,21,16,23,25])),(10,[],(.rd 0 (.rd 1 (.rd 2 (.rd 3 (.rd 4 (.rd 5 (.rd 6 (.rd 7 (.rd 9 (.rd 10 (.rd 11 (.rd 12 (.two 8 13 (oN [26,29,30,33,34]) (oN [16,29,30,33,34])))))))))))))))] [(9,⟨[(7,.row 0)],[],[.own 112 tAMember]⟩),(9,⟨[(7,.row 1)],[],[.dead,.own 112 tAMember]⟩),(11,⟨[(7,.row 0)],[],[.own 112 tAMember]⟩),(11,⟨[(7,.row 1)],[],[.dead,.own 112 tAMember]⟩)] [(8,⟨[(7,.row 0),(8,.i)],[],[.own 112 tAMember]⟩),(8,⟨[(7,.row 1),(8,.i)],[],[.dead,.own 112 tAMember]⟩)] Tryz.func206 rfl (h:=fun W x=>by kernel_rfl)
def rules_desk_foundW (W : Wd) (d0 : Int) (d1 : List AMember') (d2 : List AInst') (d3 : List AAsset') (d4 : List AAccount') (d5 : List AChoice') (d6 : List AGroup') (d7 : List AGive') (d8 : List APos') (d9 : List APos') (d10 : List AFlow') (d11 : List AHold') (d12 : Int) (d13 : Int) (d14 : Int) (d15 : Int) (d16 : Int) (d17 : Int) (d18 : Int) (d19 : Int) (d20 : Int) (d21 : Int) (d22 : Int) (d23 : Int) (d24 : Int) (d25 : List Int) (d26 : Int) (d27 : List Int) (d28 : List ADebit') (d29 : List AReturn') : Option (Int × (Int × (List AMember') × (List AInst') × (List AAsset') × (List AAccount') × (List AChoice') × (List AGroup') × (List AGive') × (List APos') × (List APos') × (List AFlow') × (List AHold') × Int × Int × Int × Int × Int × Int × Int × Int × Int × Int × Int × Int × Int × (List Int) × Int × (List Int) × (List ADebit') × (List AReturn') × Unit)) := 
 W.join (fun (z1 : Int × Int × List (Int × Int × Int × Int × Unit) × List (Int × Int × Int × Int × List (Int) × Unit) × List (Int × Int × Int × Unit) × List (Int × Int × Int × List (Int) × Unit) × List ((Int × Int × Unit) × (Int × Int × Unit) × Bool × Unit) × List (Int × (Int × Int × Unit) × Int × Int × Int × Unit) × List (Int × (Int × Int × Unit) × (Int × Int × Unit) × (Int × Int × Unit) × Int × Int × Int × Int × Unit) × List ((Int × Int × Unit) × List (Int × Int × Unit) × Unit) × List ((Int × Int × Unit) × List (Int × Int × Unit) × Unit) × List ((Int × Int × Unit) × Int × Unit) × List ((Int × Int × Unit) × List (Int × Int × Int × Unit) × Unit) × Int × Int × Int × Int × Int × Int × Int × Int × Int × Int × Int × Int × Int × List (Int) × Int × List (Int) × List ((Int × Int × Unit) × (Int × Int × Unit) × Int × Unit) × List ((Int × Int × Unit) × Int × List (Int × Int × Int × Unit) × Unit) × Unit) => some z1)
  fun k2 => 
  W.cnd (d12 == 1) (W.both (W.both (W.call (member_PutW W d1 (d14, (d23, (0, (0, ()))))) fun v3 => (k2 (v3.2.1, (d0, (v3.1, (d2, (d3, (d4, (d5, (d6, (d7, (d8, (d9, (d10, (d11, (d12, (d13, (d14, (d15, (d16, (d17, (d18, (d19, (d20, (d21, (d22, (d23, (d24, (d25, (d26, (d27, (d28, (d29, ()))))))))))))))))))))))))))))))))) (W.call (member_PutW W d1 (d14, (d23, (0, (0, ()))))) fun v4 => (k2 (v4.2.1, (d0, (v4.1, (d2, (d3, (d4, (d5, (d6, (d7, (d8, (d9, (d10, (d11, (d12, (d13, (d14, (d15, (d16, (d17, (d18, (d19, (d20, (d21, (d22, (d23, (d24, (d25, (d26, (d27, (d28, (d29, ())))))))))))))))))))))))))))))))))) (W.both (W.both (W.call (member_PutW W d1 (d14, (d23, (0, (0, ()))))) fun v5 => (k2 (v5.2.1, (d0, (v5.1, (d2, (d3, (d4, (d5, (d6, (d7, (d8, (d9, (d10, (d11, (d12, (d13, (d14, (d15, (d16, (d17, (d18, (d19, (d20, (d21, (d22, (d23, (d24, (d25, (d26, (d27, (d28, (d29, ()))))))))))))))))))))))))))))))))) (W.call (member_PutW W d1 (d14, (d23, (0, (0, ()))))) fun v6 => (k2 (v6.2.1, (d0, (v6.1, (d2, (d3, (d4, (d5, (d6, (d7, (d8, (d9, (d10, (d11, (d12, (d13, (d14, (d15, (d16, (d17, (d18, (d19, (d20, (d21, (d22, (d23, (d24, (d25, (d26, (d27, (d28, (d29, ())))))))))))))))))))))))))))))))))) (W.both (W.call (member_PutW W d1 (d14, (d23, (0, (0, ()))))) fun v7 => (k2 (v7.2.1, (d0, (v7.1, (d2, (d3, (d4, (d5, (d6, (d7, (d8, (d9, (d10, (d11, (d12, (d13, (d14, (d15, (d16, (d17, (d18, (d19, (d20, (d21, (d22, (d23, (d24, (d25, (d26, (d27, (d28, (d29, ()))))))))))))))))))))))))))))))))) (W.call (member_PutW W d1 (d14, (d23, (0, (0, ()))))) fun v8 => (k2 (v8.2.1, (d0, (v8.1, (d2, (d3, (d4, (d5, (d6, (d7, (d8, (d9, (d10, (d11, (d12, (d13, (d14, (d15, (d16, (d17, (d18, (d19, (d20, (d21, (d22, (d23, (d24, (d25, (d26, (d27, (d28, (d29, ()))))))))))))))))))))))))))))))))))))
   (
   W.cnd (d12 == 2) (none)
    (
    W.cnd (d12 == 3) (none)
     (
     W.cnd (d12 == 4) (none)
      (
      W.cnd (d12 == 5) (none)
       (
       W.cnd (d12 == 6) (none)
        ((k2 (0, (d0, (d1, (d2, (d3, (d4, (d5, (d6, (d7, (d8, (d9, (d10, (d11, (d12, (d13, (d14, (d15, (d16, (d17, (d18, (d19, (d20, (d21, (d22, (d23, (d24, (d25, (d26, (d27, (d28, (d29, ()))))))))))))))))))))))))))))))))))))))
def rules_desk_found_k := kls kp 145 [⟨132,[.i,.v (.slc tAMember),.v (.slc tAInst),.v (.slc tAAsset),.v (.slc tAAccount),.v (.slc tAChoice),.v (.slc tAGroup),.v (.slc tAGive),.v (.slc tAPos),.v (.slc tAPos),.v (.slc tAFlow),.v (.slc tAHold),.i,.i,.i,.i,.i,.i,.i,.i,.i,.i,.i,.i,.i,.v (.slc (.int .i64)),.i,.v (.slc (.int .i64)),.v (.slc tADebit),.v (.slc tAReturn)]⟩] [.ptr 0] [⟨132,[.i,.v (.slc tAMember),.v (.slc tAInst),.v (.slc tAAsset),.v (.slc tAAccount),.v (.slc tAChoice),.v (.slc tAGroup),.v (.slc tAGive),.v (.slc tAPos),.v (.slc tAPos),.v (.slc tAFlow),.v (.slc tAHold),.i,.i,.i,.i,.i,.i,.i,.i,.i,.i,.i,.i,.i,.v (.slc (.int .i64)),.i,.v (.slc (.int .i64)),.v (.slc tADebit),.v (.slc tAReturn)]⟩] .i (fun W x => rules_desk_foundW W x.1 x.2.1 x.2.2.1 x.2.2.2.1 x.2.2.2.2.1 x.2.2.2.2.2.1 x.2.2.2.2.2.2.1 x.2.2.2.2.2.2.2.1 x.2.2.2.2.2.2.2.2.1 x.2.2.2.2.2.2.2.2.2.1 x.2.2.2.2.2.2.2.2.2.2.1 x.2.2.2.2.2.2.2.2.2.2.2.1 x.2.2.2.2.2.2.2.2.2.2.2.2.1 x.2.2.2.2.2.2.2.2.2.2.2.2.2.1 x.2.2.2.2.2.2.2.2.2.2.2.2.2.2.1 x.2.2.2.2.2.2.2.2.2.2.2.2.2.2.2.1 x.2.2.2.2.2.2.2.2.2.2.2.2.2.2.2.2.1 x.2.2.2.2.2.2.2.2.2.2.2.2.2.2.2.2.2.1 x.2.2.2.2.2.2.2.2.2.2.2.2.2.2.2.2.2.2.1 x.2.2.2.2.2.2.2.2.2.2.2.2.2.2.2.2.2.2.2.1 x.2.2.2.2.2.2.2.2.2.2.2.2.2.2.2.2.2.2.2.2.1 x.2.2.2.2.2.2.2.2.2.2.2.2.2.2.2.2.2.2.2.2.2.1 x.2.2.2.2.2.2.2.2.2.2.2.2.2.2.2.2.2.2.2.2.2.2.1 x.2.2.2.2.2.2.2.2.2.2.2.2.2.2.2.2.2.2.2.2.2.2.2.1 x.2.2.2.2.2.2.2.2.2.2.2.2.2.2.2.2.2.2.2.2.2.2.2.2.1 x.2.2.2.2.2.2.2.2.2.2.2.2.2.2.2.2.2.2.2.2.2.2.2.2.2.1 x.2.2.2.2.2.2.2.2.2.2.2.2.2.2.2.2.2.2.2.2.2.2.2.2.2.2.1 x.2.2.2.2.2.2.2.2.2.2.2.2.2.2.2.2.2.2.2.2.2.2.2.2.2.2.2.1 x.2.2.2.2.2.2.2.2.2.2.2.2.2.2.2.2.2.2.2.2.2.2.2.2.2.2.2.2.1 x.2.2.2.2.2.2.2.2.2.2.2.2.2.2.2.2.2.2.2.2.2.2.2.2.2.2.2.2.2.1) [member_Put_k] [(4,[0],(.rd 0 (.rd 1 (.rd 2 (.rd 3 (.rd 4 (.rd 6 (.rd 7 (.rd 8 (.rd 9 (.rd 11 (.rd 12 (.rd 13 (.rd 14 (.three 5 10 15 (.two 10 15 (oN [30,33,34,37,39,41,43,45,47,48,51]) (oN [20,33,34,37,39,41,43,45,47,48,51])) (.two 5 15 (oN [30,33,34,37,39,41,43,45,47,48,51]) (oN [33,10,34,37,39,41,43,45,47,48,51])) (.two 5 10 (oN [20,33,34,37,39,41,43,45,47,48,51]) (oN [33,10,34,37,39,41,43,45,47,48,51])))))))))))))))))] [(19,⟨[(3,.i)],[(0,[.i,.t (.slc tAMember),.t (.slc tAInst),.t (.slc tAAsset),.t (.slc tAAccount),.t (.slc tAChoice),.t (.slc tAGroup),.t (.slc tAGive),.t (.slc tAPos),.t (.slc tAPos),.t (.slc tAFlow),.t (.slc tAHold),.i,.i,.i,.i,.i,.i,.i,.i,.i,.i,.i,.i,.i,.t (.slc (.int .i64)),.i,.t (.slc (.int .i64)),.t (.slc tADebit),.t (.slc tAReturn)])],[]⟩)] [] Tryz.func145 rfl (h:=fun W x=>by kernel_rfl)
def rules_desk_actW (W : Wd) (d0 : Int) (d1 : List AMember') (d2 : List AInst') (d3 : List AAsset') (d4 : List AAccount') (d5 : List AChoice') (d6 : List AGroup') (d7 : List AGive') (d8 : List APos') (d9 : List APos') (d10 : List AFlow') (d11 : List AHold') (d12 : Int) (d13 : Int) (d14 : Int) (d15 : Int) (d16 : Int) (d17 : Int) (d18 : Int) (d19 : Int) (d20 : Int) (d21 : Int) (d22 : Int) (d23 : Int) (d24 : Int) (d25 : List Int) (d26 : Int) (d27 : List Int) (d28 : List ADebit') (d29 : List AReturn') : Option (Int × (Int × (List AMember') × (List AInst') × (List AAsset') × (List AAccount') × (List AChoice') × (List AGroup') × (List AGive') × (List APos') × (List APos') × (List AFlow') × (List AHold') × Int × Int × Int × Int × Int × Int × Int × Int × Int × Int × Int × Int × Int × (List Int) × Int × (List Int) × (List ADebit') × (List AReturn') × Unit)) := 
 W.cnd (decide (d12 ≤ 6)) (W.call (rules_desk_foundW W d0 d1 d2 d3 d4 d5 d6 d7 d8 d9 d10 d11 d12 d13 d14 d15 d16 d17 d18 d19 d20 d21 d22 d23 d24 d25 d26 d27 d28 d29) fun v1 => some v1)
  (
  W.cnd (decide (d12 ≤ 13)) (none)
   (
   W.cnd (decide (d12 ≤ 18)) (none)
    (
    W.cnd (decide (d12 ≤ 25)) (none)
     (none))))
def rules_desk_act_k := kls kp 71 [⟨132,[.i,.v (.slc tAMember),.v (.slc tAInst),.v (.slc tAAsset),.v (.slc tAAccount),.v (.slc tAChoice),.v (.slc tAGroup),.v (.slc tAGive),.v (.slc tAPos),.v (.slc tAPos),.v (.slc tAFlow),.v (.slc tAHold),.i,.i,.i,.i,.i,.i,.i,.i,.i,.i,.i,.i,.i,.v (.slc (.int .i64)),.i,.v (.slc (.int .i64)),.v (.slc tADebit),.v (.slc tAReturn)]⟩] [.ptr 0] [⟨132,[.i,.v (.slc tAMember),.v (.slc tAInst),.v (.slc tAAsset),.v (.slc tAAccount),.v (.slc tAChoice),.v (.slc tAGroup),.v (.slc tAGive),.v (.slc tAPos),.v (.slc tAPos),.v (.slc tAFlow),.v (.slc tAHold),.i,.i,.i,.i,.i,.i,.i,.i,.i,.i,.i,.i,.i,.v (.slc (.int .i64)),.i,.v (.slc (.int .i64)),.v (.slc tADebit),.v (.slc tAReturn)]⟩] .i (fun W x => rules_desk_actW W x.1 x.2.1 x.2.2.1 x.2.2.2.1 x.2.2.2.2.1 x.2.2.2.2.2.1 x.2.2.2.2.2.2.1 x.2.2.2.2.2.2.2.1 x.2.2.2.2.2.2.2.2.1 x.2.2.2.2.2.2.2.2.2.1 x.2.2.2.2.2.2.2.2.2.2.1 x.2.2.2.2.2.2.2.2.2.2.2.1 x.2.2.2.2.2.2.2.2.2.2.2.2.1 x.2.2.2.2.2.2.2.2.2.2.2.2.2.1 x.2.2.2.2.2.2.2.2.2.2.2.2.2.2.1 x.2.2.2.2.2.2.2.2.2.2.2.2.2.2.2.1 x.2.2.2.2.2.2.2.2.2.2.2.2.2.2.2.2.1 x.2.2.2.2.2.2.2.2.2.2.2.2.2.2.2.2.2.1 x.2.2.2.2.2.2.2.2.2.2.2.2.2.2.2.2.2.2.1 x.2.2.2.2.2.2.2.2.2.2.2.2.2.2.2.2.2.2.2.1 x.2.2.2.2.2.2.2.2.2.2.2.2.2.2.2.2.2.2.2.2.1 x.2.2.2.2.2.2.2.2.2.2.2.2.2.2.2.2.2.2.2.2.2.1 x.2.2.2.2.2.2.2.2.2.2.2.2.2.2.2.2.2.2.2.2.2.2.1 x.2.2.2.2.2.2.2.2.2.2.2.2.2.2.2.2.2.2.2.2.2.2.2.1 x.2.2.2.2.2.2.2.2.2.2.2.2.2.2.2.2.2.2.2.2.2.2.2.2.1 x.2.2.2.2.2.2.2.2.2.2.2.2.2.2.2.2.2.2.2.2.2.2.2.2.2.1 x.2.2.2.2.2.2.2.2.2.2.2.2.2.2.2.2.2.2.2.2.2.2.2.2.2.2.1 x.2.2.2.2.2.2.2.2.2.2.2.2.2.2.2.2.2.2.2.2.2.2.2.2.2.2.2.1 x.2.2.2.2.2.2.2.2.2.2.2.2.2.2.2.2.2.2.2.2.2.2.2.2.2.2.2.2.1 x.2.2.2.2.2.2.2.2.2.2.2.2.2.2.2.2.2.2.2.2.2.2.2.2.2.2.2.2.2.1) [rules_desk_found_k] [] [] [] Tryz.func71 rfl (h:=fun W x=>by kernel_rfl)
def rules_firstW (W : Wd) (steps0_0 : Int) (steps0_1 : List AMember') (steps0_2 : List AInst') (steps0_3 : List AAsset') (steps0_4 : List AAccount') (steps0_5 : List AChoice') (steps0_6 : List AGroup') (steps0_7 : List AGive') (steps0_8 : List APos') (steps0_9 : List APos') (steps0_10 : List AFlow') (steps0_11 : List AHold') (steps0_12 : Int) (steps0_13 : Int) (steps0_14 : Int) (steps0_15 : Int) (steps0_16 : Int) (steps0_17 : Int) (steps0_18 : Int) (steps0_19 : Int) (steps0_20 : Int) (steps0_21 : Int) (steps0_22 : Int) (steps0_23 : Int) (steps0_24 : Int) (steps0_25 : List Int) (steps0_26 : Int) (steps0_27 : List Int) (steps0_28 : List ADebit') (steps0_29 : List AReturn') (e : Int) : Option (Int × (Int × (List AMember') × (List AInst') × (List AAsset') × (List AAccount') × (List AChoice') × (List AGroup') × (List AGive') × (List APos') × (List APos') × (List AFlow') × (List AHold') × Int × Int × Int × Int × Int × Int × Int × Int × Int × Int × Int × Int × Int × (List Int) × Int × (List Int) × (List ADebit') × (List AReturn') × Unit)) := 
 W.cnd (decide (0 < (((Go.Vc.DV.fn 1000069 ((Go.Vc.DV.own 0 0) :: [])) :: ((Go.Vc.DV.fn 1000070 ((Go.Vc.DV.own 0 0) :: [])) :: ((Go.Vc.DV.fn 1000071 ((Go.Vc.DV.own 0 0) :: [])) :: []))).length : Int))) (
  W.cnd (e != 0) (some (e, (steps0_0, (steps0_1, (steps0_2, (steps0_3, (steps0_4, (steps0_5, (steps0_6, (steps0_7, (steps0_8, (steps0_9, (steps0_10, (steps0_11, (steps0_12, (steps0_13, (steps0_14, (steps0_15, (steps0_16, (steps0_17, (steps0_18, (steps0_19, (steps0_20, (steps0_21, (steps0_22, (steps0_23, (steps0_24, (steps0_25, (steps0_26, (steps0_27, (steps0_28, (steps0_29, ()))))))))))))))))))))))))))))))))
   (W.call (rules_desk_senderW W steps0_0 steps0_1 steps0_2 steps0_3 steps0_4 steps0_5 steps0_6 steps0_7 steps0_8 steps0_9 steps0_10 steps0_11 steps0_12 steps0_13 steps0_14 steps0_15 steps0_16 steps0_17 steps0_18 steps0_19 steps0_20 steps0_21 steps0_22 steps0_23 steps0_24 steps0_25 steps0_26 steps0_27 steps0_28 steps0_29) fun v1 => 
   W.cnd (decide ((IntKind.i64.wrap (0 + 1)) < (((Go.Vc.DV.fn 1000069 ((Go.Vc.DV.own 0 0) :: [])) :: ((Go.Vc.DV.fn 1000070 ((Go.Vc.DV.own 0 0) :: [])) :: ((Go.Vc.DV.fn 1000071 ((Go.Vc.DV.own 0 0) :: [])) :: []))).length : Int))) (
    W.cnd (v1.1 != 0) (some v1)
     (W.call (rules_desk_allowedW W v1.2.1 v1.2.2.1 v1.2.2.2.1 v1.2.2.2.2.1 v1.2.2.2.2.2.1 v1.2.2.2.2.2.2.1 v1.2.2.2.2.2.2.2.1 v1.2.2.2.2.2.2.2.2.1 v1.2.2.2.2.2.2.2.2.2.1 v1.2.2.2.2.2.2.2.2.2.2.1 v1.2.2.2.2.2.2.2.2.2.2.2.1 v1.2.2.2.2.2.2.2.2.2.2.2.2.1 v1.2.2.2.2.2.2.2.2.2.2.2.2.2.1 v1.2.2.2.2.2.2.2.2.2.2.2.2.2.2.1 v1.2.2.2.2.2.2.2.2.2.2.2.2.2.2.2.1 v1.2.2.2.2.2.2.2.2.2.2.2.2.2.2.2.2.1 v1.2.2.2.2.2.2.2.2.2.2.2.2.2.2.2.2.2.1 v1.2.2.2.2.2.2.2.2.2.2.2.2.2.2.2.2.2.2.1 v1.2.2.2.2.2.2.2.2.2.2.2.2.2.2.2.2.2.2.2.1 v1.2.2.2.2.2.2.2.2.2.2.2.2.2.2.2.2.2.2.2.2.1 v1.2.2.2.2.2.2.2.2.2.2.2.2.2.2.2.2.2.2.2.2.2.1 v1.2.2.2.2.2.2.2.2.2.2.2.2.2.2.2.2.2.2.2.2.2.2.1 v1.2.2.2.2.2.2.2.2.2.2.2.2.2.2.2.2.2.2.2.2.2.2.2.1 v1.2.2.2.2.2.2.2.2.2.2.2.2.2.2.2.2.2.2.2.2.2.2.2.2.1 v1.2.2.2.2.2.2.2.2.2.2.2.2.2.2.2.2.2.2.2.2.2.2.2.2.2.1 v1.2.2.2.2.2.2.2.2.2.2.2.2.2.2.2.2.2.2.2.2.2.2.2.2.2.2.1 v1.2.2.2.2.2.2.2.2.2.2.2.2.2.2.2.2.2.2.2.2.2.2.2.2.2.2.2.1 v1.2.2.2.2.2.2.2.2.2.2.2.2.2.2.2.2.2.2.2.2.2.2.2.2.2.2.2.2.1 v1.2.2.2.2.2.2.2.2.2.2.2.2.2.2.2.2.2.2.2.2.2.2.2.2.2.2.2.2.2.1 v1.2.2.2.2.2.2.2.2.2.2.2.2.2.2.2.2.2.2.2.2.2.2.2.2.2.2.2.2.2.2.1) fun v2 => 
     W.cnd (decide ((IntKind.i64.wrap ((IntKind.i64.wrap (0 + 1)) + 1)) < (((Go.Vc.DV.fn 1000069 ((Go.Vc.DV.own 0 0) :: [])) :: ((Go.Vc.DV.fn 1000070 ((Go.Vc.DV.own 0 0) :: [])) :: ((Go.Vc.DV.fn 1000071 ((Go.Vc.DV.own 0 0) :: [])) :: []))).length : Int))) (
      W.cnd (v2.1 != 0) (some v2)
       (W.call (rules_desk_actW W v2.2.1 v2.2.2.1 v2.2.2.2.1 v2.2.2.2.2.1 v2.2.2.2.2.2.1 v2.2.2.2.2.2.2.1 v2.2.2.2.2.2.2.2.1 v2.2.2.2.2.2.2.2.2.1 v2.2.2.2.2.2.2.2.2.2.1 v2.2.2.2.2.2.2.2.2.2.2.1 v2.2.2.2.2.2.2.2.2.2.2.2.1 v2.2.2.2.2.2.2.2.2.2.2.2.2.1 v2.2.2.2.2.2.2.2.2.2.2.2.2.2.1 v2.2.2.2.2.2.2.2.2.2.2.2.2.2.2.1 v2.2.2.2.2.2.2.2.2.2.2.2.2.2.2.2.1 v2.2.2.2.2.2.2.2.2.2.2.2.2.2.2.2.2.1 v2.2.2.2.2.2.2.2.2.2.2.2.2.2.2.2.2.2.1 v2.2.2.2.2.2.2.2.2.2.2.2.2.2.2.2.2.2.2.1 v2.2.2.2.2.2.2.2.2.2.2.2.2.2.2.2.2.2.2.2.1 v2.2.2.2.2.2.2.2.2.2.2.2.2.2.2.2.2.2.2.2.2.1 v2.2.2.2.2.2.2.2.2.2.2.2.2.2.2.2.2.2.2.2.2.2.1 v2.2.2.2.2.2.2.2.2.2.2.2.2.2.2.2.2.2.2.2.2.2.2.1 v2.2.2.2.2.2.2.2.2.2.2.2.2.2.2.2.2.2.2.2.2.2.2.2.1 v2.2.2.2.2.2.2.2.2.2.2.2.2.2.2.2.2.2.2.2.2.2.2.2.2.1 v2.2.2.2.2.2.2.2.2.2.2.2.2.2.2.2.2.2.2.2.2.2.2.2.2.2.1 v2.2.2.2.2.2.2.2.2.2.2.2.2.2.2.2.2.2.2.2.2.2.2.2.2.2.2.1 v2.2.2.2.2.2.2.2.2.2.2.2.2.2.2.2.2.2.2.2.2.2.2.2.2.2.2.2.1 v2.2.2.2.2.2.2.2.2.2.2.2.2.2.2.2.2.2.2.2.2.2.2.2.2.2.2.2.2.1 v2.2.2.2.2.2.2.2.2.2.2.2.2.2.2.2.2.2.2.2.2.2.2.2.2.2.2.2.2.2.1 v2.2.2.2.2.2.2.2.2.2.2.2.2.2.2.2.2.2.2.2.2.2.2.2.2.2.2.2.2.2.2.1) fun v3 => 
       W.cnd (decide ((IntKind.i64.wrap ((IntKind.i64.wrap ((IntKind.i64.wrap (0 + 1)) + 1)) + 1)) < (((Go.Vc.DV.fn 1000069 ((Go.Vc.DV.own 0 0) :: [])) :: ((Go.Vc.DV.fn 1000070 ((Go.Vc.DV.own 0 0) :: [])) :: ((Go.Vc.DV.fn 1000071 ((Go.Vc.DV.own 0 0) :: [])) :: []))).length : Int))) (none)
        (some v3)))
      (some v2)))
    (some v1)))
  (some (e, (steps0_0, (steps0_1, (steps0_2, (steps0_3, (steps0_4, (steps0_5, (steps0_6, (steps0_7, (steps0_8, (steps0_9, (steps0_10, (steps0_11, (steps0_12, (steps0_13, (steps0_14, (steps0_15, (steps0_16, (steps0_17, (steps0_18, (steps0_19, (steps0_20, (steps0_21, (steps0_22, (steps0_23, (steps0_24, (steps0_25, (steps0_26, (steps0_27, (steps0_28, (steps0_29, ()))))))))))))))))))))))))))))))))
def rules_first_k := kls kp 67 [⟨132,[.i,.v (.slc tAMember),.v (.slc tAInst),.v (.slc tAAsset),.v (.slc tAAccount),.v (.slc tAChoice),.v (.slc tAGroup),.v (.slc tAGive),.v (.slc tAPos),.v (.slc tAPos),.v (.slc tAFlow),.v (.slc tAHold),.i,.i,.i,.i,.i,.i,.i,.i,.i,.i,.i,.i,.i,.v (.slc (.int .i64)),.i,.v (.slc (.int .i64)),.v (.slc tADebit),.v (.slc tAReturn)]⟩] [.i,.fns [.fn 1000069 [.ptr 0],.fn 1000070 [.ptr 0],.fn 1000071 [.ptr 0]]] [⟨132,[.i,.v (.slc tAMember),.v (.slc tAInst),.v (.slc tAAsset),.v (.slc tAAccount),.v (.slc tAChoice),.v (.slc tAGroup),.v (.slc tAGive),.v (.slc tAPos),.v (.slc tAPos),.v (.slc tAFlow),.v (.slc tAHold),.i,.i,.i,.i,.i,.i,.i,.i,.i,.i,.i,.i,.i,.v (.slc (.int .i64)),.i,.v (.slc (.int .i64)),.v (.slc tADebit),.v (.slc tAReturn)]⟩] .i (fun W x => rules_firstW W x.1 x.2.1 x.2.2.1 x.2.2.2.1 x.2.2.2.2.1 x.2.2.2.2.2.1 x.2.2.2.2.2.2.1 x.2.2.2.2.2.2.2.1 x.2.2.2.2.2.2.2.2.1 x.2.2.2.2.2.2.2.2.2.1 x.2.2.2.2.2.2.2.2.2.2.1 x.2.2.2.2.2.2.2.2.2.2.2.1 x.2.2.2.2.2.2.2.2.2.2.2.2.1 x.2.2.2.2.2.2.2.2.2.2.2.2.2.1 x.2.2.2.2.2.2.2.2.2.2.2.2.2.2.1 x.2.2.2.2.2.2.2.2.2.2.2.2.2.2.2.1 x.2.2.2.2.2.2.2.2.2.2.2.2.2.2.2.2.1 x.2.2.2.2.2.2.2.2.2.2.2.2.2.2.2.2.2.1 x.2.2.2.2.2.2.2.2.2.2.2.2.2.2.2.2.2.2.1 x.2.2.2.2.2.2.2.2.2.2.2.2.2.2.2.2.2.2.2.1 x.2.2.2.2.2.2.2.2.2.2.2.2.2.2.2.2.2.2.2.2.1 x.2.2.2.2.2.2.2.2.2.2.2.2.2.2.2.2.2.2.2.2.2.1 x.2.2.2.2.2.2.2.2.2.2.2.2.2.2.2.2.2.2.2.2.2.2.1 x.2.2.2.2.2.2.2.2.2.2.2.2.2.2.2.2.2.2.2.2.2.2.2.1 x.2.2.2.2.2.2.2.2.2.2.2.2.2.2.2.2.2.2.2.2.2.2.2.2.1 x.2.2.2.2.2.2.2.2.2.2.2.2.2.2.2.2.2.2.2.2.2.2.2.2.2.1 x.2.2.2.2.2.2.2.2.2.2.2.2.2.2.2.2.2.2.2.2.2.2.2.2.2.2.1 x.2.2.2.2.2.2.2.2.2.2.2.2.2.2.2.2.2.2.2.2.2.2.2.2.2.2.2.1 x.2.2.2.2.2.2.2.2.2.2.2.2.2.2.2.2.2.2.2.2.2.2.2.2.2.2.2.2.1 x.2.2.2.2.2.2.2.2.2.2.2.2.2.2.2.2.2.2.2.2.2.2.2.2.2.2.2.2.2.1 x.2.2.2.2.2.2.2.2.2.2.2.2.2.2.2.2.2.2.2.2.2.2.2.2.2.2.2.2.2.2.1) [rules_desk_sender_k,rules_desk_allowed_k,rules_desk_act_k] [] [] [] Tryz.func67 rfl (h:=fun W x=>by kernel_rfl)
def rules_ApplyW (W : Wd) (s : AState') (c : ACommand') : Option (AState' × AReply' × Unit) := W.call (cmd_CheckW W c) fun v1 => W.call (rules_firstW W s.1 s.2.1 s.2.2.1 s.2.2.2.1 s.2.2.2.2.1 s.2.2.2.2.2.1 s.2.2.2.2.2.2.1 s.2.2.2.2.2.2.2.1 s.2.2.2.2.2.2.2.2.1 s.2.2.2.2.2.2.2.2.2.1 s.2.2.2.2.2.2.2.2.2.2.1 s.2.2.2.2.2.2.2.2.2.2.2.1 c.1 c.2.1 c.2.2.1 c.2.2.2.1.1 c.2.2.2.1.2.1 c.2.2.2.2.1.1 c.2.2.2.2.1.2.1 c.2.2.2.2.2.1 c.2.2.2.2.2.2.1 c.2.2.2.2.2.2.2.1 c.2.2.2.2.2.2.2.2.1 c.2.2.2.2.2.2.2.2.2.1 c.2.2.2.2.2.2.2.2.2.2.1 c.2.2.2.2.2.2.2.2.2.2.2.1 0 [] [] [] v1) fun v2 => 
 W.cnd (v2.1 != 0) (some (s, ((v2.1, ([], ([], ([], ())))), ())))
  (some ((v2.2.1, (v2.2.2.1, (v2.2.2.2.1, (v2.2.2.2.2.1, (v2.2.2.2.2.2.1, (v2.2.2.2.2.2.2.1, (v2.2.2.2.2.2.2.2.1, (v2.2.2.2.2.2.2.2.2.1, (v2.2.2.2.2.2.2.2.2.2.1, (v2.2.2.2.2.2.2.2.2.2.2.1, (v2.2.2.2.2.2.2.2.2.2.2.2.1, (v2.2.2.2.2.2.2.2.2.2.2.2.2.1, ())))))))))))), (v2.2.2.2.2.2.2.2.2.2.2.2.2.2.2.2.2.2.2.2.2.2.2.2.2.2.2.2, ())))
def rules_Apply_k := kes kp 24 (.p2 tAState tACommand) (.p2 (.v tAState) (.v tAReply)) (fun W x => rules_ApplyW W x.1 x.2.1) [cmd_Check_k,rules_first_k] [(5,[2,3],(oX 10 [8,9]))] [] [] Tryz.func24 rfl (h:=fun W x=>by kernel_rfl)
def rules_ChangesW (W : Wd) (op : Int) : Option Bool := 
 W.cnd (decide (1 ≤ op)) (some (decide (op ≤ 25)))
  (some false)
def rules_Changes_k := kes kp 25 (.p1 (.int .i64)) .b (fun W x => rules_ChangesW W x.1) [] [] [] [] Tryz.func25 rfl (h:=fun W x=>by kernel_rfl)
def drive_Drive_ok2W (W : Wd) (d0 : Bool) (d1 : Bool) (d2 : Int) (d3 : List Int) (d4 : List DriveCell') (d5 : Int) : Option (Bool × (Bool × Bool × Int × (List Int) × (List DriveCell') × Int × Unit)) := W.nilq (List.isEmpty d4) fun g1 => some ((Go.Vc.notIf true g1), (d0, (d1, (d2, (d3, (d4, (d5, ())))))))
def drive_Drive_ok2_k := kls kp 136 [⟨45,[.b,.b,.i,.v (.slc (.int .i64)),.row 328 tDriveCell,.i]⟩] [.ptr 0] [⟨45,[.b,.b,.i,.v (.slc (.int .i64)),.row 328 tDriveCell,.i]⟩] .b (fun W x => drive_Drive_ok2W W x.1 x.2.1 x.2.2.1 x.2.2.2.1 x.2.2.2.2.1 x.2.2.2.2.2.1) [] [] [] [] Tryz.func136 rfl (h:=fun W x=>by kernel_rfl)
def drive_Drive_Size2W (W : Wd) (d0 : Bool) (d1 : Bool) (d2 : Int) (d3 : List Int) (d4 : List DriveCell') (d5 : Int) : Option (Int × (Bool × Bool × Int × (List Int) × (List DriveCell') × Int × Unit)) := W.call (drive_Drive_ok2W W d0 d1 d2 d3 d4 d5) fun v1 => 
 W.cnd (!v1.1) (some (0, v1.2))
  (some ((v1.2.2.2.2.2.1.length : Int), v1.2))
def drive_Drive_Size2_k := kls kp 77 [⟨45,[.b,.b,.i,.v (.slc (.int .i64)),.row 328 tDriveCell,.i]⟩] [.ptr 0] [⟨45,[.b,.b,.i,.v (.slc (.int .i64)),.row 328 tDriveCell,.i]⟩] .i (fun W x => drive_Drive_Size2W W x.1 x.2.1 x.2.2.1 x.2.2.2.1 x.2.2.2.2.1 x.2.2.2.2.2.1) [drive_Drive_ok2_k] [] [] [] Tryz.func77 rfl (h:=fun W x=>by kernel_rfl)
def scroll_withinW (W : Wd) (d0 : Bool) (d1 : Bool) (d2 : Int) (d3 : List Int) (d4 : List DriveCell') (d5 : Int) (from_ : Int) (to_ : Int) : Option (Bool × (Bool × Bool × Int × (List Int) × (List DriveCell') × Int × Unit)) := 
 W.cnd (decide (0 ≤ from_)) (
  W.cnd (decide (from_ ≤ to_)) (W.call (drive_Drive_Size2W W d0 d1 d2 d3 d4 d5) fun v1 => some ((decide (to_ ≤ v1.1)), v1.2))
   (some (false, (d0, (d1, (d2, (d3, (d4, (d5, ())))))))))
  (some (false, (d0, (d1, (d2, (d3, (d4, (d5, ()))))))))
def scroll_within_k := kls kp 154 [⟨45,[.b,.b,.i,.v (.slc (.int .i64)),.row 328 tDriveCell,.i]⟩] [.ptr 0,.i,.i] [⟨45,[.b,.b,.i,.v (.slc (.int .i64)),.row 328 tDriveCell,.i]⟩] .b (fun W x => scroll_withinW W x.1 x.2.1 x.2.2.1 x.2.2.2.1 x.2.2.2.2.1 x.2.2.2.2.2.1 x.2.2.2.2.2.2.1 x.2.2.2.2.2.2.2.1) [drive_Drive_Size2_k] [] [] [] Tryz.func154 rfl (h:=fun W x=>by kernel_rfl)
def crc_MoreW (W : Wd) (c : Int) (b : List Int) : Option Int := 
 W.loop (fun (z1 : Int × Int × Unit) again2 => 
  W.cnd (decide (z1.2.1 < (b.length : Int))) (W.idx b z1.2.1 fun x3 => W.nn 16 (
   W.loop (fun (z4 : Int × Int × Unit) again5 => 
    W.cnd (decide (z4.2.1 < 8)) (
     W.join (fun (z6 : Int × Unit) => (again5 (z6.1, ((IntKind.i64.wrap (z4.2.1 + 1)), ()))))
      fun k7 => W.nn 1 (
      W.cnd (decide (16777215 < (IntKind.u32.wrap (z4.1 * (2 ^ (Min.min (Int.toNat 1) (Go.IntKind.bits Go.IntKind.u32))))))) ((k7 ((Go.bits Go.BinOp.xor Go.IntKind.u32 (IntKind.u32.wrap (z4.1 * (2 ^ (Min.min (Int.toNat 1) (Go.IntKind.bits Go.IntKind.u32))))) 25578747), ())))
       ((k7 ((IntKind.u32.wrap (z4.1 * (2 ^ (Min.min (Int.toNat 1) (Go.IntKind.bits Go.IntKind.u32))))), ())))))
     ((again2 (z4.1, ((IntKind.i64.wrap (z1.2.1 + 1)), ())))))
    ((Go.bits Go.BinOp.xor Go.IntKind.u32 z1.1 (IntKind.u32.wrap ((IntKind.u32.wrap x3) * (2 ^ (Min.min (Int.toNat 16) (Go.IntKind.bits Go.IntKind.u32)))))), (0, ()))))
   (some z1.1))
  ((Go.bits Go.BinOp.and Go.IntKind.u32 c 16777215), (0, ()))
def crc_More_k := kes kp 499 (.p2 (.int .u32) (.slc (.int .u8))) (.v (.int .u32)) (fun W x => crc_MoreW W x.1 x.2.1) [] [] [(11,⟨[(0,.t (.int .u32))],[],[]⟩)] [(3,⟨[(0,.t (.int .u32)),(11,.i)],[],[]⟩),(7,⟨[(0,.t (.int .u32)),(20,.i)],[],[]⟩)] Tryz.func499 rfl (h:=fun W x=>by kernel_rfl)
def crc_OfW (W : Wd) (b : List Int) : Option Int := W.call (crc_MoreW W 11994318 b) fun v1 => some v1
def crc_Of_k := kes kp 422 (.p1 (.slc (.int .u8))) (.v (.int .u32)) (fun W x => crc_OfW W x.1) [crc_More_k] [] [] [] Tryz.func422 rfl (h:=fun W x=>by kernel_rfl)
def slices_Concatbyte_byteW (W : Wd) (slices : List (List Int)) : Option (List Int) := 
 W.loop (fun (z1 : Int × Int × Unit) again2 => 
  W.cnd (decide (z1.2.1 < (slices.length : Int))) (W.idx slices z1.2.1 fun x3 => 
   W.cnd (decide ((IntKind.i64.wrap (z1.1 + (x3.length : Int))) < 0)) (none)
    ((again2 ((IntKind.i64.wrap (z1.1 + (x3.length : Int))), ((IntKind.i64.wrap (z1.2.1 + 1)), ())))))
   (W.call (growb [] z1.1) fun v4 => 
   W.loop (fun (z5 : Int × List (Int) × Unit) again6 => 
    W.cnd (decide (z5.1 < (slices.length : Int))) (W.idx slices z5.1 fun x7 => W.room (z5.2.1.length + x7.length) 1 ((again6 ((IntKind.i64.wrap (z5.1 + 1)), ((z5.2.1 ++ x7), ())))))
     (some z5.2.1))
    (0, v4)))
  (0, (0, ()))
def slices_Concatbyte_byte_k := kes kp 333 (.p1 (.slc (.slc (.int .u8)))) (.own 5 (.int .u8)) (fun W x => slices_Concatbyte_byteW W x.1) [growb_k] [] [] [(3,⟨[(3,.i),(11,.i)],[],[]⟩),(11,⟨[(6,.row 0),(27,.i)],[],[.own 5 (.int .u8)]⟩)] Tryz.func333 rfl (h:=fun W x=>by kernel_rfl)
def crc_SealW (W : Wd) (b : List Int) : Option (List Int) := W.call (crc_OfW W b) fun v1 => W.nn 16 (W.nn 8 (W.call (slices_Concatbyte_byteW W (b :: (((IntKind.u8.wrap (Int.fdiv v1 (2 ^ (Min.min (Int.toNat 16) (Go.IntKind.bits Go.IntKind.u32))))) :: ((IntKind.u8.wrap (Int.fdiv v1 (2 ^ (Min.min (Int.toNat 8) (Go.IntKind.bits Go.IntKind.u32))))) :: ((IntKind.u8.wrap v1) :: []))) :: []))) fun v2 => some v2))
def crc_Seal_k := kes kp 344 (.p1 (.slc (.int .u8))) (.own 5 (.int .u8)) (fun W x => crc_SealW W x.1) [crc_Of_k,slices_Concatbyte_byte_k] [] [] [] Tryz.func344 rfl (h:=fun W x=>by kernel_rfl)
def bytes_EqualW (_ : Wd) (a : List Int) (b : List Int) : Option Bool := some (Go.Vc.notIf false ((Go.Vc.strOf a).toList == (Go.Vc.strOf b).toList))
def bytes_Equal_k := kes kp 60 (.p2 (.slc (.int .u8)) (.slc (.int .u8))) .b (fun W x => bytes_EqualW W x.1 x.2.1) [] [] [] [] Tryz.func60 rfl (h:=fun W x=>by kernel_rfl)
def crc_OpenW (W : Wd) (b : List Int) : Option ((List Int) × Bool × Unit) := 
 W.cnd (decide ((b.length : Int) < 3)) (some ([], (false, ())))
  (W.bnd (IntKind.i64.wrap ((b.length : Int) - 3)) b.length fun h1 => W.call (slices_Clonebyte_byteW W (b.take h1)) fun v2 => W.call (crc_SealW W v2) fun v3 => W.call (bytes_EqualW W v3 b) fun v4 => some (v2, (v4, ())))
def crc_Open_k := kes kp 330 (.p1 (.slc (.int .u8))) (.p2 (.v (.slc (.int .u8))) .b) (fun W x => crc_OpenW W x.1) [slices_Clonebyte_byte_k,crc_Seal_k,bytes_Equal_k] [] [] [] Tryz.func330 rfl (h:=fun W x=>by kernel_rfl)
def frame_getW (W : Wd) (b : List Int) : Option Int := 
 W.loop (fun (z1 : Int × Int × Unit) again2 => 
  W.cnd (decide (z1.2.1 < (b.length : Int))) (W.idx b z1.2.1 fun x3 => W.nn 8 ((again2 ((Go.bits Go.BinOp.or Go.IntKind.i64 (IntKind.i64.wrap (z1.1 * (2 ^ (Min.min (Int.toNat 8) (Go.IntKind.bits Go.IntKind.i64))))) (IntKind.i64.wrap x3)), ((IntKind.i64.wrap (z1.2.1 + 1)), ())))))
   (some z1.1))
  (0, (0, ()))
def frame_get_k := kes kp 331 (.p1 (.slc (.int .u8))) .i (fun W x => frame_getW W x.1) [] [] [] [(3,⟨[(3,.i),(8,.i)],[],[]⟩)] Tryz.func331 rfl (h:=fun W x=>by kernel_rfl)
def bytes_CloneW (W : Wd) (b : List Int) : Option (List Int) := W.nilq (List.isEmpty b) fun g1 => 
 W.cnd (Go.Vc.notIf false g1) (some [])
  (W.room ((0 : Nat) + b.length) 1 (some ([] ++ b)))
def bytes_Clone_k := kes kp 82 (.p1 (.slc (.int .u8))) (.own 5 (.int .u8)) (fun W x => bytes_CloneW W x.1) [] [] [] [] Tryz.func82 rfl (h:=fun W x=>by kernel_rfl)
def frame_Frame_rightW (W : Wd) (f : FrameFrame') : Option Bool := 
 W.join (fun (z1 : Bool × Unit) => 
  W.cnd z1.1 (
   W.cnd (decide (1 ≤ f.2.2.2.2.1)) (
    W.cnd (decide (f.2.2.2.2.1 ≤ 255)) (
     W.cnd (decide (0 ≤ f.2.2.2.1)) (
      W.cnd (decide (f.2.2.2.1 < f.2.2.2.2.1)) (some (decide ((f.2.2.2.2.2.1.length : Int) ≤ 80)))
       (some false))
      (some false))
     (some false))
    (some false))
   (some false))
  fun k2 => 
  W.cnd (decide (1 ≤ f.1)) (
   W.cnd (decide (f.1 ≤ 16777215)) (
    W.cnd (decide (0 ≤ f.2.1)) (
     W.cnd (decide (f.2.1 ≤ 16777215)) (
      W.cnd (decide (1 ≤ f.2.2.1)) ((k2 ((decide (f.2.2.1 ≤ 4294967295)), ())))
       ((k2 (false, ()))))
      ((k2 (false, ()))))
     ((k2 (false, ()))))
    ((k2 (false, ()))))
   ((k2 (false, ())))
def frame_Frame_right_k := kes kp 342 (.p1 tFrameFrame) .b (fun W x => frame_Frame_rightW W x.1) [] [] [(2,⟨[(3,.b)],[],[]⟩)] [] Tryz.func342 rfl (h:=fun W x=>by kernel_rfl)
def frame_putW (W : Wd) (b : List Int) (n : Int) (size : Int) : Option ((List Int) × Unit) := 
 W.loop (fun (z1 : Int × List (Int) × Unit) again2 => 
  W.cnd (decide (0 ≤ z1.1)) (W.nn (IntKind.i64.wrap (8 * z1.1)) (W.room (z1.2.1.length + ((IntKind.u8.wrap (Int.fdiv n (2 ^ (Min.min (Int.toNat (IntKind.i64.wrap (8 * z1.1))) (Go.IntKind.bits Go.IntKind.i64))))) :: []).length) 1 ((again2 ((IntKind.i64.wrap (z1.1 - 1)), ((z1.2.1 ++ ((IntKind.u8.wrap (Int.fdiv n (2 ^ (Min.min (Int.toNat (IntKind.i64.wrap (8 * z1.1))) (Go.IntKind.bits Go.IntKind.i64))))) :: [])), ()))))))
   (some z1.2))
  ((IntKind.i64.wrap (size - 1)), (b, ()))
def frame_put_k := kls kp 343 [] [.row 5 (.int .u8),.i,.i] [] (.own 5 (.int .u8)) (fun W x => frame_putW W x.1 x.2.1 x.2.2.1) [] [] [] [(2,⟨[(0,.row 0),(7,.i)],[],[.own 5 (.int .u8)]⟩)] Tryz.func343 rfl (h:=fun W x=>by kernel_rfl)
def frame_EncodeW (W : Wd) (f : FrameFrame') : Option ((List Int) × Int × Unit) := W.call (frame_Frame_rightW W f) fun v1 => 
 W.cnd (!v1) (some ([], (2, ())))
  (W.call (frame_putW W [] f.1 3) fun v2 => W.call (frame_putW W v2.1 f.2.1 3) fun v3 => W.call (frame_putW W v3.1 f.2.2.1 4) fun v4 => W.room (v4.1.length + ((IntKind.u8.wrap f.2.2.2.1) :: ((IntKind.u8.wrap f.2.2.2.2.1) :: ((IntKind.u8.wrap (f.2.2.2.2.2.1.length : Int)) :: []))).length) 1 (W.room ((v4.1 ++ ((IntKind.u8.wrap f.2.2.2.1) :: ((IntKind.u8.wrap f.2.2.2.2.1) :: ((IntKind.u8.wrap (f.2.2.2.2.2.1.length : Int)) :: [])))).length + f.2.2.2.2.2.1.length) 1 (W.nn (IntKind.i64.wrap (93 - (((v4.1 ++ ((IntKind.u8.wrap f.2.2.2.1) :: ((IntKind.u8.wrap f.2.2.2.2.1) :: ((IntKind.u8.wrap (f.2.2.2.2.2.1.length : Int)) :: [])))) ++ f.2.2.2.2.2.1).length : Int))) (W.room (((v4.1 ++ ((IntKind.u8.wrap f.2.2.2.1) :: ((IntKind.u8.wrap f.2.2.2.2.1) :: ((IntKind.u8.wrap (f.2.2.2.2.2.1.length : Int)) :: [])))) ++ f.2.2.2.2.2.1).length + (IntKind.i64.wrap (93 - (((v4.1 ++ ((IntKind.u8.wrap f.2.2.2.1) :: ((IntKind.u8.wrap f.2.2.2.2.1) :: ((IntKind.u8.wrap (f.2.2.2.2.2.1.length : Int)) :: [])))) ++ f.2.2.2.2.2.1).length : Int))).toNat) 1 (W.call (crc_SealW W (((v4.1 ++ ((IntKind.u8.wrap f.2.2.2.1) :: ((IntKind.u8.wrap f.2.2.2.2.1) :: ((IntKind.u8.wrap (f.2.2.2.2.2.1.length : Int)) :: [])))) ++ f.2.2.2.2.2.1) ++ List.replicate (IntKind.i64.wrap (93 - (((v4.1 ++ ((IntKind.u8.wrap f.2.2.2.1) :: ((IntKind.u8.wrap f.2.2.2.2.1) :: ((IntKind.u8.wrap (f.2.2.2.2.2.1.length : Int)) :: [])))) ++ f.2.2.2.2.2.1).length : Int))).toNat 0)) fun v5 => some (v5, (0, ())))))))
def frame_Encode_k := kes kp 252 (.p1 tFrameFrame) (.p2 (.own 5 (.int .u8)) .i) (fun W x => frame_EncodeW W x.1) [frame_Frame_right_k,frame_put_k,crc_Seal_k] [(3,[],(oN [1,3,7,9,13,15,4,10,16,19]))] [] [] Tryz.func252 rfl (h:=fun W x=>by kernel_rfl)
def frame_DecodeW (W : Wd) (b : List Int) : Option (FrameFrame' × Int × Unit) := W.call (crc_OpenW W b) fun v1 => 
 W.join (fun (z2 : Bool × Unit) => 
  W.cnd z2.1 (some ((0, (0, (0, (0, (0, ([], ())))))), (3, ())))
   (W.bnd 3 v1.1.length fun h3 => W.bnd 6 v1.1.length fun h4 => W.bnd 3 h4 fun h5 => W.bnd 10 v1.1.length fun h6 => W.bnd 6 h6 fun h7 => W.idx v1.1 10 fun x8 => W.idx v1.1 11 fun x9 => W.both (W.call (frame_getW W (v1.1.take h3)) fun v10 => W.both (W.call (frame_getW W ((v1.1.take h4).drop h5)) fun v11 => W.both (W.call (frame_getW W ((v1.1.take h6).drop h7)) fun v12 => W.idx v1.1 12 fun x13 => W.bnd (IntKind.i64.wrap (13 + (IntKind.i64.wrap x13))) v1.1.length fun h14 => W.bnd 13 h14 fun h15 => W.call (bytes_CloneW W ((v1.1.take h14).drop h15)) fun v16 => W.call (frame_EncodeW W (v10, (v11, (v12, ((IntKind.i64.wrap x8), ((IntKind.i64.wrap x9), (v16, ()))))))) fun v17 => 
      W.join (fun (z18 : Bool × Int × Int × Int × Int × Int × List (Int) × Unit) => 
       W.cnd z18.1 (some ((0, (0, (0, (0, (0, ([], ())))))), (3, ())))
        (some (z18.2, (0, ()))))
       fun k19 => 
       W.cnd (v17.2.1 != 0) ((k19 (true, (v10, (v11, (v12, ((IntKind.i64.wrap x8), ((IntKind.i64.wrap x9), (v16, ())))))))))
        (W.call (bytes_EqualW W v17.1 b) fun v20 => (k19 ((!v20), (v10, (v11, (v12, ((IntKind.i64.wrap x8), ((IntKind.i64.wrap x9), (v16, ())))))))))) (W.call (frame_getW W ((v1.1.take h6).drop h7)) fun v21 => W.idx v1.1 12 fun x22 => W.bnd (IntKind.i64.wrap (13 + (IntKind.i64.wrap x22))) v1.1.length fun h23 => W.bnd 13 h23 fun h24 => W.call (bytes_CloneW W ((v1.1.take h23).drop h24)) fun v25 => W.call (frame_EncodeW W (v10, (v11, (v21, ((IntKind.i64.wrap x8), ((IntKind.i64.wrap x9), (v25, ()))))))) fun v26 => 
      W.join (fun (z27 : Bool × Int × Int × Int × Int × Int × List (Int) × Unit) => 
       W.cnd z27.1 (some ((0, (0, (0, (0, (0, ([], ())))))), (3, ())))
        (some (z27.2, (0, ()))))
       fun k28 => 
       W.cnd (v26.2.1 != 0) ((k28 (true, (v10, (v11, (v21, ((IntKind.i64.wrap x8), ((IntKind.i64.wrap x9), (v25, ())))))))))
        (W.call (bytes_EqualW W v26.1 b) fun v29 => (k28 ((!v29), (v10, (v11, (v21, ((IntKind.i64.wrap x8), ((IntKind.i64.wrap x9), (v25, ()))))))))))) (W.call (frame_getW W ((v1.1.take h4).drop h5)) fun v30 => W.call (frame_getW W ((v1.1.take h6).drop h7)) fun v31 => W.idx v1.1 12 fun x32 => W.bnd (IntKind.i64.wrap (13 + (IntKind.i64.wrap x32))) v1.1.length fun h33 => W.bnd 13 h33 fun h34 => W.call (bytes_CloneW W ((v1.1.take h33).drop h34)) fun v35 => W.call (frame_EncodeW W (v10, (v30, (v31, ((IntKind.i64.wrap x8), ((IntKind.i64.wrap x9), (v35, ()))))))) fun v36 => 
     W.join (fun (z37 : Bool × Int × Int × Int × Int × Int × List (Int) × Unit) => 
      W.cnd z37.1 (some ((0, (0, (0, (0, (0, ([], ())))))), (3, ())))
       (some (z37.2, (0, ()))))
      fun k38 => 
      W.cnd (v36.2.1 != 0) ((k38 (true, (v10, (v30, (v31, ((IntKind.i64.wrap x8), ((IntKind.i64.wrap x9), (v35, ())))))))))
       (W.call (bytes_EqualW W v36.1 b) fun v39 => (k38 ((!v39), (v10, (v30, (v31, ((IntKind.i64.wrap x8), ((IntKind.i64.wrap x9), (v35, ()))))))))))) (W.call (frame_getW W (v1.1.take h3)) fun v40 => W.call (frame_getW W ((v1.1.take h4).drop h5)) fun v41 => W.call (frame_getW W ((v1.1.take h6).drop h7)) fun v42 => W.idx v1.1 12 fun x43 => W.bnd (IntKind.i64.wrap (13 + (IntKind.i64.wrap x43))) v1.1.length fun h44 => W.bnd 13 h44 fun h45 => W.call (bytes_CloneW W ((v1.1.take h44).drop h45)) fun v46 => W.call (frame_EncodeW W (v40, (v41, (v42, ((IntKind.i64.wrap x8), ((IntKind.i64.wrap x9), (v46, ()))))))) fun v47 => 
    W.join (fun (z48 : Bool × Int × Int × Int × Int × Int × List (Int) × Unit) => 
     W.cnd z48.1 (some ((0, (0, (0, (0, (0, ([], ())))))), (3, ())))
      (some (z48.2, (0, ()))))
     fun k49 => 
     W.cnd (v47.2.1 != 0) ((k49 (true, (v40, (v41, (v42, ((IntKind.i64.wrap x8), ((IntKind.i64.wrap x9), (v46, ())))))))))
      (W.call (bytes_EqualW W v47.1 b) fun v50 => (k49 ((!v50), (v40, (v41, (v42, ((IntKind.i64.wrap x8), ((IntKind.i64.wrap x9), (v46, ()))))))))))))
  fun k51 => 
  W.cnd (!v1.2.1) ((k51 (true, ())))
   (
   W.cnd ((v1.1.length : Int) != 93) ((k51 (true, ())))
    (W.idx v1.1 12 fun x52 => (k51 ((decide (80 < x52)), ()))))
def frame_Decode_k := kes kp 233 (.p1 (.slc (.int .u8))) (.p2 (.v tFrameFrame) .i) (fun W x => frame_DecodeW W x.1) [crc_Open_k,frame_get_k,bytes_Clone_k,frame_Encode_k,bytes_Equal_k] [(4,[],(.rd 0 (.rd 1 (.rd 3 (.rd 4 (.rd 6 (.rd 7 (.rd 9 (.rd 10 (.rd 11 (.rd 12 (.rd 13 (.rd 14 (.rd 15 (.rd 16 (.two 2 18 (.two 5 18 (.two 8 18 (oN [35,36,38]) (oN [16,35,38])) (oN [10,16,35,38])) (oN [4,10,16,35,38])))))))))))))))))] [(500026,⟨[(26,.b)],[],[]⟩),(500067,⟨[(67,.b)],[(1,[.i,.i,.i,.i,.i,.row 0])],[.own 5 (.int .u8)]⟩)] [] Tryz.func233 rfl (h:=fun W x=>by kernel_rfl)
def still_checkW (W : Wd) (d0 : Bool) (d1 : Bool) (d2 : Int) (d3 : List Int) (d4 : List DriveCell') (d5 : Int) (at_ : Int) (each : Int) : Option (Int × (Bool × Bool × Int × (List Int) × (List DriveCell') × Int × Unit)) := W.call (drive_Drive_Size2W W d0 d1 d2 d3 d4 d5) fun v1 => 
 W.cnd (v1.1 == 0) (some (1, v1.2))
  (
  W.join (fun (z2 : Bool × Bool × Bool × Int × List (Int) × Int × List (Int × Int × Int × Int × Int × Int × Int × Int × Int × Int × Int × Int × Int × Int × Int × Int × Int × Int × Int × Int × Int × Int × Int × Int × Int × Int × Int × Int × Int × Int × Int × Int × Int × Int × Int × Int × Int × Int × Int × Int × Int × Int × Int × Int × Int × Int × Int × Int × Int × Int × Int × _ × _) × Unit) => 
   W.cnd z2.1 (some (2, (z2.2.1, (z2.2.2.1, (z2.2.2.2.1, (z2.2.2.2.2.1, (z2.2.2.2.2.2.2.1, (z2.2.2.2.2.2.1, ()))))))))
    (some (0, (z2.2.1, (z2.2.2.1, (z2.2.2.2.1, (z2.2.2.2.2.1, (z2.2.2.2.2.2.2.1, (z2.2.2.2.2.2.1, ())))))))))
   fun k3 => 
   W.cnd (decide (at_ < 0)) ((k3 (true, (v1.2.1, (v1.2.2.1, (v1.2.2.2.1, (v1.2.2.2.2.1, (v1.2.2.2.2.2.2.1, (v1.2.2.2.2.2.1, ())))))))))
    (
    W.cnd (decide (each < 1)) ((k3 (true, (v1.2.1, (v1.2.2.1, (v1.2.2.2.1, (v1.2.2.2.2.1, (v1.2.2.2.2.2.2.1, (v1.2.2.2.2.2.1, ())))))))))
     (W.call (drive_Drive_Size2W W v1.2.1 v1.2.2.1 v1.2.2.2.1 v1.2.2.2.2.1 v1.2.2.2.2.2.1 v1.2.2.2.2.2.2.1) fun v4 => 
     W.cnd (decide (v4.1 < each)) ((k3 (true, (v4.2.1, (v4.2.2.1, (v4.2.2.2.1, (v4.2.2.2.2.1, (v4.2.2.2.2.2.2.1, (v4.2.2.2.2.2.1, ())))))))))
      (W.call (drive_Drive_Size2W W v4.2.1 v4.2.2.1 v4.2.2.2.1 v4.2.2.2.2.1 v4.2.2.2.2.2.1 v4.2.2.2.2.2.2.1) fun v5 => (k3 ((decide ((IntKind.i64.wrap (v5.1 - (IntKind.i64.wrap (2 * each)))) < at_)), (v5.2.1, (v5.2.2.1, (v5.2.2.2.1, (v5.2.2.2.2.1, (v5.2.2.2.2.2.2.1, (v5.2.2.2.2.2.1, ()))))))))))))
def still_check_k := kls kp 156 [⟨45,[.b,.b,.i,.v (.slc (.int .i64)),.row 328 tDriveCell,.i]⟩] [.ptr 0,.i,.i] [⟨45,[.b,.b,.i,.v (.slc (.int .i64)),.row 328 tDriveCell,.i]⟩] .i (fun W x => still_checkW W x.1 x.2.1 x.2.2.1 x.2.2.2.1 x.2.2.2.2.1 x.2.2.2.2.2.1 x.2.2.2.2.2.2.1 x.2.2.2.2.2.2.2.1) [drive_Drive_Size2_k] [] [(500011,⟨[(11,.b)],[(0,[.b,.b,.i,.t (.slc (.int .i64)),.row 0,.i])],[.own 328 tDriveCell]⟩)] [] Tryz.func156 rfl (h:=fun W x=>by kernel_rfl)
def frame_Frame_stampW (_ : Wd) (f : FrameFrame') : Option AMember' := some (f.1, (f.2.1, (f.2.2.1, (f.2.2.2.2.1, ()))))
def frame_Frame_stamp_k := kes kp 417 (.p1 tFrameFrame) (.v tAMember) (fun W x => frame_Frame_stampW W x.1) [] [] [] [] Tryz.func417 rfl (h:=fun W x=>by kernel_rfl)
def frame_Frame_fitsW (W : Wd) (f : FrameFrame') (first : FrameFrame') (at_ : Int) : Option Bool := W.call (frame_Frame_stampW W f) fun v1 => W.call (frame_Frame_stampW W first) fun v2 => 
 W.cnd (Go.Vc.notIf false ((v1.1 == v2.1) && ((v1.2.1 == v2.2.1) && ((v1.2.2.1 == v2.2.2.1) && (v1.2.2.2.1 == v2.2.2.2.1))))) (
  W.cnd (f.2.2.2.1 == at_) (W.call (frame_Frame_rightW W f) fun v3 => 
   W.cnd v3 (
    W.cnd (at_ == (IntKind.i64.wrap (f.2.2.2.2.1 - 1))) (some true)
     (some ((f.2.2.2.2.2.1.length : Int) == 80)))
    (some false))
   (some false))
  (some false)
def frame_Frame_fits_k := kes kp 332 (.p3 tFrameFrame tFrameFrame (.int .i64)) .b (fun W x => frame_Frame_fitsW W x.1 x.2.1 x.2.2.1) [frame_Frame_stamp_k,frame_Frame_right_k] [(1,[],(oN [1,5,2,6,9,11,13,17,14,19,21,23,24,26,29,31,33,35,36,39,41,43,45,46,49,51,53,55,57]))] [] [] Tryz.func332 rfl (h:=fun W x=>by kernel_rfl)
def frame_JoinW (W : Wd) (l : List FrameFrame') : Option ((List Int) × Bool × Unit) := 
 W.join (fun (z1 : Bool × Unit) => 
  W.cnd z1.1 (some ([], (false, ())))
   (
   W.loop (fun (z2 : Int × List (List (Int)) × Unit) again3 => 
    W.cnd (decide (z2.1 < (l.length : Int))) (W.idx l z2.1 fun x4 => W.idx l 0 fun x5 => W.call (frame_Frame_fitsW W x4 x5 z2.1) fun v6 => 
     W.cnd (!v6) (some ([], (false, ())))
      (W.room (z2.2.1.length + (x4.2.2.2.2.2.1 :: []).length) 24 ((again3 ((IntKind.i64.wrap (z2.1 + 1)), ((z2.2.1 ++ (x4.2.2.2.2.2.1 :: [])), ()))))))
     (W.call (slices_Concatbyte_byteW W z2.2.1) fun v7 => some (v7, (true, ()))))
    (0, ([], ()))))
  fun k8 => 
  W.cnd ((l.length : Int) == 0) ((k8 (true, ())))
   (W.idx l 0 fun x9 => (k8 (((l.length : Int) != x9.2.2.2.2.1), ())))
def frame_Join_k := kes kp 235 (.p1 (.slc tFrameFrame)) (.p2 (.own 5 (.int .u8)) .b) (fun W x => frame_JoinW W x.1) [frame_Frame_fits_k,slices_Concatbyte_byte_k] [(7,[],(oX 7 [5]))] [(500018,⟨[(18,.b)],[],[]⟩)] [(5,⟨[(4,.row 1),(21,.i)],[],[.dead,.own 22 (.slc (.int .u8))]⟩)] Tryz.func235 rfl (h:=fun W x=>by kernel_rfl)
def scroll_Scroll_nextW (W : Wd) (s1 : Int) (s2 : Int) (s3 : Int) (s4 : Int) (s5 : Int) (s6 : Int) (s7 : List (List Int)) (s8 : Bool) (s0_0 : Bool) (s0_1 : Bool) (s0_2 : Int) (s0_3 : List Int) (s0_4 : List DriveCell') (s0_5 : Int) (f : FrameFrame') : Option (Bool × (Int × Int × Int × Int × Int × Int × (List (List Int)) × Bool × Bool × Bool × Int × (List Int) × (List DriveCell') × Int × Unit)) := 
 W.cnd (f.2.1 == s4) (
  W.cnd (f.2.2.1 == (IntKind.i64.wrap ((s7.length : Int) + 1))) (some ((decide (s5 ≤ f.1)), (s1, (s2, (s3, (s4, (s5, (s6, (s7, (s8, (s0_0, (s0_1, (s0_2, (s0_3, (s0_4, (s0_5, ()))))))))))))))))
   (some (false, (s1, (s2, (s3, (s4, (s5, (s6, (s7, (s8, (s0_0, (s0_1, (s0_2, (s0_3, (s0_4, (s0_5, ())))))))))))))))))
  (some (false, (s1, (s2, (s3, (s4, (s5, (s6, (s7, (s8, (s0_0, (s0_1, (s0_2, (s0_3, (s0_4, (s0_5, ()))))))))))))))))
def scroll_Scroll_next_k := kls kp 334 [⟨275,[.ptr 1,.i,.i,.i,.i,.i,.i,.row 22 (.slc (.int .u8)),.b]⟩,⟨45,[.b,.b,.i,.v (.slc (.int .i64)),.row 328 tDriveCell,.i]⟩] [.ptr 0,.v tFrameFrame] [⟨275,[.ptr 1,.i,.i,.i,.i,.i,.i,.row 22 (.slc (.int .u8)),.b]⟩,⟨45,[.b,.b,.i,.v (.slc (.int .i64)),.row 328 tDriveCell,.i]⟩] .b (fun W x => scroll_Scroll_nextW W x.1 x.2.1 x.2.2.1 x.2.2.2.1 x.2.2.2.2.1 x.2.2.2.2.2.1 x.2.2.2.2.2.2.1 x.2.2.2.2.2.2.2.1 x.2.2.2.2.2.2.2.2.1 x.2.2.2.2.2.2.2.2.2.1 x.2.2.2.2.2.2.2.2.2.2.1 x.2.2.2.2.2.2.2.2.2.2.2.1 x.2.2.2.2.2.2.2.2.2.2.2.2.1 x.2.2.2.2.2.2.2.2.2.2.2.2.2.1 x.2.2.2.2.2.2.2.2.2.2.2.2.2.2.1) [] [(1,[],(oI 28))] [] [] Tryz.func334 rfl (h:=fun W x=>by kernel_rfl)
def ledger_EmptyW (_ : Wd) : Option AState' := some (0, ([], ([], ([], ([], ([], ([], ([], ([], ([], ([], ([], ()))))))))))))
def ledger_Empty_k := kes kp 29 .unit (.v tAState) (fun W x => ledger_EmptyW W ) [] [] [] [] Tryz.func29 rfl (h:=fun W x=>by kernel_rfl)
def vault_Vault_okW (_ : Wd) (vp2 : Int) (vp3 : Int) (vp4 : Int) (vp5 : List Int) (vp6 : Bool) (vp0_1 : Int) (vp0_2 : Int) (vp0_3 : Int) (vp0_4 : Int) (vp0_5 : Int) (vp0_6 : Int) (vp0_7 : List (List Int)) (vp0_8 : Bool) (vp1_0 : Bool) (vp1_1 : Bool) (vp1_2 : Int) (vp1_3 : List Int) (vp1_4 : List DriveCell') (vp1_5 : Int) : Option (Bool × (Int × Int × Int × (List Int) × Bool × Int × Int × Int × Int × Int × Int × (List (List Int)) × Bool × Bool × Bool × Int × (List Int) × (List DriveCell') × Int × Unit)) := some (true, (vp2, (vp3, (vp4, (vp5, (vp6, (vp0_1, (vp0_2, (vp0_3, (vp0_4, (vp0_5, (vp0_6, (vp0_7, (vp0_8, (vp1_0, (vp1_1, (vp1_2, (vp1_3, (vp1_4, (vp1_5, ()))))))))))))))))))))
def vault_Vault_ok_k := kls kp 81 [⟨152,[.ptr 1,.ptr 2,.i,.i,.i,.v (.slc (.int .u8)),.b]⟩,⟨275,[.ptr 2,.i,.i,.i,.i,.i,.i,.row 22 (.slc (.int .u8)),.b]⟩,⟨45,[.b,.b,.i,.v (.slc (.int .i64)),.row 328 tDriveCell,.i]⟩] [.ptr 0] [⟨152,[.ptr 1,.ptr 2,.i,.i,.i,.v (.slc (.int .u8)),.b]⟩,⟨275,[.ptr 2,.i,.i,.i,.i,.i,.i,.row 22 (.slc (.int .u8)),.b]⟩,⟨45,[.b,.b,.i,.v (.slc (.int .i64)),.row 328 tDriveCell,.i]⟩] .b (fun W x => vault_Vault_okW W x.1 x.2.1 x.2.2.1 x.2.2.2.1 x.2.2.2.2.1 x.2.2.2.2.2.1 x.2.2.2.2.2.2.1 x.2.2.2.2.2.2.2.1 x.2.2.2.2.2.2.2.2.1 x.2.2.2.2.2.2.2.2.2.1 x.2.2.2.2.2.2.2.2.2.2.1 x.2.2.2.2.2.2.2.2.2.2.2.1 x.2.2.2.2.2.2.2.2.2.2.2.2.1 x.2.2.2.2.2.2.2.2.2.2.2.2.2.1 x.2.2.2.2.2.2.2.2.2.2.2.2.2.2.1 x.2.2.2.2.2.2.2.2.2.2.2.2.2.2.2.1 x.2.2.2.2.2.2.2.2.2.2.2.2.2.2.2.2.1 x.2.2.2.2.2.2.2.2.2.2.2.2.2.2.2.2.2.1 x.2.2.2.2.2.2.2.2.2.2.2.2.2.2.2.2.2.2.1) [] [] [] [] Tryz.func81 rfl (h:=fun W x=>by kernel_rfl)
def vault_Vault_StateW (W : Wd) (vp2 : Int) (vp3 : Int) (vp4 : Int) (vp5 : List Int) (vp6 : Bool) (vp0_1 : Int) (vp0_2 : Int) (vp0_3 : Int) (vp0_4 : Int) (vp0_5 : Int) (vp0_6 : Int) (vp0_7 : List (List Int)) (vp0_8 : Bool) (vp1_0 : Bool) (vp1_1 : Bool) (vp1_2 : Int) (vp1_3 : List Int) (vp1_4 : List DriveCell') (vp1_5 : Int) : Option (((List Int) × Bool × Unit) × (Int × Int × Int × (List Int) × Bool × Int × Int × Int × Int × Int × Int × (List (List Int)) × Bool × Bool × Bool × Int × (List Int) × (List DriveCell') × Int × Unit)) := W.call (vault_Vault_okW W vp2 vp3 vp4 vp5 vp6 vp0_1 vp0_2 vp0_3 vp0_4 vp0_5 vp0_6 vp0_7 vp0_8 vp1_0 vp1_1 vp1_2 vp1_3 vp1_4 vp1_5) fun v1 => 
 W.cnd (!v1.1) (some (([], (false, ())), v1.2))
  (W.call (bytes_CloneW W v1.2.2.2.2.1) fun v2 => some ((v2, ((decide (0 < v1.2.2.2.1)), ())), v1.2))
def vault_Vault_State_k := kls kp 30 [⟨152,[.ptr 1,.ptr 2,.i,.i,.i,.v (.slc (.int .u8)),.b]⟩,⟨275,[.ptr 2,.i,.i,.i,.i,.i,.i,.row 22 (.slc (.int .u8)),.b]⟩,⟨45,[.b,.b,.i,.v (.slc (.int .i64)),.row 328 tDriveCell,.i]⟩] [.ptr 0] [⟨152,[.ptr 1,.ptr 2,.i,.i,.i,.v (.slc (.int .u8)),.b]⟩,⟨275,[.ptr 2,.i,.i,.i,.i,.i,.i,.row 22 (.slc (.int .u8)),.b]⟩,⟨45,[.b,.b,.i,.v (.slc (.int .i64)),.row 328 tDriveCell,.i]⟩] (.p2 (.own 5 (.int .u8)) .b) (fun W x => vault_Vault_StateW W x.1 x.2.1 x.2.2.1 x.2.2.2.1 x.2.2.2.2.1 x.2.2.2.2.2.1 x.2.2.2.2.2.2.1 x.2.2.2.2.2.2.2.1 x.2.2.2.2.2.2.2.2.1 x.2.2.2.2.2.2.2.2.2.1 x.2.2.2.2.2.2.2.2.2.2.1 x.2.2.2.2.2.2.2.2.2.2.2.1 x.2.2.2.2.2.2.2.2.2.2.2.2.1 x.2.2.2.2.2.2.2.2.2.2.2.2.2.1 x.2.2.2.2.2.2.2.2.2.2.2.2.2.2.1 x.2.2.2.2.2.2.2.2.2.2.2.2.2.2.2.1 x.2.2.2.2.2.2.2.2.2.2.2.2.2.2.2.2.1 x.2.2.2.2.2.2.2.2.2.2.2.2.2.2.2.2.2.1 x.2.2.2.2.2.2.2.2.2.2.2.2.2.2.2.2.2.2.1) [vault_Vault_ok_k,bytes_Clone_k] [(3,[],(oN [1,3,5,7,11,13,15,17,19,8,21,23]))] [] [] Tryz.func30 rfl (h:=fun W x=>by kernel_rfl)
def scroll_Scroll_okW (_ : Wd) (s1 : Int) (s2 : Int) (s3 : Int) (s4 : Int) (s5 : Int) (s6 : Int) (s7 : List (List Int)) (s8 : Bool) (s0_0 : Bool) (s0_1 : Bool) (s0_2 : Int) (s0_3 : List Int) (s0_4 : List DriveCell') (s0_5 : Int) : Option (Bool × (Int × Int × Int × Int × Int × Int × (List (List Int)) × Bool × Bool × Bool × Int × (List Int) × (List DriveCell') × Int × Unit)) := some (true, (s1, (s2, (s3, (s4, (s5, (s6, (s7, (s8, (s0_0, (s0_1, (s0_2, (s0_3, (s0_4, (s0_5, ())))))))))))))))
def scroll_Scroll_ok_k := kls kp 186 [⟨275,[.ptr 1,.i,.i,.i,.i,.i,.i,.row 22 (.slc (.int .u8)),.b]⟩,⟨45,[.b,.b,.i,.v (.slc (.int .i64)),.row 328 tDriveCell,.i]⟩] [.ptr 0] [⟨275,[.ptr 1,.i,.i,.i,.i,.i,.i,.row 22 (.slc (.int .u8)),.b]⟩,⟨45,[.b,.b,.i,.v (.slc (.int .i64)),.row 328 tDriveCell,.i]⟩] .b (fun W x => scroll_Scroll_okW W x.1 x.2.1 x.2.2.1 x.2.2.2.1 x.2.2.2.2.1 x.2.2.2.2.2.1 x.2.2.2.2.2.2.1 x.2.2.2.2.2.2.2.1 x.2.2.2.2.2.2.2.2.1 x.2.2.2.2.2.2.2.2.2.1 x.2.2.2.2.2.2.2.2.2.2.1 x.2.2.2.2.2.2.2.2.2.2.2.1 x.2.2.2.2.2.2.2.2.2.2.2.2.1 x.2.2.2.2.2.2.2.2.2.2.2.2.2.1) [] [] [] [] Tryz.func186 rfl (h:=fun W x=>by kernel_rfl)
def scroll_Scroll_RecordsW (W : Wd) (s1 : Int) (s2 : Int) (s3 : Int) (s4 : Int) (s5 : Int) (s6 : Int) (s7 : List (List Int)) (s8 : Bool) (s0_0 : Bool) (s0_1 : Bool) (s0_2 : Int) (s0_3 : List Int) (s0_4 : List DriveCell') (s0_5 : Int) : Option ((List (List Int)) × (Int × Int × Int × Int × Int × Int × (List (List Int)) × Bool × Bool × Bool × Int × (List Int) × (List DriveCell') × Int × Unit)) := W.call (scroll_Scroll_okW W s1 s2 s3 s4 s5 s6 s7 s8 s0_0 s0_1 s0_2 s0_3 s0_4 s0_5) fun v1 => 
 W.cnd (!v1.1) (some ([], v1.2))
  (
  W.loop (fun (z2 : Int × Int × Int × Int × Int × Int × Int × Bool × Bool × Bool × Int × List (Int) × Int × List (List (Int)) × List (Int × Int × Int × Int × Int × Int × Int × Int × Int × Int × Int × Int × Int × Int × Int × Int × Int × Int × Int × Int × Int × Int × Int × Int × Int × Int × Int × Int × Int × Int × Int × Int × Int × Int × Int × Int × Int × Int × Int × Int × Int × Int × Int × _ × _) × List (List (Int)) × Unit) again3 => 
   W.cnd (decide (z2.1 < (v1.2.2.2.2.2.2.2.1.length : Int))) (W.idx z2.2.2.2.2.2.2.2.2.2.2.2.2.2.1 z2.1 fun _ => W.nth z2.2.2.2.2.2.2.2.2.2.2.2.2.2.1 (Int.toNat z2.1) fun x5 => W.call (bytes_CloneW W x5) fun v6 => W.room (z2.2.2.2.2.2.2.2.2.2.2.2.2.2.2.2.1.length + (v6 :: []).length) 24 ((again3 ((IntKind.i64.wrap (z2.1 + 1)), (z2.2.1, (z2.2.2.1, (z2.2.2.2.1, (z2.2.2.2.2.1, (z2.2.2.2.2.2.1, (z2.2.2.2.2.2.2.1, (z2.2.2.2.2.2.2.2.1, (z2.2.2.2.2.2.2.2.2.1, (z2.2.2.2.2.2.2.2.2.2.1, (z2.2.2.2.2.2.2.2.2.2.2.1, (z2.2.2.2.2.2.2.2.2.2.2.2.1, (z2.2.2.2.2.2.2.2.2.2.2.2.2.1, (z2.2.2.2.2.2.2.2.2.2.2.2.2.2.1, (z2.2.2.2.2.2.2.2.2.2.2.2.2.2.2.1, ((z2.2.2.2.2.2.2.2.2.2.2.2.2.2.2.2.1 ++ (v6 :: [])), ())))))))))))))))))))
    (some (z2.2.2.2.2.2.2.2.2.2.2.2.2.2.2.2.1, (z2.2.1, (z2.2.2.1, (z2.2.2.2.1, (z2.2.2.2.2.1, (z2.2.2.2.2.2.1, (z2.2.2.2.2.2.2.1, (z2.2.2.2.2.2.2.2.2.2.2.2.2.2.1, (z2.2.2.2.2.2.2.2.1, (z2.2.2.2.2.2.2.2.2.1, (z2.2.2.2.2.2.2.2.2.2.1, (z2.2.2.2.2.2.2.2.2.2.2.1, (z2.2.2.2.2.2.2.2.2.2.2.2.1, (z2.2.2.2.2.2.2.2.2.2.2.2.2.2.2.1, (z2.2.2.2.2.2.2.2.2.2.2.2.2.1, ())))))))))))))))))
   (0, (v1.2.1, (v1.2.2.1, (v1.2.2.2.1, (v1.2.2.2.2.1, (v1.2.2.2.2.2.1, (v1.2.2.2.2.2.2.1, (v1.2.2.2.2.2.2.2.2.1, (v1.2.2.2.2.2.2.2.2.2.1, (v1.2.2.2.2.2.2.2.2.2.2.1, (v1.2.2.2.2.2.2.2.2.2.2.2.1, (v1.2.2.2.2.2.2.2.2.2.2.2.2.1, (v1.2.2.2.2.2.2.2.2.2.2.2.2.2.2.1, (v1.2.2.2.2.2.2.2.1, (v1.2.2.2.2.2.2.2.2.2.2.2.2.2.1, ([], ())))))))))))))))))
def scroll_Scroll_Records_k := kls kp 97 [⟨275,[.ptr 1,.i,.i,.i,.i,.i,.i,.row 22 (.slc (.int .u8)),.b]⟩,⟨45,[.b,.b,.i,.v (.slc (.int .i64)),.row 328 tDriveCell,.i]⟩] [.ptr 0] [⟨275,[.ptr 1,.i,.i,.i,.i,.i,.i,.row 22 (.slc (.int .u8)),.b]⟩,⟨45,[.b,.b,.i,.v (.slc (.int .i64)),.row 328 tDriveCell,.i]⟩] (.own 22 (.slc (.int .u8))) (fun W x => scroll_Scroll_RecordsW W x.1 x.2.1 x.2.2.1 x.2.2.2.1 x.2.2.2.2.1 x.2.2.2.2.2.1 x.2.2.2.2.2.2.1 x.2.2.2.2.2.2.2.1 x.2.2.2.2.2.2.2.2.1 x.2.2.2.2.2.2.2.2.2.1 x.2.2.2.2.2.2.2.2.2.2.1 x.2.2.2.2.2.2.2.2.2.2.2.1 x.2.2.2.2.2.2.2.2.2.2.2.2.1 x.2.2.2.2.2.2.2.2.2.2.2.2.2.1) [scroll_Scroll_ok_k,bytes_Clone_k] [] [] [(5,⟨[(3,.row 4),(12,.row 0),(14,.i)],[(0,[.own 1 0,.i,.i,.i,.i,.i,.i,.row 0,.b]),(1,[.b,.b,.i,.t (.slc (.int .i64)),.row 1,.i])],[.own 22 (.slc (.int .u8)),.own 328 tDriveCell,.dead,.dead,.own 22 (.slc (.int .u8))]⟩)] Tryz.func97 rfl (h:=fun W x=>by kernel_rfl)
def vault_Vault_RecordsW (W : Wd) (vp2 : Int) (vp3 : Int) (vp4 : Int) (vp5 : List Int) (vp6 : Bool) (vp0_1 : Int) (vp0_2 : Int) (vp0_3 : Int) (vp0_4 : Int) (vp0_5 : Int) (vp0_6 : Int) (vp0_7 : List (List Int)) (vp0_8 : Bool) (vp1_0 : Bool) (vp1_1 : Bool) (vp1_2 : Int) (vp1_3 : List Int) (vp1_4 : List DriveCell') (vp1_5 : Int) : Option ((List (List Int)) × (Int × Int × Int × (List Int) × Bool × Int × Int × Int × Int × Int × Int × (List (List Int)) × Bool × Bool × Bool × Int × (List Int) × (List DriveCell') × Int × Unit)) := W.call (vault_Vault_okW W vp2 vp3 vp4 vp5 vp6 vp0_1 vp0_2 vp0_3 vp0_4 vp0_5 vp0_6 vp0_7 vp0_8 vp1_0 vp1_1 vp1_2 vp1_3 vp1_4 vp1_5) fun v1 => 
 W.cnd (!v1.1) (some ([], v1.2))
  (W.call (scroll_Scroll_RecordsW W v1.2.2.2.2.2.2.1 v1.2.2.2.2.2.2.2.1 v1.2.2.2.2.2.2.2.2.1 v1.2.2.2.2.2.2.2.2.2.1 v1.2.2.2.2.2.2.2.2.2.2.1 v1.2.2.2.2.2.2.2.2.2.2.2.1 v1.2.2.2.2.2.2.2.2.2.2.2.2.1 v1.2.2.2.2.2.2.2.2.2.2.2.2.2.1 v1.2.2.2.2.2.2.2.2.2.2.2.2.2.2.1 v1.2.2.2.2.2.2.2.2.2.2.2.2.2.2.2.1 v1.2.2.2.2.2.2.2.2.2.2.2.2.2.2.2.2.1 v1.2.2.2.2.2.2.2.2.2.2.2.2.2.2.2.2.2.1 v1.2.2.2.2.2.2.2.2.2.2.2.2.2.2.2.2.2.2.1 v1.2.2.2.2.2.2.2.2.2.2.2.2.2.2.2.2.2.2.2.1) fun v2 => some (v2.1, (v1.2.1, (v1.2.2.1, (v1.2.2.2.1, (v1.2.2.2.2.1, (v1.2.2.2.2.2.1, v2.2)))))))
def vault_Vault_Records_k := kls kp 32 [⟨152,[.ptr 1,.ptr 2,.i,.i,.i,.v (.slc (.int .u8)),.b]⟩,⟨275,[.ptr 2,.i,.i,.i,.i,.i,.i,.row 22 (.slc (.int .u8)),.b]⟩,⟨45,[.b,.b,.i,.v (.slc (.int .i64)),.row 328 tDriveCell,.i]⟩] [.ptr 0] [⟨152,[.ptr 1,.ptr 2,.i,.i,.i,.v (.slc (.int .u8)),.b]⟩,⟨275,[.ptr 2,.i,.i,.i,.i,.i,.i,.row 22 (.slc (.int .u8)),.b]⟩,⟨45,[.b,.b,.i,.v (.slc (.int .i64)),.row 328 tDriveCell,.i]⟩] (.own 22 (.slc (.int .u8))) (fun W x => vault_Vault_RecordsW W x.1 x.2.1 x.2.2.1 x.2.2.2.1 x.2.2.2.2.1 x.2.2.2.2.2.1 x.2.2.2.2.2.2.1 x.2.2.2.2.2.2.2.1 x.2.2.2.2.2.2.2.2.1 x.2.2.2.2.2.2.2.2.2.1 x.2.2.2.2.2.2.2.2.2.2.1 x.2.2.2.2.2.2.2.2.2.2.2.1 x.2.2.2.2.2.2.2.2.2.2.2.2.1 x.2.2.2.2.2.2.2.2.2.2.2.2.2.1 x.2.2.2.2.2.2.2.2.2.2.2.2.2.2.1 x.2.2.2.2.2.2.2.2.2.2.2.2.2.2.2.1 x.2.2.2.2.2.2.2.2.2.2.2.2.2.2.2.2.1 x.2.2.2.2.2.2.2.2.2.2.2.2.2.2.2.2.2.1 x.2.2.2.2.2.2.2.2.2.2.2.2.2.2.2.2.2.2.1) [vault_Vault_ok_k,scroll_Scroll_Records_k] [] [] [] Tryz.func32 rfl (h:=fun W x=>by kernel_rfl)
def engine_Engine_replayW (W : Wd) (g2 : Int) (g3 : List AMember') (g4 : List AInst') (g5 : List AAsset') (g6 : List AAccount') (g7 : List AChoice') (g8 : List AGroup') (g9 : List AGive') (g10 : List APos') (g11 : List APos') (g12 : List AFlow') (g13 : List AHold') (g14 : Bool) (g0_2 : Int) (g0_3 : Int) (g0_4 : Int) (g0_5 : List Int) (g0_6 : Bool) (g1_0 : Bool) (g1_1 : Bool) (g1_2 : Int) (g1_3 : List Int) (g1_4 : List DriveCell') (g1_5 : Int) (g0_0_1 : Int) (g0_0_2 : Int) (g0_0_3 : Int) (g0_0_4 : Int) (g0_0_5 : Int) (g0_0_6 : Int) (g0_0_7 : List (List Int)) (g0_0_8 : Bool) (b : List Int) : Option (Bool × (Int × (List AMember') × (List AInst') × (List AAsset') × (List AAccount') × (List AChoice') × (List AGroup') × (List AGive') × (List APos') × (List APos') × (List AFlow') × (List AHold') × Bool × Int × Int × Int × (List Int) × Bool × Bool × Bool × Int × (List Int) × (List DriveCell') × Int × Int × Int × Int × Int × Int × Int × (List (List Int)) × Bool × Unit)) := W.call (cmd_DecodeW W b) fun v1 => 
 W.join (fun (z2 : Bool × Bool × Bool × Int × List (Int) × Int × Int × Int × Int × Int × Int × Int × Bool × List (Int × Int × Int × Int × Int × Int × Int × Int × Int × Int × Int × Int × Int × Int × Int × Int × Int × Int × Int × Int × Int × Int × Int × Int × Int × Int × Int × Int × Int × Int × Int × Int × Int × Int × Int × Int × Int × Int × Int × Int × Int × Int × Int × Int × _ × _) × List (List (Int)) × Unit) => 
  W.cnd z2.1 (some (false, (g2, (g3, (g4, (g5, (g6, (g7, (g8, (g9, (g10, (g11, (g12, (g13, (g14, (g0_2, (g0_3, (g0_4, (g0_5, (g0_6, (z2.2.1, (z2.2.2.1, (z2.2.2.2.1, (z2.2.2.2.2.1, (z2.2.2.2.2.2.2.2.2.2.2.2.2.2.1, (z2.2.2.2.2.2.1, (z2.2.2.2.2.2.2.1, (z2.2.2.2.2.2.2.2.1, (z2.2.2.2.2.2.2.2.2.1, (z2.2.2.2.2.2.2.2.2.2.1, (z2.2.2.2.2.2.2.2.2.2.2.1, (z2.2.2.2.2.2.2.2.2.2.2.2.1, (z2.2.2.2.2.2.2.2.2.2.2.2.2.2.2.1, (z2.2.2.2.2.2.2.2.2.2.2.2.2.1, ()))))))))))))))))))))))))))))))))))
   (W.both (W.call (rules_ApplyW W (g2, (g3, (g4, (g5, (g6, (g7, (g8, (g9, (g10, (g11, (g12, (g13, ())))))))))))) v1.1) fun v3 => W.both (some ((v3.2.1.1 == 0), (v3.1.1, (v3.1.2.1, (v3.1.2.2.1, (v3.1.2.2.2.1, (v3.1.2.2.2.2.1, (v3.1.2.2.2.2.2.1, (v3.1.2.2.2.2.2.2.1, (v3.1.2.2.2.2.2.2.2.1, (v3.1.2.2.2.2.2.2.2.2.1, (v3.1.2.2.2.2.2.2.2.2.2.1, (v3.1.2.2.2.2.2.2.2.2.2.2.1, (v3.1.2.2.2.2.2.2.2.2.2.2.2.1, (g14, (g0_2, (g0_3, (g0_4, (g0_5, (g0_6, (z2.2.1, (z2.2.2.1, (z2.2.2.2.1, (z2.2.2.2.2.1, (z2.2.2.2.2.2.2.2.2.2.2.2.2.2.1, (z2.2.2.2.2.2.1, (z2.2.2.2.2.2.2.1, (z2.2.2.2.2.2.2.2.1, (z2.2.2.2.2.2.2.2.2.1, (z2.2.2.2.2.2.2.2.2.2.1, (z2.2.2.2.2.2.2.2.2.2.2.1, (z2.2.2.2.2.2.2.2.2.2.2.2.1, (z2.2.2.2.2.2.2.2.2.2.2.2.2.2.2.1, (z2.2.2.2.2.2.2.2.2.2.2.2.2.1, ())))))))))))))))))))))))))))))))))) (some ((v3.2.1.1 == 0), (v3.1.1, (v3.1.2.1, (v3.1.2.2.1, (v3.1.2.2.2.1, (v3.1.2.2.2.2.1, (v3.1.2.2.2.2.2.1, (v3.1.2.2.2.2.2.2.1, (v3.1.2.2.2.2.2.2.2.1, (v3.1.2.2.2.2.2.2.2.2.1, (v3.1.2.2.2.2.2.2.2.2.2.1, (v3.1.2.2.2.2.2.2.2.2.2.2.1, (v3.1.2.2.2.2.2.2.2.2.2.2.2.1, (g14, (g0_2, (g0_3, (g0_4, (g0_5, (g0_6, (z2.2.1, (z2.2.2.1, (z2.2.2.2.1, (z2.2.2.2.2.1, (z2.2.2.2.2.2.2.2.2.2.2.2.2.2.1, (z2.2.2.2.2.2.1, (z2.2.2.2.2.2.2.1, (z2.2.2.2.2.2.2.2.1, (z2.2.2.2.2.2.2.2.2.1, (z2.2.2.2.2.2.2.2.2.2.1, (z2.2.2.2.2.2.2.2.2.2.2.1, (z2.2.2.2.2.2.2.2.2.2.2.2.1, (z2.2.2.2.2.2.2.2.2.2.2.2.2.2.2.1, (z2.2.2.2.2.2.2.2.2.2.2.2.2.1, ()))))))))))))))))))))))))))))))))))) (W.both (W.both (W.call (rules_ApplyW W (g2, (g3, (g4, (g5, (g6, (g7, (g8, (g9, (g10, (g11, (g12, (g13, ())))))))))))) v1.1) fun v4 => some ((v4.2.1.1 == 0), (v4.1.1, (v4.1.2.1, (v4.1.2.2.1, (v4.1.2.2.2.1, (v4.1.2.2.2.2.1, (v4.1.2.2.2.2.2.1, (v4.1.2.2.2.2.2.2.1, (v4.1.2.2.2.2.2.2.2.1, (v4.1.2.2.2.2.2.2.2.2.1, (v4.1.2.2.2.2.2.2.2.2.2.1, (v4.1.2.2.2.2.2.2.2.2.2.2.1, (v4.1.2.2.2.2.2.2.2.2.2.2.2.1, (g14, (g0_2, (g0_3, (g0_4, (g0_5, (g0_6, (z2.2.1, (z2.2.2.1, (z2.2.2.2.1, (z2.2.2.2.2.1, (z2.2.2.2.2.2.2.2.2.2.2.2.2.2.1, (z2.2.2.2.2.2.1, (z2.2.2.2.2.2.2.1, (z2.2.2.2.2.2.2.2.1, (z2.2.2.2.2.2.2.2.2.1, (z2.2.2.2.2.2.2.2.2.2.1, (z2.2.2.2.2.2.2.2.2.2.2.1, (z2.2.2.2.2.2.2.2.2.2.2.2.1, (z2.2.2.2.2.2.2.2.2.2.2.2.2.2.2.1, (z2.2.2.2.2.2.2.2.2.2.2.2.2.1, ())))))))))))))))))))))))))))))))))) (W.call (rules_ApplyW W (g2, (g3, (g4, (g5, (g6, (g7, (g8, (g9, (g10, (g11, (g12, (g13, ())))))))))))) v1.1) fun v5 => some ((v5.2.1.1 == 0), (v5.1.1, (v5.1.2.1, (v5.1.2.2.1, (v5.1.2.2.2.1, (v5.1.2.2.2.2.1, (v5.1.2.2.2.2.2.1, (v5.1.2.2.2.2.2.2.1, (v5.1.2.2.2.2.2.2.2.1, (v5.1.2.2.2.2.2.2.2.2.1, (v5.1.2.2.2.2.2.2.2.2.2.1, (v5.1.2.2.2.2.2.2.2.2.2.2.1, (v5.1.2.2.2.2.2.2.2.2.2.2.2.1, (g14, (g0_2, (g0_3, (g0_4, (g0_5, (g0_6, (z2.2.1, (z2.2.2.1, (z2.2.2.2.1, (z2.2.2.2.2.1, (z2.2.2.2.2.2.2.2.2.2.2.2.2.2.1, (z2.2.2.2.2.2.1, (z2.2.2.2.2.2.2.1, (z2.2.2.2.2.2.2.2.1, (z2.2.2.2.2.2.2.2.2.1, (z2.2.2.2.2.2.2.2.2.2.1, (z2.2.2.2.2.2.2.2.2.2.2.1, (z2.2.2.2.2.2.2.2.2.2.2.2.1, (z2.2.2.2.2.2.2.2.2.2.2.2.2.2.2.1, (z2.2.2.2.2.2.2.2.2.2.2.2.2.1, ()))))))))))))))))))))))))))))))))))) (W.both (W.call (rules_ApplyW W (g2, (g3, (g4, (g5, (g6, (g7, (g8, (g9, (g10, (g11, (g12, (g13, ())))))))))))) v1.1) fun v6 => some ((v6.2.1.1 == 0), (v6.1.1, (v6.1.2.1, (v6.1.2.2.1, (v6.1.2.2.2.1, (v6.1.2.2.2.2.1, (v6.1.2.2.2.2.2.1, (v6.1.2.2.2.2.2.2.1, (v6.1.2.2.2.2.2.2.2.1, (v6.1.2.2.2.2.2.2.2.2.1, (v6.1.2.2.2.2.2.2.2.2.2.1, (v6.1.2.2.2.2.2.2.2.2.2.2.1, (v6.1.2.2.2.2.2.2.2.2.2.2.2.1, (g14, (g0_2, (g0_3, (g0_4, (g0_5, (g0_6, (z2.2.1, (z2.2.2.1, (z2.2.2.2.1, (z2.2.2.2.2.1, (z2.2.2.2.2.2.2.2.2.2.2.2.2.2.1, (z2.2.2.2.2.2.1, (z2.2.2.2.2.2.2.1, (z2.2.2.2.2.2.2.2.1, (z2.2.2.2.2.2.2.2.2.1, (z2.2.2.2.2.2.2.2.2.2.1, (z2.2.2.2.2.2.2.2.2.2.2.1, (z2.2.2.2.2.2.2.2.2.2.2.2.1, (z2.2.2.2.2.2.2.2.2.2.2.2.2.2.2.1, (z2.2.2.2.2.2.2.2.2.2.2.2.2.1, ())))))))))))))))))))))))))))))))))) (W.call (rules_ApplyW W (g2, (g3, (g4, (g5, (g6, (g7, (g8, (g9, (g10, (g11, (g12, (g13, ())))))))))))) v1.1) fun v7 => some ((v7.2.1.1 == 0), (v7.1.1, (v7.1.2.1, (v7.1.2.2.1, (v7.1.2.2.2.1, (v7.1.2.2.2.2.1, (v7.1.2.2.2.2.2.1, (v7.1.2.2.2.2.2.2.1, (v7.1.2.2.2.2.2.2.2.1, (v7.1.2.2.2.2.2.2.2.2.1, (v7.1.2.2.2.2.2.2.2.2.2.1, (v7.1.2.2.2.2.2.2.2.2.2.2.1, (v7.1.2.2.2.2.2.2.2.2.2.2.2.1, (g14, (g0_2, (g0_3, (g0_4, (g0_5, (g0_6, (z2.2.1, (z2.2.2.1, (z2.2.2.2.1, (z2.2.2.2.2.1, (z2.2.2.2.2.2.2.2.2.2.2.2.2.2.1, (z2.2.2.2.2.2.1, (z2.2.2.2.2.2.2.1, (z2.2.2.2.2.2.2.2.1, (z2.2.2.2.2.2.2.2.2.1, (z2.2.2.2.2.2.2.2.2.2.1, (z2.2.2.2.2.2.2.2.2.2.2.1, (z2.2.2.2.2.2.2.2.2.2.2.2.1, (z2.2.2.2.2.2.2.2.2.2.2.2.2.2.2.1, (z2.2.2.2.2.2.2.2.2.2.2.2.2.1, ()))))))))))))))))))))))))))))))))))))))
  fun k8 => 
  W.cnd (v1.2.1 != 0) ((k8 (true, (g1_0, (g1_1, (g1_2, (g1_3, (g1_5, (g0_0_1, (g0_0_2, (g0_0_3, (g0_0_4, (g0_0_5, (g0_0_6, (g0_0_8, (g1_4, (g0_0_7, ())))))))))))))))))
   (W.call (rules_ChangesW W v1.1.1) fun v9 => (k8 ((!v9), (g1_0, (g1_1, (g1_2, (g1_3, (g1_5, (g0_0_1, (g0_0_2, (g0_0_3, (g0_0_4, (g0_0_5, (g0_0_6, (g0_0_8, (g1_4, (g0_0_7, ())))))))))))))))))
def engine_Engine_replay_k := kls kp 33 [⟨39,[.ptr 1,.ptr 2,.i,.v (.slc tAMember),.v (.slc tAInst),.v (.slc tAAsset),.v (.slc tAAccount),.v (.slc tAChoice),.v (.slc tAGroup),.v (.slc tAGive),.v (.slc tAPos),.v (.slc tAPos),.v (.slc tAFlow),.v (.slc tAHold),.b]⟩,⟨152,[.ptr 3,.ptr 2,.i,.i,.i,.v (.slc (.int .u8)),.b]⟩,⟨45,[.b,.b,.i,.v (.slc (.int .i64)),.row 328 tDriveCell,.i]⟩,⟨275,[.ptr 2,.i,.i,.i,.i,.i,.i,.row 22 (.slc (.int .u8)),.b]⟩] [.ptr 0,.v (.slc (.int .u8))] [⟨39,[.ptr 1,.ptr 2,.i,.v (.slc tAMember),.v (.slc tAInst),.v (.slc tAAsset),.v (.slc tAAccount),.v (.slc tAChoice),.v (.slc tAGroup),.v (.slc tAGive),.v (.slc tAPos),.v (.slc tAPos),.v (.slc tAFlow),.v (.slc tAHold),.b]⟩,⟨152,[.ptr 3,.ptr 2,.i,.i,.i,.v (.slc (.int .u8)),.b]⟩,⟨45,[.b,.b,.i,.v (.slc (.int .i64)),.row 328 tDriveCell,.i]⟩,⟨275,[.ptr 2,.i,.i,.i,.i,.i,.i,.row 22 (.slc (.int .u8)),.b]⟩] .b (fun W x => engine_Engine_replayW W x.1 x.2.1 x.2.2.1 x.2.2.2.1 x.2.2.2.2.1 x.2.2.2.2.2.1 x.2.2.2.2.2.2.1 x.2.2.2.2.2.2.2.1 x.2.2.2.2.2.2.2.2.1 x.2.2.2.2.2.2.2.2.2.1 x.2.2.2.2.2.2.2.2.2.2.1 x.2.2.2.2.2.2.2.2.2.2.2.1 x.2.2.2.2.2.2.2.2.2.2.2.2.1 x.2.2.2.2.2.2.2.2.2.2.2.2.2.1 x.2.2.2.2.2.2.2.2.2.2.2.2.2.2.1 x.2.2.2.2.2.2.2.2.2.2.2.2.2.2.2.1 x.2.2.2.2.2.2.2.2.2.2.2.2.2.2.2.2.1 x.2.2.2.2.2.2.2.2.2.2.2.2.2.2.2.2.2.1 x.2.2.2.2.2.2.2.2.2.2.2.2.2.2.2.2.2.2.1 x.2.2.2.2.2.2.2.2.2.2.2.2.2.2.2.2.2.2.2.1 x.2.2.2.2.2.2.2.2.2.2.2.2.2.2.2.2.2.2.2.2.1 x.2.2.2.2.2.2.2.2.2.2.2.2.2.2.2.2.2.2.2.2.2.1 x.2.2.2.2.2.2.2.2.2.2.2.2.2.2.2.2.2.2.2.2.2.2.1 x.2.2.2.2.2.2.2.2.2.2.2.2.2.2.2.2.2.2.2.2.2.2.2.1 x.2.2.2.2.2.2.2.2.2.2.2.2.2.2.2.2.2.2.2.2.2.2.2.2.1 x.2.2.2.2.2.2.2.2.2.2.2.2.2.2.2.2.2.2.2.2.2.2.2.2.2.1 x.2.2.2.2.2.2.2.2.2.2.2.2.2.2.2.2.2.2.2.2.2.2.2.2.2.2.1 x.2.2.2.2.2.2.2.2.2.2.2.2.2.2.2.2.2.2.2.2.2.2.2.2.2.2.2.1 x.2.2.2.2.2.2.2.2.2.2.2.2.2.2.2.2.2.2.2.2.2.2.2.2.2.2.2.2.1 x.2.2.2.2.2.2.2.2.2.2.2.2.2.2.2.2.2.2.2.2.2.2.2.2.2.2.2.2.2.1 x.2.2.2.2.2.2.2.2.2.2.2.2.2.2.2.2.2.2.2.2.2.2.2.2.2.2.2.2.2.2.1 x.2.2.2.2.2.2.2.2.2.2.2.2.2.2.2.2.2.2.2.2.2.2.2.2.2.2.2.2.2.2.2.1 x.2.2.2.2.2.2.2.2.2.2.2.2.2.2.2.2.2.2.2.2.2.2.2.2.2.2.2.2.2.2.2.2.1) [cmd_Decode_k,rules_Changes_k,rules_Apply_k] [(4,[],(.rd 0 (.rd 1 (.rd 2 (.rd 3 (.rd 4 (.three 5 9 10 (.rd 6 (.rd 7 (.rd 8 (.two 9 10 (oN [20,22,24]) (oN [18,22,24]))))) (.two 5 10 (oN [13,15,17,20,22,24]) (oN [10,13,15,17,22,24])) (.two 5 9 (oN [13,15,17,18,22,24]) (oN [10,13,15,17,22,24])))))))))] [(500021,⟨[(21,.b)],[(2,[.b,.b,.i,.t (.slc (.int .i64)),.row 0,.i]),(3,[.own 2 0,.i,.i,.i,.i,.i,.i,.row 1,.b])],[.own 328 tDriveCell,.own 22 (.slc (.int .u8))]⟩)] [] Tryz.func33 rfl (h:=fun W x=>by kernel_rfl)
def drive_NewW (W : Wd) (n : Int) : Option ((Unit × Int × Unit) × (Bool × Bool × Int × (List Int) × (List DriveCell') × Int × Unit)) := 
 W.join (fun (z1 : Bool × Unit) => 
  W.cnd z1.1 (none)
   (W.nn n (W.room (Int.toNat n) 96 (W.bnd n (Int.toNat n) fun h2 => some (((), (0, ())), (false, (false, (0, ([], ((List.replicate h2 (0, (0, (0, (0, (0, (0, (0, (0, (0, (0, (0, (0, (0, (0, (0, (0, (0, (0, (0, (0, (0, (0, (0, (0, (0, (0, (0, (0, (0, (0, (0, (0, (0, (0, (0, (0, (0, (0, (0, (0, (0, (0, (0, (0, (0, (0, (0, (0, (0, (0, (0, (0, (0, (0, (0, (0, (0, (0, (0, (0, (0, (0, (0, (0, (0, (0, (0, (0, (0, (0, (0, (0, (0, (0, (0, (0, (0, (0, (0, (0, (0, (0, (0, (0, (0, (0, (0, (0, (0, (0, (0, (0, (0, (0, (0, (0, ()))))))))))))))))))))))))))))))))))))))))))))))))))))))))))))))))))))))))))))))))))))))))))))))))), (0, ())))))))))))
  fun k3 => 
  W.cnd (decide (n < 1)) ((k3 (true, ())))
   ((k3 ((decide (2048 < n)), ())))
def drive_New_k := kls kp 49 [] [.i] [⟨45,[.b,.b,.i,.v (.slc (.int .i64)),.row 328 tDriveCell,.i]⟩] (.p2 (.ptr 0) .i) (fun W x => drive_NewW W x.1) [] [] [(500009,⟨[(9,.b)],[],[]⟩)] [] Tryz.func49 rfl (h:=fun W x=>by kernel_rfl)
def drive_Drive_LiveW (W : Wd) (d0 : Bool) (d1 : Bool) (d2 : Int) (d3 : List Int) (d4 : List DriveCell') (d5 : Int) : Option (Bool × (Bool × Bool × Int × (List Int) × (List DriveCell') × Int × Unit)) := W.call (drive_Drive_ok2W W d0 d1 d2 d3 d4 d5) fun v1 => 
 W.cnd v1.1 (some ((!v1.2.1), v1.2))
  (some (false, v1.2))
def drive_Drive_Live_k := kls kp 65 [⟨45,[.b,.b,.i,.v (.slc (.int .i64)),.row 328 tDriveCell,.i]⟩] [.ptr 0] [⟨45,[.b,.b,.i,.v (.slc (.int .i64)),.row 328 tDriveCell,.i]⟩] .b (fun W x => drive_Drive_LiveW W x.1 x.2.1 x.2.2.1 x.2.2.2.1 x.2.2.2.2.1 x.2.2.2.2.2.1) [drive_Drive_ok2_k] [] [] [] Tryz.func65 rfl (h:=fun W x=>by kernel_rfl)
def engine_Engine_ready3W (W : Wd) (g2 : Int) (g3 : List AMember') (g4 : List AInst') (g5 : List AAsset') (g6 : List AAccount') (g7 : List AChoice') (g8 : List AGroup') (g9 : List AGive') (g10 : List APos') (g11 : List APos') (g12 : List AFlow') (g13 : List AHold') (g14 : Bool) (g0_2 : Int) (g0_3 : Int) (g0_4 : Int) (g0_5 : List Int) (g0_6 : Bool) (g1_0 : Bool) (g1_1 : Bool) (g1_2 : Int) (g1_3 : List Int) (g1_4 : List DriveCell') (g1_5 : Int) (g0_0_1 : Int) (g0_0_2 : Int) (g0_0_3 : Int) (g0_0_4 : Int) (g0_0_5 : Int) (g0_0_6 : Int) (g0_0_7 : List (List Int)) (g0_0_8 : Bool) : Option (Int × (Int × (List AMember') × (List AInst') × (List AAsset') × (List AAccount') × (List AChoice') × (List AGroup') × (List AGive') × (List APos') × (List APos') × (List AFlow') × (List AHold') × Bool × Int × Int × Int × (List Int) × Bool × Bool × Bool × Int × (List Int) × (List DriveCell') × Int × Int × Int × Int × Int × Int × Int × (List (List Int)) × Bool × Unit)) := 
 W.join (fun (z1 : Bool × Bool × Bool × Int × List (Int) × Int × Int × Int × Int × Int × Int × Int × Bool × List (Int × Int × Int × Int × Int × Int × Int × Int × Int × Int × Int × Int × Int × Int × Int × Int × Int × Int × Int × Int × Int × Int × Int × Int × Int × Int × Int × Int × Int × Int × Int × Int × Int × Int × Int × Int × Int × Int × Int × Int × Int × Int × Int × Int × _ × _) × List (List (Int)) × Unit) => 
  W.cnd z1.1 (some (9, (g2, (g3, (g4, (g5, (g6, (g7, (g8, (g9, (g10, (g11, (g12, (g13, (g14, (g0_2, (g0_3, (g0_4, (g0_5, (g0_6, (z1.2.1, (z1.2.2.1, (z1.2.2.2.1, (z1.2.2.2.2.1, (z1.2.2.2.2.2.2.2.2.2.2.2.2.2.1, (z1.2.2.2.2.2.1, (z1.2.2.2.2.2.2.1, (z1.2.2.2.2.2.2.2.1, (z1.2.2.2.2.2.2.2.2.1, (z1.2.2.2.2.2.2.2.2.2.1, (z1.2.2.2.2.2.2.2.2.2.2.1, (z1.2.2.2.2.2.2.2.2.2.2.2.1, (z1.2.2.2.2.2.2.2.2.2.2.2.2.2.2.1, (z1.2.2.2.2.2.2.2.2.2.2.2.2.1, ()))))))))))))))))))))))))))))))))))
   (some (0, (g2, (g3, (g4, (g5, (g6, (g7, (g8, (g9, (g10, (g11, (g12, (g13, (g14, (g0_2, (g0_3, (g0_4, (g0_5, (g0_6, (z1.2.1, (z1.2.2.1, (z1.2.2.2.1, (z1.2.2.2.2.1, (z1.2.2.2.2.2.2.2.2.2.2.2.2.2.1, (z1.2.2.2.2.2.1, (z1.2.2.2.2.2.2.1, (z1.2.2.2.2.2.2.2.1, (z1.2.2.2.2.2.2.2.2.1, (z1.2.2.2.2.2.2.2.2.2.1, (z1.2.2.2.2.2.2.2.2.2.2.1, (z1.2.2.2.2.2.2.2.2.2.2.2.1, (z1.2.2.2.2.2.2.2.2.2.2.2.2.2.2.1, (z1.2.2.2.2.2.2.2.2.2.2.2.2.1, ())))))))))))))))))))))))))))))))))))
  fun k2 => 
  W.cnd g14 ((k2 (true, (g1_0, (g1_1, (g1_2, (g1_3, (g1_5, (g0_0_1, (g0_0_2, (g0_0_3, (g0_0_4, (g0_0_5, (g0_0_6, (g0_0_8, (g1_4, (g0_0_7, ())))))))))))))))))
   (W.call (drive_Drive_LiveW W g1_0 g1_1 g1_2 g1_3 g1_4 g1_5) fun v3 => (k2 ((!v3.1), (v3.2.1, (v3.2.2.1, (v3.2.2.2.1, (v3.2.2.2.2.1, (v3.2.2.2.2.2.2.1, (g0_0_1, (g0_0_2, (g0_0_3, (g0_0_4, (g0_0_5, (g0_0_6, (g0_0_8, (v3.2.2.2.2.2.1, (g0_0_7, ())))))))))))))))))
def engine_Engine_ready3_k := kls kp 21 [⟨39,[.ptr 1,.ptr 2,.i,.v (.slc tAMember),.v (.slc tAInst),.v (.slc tAAsset),.v (.slc tAAccount),.v (.slc tAChoice),.v (.slc tAGroup),.v (.slc tAGive),.v (.slc tAPos),.v (.slc tAPos),.v (.slc tAFlow),.v (.slc tAHold),.b]⟩,⟨152,[.ptr 3,.ptr 2,.i,.i,.i,.v (.slc (.int .u8)),.b]⟩,⟨45,[.b,.b,.i,.v (.slc (.int .i64)),.row 328 tDriveCell,.i]⟩,⟨275,[.ptr 2,.i,.i,.i,.i,.i,.i,.row 22 (.slc (.int .u8)),.b]⟩] [.ptr 0] [⟨39,[.ptr 1,.ptr 2,.i,.v (.slc tAMember),.v (.slc tAInst),.v (.slc tAAsset),.v (.slc tAAccount),.v (.slc tAChoice),.v (.slc tAGroup),.v (.slc tAGive),.v (.slc tAPos),.v (.slc tAPos),.v (.slc tAFlow),.v (.slc tAHold),.b]⟩,⟨152,[.ptr 3,.ptr 2,.i,.i,.i,.v (.slc (.int .u8)),.b]⟩,⟨45,[.b,.b,.i,.v (.slc (.int .i64)),.row 328 tDriveCell,.i]⟩,⟨275,[.ptr 2,.i,.i,.i,.i,.i,.i,.row 22 (.slc (.int .u8)),.b]⟩] .i (fun W x => engine_Engine_ready3W W x.1 x.2.1 x.2.2.1 x.2.2.2.1 x.2.2.2.2.1 x.2.2.2.2.2.1 x.2.2.2.2.2.2.1 x.2.2.2.2.2.2.2.1 x.2.2.2.2.2.2.2.2.1 x.2.2.2.2.2.2.2.2.2.1 x.2.2.2.2.2.2.2.2.2.2.1 x.2.2.2.2.2.2.2.2.2.2.2.1 x.2.2.2.2.2.2.2.2.2.2.2.2.1 x.2.2.2.2.2.2.2.2.2.2.2.2.2.1 x.2.2.2.2.2.2.2.2.2.2.2.2.2.2.1 x.2.2.2.2.2.2.2.2.2.2.2.2.2.2.2.1 x.2.2.2.2.2.2.2.2.2.2.2.2.2.2.2.2.1 x.2.2.2.2.2.2.2.2.2.2.2.2.2.2.2.2.2.1 x.2.2.2.2.2.2.2.2.2.2.2.2.2.2.2.2.2.2.1 x.2.2.2.2.2.2.2.2.2.2.2.2.2.2.2.2.2.2.2.1 x.2.2.2.2.2.2.2.2.2.2.2.2.2.2.2.2.2.2.2.2.1 x.2.2.2.2.2.2.2.2.2.2.2.2.2.2.2.2.2.2.2.2.2.1 x.2.2.2.2.2.2.2.2.2.2.2.2.2.2.2.2.2.2.2.2.2.2.1 x.2.2.2.2.2.2.2.2.2.2.2.2.2.2.2.2.2.2.2.2.2.2.2.1 x.2.2.2.2.2.2.2.2.2.2.2.2.2.2.2.2.2.2.2.2.2.2.2.2.1 x.2.2.2.2.2.2.2.2.2.2.2.2.2.2.2.2.2.2.2.2.2.2.2.2.2.1 x.2.2.2.2.2.2.2.2.2.2.2.2.2.2.2.2.2.2.2.2.2.2.2.2.2.2.1 x.2.2.2.2.2.2.2.2.2.2.2.2.2.2.2.2.2.2.2.2.2.2.2.2.2.2.2.1 x.2.2.2.2.2.2.2.2.2.2.2.2.2.2.2.2.2.2.2.2.2.2.2.2.2.2.2.2.1 x.2.2.2.2.2.2.2.2.2.2.2.2.2.2.2.2.2.2.2.2.2.2.2.2.2.2.2.2.2.1 x.2.2.2.2.2.2.2.2.2.2.2.2.2.2.2.2.2.2.2.2.2.2.2.2.2.2.2.2.2.2.1 x.2.2.2.2.2.2.2.2.2.2.2.2.2.2.2.2.2.2.2.2.2.2.2.2.2.2.2.2.2.2.2.1) [drive_Drive_Live_k] [] [(500013,⟨[(13,.b)],[(2,[.b,.b,.i,.t (.slc (.int .i64)),.row 0,.i]),(3,[.own 2 0,.i,.i,.i,.i,.i,.i,.row 1,.b])],[.own 328 tDriveCell,.own 22 (.slc (.int .u8))]⟩)] [] Tryz.func21 rfl (h:=fun W x=>by kernel_rfl)
def vault_Vault_readyW (W : Wd) (vp2 : Int) (vp3 : Int) (vp4 : Int) (vp5 : List Int) (vp6 : Bool) (vp0_1 : Int) (vp0_2 : Int) (vp0_3 : Int) (vp0_4 : Int) (vp0_5 : Int) (vp0_6 : Int) (vp0_7 : List (List Int)) (vp0_8 : Bool) (vp1_0 : Bool) (vp1_1 : Bool) (vp1_2 : Int) (vp1_3 : List Int) (vp1_4 : List DriveCell') (vp1_5 : Int) : Option (Int × (Int × Int × Int × (List Int) × Bool × Int × Int × Int × Int × Int × Int × (List (List Int)) × Bool × Bool × Bool × Int × (List Int) × (List DriveCell') × Int × Unit)) := W.call (vault_Vault_okW W vp2 vp3 vp4 vp5 vp6 vp0_1 vp0_2 vp0_3 vp0_4 vp0_5 vp0_6 vp0_7 vp0_8 vp1_0 vp1_1 vp1_2 vp1_3 vp1_4 vp1_5) fun v1 => 
 W.cnd (!v1.1) (some (1, v1.2))
  (
  W.join (fun (z2 : Bool × Int × Int × Int × Int × Int × Int × Bool × Bool × Bool × Int × List (Int) × Int × List (List (Int)) × List (Int × Int × Int × Int × Int × Int × Int × Int × Int × Int × Int × Int × Int × Int × Int × Int × Int × Int × Int × Int × Int × Int × Int × Int × Int × Int × Int × Int × Int × Int × Int × Int × Int × Int × Int × Int × Int × Int × Int × Int × Int × Int × Int × _ × _) × Unit) => 
   W.cnd z2.1 (some (9, (v1.2.1, (v1.2.2.1, (v1.2.2.2.1, (v1.2.2.2.2.1, (v1.2.2.2.2.2.1, (z2.2.1, (z2.2.2.1, (z2.2.2.2.1, (z2.2.2.2.2.1, (z2.2.2.2.2.2.1, (z2.2.2.2.2.2.2.1, (z2.2.2.2.2.2.2.2.2.2.2.2.2.2.1, (z2.2.2.2.2.2.2.2.1, (z2.2.2.2.2.2.2.2.2.1, (z2.2.2.2.2.2.2.2.2.2.1, (z2.2.2.2.2.2.2.2.2.2.2.1, (z2.2.2.2.2.2.2.2.2.2.2.2.1, (z2.2.2.2.2.2.2.2.2.2.2.2.2.2.2.1, (z2.2.2.2.2.2.2.2.2.2.2.2.2.1, ())))))))))))))))))))))
    (some (0, (v1.2.1, (v1.2.2.1, (v1.2.2.2.1, (v1.2.2.2.2.1, (v1.2.2.2.2.2.1, (z2.2.1, (z2.2.2.1, (z2.2.2.2.1, (z2.2.2.2.2.1, (z2.2.2.2.2.2.1, (z2.2.2.2.2.2.2.1, (z2.2.2.2.2.2.2.2.2.2.2.2.2.2.1, (z2.2.2.2.2.2.2.2.1, (z2.2.2.2.2.2.2.2.2.1, (z2.2.2.2.2.2.2.2.2.2.1, (z2.2.2.2.2.2.2.2.2.2.2.1, (z2.2.2.2.2.2.2.2.2.2.2.2.1, (z2.2.2.2.2.2.2.2.2.2.2.2.2.2.2.1, (z2.2.2.2.2.2.2.2.2.2.2.2.2.1, ()))))))))))))))))))))))
   fun k3 => 
   W.cnd v1.2.2.2.2.2.1 ((k3 (true, (v1.2.2.2.2.2.2.1, (v1.2.2.2.2.2.2.2.1, (v1.2.2.2.2.2.2.2.2.1, (v1.2.2.2.2.2.2.2.2.2.1, (v1.2.2.2.2.2.2.2.2.2.2.1, (v1.2.2.2.2.2.2.2.2.2.2.2.1, (v1.2.2.2.2.2.2.2.2.2.2.2.2.2.1, (v1.2.2.2.2.2.2.2.2.2.2.2.2.2.2.1, (v1.2.2.2.2.2.2.2.2.2.2.2.2.2.2.2.1, (v1.2.2.2.2.2.2.2.2.2.2.2.2.2.2.2.2.1, (v1.2.2.2.2.2.2.2.2.2.2.2.2.2.2.2.2.2.1, (v1.2.2.2.2.2.2.2.2.2.2.2.2.2.2.2.2.2.2.2.1, (v1.2.2.2.2.2.2.2.2.2.2.2.2.1, (v1.2.2.2.2.2.2.2.2.2.2.2.2.2.2.2.2.2.2.1, ())))))))))))))))))
    (W.call (drive_Drive_LiveW W v1.2.2.2.2.2.2.2.2.2.2.2.2.2.2.1 v1.2.2.2.2.2.2.2.2.2.2.2.2.2.2.2.1 v1.2.2.2.2.2.2.2.2.2.2.2.2.2.2.2.2.1 v1.2.2.2.2.2.2.2.2.2.2.2.2.2.2.2.2.2.1 v1.2.2.2.2.2.2.2.2.2.2.2.2.2.2.2.2.2.2.1 v1.2.2.2.2.2.2.2.2.2.2.2.2.2.2.2.2.2.2.2.1) fun v4 => (k3 ((!v4.1), (v1.2.2.2.2.2.2.1, (v1.2.2.2.2.2.2.2.1, (v1.2.2.2.2.2.2.2.2.1, (v1.2.2.2.2.2.2.2.2.2.1, (v1.2.2.2.2.2.2.2.2.2.2.1, (v1.2.2.2.2.2.2.2.2.2.2.2.1, (v1.2.2.2.2.2.2.2.2.2.2.2.2.2.1, (v4.2.1, (v4.2.2.1, (v4.2.2.2.1, (v4.2.2.2.2.1, (v4.2.2.2.2.2.2.1, (v1.2.2.2.2.2.2.2.2.2.2.2.2.1, (v4.2.2.2.2.2.1, ()))))))))))))))))))
def vault_Vault_ready_k := kls kp 98 [⟨152,[.ptr 1,.ptr 2,.i,.i,.i,.v (.slc (.int .u8)),.b]⟩,⟨275,[.ptr 2,.i,.i,.i,.i,.i,.i,.row 22 (.slc (.int .u8)),.b]⟩,⟨45,[.b,.b,.i,.v (.slc (.int .i64)),.row 328 tDriveCell,.i]⟩] [.ptr 0] [⟨152,[.ptr 1,.ptr 2,.i,.i,.i,.v (.slc (.int .u8)),.b]⟩,⟨275,[.ptr 2,.i,.i,.i,.i,.i,.i,.row 22 (.slc (.int .u8)),.b]⟩,⟨45,[.b,.b,.i,.v (.slc (.int .i64)),.row 328 tDriveCell,.i]⟩] .i (fun W x => vault_Vault_readyW W x.1 x.2.1 x.2.2.1 x.2.2.2.1 x.2.2.2.2.1 x.2.2.2.2.2.1 x.2.2.2.2.2.2.1 x.2.2.2.2.2.2.2.1 x.2.2.2.2.2.2.2.2.1 x.2.2.2.2.2.2.2.2.2.1 x.2.2.2.2.2.2.2.2.2.2.1 x.2.2.2.2.2.2.2.2.2.2.2.1 x.2.2.2.2.2.2.2.2.2.2.2.2.1 x.2.2.2.2.2.2.2.2.2.2.2.2.2.1 x.2.2.2.2.2.2.2.2.2.2.2.2.2.2.1 x.2.2.2.2.2.2.2.2.2.2.2.2.2.2.2.1 x.2.2.2.2.2.2.2.2.2.2.2.2.2.2.2.2.1 x.2.2.2.2.2.2.2.2.2.2.2.2.2.2.2.2.2.1 x.2.2.2.2.2.2.2.2.2.2.2.2.2.2.2.2.2.2.1) [vault_Vault_ok_k,drive_Drive_Live_k] [] [(500007,⟨[(7,.b)],[(1,[.own 2 0,.i,.i,.i,.i,.i,.i,.row 0,.b]),(2,[.b,.b,.i,.t (.slc (.int .i64)),.row 1,.i])],[.own 22 (.slc (.int .u8)),.own 328 tDriveCell]⟩)] [] Tryz.func98 rfl (h:=fun W x=>by kernel_rfl)
def frame_CutW (W : Wd) (life : Int) (era : Int) (seq : Int) (b : List Int) : Option ((List (List Int)) × Int × Unit) := W.nz 80 (
 W.cnd (decide (255 < (if (IntKind.i64.wrap (Int.tdiv (IntKind.i64.wrap ((IntKind.i64.wrap ((b.length : Int) + 80)) - 1)) 80)) > 1 then (IntKind.i64.wrap (Int.tdiv (IntKind.i64.wrap ((IntKind.i64.wrap ((b.length : Int) + 80)) - 1)) 80)) else 1))) (some ([], (6, ())))
  (
  W.loop (fun (z1 : Int × List (List (Int)) × Unit) again2 => 
   W.cnd (decide (z1.1 < (if (IntKind.i64.wrap (Int.tdiv (IntKind.i64.wrap ((IntKind.i64.wrap ((b.length : Int) + 80)) - 1)) 80)) > 1 then (IntKind.i64.wrap (Int.tdiv (IntKind.i64.wrap ((IntKind.i64.wrap ((b.length : Int) + 80)) - 1)) 80)) else 1))) (W.bnd (IntKind.i64.wrap (z1.1 * 80)) b.length fun h3 => W.bnd (if 80 < (((b.take b.length).drop h3).length : Int) then 80 else (((b.take b.length).drop h3).length : Int)) ((b.take b.length).drop h3).length fun h4 => W.call (frame_EncodeW W (life, (era, (seq, (z1.1, ((if (IntKind.i64.wrap (Int.tdiv (IntKind.i64.wrap ((IntKind.i64.wrap ((b.length : Int) + 80)) - 1)) 80)) > 1 then (IntKind.i64.wrap (Int.tdiv (IntKind.i64.wrap ((IntKind.i64.wrap ((b.length : Int) + 80)) - 1)) 80)) else 1), ((((b.take b.length).drop h3).take h4), ()))))))) fun v5 => 
    W.cnd (v5.2.1 != 0) (some ([], v5.2))
     (W.room (z1.2.1.length + (v5.1 :: []).length) 24 ((again2 ((IntKind.i64.wrap (z1.1 + 1)), ((z1.2.1 ++ (v5.1 :: [])), ()))))))
    (some (z1.2.1, (0, ()))))
   (0, ([], ()))))
def frame_Cut_k := kes kp 187 (.p4 (.int .i64) (.int .i64) (.int .i64) (.slc (.int .u8))) (.p2 (.own 22 (.slc (.int .u8))) .i) (fun W x => frame_CutW W x.1 x.2.1 x.2.2.1 x.2.2.2.1) [frame_Encode_k] [] [] [(6,⟨[(11,.row 2),(25,.i)],[],[.dead,.dead,.own 22 (.slc (.int .u8))]⟩)] Tryz.func187 rfl (h:=fun W x=>by kernel_rfl)
def drive_Drive_readyW (W : Wd) (d0 : Bool) (d1 : Bool) (d2 : Int) (d3 : List Int) (d4 : List DriveCell') (d5 : Int) : Option (Int × (Bool × Bool × Int × (List Int) × (List DriveCell') × Int × Unit)) := W.call (drive_Drive_ok2W W d0 d1 d2 d3 d4 d5) fun v1 => 
 W.cnd (!v1.1) (some (1, v1.2))
  (
  W.cnd v1.2.1 (some (9, v1.2))
   (some (0, v1.2)))
def drive_Drive_ready_k := kls kp 253 [⟨45,[.b,.b,.i,.v (.slc (.int .i64)),.row 328 tDriveCell,.i]⟩] [.ptr 0] [⟨45,[.b,.b,.i,.v (.slc (.int .i64)),.row 328 tDriveCell,.i]⟩] .i (fun W x => drive_Drive_readyW W x.1 x.2.1 x.2.2.1 x.2.2.2.1 x.2.2.2.2.1 x.2.2.2.2.2.1) [drive_Drive_ok2_k] [] [] [] Tryz.func253 rfl (h:=fun W x=>by kernel_rfl)
def drive_longW (_ : Wd) (b : List Int) : Option Bool := some ((b.length : Int) != 96)
def drive_long_k := kes kp 255 (.p1 (.slc (.int .u8))) .b (fun W x => drive_longW W x.1) [] [] [] [] Tryz.func255 rfl (h:=fun W x=>by kernel_rfl)
def slices_IndexFuncbyte_byte_drive_longW (W : Wd) (s : List (List Int)) : Option (Int × Unit) := 
 W.loop (fun (z1 : Int × Unit) again2 => 
  W.cnd (decide (z1.1 < (s.length : Int))) (W.idx s z1.1 fun x3 => W.call (drive_longW W x3) fun v4 => 
   W.cnd v4 (some z1)
    ((again2 ((IntKind.i64.wrap (z1.1 + 1)), ()))))
   (some ((-1), ())))
  (0, ())
def slices_IndexFuncbyte_byte_drive_long_k := kls kp 345 [] [.v (.slc (.slc (.int .u8))),.fn 255 []] [] .i (fun W x => slices_IndexFuncbyte_byte_drive_longW W x.1) [drive_long_k] [] [] [(2,⟨[(8,.i)],[],[]⟩)] Tryz.func345 rfl (h:=fun W x=>by kernel_rfl)
def slices_ContainsFuncbyte_byte_drive_longW (W : Wd) (s : List (List Int)) : Option (Bool × Unit) := W.call (slices_IndexFuncbyte_byte_drive_longW W s) fun v1 => some ((decide (0 ≤ v1.1)), ())
def slices_ContainsFuncbyte_byte_drive_long_k := kls kp 254 [] [.v (.slc (.slc (.int .u8))),.fn 255 []] [] .b (fun W x => slices_ContainsFuncbyte_byte_drive_longW W x.1) [slices_IndexFuncbyte_byte_drive_long_k] [] [] [] Tryz.func254 rfl (h:=fun W x=>by kernel_rfl)
def drive_power_blowsW (W : Wd) (p0 : Bool) (p1 : Bool) (p2 : Int) (p3 : List Int) (p4 : List DriveCell') (p5 : Int) : Option (Bool × (Bool × Bool × Int × (List Int) × (List DriveCell') × Int × Unit)) := 
 W.cnd (!p1) (some (false, (p0, (p1, (p2, (p3, (p4, (p5, ()))))))))
  (some ((decide ((IntKind.i64.wrap (p2 - 1)) < 0)), ((decide ((IntKind.i64.wrap (p2 - 1)) < 0)), (p1, ((IntKind.i64.wrap (p2 - 1)), (p3, (p4, (p5, ()))))))))
def drive_power_blows_k := kls kp 256 [⟨45,[.b,.b,.i,.v (.slc (.int .i64)),.row 328 tDriveCell,.i]⟩] [.ptr 0] [⟨45,[.b,.b,.i,.v (.slc (.int .i64)),.row 328 tDriveCell,.i]⟩] .b (fun W x => drive_power_blowsW W x.1 x.2.1 x.2.2.1 x.2.2.2.1 x.2.2.2.2.1 x.2.2.2.2.2.1) [] [] [] [] Tryz.func256 rfl (h:=fun W x=>by kernel_rfl)
def slices_Indexint_intW (W : Wd) (s : List Int) (vp : Int) : Option Int := 
 W.loop (fun (z1 : Int × Unit) again2 => 
  W.cnd (decide (z1.1 < (s.length : Int))) (W.idx s z1.1 fun x3 => 
   W.cnd (vp == x3) (some z1.1)
    ((again2 ((IntKind.i64.wrap (z1.1 + 1)), ()))))
   (some (-1)))
  (0, ())
def slices_Indexint_int_k := kes kp 346 (.p2 (.slc (.int .i64)) (.int .i64)) .i (fun W x => slices_Indexint_intW W x.1 x.2.1) [] [] [] [(2,⟨[(8,.i)],[],[]⟩)] Tryz.func346 rfl (h:=fun W x=>by kernel_rfl)
def slices_Containsint_intW (W : Wd) (s : List Int) (vp : Int) : Option Bool := W.call (slices_Indexint_intW W s vp) fun v1 => some (decide (0 ≤ v1))
def slices_Containsint_int_k := kes kp 257 (.p2 (.slc (.int .i64)) (.int .i64)) .b (fun W x => slices_Containsint_intW W x.1 x.2.1) [slices_Indexint_int_k] [] [] [] Tryz.func257 rfl (h:=fun W x=>by kernel_rfl)
def drive_Drive_WriteW (W : Wd) (d0 : Bool) (d1 : Bool) (d2 : Int) (d3 : List Int) (d4 : List DriveCell') (d5 : Int) (at_ : Int) (cells : List (List Int)) : Option (Int × (Bool × Bool × Int × (List Int) × (List DriveCell') × Int × Unit)) := W.call (drive_Drive_readyW W d0 d1 d2 d3 d4 d5) fun v1 => 
 W.cnd (v1.1 != 0) (some v1)
  (
  W.join (fun (z2 : Bool × Bool × Bool × Int × List (Int) × Int × List (Int × Int × Int × Int × Int × Int × Int × Int × Int × Int × Int × Int × Int × Int × Int × Int × Int × Int × Int × Int × Int × Int × Int × Int × Int × Int × Int × Int × Int × Int × Int × Int × Int × Int × Int × Int × Int × Int × Int × Int × Int × Int × Int × Int × Int × Int × Int × Int × Int × Int × Int × _ × _) × Unit) => 
   W.cnd z2.1 (some (2, (z2.2.1, (z2.2.2.1, (z2.2.2.2.1, (z2.2.2.2.2.1, (z2.2.2.2.2.2.2.1, (z2.2.2.2.2.2.1, ()))))))))
    (
    W.cnd ((cells.length : Int) == 0) (some (0, (z2.2.1, (z2.2.2.1, (z2.2.2.2.1, (z2.2.2.2.2.1, (z2.2.2.2.2.2.2.1, (z2.2.2.2.2.2.1, ()))))))))
     (W.call (drive_power_blowsW W z2.2.1 z2.2.2.1 z2.2.2.2.1 z2.2.2.2.2.1 z2.2.2.2.2.2.2.1 (IntKind.i64.wrap (z2.2.2.2.2.2.1 + 1))) fun v3 => 
     W.loop (fun (z4 : Int × Bool × Bool × Int × List (Int) × Int × List (Int × Int × Int × Int × Int × Int × Int × Int × Int × Int × Int × Int × Int × Int × Int × Int × Int × Int × Int × Int × Int × Int × Int × Int × Int × Int × Int × Int × Int × Int × Int × Int × Int × Int × Int × Int × Int × Int × Int × Int × Int × Int × Int × Int × Int × Int × Int × Int × Int × Int × Int × _ × _) × Unit) again5 => 
      W.cnd (decide (z4.1 < (cells.length : Int))) (
       W.join (fun (z6 : Bool × Bool × Int × List (Int) × Int × List (Int × Int × Int × Int × Int × Int × Int × Int × Int × Int × Int × Int × Int × Int × Int × Int × Int × Int × Int × Int × Int × Int × Int × Int × Int × Int × Int × Int × Int × Int × Int × Int × Int × Int × Int × Int × Int × Int × Int × Int × Int × Int × Int × Int × Int × Int × Int × Int × Int × Int × Int × Int × _ × _) × Unit) => (again5 ((IntKind.i64.wrap (z4.1 + 1)), z6)))
        fun k7 => W.idx cells z4.1 fun x8 => 
        W.join (fun (z9 : Bool × Bool × Bool × Int × List (Int) × Int × List (Int × Int × Int × Int × Int × Int × Int × Int × Int × Int × Int × Int × Int × Int × Int × Int × Int × Int × Int × Int × Int × Int × Int × Int × Int × Int × Int × Int × Int × Int × Int × Int × Int × Int × Int × Int × Int × Int × Int × Int × Int × Int × Int × Int × Int × Int × Int × Int × Int × Int × Int × _ × _) × Unit) => 
         W.cnd z9.1 (W.idx z9.2.2.2.2.2.2.1 (IntKind.i64.wrap (at_ + z4.1)) fun _ => W.nth z9.2.2.2.2.2.2.1 (Int.toNat (IntKind.i64.wrap (at_ + z4.1))) fun x11 => (k7 (z9.2.1, (z9.2.2.1, (z9.2.2.2.1, (z9.2.2.2.2.1, (z9.2.2.2.2.2.1, ((List.set z9.2.2.2.2.2.2.1 (Int.toNat (IntKind.i64.wrap (at_ + z4.1))) (putA (repT (Go.Vc.DT.int Go.IntKind.u8) 96) x11 x8)), ()))))))))
          ((k7 z9.2)))
         fun k12 => 
         W.cnd (!v3.1) ((k12 (true, z4.2)))
          (W.call (slices_Containsint_intW W z4.2.2.2.2.1 z4.1) fun v13 => (k12 (v13, z4.2))))
       (
       W.cnd v3.1 (some (9, (z4.2.1, (z4.2.2.1, (z4.2.2.2.1, (z4.2.2.2.2.1, (z4.2.2.2.2.2.2.1, (z4.2.2.2.2.2.1, ()))))))))
        (some (0, (z4.2.1, (z4.2.2.1, (z4.2.2.2.1, (z4.2.2.2.2.1, (z4.2.2.2.2.2.2.1, (z4.2.2.2.2.2.1, ()))))))))))
      (0, (v3.2.1, (v3.2.2.1, (v3.2.2.2.1, (v3.2.2.2.2.1, (v3.2.2.2.2.2.2.1, (v3.2.2.2.2.2.1, ()))))))))))
   fun k14 => 
   W.cnd (decide (at_ < 0)) ((k14 (true, (v1.2.1, (v1.2.2.1, (v1.2.2.2.1, (v1.2.2.2.2.1, (v1.2.2.2.2.2.2.1, (v1.2.2.2.2.2.1, ())))))))))
    (
    W.cnd (decide ((v1.2.2.2.2.2.1.length : Int) < at_)) ((k14 (true, (v1.2.1, (v1.2.2.1, (v1.2.2.2.1, (v1.2.2.2.2.1, (v1.2.2.2.2.2.2.1, (v1.2.2.2.2.2.1, ())))))))))
     (
     W.cnd (decide ((IntKind.i64.wrap ((v1.2.2.2.2.2.1.length : Int) - at_)) < (cells.length : Int))) ((k14 (true, (v1.2.1, (v1.2.2.1, (v1.2.2.2.1, (v1.2.2.2.2.1, (v1.2.2.2.2.2.2.1, (v1.2.2.2.2.2.1, ())))))))))
      (W.call (slices_ContainsFuncbyte_byte_drive_longW W cells) fun v15 => (k14 (v15.1, (v1.2.1, (v1.2.2.1, (v1.2.2.2.1, (v1.2.2.2.2.1, (v1.2.2.2.2.2.2.1, (v1.2.2.2.2.2.1, ()))))))))))))
def drive_Drive_Write_k := kls kp 188 [⟨45,[.b,.b,.i,.v (.slc (.int .i64)),.row 328 tDriveCell,.i]⟩] [.ptr 0,.i,.v (.slc (.slc (.int .u8)))] [⟨45,[.b,.b,.i,.v (.slc (.int .i64)),.row 328 tDriveCell,.i]⟩] .i (fun W x => drive_Drive_WriteW W x.1 x.2.1 x.2.2.1 x.2.2.2.1 x.2.2.2.2.1 x.2.2.2.2.2.1 x.2.2.2.2.2.2.1 x.2.2.2.2.2.2.2.1) [drive_Drive_ready_k,slices_ContainsFuncbyte_byte_drive_long_k,drive_power_blows_k,slices_Containsint_int_k] [] [(15,⟨[],[(0,[.b,.b,.i,.t (.slc (.int .i64)),.row 0,.i])],[.own 328 tDriveCell]⟩),(500042,⟨[(42,.b)],[(0,[.b,.b,.i,.t (.slc (.int .i64)),.row 0,.i])],[.own 328 tDriveCell]⟩),(500074,⟨[(74,.b)],[(0,[.b,.b,.i,.t (.slc (.int .i64)),.row 0,.i])],[.own 328 tDriveCell]⟩)] [(11,⟨[(59,.i)],[(0,[.b,.b,.i,.t (.slc (.int .i64)),.row 0,.i])],[.own 328 tDriveCell]⟩)] Tryz.func188 rfl (h:=fun W x=>by kernel_rfl)
def vault_Vault_noteW (W : Wd) (vp2 : Int) (vp3 : Int) (vp4 : Int) (vp5 : List Int) (vp6 : Bool) (vp0_1 : Int) (vp0_2 : Int) (vp0_3 : Int) (vp0_4 : Int) (vp0_5 : Int) (vp0_6 : Int) (vp0_7 : List (List Int)) (vp0_8 : Bool) (vp1_0 : Bool) (vp1_1 : Bool) (vp1_2 : Int) (vp1_3 : List Int) (vp1_4 : List DriveCell') (vp1_5 : Int) (e : Int) : Option (Int × (Int × Int × Int × (List Int) × Bool × Int × Int × Int × Int × Int × Int × (List (List Int)) × Bool × Bool × Bool × Int × (List Int) × (List DriveCell') × Int × Unit)) := 
 W.join (fun (z1 : Int × Int × Int × List (Int) × Bool × Int × Int × Int × Int × Int × Int × Bool × Bool × Bool × Int × List (Int) × Int × List (List (Int)) × List (Int × Int × Int × Int × Int × Int × Int × Int × Int × Int × Int × Int × Int × Int × Int × Int × Int × Int × Int × Int × Int × Int × Int × Int × Int × Int × Int × Int × Int × Int × Int × Int × Int × Int × Int × Int × Int × Int × Int × _ × _) × Unit) => some (e, (z1.1, (z1.2.1, (z1.2.2.1, (z1.2.2.2.1, (z1.2.2.2.2.1, (z1.2.2.2.2.2.1, (z1.2.2.2.2.2.2.1, (z1.2.2.2.2.2.2.2.1, (z1.2.2.2.2.2.2.2.2.1, (z1.2.2.2.2.2.2.2.2.2.1, (z1.2.2.2.2.2.2.2.2.2.2.1, (z1.2.2.2.2.2.2.2.2.2.2.2.2.2.2.2.2.2.1, (z1.2.2.2.2.2.2.2.2.2.2.2.1, (z1.2.2.2.2.2.2.2.2.2.2.2.2.1, (z1.2.2.2.2.2.2.2.2.2.2.2.2.2.1, (z1.2.2.2.2.2.2.2.2.2.2.2.2.2.2.1, (z1.2.2.2.2.2.2.2.2.2.2.2.2.2.2.2.1, (z1.2.2.2.2.2.2.2.2.2.2.2.2.2.2.2.2.2.2.1, (z1.2.2.2.2.2.2.2.2.2.2.2.2.2.2.2.2.1, ())))))))))))))))))))))
  fun k2 => 
  W.cnd vp6 ((k2 (vp2, (vp3, (vp4, (vp5, (true, (vp0_1, (vp0_2, (vp0_3, (vp0_4, (vp0_5, (vp0_6, (vp0_8, (vp1_0, (vp1_1, (vp1_2, (vp1_3, (vp1_5, (vp0_7, (vp1_4, ())))))))))))))))))))))
   ((k2 (vp2, (vp3, (vp4, (vp5, ((e == 9), (vp0_1, (vp0_2, (vp0_3, (vp0_4, (vp0_5, (vp0_6, (vp0_8, (vp1_0, (vp1_1, (vp1_2, (vp1_3, (vp1_5, (vp0_7, (vp1_4, ())))))))))))))))))))))
def vault_Vault_note_k := kls kp 100 [⟨152,[.ptr 1,.ptr 2,.i,.i,.i,.v (.slc (.int .u8)),.b]⟩,⟨275,[.ptr 2,.i,.i,.i,.i,.i,.i,.row 22 (.slc (.int .u8)),.b]⟩,⟨45,[.b,.b,.i,.v (.slc (.int .i64)),.row 328 tDriveCell,.i]⟩] [.ptr 0,.i] [⟨152,[.ptr 1,.ptr 2,.i,.i,.i,.v (.slc (.int .u8)),.b]⟩,⟨275,[.ptr 2,.i,.i,.i,.i,.i,.i,.row 22 (.slc (.int .u8)),.b]⟩,⟨45,[.b,.b,.i,.v (.slc (.int .i64)),.row 328 tDriveCell,.i]⟩] .i (fun W x => vault_Vault_noteW W x.1 x.2.1 x.2.2.1 x.2.2.2.1 x.2.2.2.2.1 x.2.2.2.2.2.1 x.2.2.2.2.2.2.1 x.2.2.2.2.2.2.2.1 x.2.2.2.2.2.2.2.2.1 x.2.2.2.2.2.2.2.2.2.1 x.2.2.2.2.2.2.2.2.2.2.1 x.2.2.2.2.2.2.2.2.2.2.2.1 x.2.2.2.2.2.2.2.2.2.2.2.2.1 x.2.2.2.2.2.2.2.2.2.2.2.2.2.1 x.2.2.2.2.2.2.2.2.2.2.2.2.2.2.1 x.2.2.2.2.2.2.2.2.2.2.2.2.2.2.2.1 x.2.2.2.2.2.2.2.2.2.2.2.2.2.2.2.2.1 x.2.2.2.2.2.2.2.2.2.2.2.2.2.2.2.2.2.1 x.2.2.2.2.2.2.2.2.2.2.2.2.2.2.2.2.2.2.1 x.2.2.2.2.2.2.2.2.2.2.2.2.2.2.2.2.2.2.2.1) [] [] [(2,⟨[],[(0,[.own 1 0,.own 2 0,.i,.i,.i,.t (.slc (.int .u8)),.b]),(1,[.own 2 0,.i,.i,.i,.i,.i,.i,.row 0,.b]),(2,[.b,.b,.i,.t (.slc (.int .i64)),.row 1,.i])],[.own 22 (.slc (.int .u8)),.own 328 tDriveCell]⟩)] [] Tryz.func100 rfl (h:=fun W x=>by kernel_rfl)
def engine_Engine_noteW (W : Wd) (g2 : Int) (g3 : List AMember') (g4 : List AInst') (g5 : List AAsset') (g6 : List AAccount') (g7 : List AChoice') (g8 : List AGroup') (g9 : List AGive') (g10 : List APos') (g11 : List APos') (g12 : List AFlow') (g13 : List AHold') (g14 : Bool) (g0_2 : Int) (g0_3 : Int) (g0_4 : Int) (g0_5 : List Int) (g0_6 : Bool) (g1_0 : Bool) (g1_1 : Bool) (g1_2 : Int) (g1_3 : List Int) (g1_4 : List DriveCell') (g1_5 : Int) (g0_0_1 : Int) (g0_0_2 : Int) (g0_0_3 : Int) (g0_0_4 : Int) (g0_0_5 : Int) (g0_0_6 : Int) (g0_0_7 : List (List Int)) (g0_0_8 : Bool) (e : Int) : Option (Int × (Int × (List AMember') × (List AInst') × (List AAsset') × (List AAccount') × (List AChoice') × (List AGroup') × (List AGive') × (List APos') × (List APos') × (List AFlow') × (List AHold') × Bool × Int × Int × Int × (List Int) × Bool × Bool × Bool × Int × (List Int) × (List DriveCell') × Int × Int × Int × Int × Int × Int × Int × (List (List Int)) × Bool × Unit)) := 
 W.join (fun (z1 : Int × List (Int × Int × Int × Int × Unit) × List (Int × Int × Int × Int × List (Int) × Unit) × List (Int × Int × Int × Unit) × List (Int × Int × Int × List (Int) × Unit) × List ((Int × Int × Unit) × (Int × Int × Unit) × Bool × Unit) × List (Int × (Int × Int × Unit) × Int × Int × Int × Unit) × List (Int × (Int × Int × Unit) × (Int × Int × Unit) × (Int × Int × Unit) × Int × Int × Int × Int × Unit) × List ((Int × Int × Unit) × List (Int × Int × Unit) × Unit) × List ((Int × Int × Unit) × List (Int × Int × Unit) × Unit) × List ((Int × Int × Unit) × Int × Unit) × List ((Int × Int × Unit) × List (Int × Int × Int × Unit) × Unit) × Bool × Bool × Bool × Int × List (Int) × Int × Int × Int × Int × Int × Int × Int × Bool × List (Int × Int × Int × Int × Int × Int × Int × Int × Int × Int × Int × Int × Int × Int × Int × Int × Int × Int × Int × Int × Int × Int × Int × Int × Int × Int × Int × Int × Int × Int × Int × Int × _ × _) × List (List (Int)) × Unit) => some (e, (z1.1, (z1.2.1, (z1.2.2.1, (z1.2.2.2.1, (z1.2.2.2.2.1, (z1.2.2.2.2.2.1, (z1.2.2.2.2.2.2.1, (z1.2.2.2.2.2.2.2.1, (z1.2.2.2.2.2.2.2.2.1, (z1.2.2.2.2.2.2.2.2.2.1, (z1.2.2.2.2.2.2.2.2.2.2.1, (z1.2.2.2.2.2.2.2.2.2.2.2.1, (z1.2.2.2.2.2.2.2.2.2.2.2.2.1, (g0_2, (g0_3, (g0_4, (g0_5, (g0_6, (z1.2.2.2.2.2.2.2.2.2.2.2.2.2.1, (z1.2.2.2.2.2.2.2.2.2.2.2.2.2.2.1, (z1.2.2.2.2.2.2.2.2.2.2.2.2.2.2.2.1, (z1.2.2.2.2.2.2.2.2.2.2.2.2.2.2.2.2.1, (z1.2.2.2.2.2.2.2.2.2.2.2.2.2.2.2.2.2.2.2.2.2.2.2.2.2.1, (z1.2.2.2.2.2.2.2.2.2.2.2.2.2.2.2.2.2.1, (z1.2.2.2.2.2.2.2.2.2.2.2.2.2.2.2.2.2.2.1, (z1.2.2.2.2.2.2.2.2.2.2.2.2.2.2.2.2.2.2.2.1, (z1.2.2.2.2.2.2.2.2.2.2.2.2.2.2.2.2.2.2.2.2.1, (z1.2.2.2.2.2.2.2.2.2.2.2.2.2.2.2.2.2.2.2.2.2.1, (z1.2.2.2.2.2.2.2.2.2.2.2.2.2.2.2.2.2.2.2.2.2.2.1, (z1.2.2.2.2.2.2.2.2.2.2.2.2.2.2.2.2.2.2.2.2.2.2.2.1, (z1.2.2.2.2.2.2.2.2.2.2.2.2.2.2.2.2.2.2.2.2.2.2.2.2.2.2.1, (z1.2.2.2.2.2.2.2.2.2.2.2.2.2.2.2.2.2.2.2.2.2.2.2.2.1, ()))))))))))))))))))))))))))))))))))
  fun k2 => 
  W.cnd g14 ((k2 (g2, (g3, (g4, (g5, (g6, (g7, (g8, (g9, (g10, (g11, (g12, (g13, (true, (g1_0, (g1_1, (g1_2, (g1_3, (g1_5, (g0_0_1, (g0_0_2, (g0_0_3, (g0_0_4, (g0_0_5, (g0_0_6, (g0_0_8, (g1_4, (g0_0_7, ())))))))))))))))))))))))))))))
   ((k2 (g2, (g3, (g4, (g5, (g6, (g7, (g8, (g9, (g10, (g11, (g12, (g13, ((e == 9), (g1_0, (g1_1, (g1_2, (g1_3, (g1_5, (g0_0_1, (g0_0_2, (g0_0_3, (g0_0_4, (g0_0_5, (g0_0_6, (g0_0_8, (g1_4, (g0_0_7, ())))))))))))))))))))))))))))))
def engine_Engine_note_k := kls kp 34 [⟨39,[.ptr 1,.ptr 2,.i,.v (.slc tAMember),.v (.slc tAInst),.v (.slc tAAsset),.v (.slc tAAccount),.v (.slc tAChoice),.v (.slc tAGroup),.v (.slc tAGive),.v (.slc tAPos),.v (.slc tAPos),.v (.slc tAFlow),.v (.slc tAHold),.b]⟩,⟨152,[.ptr 3,.ptr 2,.i,.i,.i,.v (.slc (.int .u8)),.b]⟩,⟨45,[.b,.b,.i,.v (.slc (.int .i64)),.row 328 tDriveCell,.i]⟩,⟨275,[.ptr 2,.i,.i,.i,.i,.i,.i,.row 22 (.slc (.int .u8)),.b]⟩] [.ptr 0,.i] [⟨39,[.ptr 1,.ptr 2,.i,.v (.slc tAMember),.v (.slc tAInst),.v (.slc tAAsset),.v (.slc tAAccount),.v (.slc tAChoice),.v (.slc tAGroup),.v (.slc tAGive),.v (.slc tAPos),.v (.slc tAPos),.v (.slc tAFlow),.v (.slc tAHold),.b]⟩,⟨152,[.ptr 3,.ptr 2,.i,.i,.i,.v (.slc (.int .u8)),.b]⟩,⟨45,[.b,.b,.i,.v (.slc (.int .i64)),.row 328 tDriveCell,.i]⟩,⟨275,[.ptr 2,.i,.i,.i,.i,.i,.i,.row 22 (.slc (.int .u8)),.b]⟩] .i (fun W x => engine_Engine_noteW W x.1 x.2.1 x.2.2.1 x.2.2.2.1 x.2.2.2.2.1 x.2.2.2.2.2.1 x.2.2.2.2.2.2.1 x.2.2.2.2.2.2.2.1 x.2.2.2.2.2.2.2.2.1 x.2.2.2.2.2.2.2.2.2.1 x.2.2.2.2.2.2.2.2.2.2.1 x.2.2.2.2.2.2.2.2.2.2.2.1 x.2.2.2.2.2.2.2.2.2.2.2.2.1 x.2.2.2.2.2.2.2.2.2.2.2.2.2.1 x.2.2.2.2.2.2.2.2.2.2.2.2.2.2.1 x.2.2.2.2.2.2.2.2.2.2.2.2.2.2.2.1 x.2.2.2.2.2.2.2.2.2.2.2.2.2.2.2.2.1 x.2.2.2.2.2.2.2.2.2.2.2.2.2.2.2.2.2.1 x.2.2.2.2.2.2.2.2.2.2.2.2.2.2.2.2.2.2.1 x.2.2.2.2.2.2.2.2.2.2.2.2.2.2.2.2.2.2.2.1 x.2.2.2.2.2.2.2.2.2.2.2.2.2.2.2.2.2.2.2.2.1 x.2.2.2.2.2.2.2.2.2.2.2.2.2.2.2.2.2.2.2.2.2.1 x.2.2.2.2.2.2.2.2.2.2.2.2.2.2.2.2.2.2.2.2.2.2.1 x.2.2.2.2.2.2.2.2.2.2.2.2.2.2.2.2.2.2.2.2.2.2.2.1 x.2.2.2.2.2.2.2.2.2.2.2.2.2.2.2.2.2.2.2.2.2.2.2.2.1 x.2.2.2.2.2.2.2.2.2.2.2.2.2.2.2.2.2.2.2.2.2.2.2.2.2.1 x.2.2.2.2.2.2.2.2.2.2.2.2.2.2.2.2.2.2.2.2.2.2.2.2.2.2.1 x.2.2.2.2.2.2.2.2.2.2.2.2.2.2.2.2.2.2.2.2.2.2.2.2.2.2.2.1 x.2.2.2.2.2.2.2.2.2.2.2.2.2.2.2.2.2.2.2.2.2.2.2.2.2.2.2.2.1 x.2.2.2.2.2.2.2.2.2.2.2.2.2.2.2.2.2.2.2.2.2.2.2.2.2.2.2.2.2.1 x.2.2.2.2.2.2.2.2.2.2.2.2.2.2.2.2.2.2.2.2.2.2.2.2.2.2.2.2.2.2.1 x.2.2.2.2.2.2.2.2.2.2.2.2.2.2.2.2.2.2.2.2.2.2.2.2.2.2.2.2.2.2.2.1 x.2.2.2.2.2.2.2.2.2.2.2.2.2.2.2.2.2.2.2.2.2.2.2.2.2.2.2.2.2.2.2.2.1) [] [] [(2,⟨[],[(0,[.own 1 0,.own 2 0,.i,.t (.slc tAMember),.t (.slc tAInst),.t (.slc tAAsset),.t (.slc tAAccount),.t (.slc tAChoice),.t (.slc tAGroup),.t (.slc tAGive),.t (.slc tAPos),.t (.slc tAPos),.t (.slc tAFlow),.t (.slc tAHold),.b]),(2,[.b,.b,.i,.t (.slc (.int .i64)),.row 0,.i]),(3,[.own 2 0,.i,.i,.i,.i,.i,.i,.row 1,.b])],[.own 328 tDriveCell,.own 22 (.slc (.int .u8))]⟩)] [] Tryz.func34 rfl (h:=fun W x=>by kernel_rfl)
def ref01_SameW (W : Wd) (a : List Int) (b : List Int) : Option Bool := 
 W.cnd ((a.length : Int) != (b.length : Int)) (some false)
  (
  W.loop (fun (z1 : Int × Unit) again2 => 
   W.cnd (decide (z1.1 < (a.length : Int))) (W.idx a z1.1 fun x3 => W.idx b z1.1 fun x4 => 
    W.cnd (x3 != x4) (some false)
     ((again2 ((IntKind.i64.wrap (z1.1 + 1)), ()))))
    (some true))
   (0, ()))
abbrev ref01_Same := ref01_SameW stdW
def ref01_Same_k := kes kp 16 (.p2 (.slc (.int .u8)) (.slc (.int .u8))) .b (fun W x => ref01_SameW W x.1 x.2.1) [] [(6,[],(oI 9))] [] [(4,⟨[(5,.i)],[],[]⟩)] Tryz.func16 rfl (h:=fun W x=>by kernel_rfl)
def slices_Cloneapi_Asset_api_AssetW (W : Wd) (s : List AAsset') : Option (List AAsset') := W.nilq (List.isEmpty s) fun g1 => 
 W.cnd (Go.Vc.notIf false g1) (some [])
  (W.room ((0 : Nat) + s.length) 24 (some ([] ++ s)))
def slices_Cloneapi_Asset_api_Asset_k := kes kp 112 (.p1 (.slc tAAsset)) (.own 182 tAAsset) (fun W x => slices_Cloneapi_Asset_api_AssetW W x.1) [] [] [] [] Tryz.func112 rfl (h:=fun W x=>by kernel_rfl)
def slices_Cloneapi_Choice_api_ChoiceW (W : Wd) (s : List AChoice') : Option (List AChoice') := W.nilq (List.isEmpty s) fun g1 => 
 W.cnd (Go.Vc.notIf false g1) (some [])
  (W.room ((0 : Nat) + s.length) 40 (some ([] ++ s)))
def slices_Cloneapi_Choice_api_Choice_k := kes kp 113 (.p1 (.slc tAChoice)) (.own 187 tAChoice) (fun W x => slices_Cloneapi_Choice_api_ChoiceW W x.1) [] [] [] [] Tryz.func113 rfl (h:=fun W x=>by kernel_rfl)
def slices_Cloneapi_Group_api_GroupW (W : Wd) (s : List AGroup') : Option (List AGroup') := W.nilq (List.isEmpty s) fun g1 => 
 W.cnd (Go.Vc.notIf false g1) (some [])
  (W.room ((0 : Nat) + s.length) 48 (some ([] ++ s)))
def slices_Cloneapi_Group_api_Group_k := kes kp 114 (.p1 (.slc tAGroup)) (.own 189 tAGroup) (fun W x => slices_Cloneapi_Group_api_GroupW W x.1) [] [] [] [] Tryz.func114 rfl (h:=fun W x=>by kernel_rfl)
def slices_Cloneapi_Give_api_GiveW (W : Wd) (s : List AGive') : Option (List AGive') := W.nilq (List.isEmpty s) fun g1 => 
 W.cnd (Go.Vc.notIf false g1) (some [])
  (W.room ((0 : Nat) + s.length) 88 (some ([] ++ s)))
def slices_Cloneapi_Give_api_Give_k := kes kp 115 (.p1 (.slc tAGive)) (.own 193 tAGive) (fun W x => slices_Cloneapi_Give_api_GiveW W x.1) [] [] [] [] Tryz.func115 rfl (h:=fun W x=>by kernel_rfl)
def slices_Cloneapi_Flow_api_FlowW (W : Wd) (s : List AFlow') : Option (List AFlow') := W.nilq (List.isEmpty s) fun g1 => 
 W.cnd (Go.Vc.notIf false g1) (some [])
  (W.room ((0 : Nat) + s.length) 24 (some ([] ++ s)))
def slices_Cloneapi_Flow_api_Flow_k := kes kp 116 (.p1 (.slc tAFlow)) (.own 161 tAFlow) (fun W x => slices_Cloneapi_Flow_api_FlowW W x.1) [] [] [] [] Tryz.func116 rfl (h:=fun W x=>by kernel_rfl)
def slices_Cloneapi_Inst_api_InstW (W : Wd) (s : List AInst') : Option (List AInst') := W.nilq (List.isEmpty s) fun g1 => 
 W.cnd (Go.Vc.notIf false g1) (some [])
  (W.room ((0 : Nat) + s.length) 56 (some ([] ++ s)))
def slices_Cloneapi_Inst_api_Inst_k := kes kp 117 (.p1 (.slc tAInst)) (.own 180 tAInst) (fun W x => slices_Cloneapi_Inst_api_InstW W x.1) [] [] [] [] Tryz.func117 rfl (h:=fun W x=>by kernel_rfl)
def slices_Cloneapi_Account_api_AccountW (W : Wd) (s : List AAccount') : Option (List AAccount') := W.nilq (List.isEmpty s) fun g1 => 
 W.cnd (Go.Vc.notIf false g1) (some [])
  (W.room ((0 : Nat) + s.length) 48 (some ([] ++ s)))
def slices_Cloneapi_Account_api_Account_k := kes kp 118 (.p1 (.slc tAAccount)) (.own 185 tAAccount) (fun W x => slices_Cloneapi_Account_api_AccountW W x.1) [] [] [] [] Tryz.func118 rfl (h:=fun W x=>by kernel_rfl)
def slices_Cloneint64_int64W (W : Wd) (s : List Int) : Option (List Int) := W.nilq (List.isEmpty s) fun g1 => 
 W.cnd (Go.Vc.notIf false g1) (some [])
  (W.room ((0 : Nat) + s.length) 8 (some ([] ++ s)))
def slices_Cloneint64_int64_k := kes kp 119 (.p1 (.slc (.int .i64))) (.own 2 (.int .i64)) (fun W x => slices_Cloneint64_int64W W x.1) [] [] [] [] Tryz.func119 rfl (h:=fun W x=>by kernel_rfl)
def slices_Cloneint_intW (W : Wd) (s : List Int) : Option (List Int) := W.nilq (List.isEmpty s) fun g1 => 
 W.cnd (Go.Vc.notIf false g1) (some [])
  (W.room ((0 : Nat) + s.length) 8 (some ([] ++ s)))
def slices_Cloneint_int_k := kes kp 120 (.p1 (.slc (.int .i64))) (.own 3 (.int .i64)) (fun W x => slices_Cloneint_intW W x.1) [] [] [] [] Tryz.func120 rfl (h:=fun W x=>by kernel_rfl)
def slices_Cloneapi_Pos_api_PosW (W : Wd) (s : List APos') : Option (List APos') := W.nilq (List.isEmpty s) fun g1 => 
 W.cnd (Go.Vc.notIf false g1) (some [])
  (W.room ((0 : Nat) + s.length) 40 (some ([] ++ s)))
def slices_Cloneapi_Pos_api_Pos_k := kes kp 192 (.p1 (.slc tAPos)) (.own 196 tAPos) (fun W x => slices_Cloneapi_Pos_api_PosW W x.1) [] [] [] [] Tryz.func192 rfl (h:=fun W x=>by kernel_rfl)
def slices_Cloneapi_Leg_api_LegW (W : Wd) (s : List AUnit') : Option (List AUnit') := W.nilq (List.isEmpty s) fun g1 => 
 W.cnd (Go.Vc.notIf false g1) (some [])
  (W.room ((0 : Nat) + s.length) 16 (some ([] ++ s)))
def slices_Cloneapi_Leg_api_Leg_k := kes kp 193 (.p1 (.slc tAUnit)) (.own 191 tAUnit) (fun W x => slices_Cloneapi_Leg_api_LegW W x.1) [] [] [] [] Tryz.func193 rfl (h:=fun W x=>by kernel_rfl)
def ledger_positionsW (W : Wd) (l : List APos') : Option (List APos') := W.call (slices_Cloneapi_Pos_api_PosW W l) fun v1 => 
 W.loop (fun (z2 : Int × List ((Int × Int × Unit) × List (Int × Int × Unit) × Unit) × Unit) again3 => 
  W.cnd (decide (z2.1 < (v1.length : Int))) (W.idx z2.2.1 z2.1 fun _ => W.nth z2.2.1 (Int.toNat z2.1) fun x5 => W.call (slices_Cloneapi_Leg_api_LegW W x5.2.1) fun v6 => W.idx z2.2.1 z2.1 fun _ => W.nth z2.2.1 (Int.toNat z2.1) fun x8 => (again3 ((IntKind.i64.wrap (z2.1 + 1)), ((List.set z2.2.1 (Int.toNat z2.1) (x8.1, (v6, ()))), ()))))
   (some z2.2.1))
  (0, (v1, ()))
def ledger_positions_k := kes kp 121 (.p1 (.slc tAPos)) (.own 196 tAPos) (fun W x => ledger_positionsW W x.1) [slices_Cloneapi_Pos_api_Pos_k,slices_Cloneapi_Leg_api_Leg_k] [] [] [(3,⟨[(0,.row 0),(8,.i)],[],[.own 196 tAPos]⟩)] Tryz.func121 rfl (h:=fun W x=>by kernel_rfl)
def slices_Cloneapi_Hold_api_HoldW (W : Wd) (s : List AHold') : Option (List AHold') := W.nilq (List.isEmpty s) fun g1 => 
 W.cnd (Go.Vc.notIf false g1) (some [])
  (W.room ((0 : Nat) + s.length) 40 (some ([] ++ s)))
def slices_Cloneapi_Hold_api_Hold_k := kes kp 122 (.p1 (.slc tAHold)) (.own 167 tAHold) (fun W x => slices_Cloneapi_Hold_api_HoldW W x.1) [] [] [] [] Tryz.func122 rfl (h:=fun W x=>by kernel_rfl)
def slices_Cloneapi_Lot_api_LotW (W : Wd) (s : List AAsset') : Option (List AAsset') := W.nilq (List.isEmpty s) fun g1 => 
 W.cnd (Go.Vc.notIf false g1) (some [])
  (W.room ((0 : Nat) + s.length) 24 (some ([] ++ s)))
def slices_Cloneapi_Lot_api_Lot_k := kes kp 123 (.p1 (.slc tAAsset)) (.own 145 tAAsset) (fun W x => slices_Cloneapi_Lot_api_LotW W x.1) [] [] [] [] Tryz.func123 rfl (h:=fun W x=>by kernel_rfl)
def ledger_CloneW (W : Wd) (s : AState') : Option AState' := 
 W.join (fun (z1 : Int × List (Int × Int × Int × Int × List (Int) × Unit) × List (Int × Int × Int × List (Int) × Unit) × List (Int × (Int × Int × Unit) × Int × Int × Int × Unit) × List (Int × (Int × Int × Unit) × (Int × Int × Unit) × (Int × Int × Unit) × Int × Int × Int × Int × Unit) × List ((Int × Int × Unit) × List (Int × Int × Unit) × Unit) × List ((Int × Int × Unit) × List (Int × Int × Unit) × Unit) × List ((Int × Int × Unit) × Int × Unit) × List ((Int × Int × Unit) × List (Int × Int × Int × Unit) × Unit) × List (Int × Int × Int × Int × Unit) × List (Int × Int × Int × Unit) × List ((Int × Int × Unit) × (Int × Int × Unit) × Bool × Unit) × Unit) => 
  W.join (fun (z2 : Int × List (Int × Int × Int × Int × List (Int) × Unit) × List (Int × Int × Int × List (Int) × Unit) × List ((Int × Int × Unit) × List (Int × Int × Unit) × Unit) × List ((Int × Int × Unit) × List (Int × Int × Unit) × Unit) × List ((Int × Int × Unit) × List (Int × Int × Int × Unit) × Unit) × List (Int × Int × Int × Int × Unit) × List (Int × Int × Int × Unit) × List ((Int × Int × Unit) × (Int × Int × Unit) × Bool × Unit) × List (Int × (Int × Int × Unit) × Int × Int × Int × Unit) × List (Int × (Int × Int × Unit) × (Int × Int × Unit) × (Int × Int × Unit) × Int × Int × Int × Int × Unit) × List ((Int × Int × Unit) × Int × Unit) × Unit) => 
   W.join (fun (z3 : Int × List ((Int × Int × Unit) × List (Int × Int × Unit) × Unit) × List ((Int × Int × Unit) × List (Int × Int × Unit) × Unit) × List ((Int × Int × Unit) × List (Int × Int × Int × Unit) × Unit) × List (Int × Int × Int × Int × Unit) × List (Int × Int × Int × Unit) × List ((Int × Int × Unit) × (Int × Int × Unit) × Bool × Unit) × List (Int × (Int × Int × Unit) × Int × Int × Int × Unit) × List (Int × (Int × Int × Unit) × (Int × Int × Unit) × (Int × Int × Unit) × Int × Int × Int × Int × Unit) × List ((Int × Int × Unit) × Int × Unit) × List (Int × Int × Int × Int × List (Int) × Unit) × List (Int × Int × Int × List (Int) × Unit) × Unit) => 
    W.loop (fun (z4 : Int × Int × List ((Int × Int × Unit) × List (Int × Int × Unit) × Unit) × List ((Int × Int × Unit) × List (Int × Int × Unit) × Unit) × List ((Int × Int × Unit) × List (Int × Int × Int × Unit) × Unit) × List (Int × Int × Int × Int × Unit) × List (Int × Int × Int × Unit) × List ((Int × Int × Unit) × (Int × Int × Unit) × Bool × Unit) × List (Int × (Int × Int × Unit) × Int × Int × Int × Unit) × List (Int × (Int × Int × Unit) × (Int × Int × Unit) × (Int × Int × Unit) × Int × Int × Int × Int × Unit) × List ((Int × Int × Unit) × Int × Unit) × List (Int × Int × Int × Int × List (Int) × Unit) × List (Int × Int × Int × List (Int) × Unit) × Unit) again5 => 
     W.cnd (decide (z4.1 < (z3.2.2.2.2.2.2.2.2.2.2.1.length : Int))) (W.idx z4.2.2.2.2.2.2.2.2.2.2.2.1 z4.1 fun x6 => W.nth z4.2.2.2.2.2.2.2.2.2.2.2.1 (Int.toNat z4.1) fun x7 => W.call (slices_Cloneint64_int64W W x7.2.2.2.2.1) fun v8 => W.idx z4.2.2.2.2.2.2.2.2.2.2.2.1 z4.1 fun x9 => W.nth z4.2.2.2.2.2.2.2.2.2.2.2.1 (Int.toNat z4.1) fun x10 => (again5 ((IntKind.i64.wrap (z4.1 + 1)), (z4.2.1, (z4.2.2.1, (z4.2.2.2.1, (z4.2.2.2.2.1, (z4.2.2.2.2.2.1, (z4.2.2.2.2.2.2.1, (z4.2.2.2.2.2.2.2.1, (z4.2.2.2.2.2.2.2.2.1, (z4.2.2.2.2.2.2.2.2.2.1, (z4.2.2.2.2.2.2.2.2.2.2.1, ((List.set z4.2.2.2.2.2.2.2.2.2.2.2.1 (Int.toNat z4.1) (x10.1, (x10.2.1, (x10.2.2.1, (x10.2.2.2.1, (v8, ())))))), z4.2.2.2.2.2.2.2.2.2.2.2.2))))))))))))))
      (
      W.loop (fun (z11 : Int × Int × List ((Int × Int × Unit) × List (Int × Int × Unit) × Unit) × List ((Int × Int × Unit) × List (Int × Int × Unit) × Unit) × List ((Int × Int × Unit) × List (Int × Int × Int × Unit) × Unit) × List (Int × Int × Int × Int × Unit) × List (Int × Int × Int × Unit) × List ((Int × Int × Unit) × (Int × Int × Unit) × Bool × Unit) × List (Int × (Int × Int × Unit) × Int × Int × Int × Unit) × List (Int × (Int × Int × Unit) × (Int × Int × Unit) × (Int × Int × Unit) × Int × Int × Int × Int × Unit) × List ((Int × Int × Unit) × Int × Unit) × List (Int × Int × Int × Int × List (Int) × Unit) × List (Int × Int × Int × List (Int) × Unit) × Unit) again12 => 
       W.cnd (decide (z11.1 < (z4.2.2.2.2.2.2.2.2.2.2.2.2.1.length : Int))) (W.idx z11.2.2.2.2.2.2.2.2.2.2.2.2.1 z11.1 fun x13 => W.nth z11.2.2.2.2.2.2.2.2.2.2.2.2.1 (Int.toNat z11.1) fun x14 => W.call (slices_Cloneint_intW W x14.2.2.2.1) fun v15 => W.idx z11.2.2.2.2.2.2.2.2.2.2.2.2.1 z11.1 fun x16 => W.nth z11.2.2.2.2.2.2.2.2.2.2.2.2.1 (Int.toNat z11.1) fun x17 => (again12 ((IntKind.i64.wrap (z11.1 + 1)), (z11.2.1, (z11.2.2.1, (z11.2.2.2.1, (z11.2.2.2.2.1, (z11.2.2.2.2.2.1, (z11.2.2.2.2.2.2.1, (z11.2.2.2.2.2.2.2.1, (z11.2.2.2.2.2.2.2.2.1, (z11.2.2.2.2.2.2.2.2.2.1, (z11.2.2.2.2.2.2.2.2.2.2.1, (z11.2.2.2.2.2.2.2.2.2.2.2.1, ((List.set z11.2.2.2.2.2.2.2.2.2.2.2.2.1 (Int.toNat z11.1) (x17.1, (x17.2.1, (x17.2.2.1, (v15, ()))))), ())))))))))))))))
        (
        W.join (fun (z18 : Int × List ((Int × Int × Unit) × List (Int × Int × Int × Unit) × Unit) × List (Int × Int × Int × Int × Unit) × List (Int × Int × Int × Unit) × List ((Int × Int × Unit) × (Int × Int × Unit) × Bool × Unit) × List (Int × (Int × Int × Unit) × Int × Int × Int × Unit) × List (Int × (Int × Int × Unit) × (Int × Int × Unit) × (Int × Int × Unit) × Int × Int × Int × Int × Unit) × List ((Int × Int × Unit) × Int × Unit) × List (Int × Int × Int × Int × List (Int) × Unit) × List (Int × Int × Int × List (Int) × Unit) × List ((Int × Int × Unit) × List (Int × Int × Unit) × Unit) × List ((Int × Int × Unit) × List (Int × Int × Unit) × Unit) × Unit) => W.call (slices_Cloneapi_Hold_api_HoldW W z18.2.1) fun v19 => 
         W.loop (fun (z20 : Int × Int × List (Int × Int × Int × Int × Unit) × List (Int × Int × Int × Unit) × List ((Int × Int × Unit) × (Int × Int × Unit) × Bool × Unit) × List (Int × (Int × Int × Unit) × Int × Int × Int × Unit) × List (Int × (Int × Int × Unit) × (Int × Int × Unit) × (Int × Int × Unit) × Int × Int × Int × Int × Unit) × List ((Int × Int × Unit) × Int × Unit) × List (Int × Int × Int × Int × List (Int) × Unit) × List (Int × Int × Int × List (Int) × Unit) × List ((Int × Int × Unit) × List (Int × Int × Unit) × Unit) × List ((Int × Int × Unit) × List (Int × Int × Unit) × Unit) × List ((Int × Int × Unit) × List (Int × Int × Int × Unit) × Unit) × Unit) again21 => 
          W.cnd (decide (z20.1 < (v19.length : Int))) (W.idx z20.2.2.2.2.2.2.2.2.2.2.2.2.1 z20.1 fun x22 => W.nth z20.2.2.2.2.2.2.2.2.2.2.2.2.1 (Int.toNat z20.1) fun x23 => W.call (slices_Cloneapi_Lot_api_LotW W x23.2.1) fun v24 => W.idx z20.2.2.2.2.2.2.2.2.2.2.2.2.1 z20.1 fun x25 => W.nth z20.2.2.2.2.2.2.2.2.2.2.2.2.1 (Int.toNat z20.1) fun x26 => (again21 ((IntKind.i64.wrap (z20.1 + 1)), (z20.2.1, (z20.2.2.1, (z20.2.2.2.1, (z20.2.2.2.2.1, (z20.2.2.2.2.2.1, (z20.2.2.2.2.2.2.1, (z20.2.2.2.2.2.2.2.1, (z20.2.2.2.2.2.2.2.2.1, (z20.2.2.2.2.2.2.2.2.2.1, (z20.2.2.2.2.2.2.2.2.2.2.1, (z20.2.2.2.2.2.2.2.2.2.2.2.1, ((List.set z20.2.2.2.2.2.2.2.2.2.2.2.2.1 (Int.toNat z20.1) (x26.1, (v24, ()))), ())))))))))))))))
           (some (z20.2.1, (z20.2.2.1, (z20.2.2.2.2.2.2.2.2.1, (z20.2.2.2.1, (z20.2.2.2.2.2.2.2.2.2.1, (z20.2.2.2.2.1, (z20.2.2.2.2.2.1, (z20.2.2.2.2.2.2.1, (z20.2.2.2.2.2.2.2.2.2.2.1, (z20.2.2.2.2.2.2.2.2.2.2.2.1, (z20.2.2.2.2.2.2.2.1, z20.2.2.2.2.2.2.2.2.2.2.2.2)))))))))))))
          (0, (z18.1, (z18.2.2.1, (z18.2.2.2.1, (z18.2.2.2.2.1, (z18.2.2.2.2.2.1, (z18.2.2.2.2.2.2.1, (z18.2.2.2.2.2.2.2.1, (z18.2.2.2.2.2.2.2.2.1, (z18.2.2.2.2.2.2.2.2.2.1, (z18.2.2.2.2.2.2.2.2.2.2.1, (z18.2.2.2.2.2.2.2.2.2.2.2.1, (v19, ()))))))))))))))
         fun k27 => W.both (W.both (W.call (ledger_positionsW W z11.2.2.1) fun v28 => W.call (ledger_positionsW W z11.2.2.2.1) fun v29 => (k27 (z11.2.1, (z11.2.2.2.2.1, (z11.2.2.2.2.2.1, (z11.2.2.2.2.2.2.1, (z11.2.2.2.2.2.2.2.1, (z11.2.2.2.2.2.2.2.2.1, (z11.2.2.2.2.2.2.2.2.2.1, (z11.2.2.2.2.2.2.2.2.2.2.1, (z11.2.2.2.2.2.2.2.2.2.2.2.1, (z11.2.2.2.2.2.2.2.2.2.2.2.2.1, (v28, (v29, ())))))))))))))) (W.call (ledger_positionsW W z11.2.2.1) fun v30 => W.call (ledger_positionsW W z11.2.2.2.1) fun v31 => (k27 (z11.2.1, (z11.2.2.2.2.1, (z11.2.2.2.2.2.1, (z11.2.2.2.2.2.2.1, (z11.2.2.2.2.2.2.2.1, (z11.2.2.2.2.2.2.2.2.1, (z11.2.2.2.2.2.2.2.2.2.1, (z11.2.2.2.2.2.2.2.2.2.2.1, (z11.2.2.2.2.2.2.2.2.2.2.2.1, (z11.2.2.2.2.2.2.2.2.2.2.2.2.1, (v30, (v31, ()))))))))))))))) (W.call (ledger_positionsW W z11.2.2.1) fun v32 => W.call (ledger_positionsW W z11.2.2.2.1) fun v33 => (k27 (z11.2.1, (z11.2.2.2.2.1, (z11.2.2.2.2.2.1, (z11.2.2.2.2.2.2.1, (z11.2.2.2.2.2.2.2.1, (z11.2.2.2.2.2.2.2.2.1, (z11.2.2.2.2.2.2.2.2.2.1, (z11.2.2.2.2.2.2.2.2.2.2.1, (z11.2.2.2.2.2.2.2.2.2.2.2.1, (z11.2.2.2.2.2.2.2.2.2.2.2.2.1, (v32, (v33, ()))))))))))))))))
       (0, z4.2)))
     (0, z3))
    fun k34 => W.both (W.both (W.call (slices_Cloneapi_Inst_api_InstW W z2.2.1) fun v35 => W.call (slices_Cloneapi_Account_api_AccountW W z2.2.2.1) fun v36 => (k34 (z2.1, (z2.2.2.2.1, (z2.2.2.2.2.1, (z2.2.2.2.2.2.1, (z2.2.2.2.2.2.2.1, (z2.2.2.2.2.2.2.2.1, (z2.2.2.2.2.2.2.2.2.1, (z2.2.2.2.2.2.2.2.2.2.1, (z2.2.2.2.2.2.2.2.2.2.2.1, (z2.2.2.2.2.2.2.2.2.2.2.2.1, (v35, (v36, ())))))))))))))) (W.call (slices_Cloneapi_Inst_api_InstW W z2.2.1) fun v37 => W.call (slices_Cloneapi_Account_api_AccountW W z2.2.2.1) fun v38 => (k34 (z2.1, (z2.2.2.2.1, (z2.2.2.2.2.1, (z2.2.2.2.2.2.1, (z2.2.2.2.2.2.2.1, (z2.2.2.2.2.2.2.2.1, (z2.2.2.2.2.2.2.2.2.1, (z2.2.2.2.2.2.2.2.2.2.1, (z2.2.2.2.2.2.2.2.2.2.2.1, (z2.2.2.2.2.2.2.2.2.2.2.2.1, (v37, (v38, ()))))))))))))))) (W.call (slices_Cloneapi_Inst_api_InstW W z2.2.1) fun v39 => W.call (slices_Cloneapi_Account_api_AccountW W z2.2.2.1) fun v40 => (k34 (z2.1, (z2.2.2.2.1, (z2.2.2.2.2.1, (z2.2.2.2.2.2.1, (z2.2.2.2.2.2.2.1, (z2.2.2.2.2.2.2.2.1, (z2.2.2.2.2.2.2.2.2.1, (z2.2.2.2.2.2.2.2.2.2.1, (z2.2.2.2.2.2.2.2.2.2.2.1, (z2.2.2.2.2.2.2.2.2.2.2.2.1, (v39, (v40, ())))))))))))))))
   fun k41 => W.both (W.both (W.call (slices_Cloneapi_Group_api_GroupW W z1.2.2.2.1) fun v42 => W.both (W.both (W.call (slices_Cloneapi_Give_api_GiveW W z1.2.2.2.2.1) fun v43 => W.call (slices_Cloneapi_Flow_api_FlowW W z1.2.2.2.2.2.2.2.1) fun v44 => (k41 (z1.1, (z1.2.1, (z1.2.2.1, (z1.2.2.2.2.2.1, (z1.2.2.2.2.2.2.1, (z1.2.2.2.2.2.2.2.2.1, (z1.2.2.2.2.2.2.2.2.2.1, (z1.2.2.2.2.2.2.2.2.2.2.1, (z1.2.2.2.2.2.2.2.2.2.2.2.1, (v42, (v43, (v44, ())))))))))))))) (W.call (slices_Cloneapi_Give_api_GiveW W z1.2.2.2.2.1) fun v45 => W.call (slices_Cloneapi_Flow_api_FlowW W z1.2.2.2.2.2.2.2.1) fun v46 => (k41 (z1.1, (z1.2.1, (z1.2.2.1, (z1.2.2.2.2.2.1, (z1.2.2.2.2.2.2.1, (z1.2.2.2.2.2.2.2.2.1, (z1.2.2.2.2.2.2.2.2.2.1, (z1.2.2.2.2.2.2.2.2.2.2.1, (z1.2.2.2.2.2.2.2.2.2.2.2.1, (v42, (v45, (v46, ()))))))))))))))) (W.call (slices_Cloneapi_Give_api_GiveW W z1.2.2.2.2.1) fun v47 => W.call (slices_Cloneapi_Flow_api_FlowW W z1.2.2.2.2.2.2.2.1) fun v48 => (k41 (z1.1, (z1.2.1, (z1.2.2.1, (z1.2.2.2.2.2.1, (z1.2.2.2.2.2.2.1, (z1.2.2.2.2.2.2.2.2.1, (z1.2.2.2.2.2.2.2.2.2.1, (z1.2.2.2.2.2.2.2.2.2.2.1, (z1.2.2.2.2.2.2.2.2.2.2.2.1, (v42, (v47, (v48, ()))))))))))))))) (W.both (W.both (W.call (slices_Cloneapi_Group_api_GroupW W z1.2.2.2.1) fun v49 => W.both (W.call (slices_Cloneapi_Give_api_GiveW W z1.2.2.2.2.1) fun v50 => W.call (slices_Cloneapi_Flow_api_FlowW W z1.2.2.2.2.2.2.2.1) fun v51 => (k41 (z1.1, (z1.2.1, (z1.2.2.1, (z1.2.2.2.2.2.1, (z1.2.2.2.2.2.2.1, (z1.2.2.2.2.2.2.2.2.1, (z1.2.2.2.2.2.2.2.2.2.1, (z1.2.2.2.2.2.2.2.2.2.2.1, (z1.2.2.2.2.2.2.2.2.2.2.2.1, (v49, (v50, (v51, ())))))))))))))) (W.call (slices_Cloneapi_Give_api_GiveW W z1.2.2.2.2.1) fun v52 => W.call (slices_Cloneapi_Flow_api_FlowW W z1.2.2.2.2.2.2.2.1) fun v53 => (k41 (z1.1, (z1.2.1, (z1.2.2.1, (z1.2.2.2.2.2.1, (z1.2.2.2.2.2.2.1, (z1.2.2.2.2.2.2.2.2.1, (z1.2.2.2.2.2.2.2.2.2.1, (z1.2.2.2.2.2.2.2.2.2.2.1, (z1.2.2.2.2.2.2.2.2.2.2.2.1, (v49, (v52, (v53, ()))))))))))))))) (W.call (slices_Cloneapi_Group_api_GroupW W z1.2.2.2.1) fun v54 => W.call (slices_Cloneapi_Give_api_GiveW W z1.2.2.2.2.1) fun v55 => W.call (slices_Cloneapi_Flow_api_FlowW W z1.2.2.2.2.2.2.2.1) fun v56 => (k41 (z1.1, (z1.2.1, (z1.2.2.1, (z1.2.2.2.2.2.1, (z1.2.2.2.2.2.2.1, (z1.2.2.2.2.2.2.2.2.1, (z1.2.2.2.2.2.2.2.2.2.1, (z1.2.2.2.2.2.2.2.2.2.2.1, (z1.2.2.2.2.2.2.2.2.2.2.2.1, (v54, (v55, (v56, ()))))))))))))))) (W.both (W.call (slices_Cloneapi_Group_api_GroupW W z1.2.2.2.1) fun v57 => W.call (slices_Cloneapi_Give_api_GiveW W z1.2.2.2.2.1) fun v58 => W.call (slices_Cloneapi_Flow_api_FlowW W z1.2.2.2.2.2.2.2.1) fun v59 => (k41 (z1.1, (z1.2.1, (z1.2.2.1, (z1.2.2.2.2.2.1, (z1.2.2.2.2.2.2.1, (z1.2.2.2.2.2.2.2.2.1, (z1.2.2.2.2.2.2.2.2.2.1, (z1.2.2.2.2.2.2.2.2.2.2.1, (z1.2.2.2.2.2.2.2.2.2.2.2.1, (v57, (v58, (v59, ())))))))))))))) (W.call (slices_Cloneapi_Group_api_GroupW W z1.2.2.2.1) fun v60 => W.call (slices_Cloneapi_Give_api_GiveW W z1.2.2.2.2.1) fun v61 => W.call (slices_Cloneapi_Flow_api_FlowW W z1.2.2.2.2.2.2.2.1) fun v62 => (k41 (z1.1, (z1.2.1, (z1.2.2.1, (z1.2.2.2.2.2.1, (z1.2.2.2.2.2.2.1, (z1.2.2.2.2.2.2.2.2.1, (z1.2.2.2.2.2.2.2.2.2.1, (z1.2.2.2.2.2.2.2.2.2.2.1, (z1.2.2.2.2.2.2.2.2.2.2.2.1, (v60, (v61, (v62, ()))))))))))))))))) (W.both (W.both (W.both (W.call (slices_Cloneapi_Group_api_GroupW W z1.2.2.2.1) fun v63 => W.both (W.call (slices_Cloneapi_Give_api_GiveW W z1.2.2.2.2.1) fun v64 => W.call (slices_Cloneapi_Flow_api_FlowW W z1.2.2.2.2.2.2.2.1) fun v65 => (k41 (z1.1, (z1.2.1, (z1.2.2.1, (z1.2.2.2.2.2.1, (z1.2.2.2.2.2.2.1, (z1.2.2.2.2.2.2.2.2.1, (z1.2.2.2.2.2.2.2.2.2.1, (z1.2.2.2.2.2.2.2.2.2.2.1, (z1.2.2.2.2.2.2.2.2.2.2.2.1, (v63, (v64, (v65, ())))))))))))))) (W.call (slices_Cloneapi_Give_api_GiveW W z1.2.2.2.2.1) fun v66 => W.call (slices_Cloneapi_Flow_api_FlowW W z1.2.2.2.2.2.2.2.1) fun v67 => (k41 (z1.1, (z1.2.1, (z1.2.2.1, (z1.2.2.2.2.2.1, (z1.2.2.2.2.2.2.1, (z1.2.2.2.2.2.2.2.2.1, (z1.2.2.2.2.2.2.2.2.2.1, (z1.2.2.2.2.2.2.2.2.2.2.1, (z1.2.2.2.2.2.2.2.2.2.2.2.1, (v63, (v66, (v67, ()))))))))))))))) (W.call (slices_Cloneapi_Group_api_GroupW W z1.2.2.2.1) fun v68 => W.call (slices_Cloneapi_Give_api_GiveW W z1.2.2.2.2.1) fun v69 => W.call (slices_Cloneapi_Flow_api_FlowW W z1.2.2.2.2.2.2.2.1) fun v70 => (k41 (z1.1, (z1.2.1, (z1.2.2.1, (z1.2.2.2.2.2.1, (z1.2.2.2.2.2.2.1, (z1.2.2.2.2.2.2.2.2.1, (z1.2.2.2.2.2.2.2.2.2.1, (z1.2.2.2.2.2.2.2.2.2.2.1, (z1.2.2.2.2.2.2.2.2.2.2.2.1, (v68, (v69, (v70, ()))))))))))))))) (W.call (slices_Cloneapi_Group_api_GroupW W z1.2.2.2.1) fun v71 => W.call (slices_Cloneapi_Give_api_GiveW W z1.2.2.2.2.1) fun v72 => W.call (slices_Cloneapi_Flow_api_FlowW W z1.2.2.2.2.2.2.2.1) fun v73 => (k41 (z1.1, (z1.2.1, (z1.2.2.1, (z1.2.2.2.2.2.1, (z1.2.2.2.2.2.2.1, (z1.2.2.2.2.2.2.2.2.1, (z1.2.2.2.2.2.2.2.2.2.1, (z1.2.2.2.2.2.2.2.2.2.2.1, (z1.2.2.2.2.2.2.2.2.2.2.2.1, (v71, (v72, (v73, ()))))))))))))))) (W.both (W.both (W.call (slices_Cloneapi_Group_api_GroupW W z1.2.2.2.1) fun v74 => W.call (slices_Cloneapi_Give_api_GiveW W z1.2.2.2.2.1) fun v75 => W.call (slices_Cloneapi_Flow_api_FlowW W z1.2.2.2.2.2.2.2.1) fun v76 => (k41 (z1.1, (z1.2.1, (z1.2.2.1, (z1.2.2.2.2.2.1, (z1.2.2.2.2.2.2.1, (z1.2.2.2.2.2.2.2.2.1, (z1.2.2.2.2.2.2.2.2.2.1, (z1.2.2.2.2.2.2.2.2.2.2.1, (z1.2.2.2.2.2.2.2.2.2.2.2.1, (v74, (v75, (v76, ())))))))))))))) (W.call (slices_Cloneapi_Group_api_GroupW W z1.2.2.2.1) fun v77 => W.call (slices_Cloneapi_Give_api_GiveW W z1.2.2.2.2.1) fun v78 => W.call (slices_Cloneapi_Flow_api_FlowW W z1.2.2.2.2.2.2.2.1) fun v79 => (k41 (z1.1, (z1.2.1, (z1.2.2.1, (z1.2.2.2.2.2.1, (z1.2.2.2.2.2.2.1, (z1.2.2.2.2.2.2.2.2.1, (z1.2.2.2.2.2.2.2.2.2.1, (z1.2.2.2.2.2.2.2.2.2.2.1, (z1.2.2.2.2.2.2.2.2.2.2.2.1, (v77, (v78, (v79, ()))))))))))))))) (W.call (slices_Cloneapi_Group_api_GroupW W z1.2.2.2.1) fun v80 => W.call (slices_Cloneapi_Give_api_GiveW W z1.2.2.2.2.1) fun v81 => W.call (slices_Cloneapi_Flow_api_FlowW W z1.2.2.2.2.2.2.2.1) fun v82 => (k41 (z1.1, (z1.2.1, (z1.2.2.1, (z1.2.2.2.2.2.1, (z1.2.2.2.2.2.2.1, (z1.2.2.2.2.2.2.2.2.1, (z1.2.2.2.2.2.2.2.2.2.1, (z1.2.2.2.2.2.2.2.2.2.2.1, (z1.2.2.2.2.2.2.2.2.2.2.2.1, (v80, (v81, (v82, ())))))))))))))))))
  fun k83 => W.both (W.both (W.call (slices_Cloneapi_Member_api_MemberW W s.2.1) fun v84 => W.both (W.both (W.call (slices_Cloneapi_Asset_api_AssetW W s.2.2.2.1) fun v85 => W.call (slices_Cloneapi_Choice_api_ChoiceW W s.2.2.2.2.2.1) fun v86 => (k83 (s.1, (s.2.2.1, (s.2.2.2.2.1, (s.2.2.2.2.2.2.1, (s.2.2.2.2.2.2.2.1, (s.2.2.2.2.2.2.2.2.1, (s.2.2.2.2.2.2.2.2.2.1, (s.2.2.2.2.2.2.2.2.2.2.1, (s.2.2.2.2.2.2.2.2.2.2.2.1, (v84, (v85, (v86, ())))))))))))))) (W.call (slices_Cloneapi_Asset_api_AssetW W s.2.2.2.1) fun v87 => W.call (slices_Cloneapi_Choice_api_ChoiceW W s.2.2.2.2.2.1) fun v88 => (k83 (s.1, (s.2.2.1, (s.2.2.2.2.1, (s.2.2.2.2.2.2.1, (s.2.2.2.2.2.2.2.1, (s.2.2.2.2.2.2.2.2.1, (s.2.2.2.2.2.2.2.2.2.1, (s.2.2.2.2.2.2.2.2.2.2.1, (s.2.2.2.2.2.2.2.2.2.2.2.1, (v84, (v87, (v88, ()))))))))))))))) (W.call (slices_Cloneapi_Asset_api_AssetW W s.2.2.2.1) fun v89 => W.call (slices_Cloneapi_Choice_api_ChoiceW W s.2.2.2.2.2.1) fun v90 => (k83 (s.1, (s.2.2.1, (s.2.2.2.2.1, (s.2.2.2.2.2.2.1, (s.2.2.2.2.2.2.2.1, (s.2.2.2.2.2.2.2.2.1, (s.2.2.2.2.2.2.2.2.2.1, (s.2.2.2.2.2.2.2.2.2.2.1, (s.2.2.2.2.2.2.2.2.2.2.2.1, (v84, (v89, (v90, ()))))))))))))))) (W.both (W.both (W.call (slices_Cloneapi_Member_api_MemberW W s.2.1) fun v91 => W.both (W.call (slices_Cloneapi_Asset_api_AssetW W s.2.2.2.1) fun v92 => W.call (slices_Cloneapi_Choice_api_ChoiceW W s.2.2.2.2.2.1) fun v93 => (k83 (s.1, (s.2.2.1, (s.2.2.2.2.1, (s.2.2.2.2.2.2.1, (s.2.2.2.2.2.2.2.1, (s.2.2.2.2.2.2.2.2.1, (s.2.2.2.2.2.2.2.2.2.1, (s.2.2.2.2.2.2.2.2.2.2.1, (s.2.2.2.2.2.2.2.2.2.2.2.1, (v91, (v92, (v93, ())))))))))))))) (W.call (slices_Cloneapi_Asset_api_AssetW W s.2.2.2.1) fun v94 => W.call (slices_Cloneapi_Choice_api_ChoiceW W s.2.2.2.2.2.1) fun v95 => (k83 (s.1, (s.2.2.1, (s.2.2.2.2.1, (s.2.2.2.2.2.2.1, (s.2.2.2.2.2.2.2.1, (s.2.2.2.2.2.2.2.2.1, (s.2.2.2.2.2.2.2.2.2.1, (s.2.2.2.2.2.2.2.2.2.2.1, (s.2.2.2.2.2.2.2.2.2.2.2.1, (v91, (v94, (v95, ()))))))))))))))) (W.call (slices_Cloneapi_Member_api_MemberW W s.2.1) fun v96 => W.call (slices_Cloneapi_Asset_api_AssetW W s.2.2.2.1) fun v97 => W.call (slices_Cloneapi_Choice_api_ChoiceW W s.2.2.2.2.2.1) fun v98 => (k83 (s.1, (s.2.2.1, (s.2.2.2.2.1, (s.2.2.2.2.2.2.1, (s.2.2.2.2.2.2.2.1, (s.2.2.2.2.2.2.2.2.1, (s.2.2.2.2.2.2.2.2.2.1, (s.2.2.2.2.2.2.2.2.2.2.1, (s.2.2.2.2.2.2.2.2.2.2.2.1, (v96, (v97, (v98, ()))))))))))))))) (W.both (W.call (slices_Cloneapi_Member_api_MemberW W s.2.1) fun v99 => W.call (slices_Cloneapi_Asset_api_AssetW W s.2.2.2.1) fun v100 => W.call (slices_Cloneapi_Choice_api_ChoiceW W s.2.2.2.2.2.1) fun v101 => (k83 (s.1, (s.2.2.1, (s.2.2.2.2.1, (s.2.2.2.2.2.2.1, (s.2.2.2.2.2.2.2.1, (s.2.2.2.2.2.2.2.2.1, (s.2.2.2.2.2.2.2.2.2.1, (s.2.2.2.2.2.2.2.2.2.2.1, (s.2.2.2.2.2.2.2.2.2.2.2.1, (v99, (v100, (v101, ())))))))))))))) (W.call (slices_Cloneapi_Member_api_MemberW W s.2.1) fun v102 => W.call (slices_Cloneapi_Asset_api_AssetW W s.2.2.2.1) fun v103 => W.call (slices_Cloneapi_Choice_api_ChoiceW W s.2.2.2.2.2.1) fun v104 => (k83 (s.1, (s.2.2.1, (s.2.2.2.2.1, (s.2.2.2.2.2.2.1, (s.2.2.2.2.2.2.2.1, (s.2.2.2.2.2.2.2.2.1, (s.2.2.2.2.2.2.2.2.2.1, (s.2.2.2.2.2.2.2.2.2.2.1, (s.2.2.2.2.2.2.2.2.2.2.2.1, (v102, (v103, (v104, ()))))))))))))))))) (W.both (W.both (W.both (W.call (slices_Cloneapi_Member_api_MemberW W s.2.1) fun v105 => W.both (W.call (slices_Cloneapi_Asset_api_AssetW W s.2.2.2.1) fun v106 => W.call (slices_Cloneapi_Choice_api_ChoiceW W s.2.2.2.2.2.1) fun v107 => (k83 (s.1, (s.2.2.1, (s.2.2.2.2.1, (s.2.2.2.2.2.2.1, (s.2.2.2.2.2.2.2.1, (s.2.2.2.2.2.2.2.2.1, (s.2.2.2.2.2.2.2.2.2.1, (s.2.2.2.2.2.2.2.2.2.2.1, (s.2.2.2.2.2.2.2.2.2.2.2.1, (v105, (v106, (v107, ())))))))))))))) (W.call (slices_Cloneapi_Asset_api_AssetW W s.2.2.2.1) fun v108 => W.call (slices_Cloneapi_Choice_api_ChoiceW W s.2.2.2.2.2.1) fun v109 => (k83 (s.1, (s.2.2.1, (s.2.2.2.2.1, (s.2.2.2.2.2.2.1, (s.2.2.2.2.2.2.2.1, (s.2.2.2.2.2.2.2.2.1, (s.2.2.2.2.2.2.2.2.2.1, (s.2.2.2.2.2.2.2.2.2.2.1, (s.2.2.2.2.2.2.2.2.2.2.2.1, (v105, (v108, (v109, ()))))))))))))))) (W.call (slices_Cloneapi_Member_api_MemberW W s.2.1) fun v110 => W.call (slices_Cloneapi_Asset_api_AssetW W s.2.2.2.1) fun v111 => W.call (slices_Cloneapi_Choice_api_ChoiceW W s.2.2.2.2.2.1) fun v112 => (k83 (s.1, (s.2.2.1, (s.2.2.2.2.1, (s.2.2.2.2.2.2.1, (s.2.2.2.2.2.2.2.1, (s.2.2.2.2.2.2.2.2.1, (s.2.2.2.2.2.2.2.2.2.1, (s.2.2.2.2.2.2.2.2.2.2.1, (s.2.2.2.2.2.2.2.2.2.2.2.1, (v110, (v111, (v112, ()))))))))))))))) (W.call (slices_Cloneapi_Member_api_MemberW W s.2.1) fun v113 => W.call (slices_Cloneapi_Asset_api_AssetW W s.2.2.2.1) fun v114 => W.call (slices_Cloneapi_Choice_api_ChoiceW W s.2.2.2.2.2.1) fun v115 => (k83 (s.1, (s.2.2.1, (s.2.2.2.2.1, (s.2.2.2.2.2.2.1, (s.2.2.2.2.2.2.2.1, (s.2.2.2.2.2.2.2.2.1, (s.2.2.2.2.2.2.2.2.2.1, (s.2.2.2.2.2.2.2.2.2.2.1, (s.2.2.2.2.2.2.2.2.2.2.2.1, (v113, (v114, (v115, ()))))))))))))))) (W.both (W.both (W.call (slices_Cloneapi_Member_api_MemberW W s.2.1) fun v116 => W.call (slices_Cloneapi_Asset_api_AssetW W s.2.2.2.1) fun v117 => W.call (slices_Cloneapi_Choice_api_ChoiceW W s.2.2.2.2.2.1) fun v118 => (k83 (s.1, (s.2.2.1, (s.2.2.2.2.1, (s.2.2.2.2.2.2.1, (s.2.2.2.2.2.2.2.1, (s.2.2.2.2.2.2.2.2.1, (s.2.2.2.2.2.2.2.2.2.1, (s.2.2.2.2.2.2.2.2.2.2.1, (s.2.2.2.2.2.2.2.2.2.2.2.1, (v116, (v117, (v118, ())))))))))))))) (W.call (slices_Cloneapi_Member_api_MemberW W s.2.1) fun v119 => W.call (slices_Cloneapi_Asset_api_AssetW W s.2.2.2.1) fun v120 => W.call (slices_Cloneapi_Choice_api_ChoiceW W s.2.2.2.2.2.1) fun v121 => (k83 (s.1, (s.2.2.1, (s.2.2.2.2.1, (s.2.2.2.2.2.2.1, (s.2.2.2.2.2.2.2.1, (s.2.2.2.2.2.2.2.2.1, (s.2.2.2.2.2.2.2.2.2.1, (s.2.2.2.2.2.2.2.2.2.2.1, (s.2.2.2.2.2.2.2.2.2.2.2.1, (v119, (v120, (v121, ()))))))))))))))) (W.call (slices_Cloneapi_Member_api_MemberW W s.2.1) fun v122 => W.call (slices_Cloneapi_Asset_api_AssetW W s.2.2.2.1) fun v123 => W.call (slices_Cloneapi_Choice_api_ChoiceW W s.2.2.2.2.2.1) fun v124 => (k83 (s.1, (s.2.2.1, (s.2.2.2.2.1, (s.2.2.2.2.2.2.1, (s.2.2.2.2.2.2.2.1, (s.2.2.2.2.2.2.2.2.1, (s.2.2.2.2.2.2.2.2.2.1, (s.2.2.2.2.2.2.2.2.2.2.1, (s.2.2.2.2.2.2.2.2.2.2.2.1, (v122, (v123, (v124, ()))))))))))))))))
def ledger_Clone_k := kes kp 47 (.p1 tAState) (.v tAState) (fun W x => ledger_CloneW W x.1) [slices_Cloneapi_Member_api_Member_k,slices_Cloneapi_Asset_api_Asset_k,slices_Cloneapi_Choice_api_Choice_k,slices_Cloneapi_Group_api_Group_k,slices_Cloneapi_Give_api_Give_k,slices_Cloneapi_Flow_api_Flow_k,slices_Cloneapi_Inst_api_Inst_k,slices_Cloneapi_Account_api_Account_k,slices_Cloneint64_int64_k,slices_Cloneint_int_k,ledger_positions_k,slices_Cloneapi_Hold_api_Hold_k,slices_Cloneapi_Lot_api_Lot_k] [(1,[0],(.rd 0 (.rd 3 (.rd 6 (.three 1 4 7 (.three 2 4 7 (.two 4 7 (.two 5 7 (oN [14,19,16,20,23,24,27,28]) (oN [19,10,16,20,23,24,27,28])) (oN [8,19,10,16,20,23,24,27,28])) (.two 2 7 (.two 5 7 (oN [14,19,16,20,23,24,27,28]) (oN [19,10,16,20,23,24,27,28])) (oN [4,19,10,16,20,23,24,27,28])) (.two 2 4 (oN [8,19,10,16,20,23,24,27,28]) (oN [4,19,10,16,20,23,24,27,28]))) (.two 1 7 (.two 2 7 (.two 5 7 (oN [14,19,16,20,23,24,27,28]) (oN [19,10,16,20,23,24,27,28])) (oN [4,19,10,16,20,23,24,27,28])) (oN [2,4,19,10,16,20,23,24,27,28])) (.two 1 4 (.two 2 4 (oN [8,19,10,16,20,23,24,27,28]) (oN [4,19,10,16,20,23,24,27,28])) (oN [2,4,19,10,16,20,23,24,27,28]))))))),(2,[0],(.rd 0 (.rd 3 (.rd 6 (.three 1 4 7 (.three 2 4 7 (.two 4 7 (.two 5 7 (oN [14,19,16,20,23,24,27,28]) (oN [19,10,16,20,23,24,27,28])) (oN [8,19,10,16,20,23,24,27,28])) (.two 2 7 (.two 5 7 (oN [14,19,16,20,23,24,27,28]) (oN [19,10,16,20,23,24,27,28])) (oN [4,19,10,16,20,23,24,27,28])) (.two 2 4 (oN [8,19,10,16,20,23,24,27,28]) (oN [4,19,10,16,20,23,24,27,28]))) (.two 1 7 (.two 2 7 (.two 5 7 (oN [14,19,16,20,23,24,27,28]) (oN [19,10,16,20,23,24,27,28])) (oN [4,19,10,16,20,23,24,27,28])) (oN [2,4,19,10,16,20,23,24,27,28])) (.two 1 4 (.two 2 4 (oN [8,19,10,16,20,23,24,27,28]) (oN [4,19,10,16,20,23,24,27,28])) (oN [2,4,19,10,16,20,23,24,27,28]))))))),(3,[0],(.rd 0 (.rd 3 (.two 1 4 (.two 2 4 (oN [8,13,10,14,17,18]) (oN [4,13,10,14,17,18])) (oN [2,4,13,10,14,17,18]))))),(7,[],(oX 13 [8,9,12])),(12,[],(oX 13 [8,9,12])),(14,[0],(.rd 0 (.rd 3 (.two 1 4 (.two 2 4 (oN [8,13,10,14,17,18]) (oN [4,13,10,14,17,18])) (oN [2,4,13,10,14,17,18]))))),(19,[],(oX 13 [8,9,12]))] [(2,⟨[],[(0,[.i,.row 0,.t (.slc tAInst),.row 1,.t (.slc tAAccount),.row 2,.t (.slc tAGroup),.t (.slc tAGive),.t (.slc tAPos),.t (.slc tAPos),.t (.slc tAFlow),.t (.slc tAHold)])],[.own 112 tAMember,.own 182 tAAsset,.own 187 tAChoice]⟩),(3,⟨[],[(0,[.i,.row 0,.t (.slc tAInst),.row 1,.t (.slc tAAccount),.row 2,.row 3,.row 4,.t (.slc tAPos),.t (.slc tAPos),.row 5,.t (.slc tAHold)])],[.own 112 tAMember,.own 182 tAAsset,.own 187 tAChoice,.own 189 tAGroup,.own 193 tAGive,.own 161 tAFlow]⟩),(4,⟨[],[(0,[.i,.row 0,.row 6,.row 1,.row 7,.row 2,.row 3,.row 4,.t (.slc tAPos),.t (.slc tAPos),.row 5,.t (.slc tAHold)])],[.own 112 tAMember,.own 182 tAAsset,.own 187 tAChoice,.own 189 tAGroup,.own 193 tAGive,.own 161 tAFlow,.own 180 tAInst,.own 185 tAAccount]⟩),(15,⟨[],[(0,[.i,.row 0,.row 6,.row 1,.row 7,.row 2,.row 3,.row 4,.row 8,.row 9,.row 5,.t (.slc tAHold)])],[.own 112 tAMember,.own 182 tAAsset,.own 187 tAChoice,.own 189 tAGroup,.own 193 tAGive,.own 161 tAFlow,.own 180 tAInst,.own 185 tAAccount,.own 196 tAPos,.own 196 tAPos]⟩)] [(5,⟨[(41,.i)],[(0,[.i,.row 0,.row 6,.row 1,.row 7,.row 2,.row 3,.row 4,.t (.slc tAPos),.t (.slc tAPos),.row 5,.t (.slc tAHold)])],[.own 112 tAMember,.own 182 tAAsset,.own 187 tAChoice,.own 189 tAGroup,.own 193 tAGive,.own 161 tAFlow,.own 180 tAInst,.own 185 tAAccount]⟩),(10,⟨[(60,.i)],[(0,[.i,.row 0,.row 6,.row 1,.row 7,.row 2,.row 3,.row 4,.t (.slc tAPos),.t (.slc tAPos),.row 5,.t (.slc tAHold)])],[.own 112 tAMember,.own 182 tAAsset,.own 187 tAChoice,.own 189 tAGroup,.own 193 tAGive,.own 161 tAFlow,.own 180 tAInst,.own 185 tAAccount]⟩),(17,⟨[(91,.i)],[(0,[.i,.row 0,.row 6,.row 1,.row 7,.row 2,.row 3,.row 4,.row 8,.row 9,.row 5,.row 10])],[.own 112 tAMember,.own 182 tAAsset,.own 187 tAChoice,.own 189 tAGroup,.own 193 tAGive,.own 161 tAFlow,.own 180 tAInst,.own 185 tAAccount,.own 196 tAPos,.own 196 tAPos,.own 167 tAHold]⟩)] Tryz.func47 rfl (h:=fun W x=>by kernel_rfl)
def engine_Engine_State2W (W : Wd) (g2 : Int) (g3 : List AMember') (g4 : List AInst') (g5 : List AAsset') (g6 : List AAccount') (g7 : List AChoice') (g8 : List AGroup') (g9 : List AGive') (g10 : List APos') (g11 : List APos') (g12 : List AFlow') (g13 : List AHold') (g14 : Bool) (g0_2 : Int) (g0_3 : Int) (g0_4 : Int) (g0_5 : List Int) (g0_6 : Bool) (g1_0 : Bool) (g1_1 : Bool) (g1_2 : Int) (g1_3 : List Int) (g1_4 : List DriveCell') (g1_5 : Int) (g0_0_1 : Int) (g0_0_2 : Int) (g0_0_3 : Int) (g0_0_4 : Int) (g0_0_5 : Int) (g0_0_6 : Int) (g0_0_7 : List (List Int)) (g0_0_8 : Bool) : Option (AState' × (Int × (List AMember') × (List AInst') × (List AAsset') × (List AAccount') × (List AChoice') × (List AGroup') × (List AGive') × (List APos') × (List APos') × (List AFlow') × (List AHold') × Bool × Int × Int × Int × (List Int) × Bool × Bool × Bool × Int × (List Int) × (List DriveCell') × Int × Int × Int × Int × Int × Int × Int × (List (List Int)) × Bool × Unit)) := W.call (ledger_CloneW W (g2, (g3, (g4, (g5, (g6, (g7, (g8, (g9, (g10, (g11, (g12, (g13, ()))))))))))))) fun v1 => some (v1, (g2, (g3, (g4, (g5, (g6, (g7, (g8, (g9, (g10, (g11, (g12, (g13, (g14, (g0_2, (g0_3, (g0_4, (g0_5, (g0_6, (g1_0, (g1_1, (g1_2, (g1_3, (g1_4, (g1_5, (g0_0_1, (g0_0_2, (g0_0_3, (g0_0_4, (g0_0_5, (g0_0_6, (g0_0_7, (g0_0_8, ())))))))))))))))))))))))))))))))))
def engine_Engine_State2_k := kls kp 10 [⟨39,[.ptr 1,.ptr 2,.i,.v (.slc tAMember),.v (.slc tAInst),.v (.slc tAAsset),.v (.slc tAAccount),.v (.slc tAChoice),.v (.slc tAGroup),.v (.slc tAGive),.v (.slc tAPos),.v (.slc tAPos),.v (.slc tAFlow),.v (.slc tAHold),.b]⟩,⟨152,[.ptr 3,.ptr 2,.i,.i,.i,.v (.slc (.int .u8)),.b]⟩,⟨45,[.b,.b,.i,.v (.slc (.int .i64)),.row 328 tDriveCell,.i]⟩,⟨275,[.ptr 2,.i,.i,.i,.i,.i,.i,.row 22 (.slc (.int .u8)),.b]⟩] [.ptr 0] [⟨39,[.ptr 1,.ptr 2,.i,.v (.slc tAMember),.v (.slc tAInst),.v (.slc tAAsset),.v (.slc tAAccount),.v (.slc tAChoice),.v (.slc tAGroup),.v (.slc tAGive),.v (.slc tAPos),.v (.slc tAPos),.v (.slc tAFlow),.v (.slc tAHold),.b]⟩,⟨152,[.ptr 3,.ptr 2,.i,.i,.i,.v (.slc (.int .u8)),.b]⟩,⟨45,[.b,.b,.i,.v (.slc (.int .i64)),.row 328 tDriveCell,.i]⟩,⟨275,[.ptr 2,.i,.i,.i,.i,.i,.i,.row 22 (.slc (.int .u8)),.b]⟩] (.v tAState) (fun W x => engine_Engine_State2W W x.1 x.2.1 x.2.2.1 x.2.2.2.1 x.2.2.2.2.1 x.2.2.2.2.2.1 x.2.2.2.2.2.2.1 x.2.2.2.2.2.2.2.1 x.2.2.2.2.2.2.2.2.1 x.2.2.2.2.2.2.2.2.2.1 x.2.2.2.2.2.2.2.2.2.2.1 x.2.2.2.2.2.2.2.2.2.2.2.1 x.2.2.2.2.2.2.2.2.2.2.2.2.1 x.2.2.2.2.2.2.2.2.2.2.2.2.2.1 x.2.2.2.2.2.2.2.2.2.2.2.2.2.2.1 x.2.2.2.2.2.2.2.2.2.2.2.2.2.2.2.1 x.2.2.2.2.2.2.2.2.2.2.2.2.2.2.2.2.1 x.2.2.2.2.2.2.2.2.2.2.2.2.2.2.2.2.2.1 x.2.2.2.2.2.2.2.2.2.2.2.2.2.2.2.2.2.2.1 x.2.2.2.2.2.2.2.2.2.2.2.2.2.2.2.2.2.2.2.1 x.2.2.2.2.2.2.2.2.2.2.2.2.2.2.2.2.2.2.2.2.1 x.2.2.2.2.2.2.2.2.2.2.2.2.2.2.2.2.2.2.2.2.2.1 x.2.2.2.2.2.2.2.2.2.2.2.2.2.2.2.2.2.2.2.2.2.2.1 x.2.2.2.2.2.2.2.2.2.2.2.2.2.2.2.2.2.2.2.2.2.2.2.1 x.2.2.2.2.2.2.2.2.2.2.2.2.2.2.2.2.2.2.2.2.2.2.2.2.1 x.2.2.2.2.2.2.2.2.2.2.2.2.2.2.2.2.2.2.2.2.2.2.2.2.2.1 x.2.2.2.2.2.2.2.2.2.2.2.2.2.2.2.2.2.2.2.2.2.2.2.2.2.2.1 x.2.2.2.2.2.2.2.2.2.2.2.2.2.2.2.2.2.2.2.2.2.2.2.2.2.2.2.1 x.2.2.2.2.2.2.2.2.2.2.2.2.2.2.2.2.2.2.2.2.2.2.2.2.2.2.2.2.1 x.2.2.2.2.2.2.2.2.2.2.2.2.2.2.2.2.2.2.2.2.2.2.2.2.2.2.2.2.2.1 x.2.2.2.2.2.2.2.2.2.2.2.2.2.2.2.2.2.2.2.2.2.2.2.2.2.2.2.2.2.2.1 x.2.2.2.2.2.2.2.2.2.2.2.2.2.2.2.2.2.2.2.2.2.2.2.2.2.2.2.2.2.2.2.1) [ledger_Clone_k] [] [] [] Tryz.func10 rfl (h:=fun W x=>by kernel_rfl)
def law38_FewW (W : Wd) (l : List AEntry') : Option (List AEntry') := 
 W.join (fun (z1 : List (Int × List (Int) × Int × List (Int) × Unit) × Unit) => some z1.1)
  fun k2 => 
  W.loop (fun (z3 : Int × List (Int × List (Int) × Int × List (Int) × Unit) × Unit) again4 => 
   W.cnd (decide (z3.1 < (l.length : Int))) (
    W.cnd (decide (z3.1 < 90)) (W.idx l z3.1 fun x5 => W.call (ref01_CutW W x5.2.1 410) fun v6 => 
     W.join (fun (z7 : Int × List (Int) × Int × List (Int) × List (Int × List (Int) × Int × List (Int) × Unit) × Unit) => W.room (z7.2.2.2.2.1.length + ((z7.1, (z7.2.1, (z7.2.2.1, (z7.2.2.2.1, ())))) :: []).length) 64 ((again4 ((IntKind.i64.wrap (z3.1 + 1)), ((z7.2.2.2.2.1 ++ ((z7.1, (z7.2.1, (z7.2.2.1, (z7.2.2.2.1, ())))) :: [])), ())))))
      fun k8 => 
      W.cnd (decide (260 < (x5.2.2.2.1.length : Int))) (W.bnd 260 x5.2.2.2.1.length fun h9 => (k8 (x5.1, (v6, (x5.2.2.1, ((x5.2.2.2.1.take h9), z3.2))))))
       ((k8 (x5.1, (v6, (x5.2.2.1, (x5.2.2.2.1, z3.2)))))))
     ((k2 z3.2)))
    ((k2 z3.2)))
   (0, ([], ()))
def law38_Few_k := kes kp 13 (.p1 (.slc tAEntry)) (.own 114 tAEntry) (fun W x => law38_FewW W x.1) [ref01_Cut_k] [] [(9,⟨[(3,.row 1)],[(0,[.i,.t (.slc (.int .u8)),.i,.t (.slc (.int .i64))])],[.dead,.own 114 tAEntry]⟩),(10,⟨[(3,.row 1)],[],[.dead,.own 114 tAEntry]⟩)] [(3,⟨[(3,.row 1),(4,.i)],[],[.dead,.own 114 tAEntry]⟩)] Tryz.func13 rfl (h:=fun W x=>by kernel_rfl)
def script_bareW (W : Wd) (xp : AEntry') : Option Bool := 
 W.cnd (xp.1 == 1) (
  W.cnd (xp.1 == 2) (some true)
   (
   W.cnd (xp.2.2.1 == 0) (some ((xp.2.2.2.1.length : Int) == 0))
    (some false)))
  (
  W.cnd ((xp.2.1.length : Int) == 0) (
   W.cnd (xp.1 == 2) (some true)
    (
    W.cnd (xp.2.2.1 == 0) (some ((xp.2.2.2.1.length : Int) == 0))
     (some false)))
   (some false))
abbrev script_bare := script_bareW stdW
def script_bare_k := kes kp 50 (.p1 tAEntry) .b (fun W x => script_bareW W x.1) [] [] [] [] Tryz.func50 rfl (h:=fun W x=>by kernel_rfl)
def pack_Writer_TextW (W : Wd) (w0 : Bool) (w1 : List Int) (s : ByteArray) : Option (Unit × (Bool × (List Int) × Unit)) := 
 W.join (fun (z1 : Bool × List (Int) × Unit) => some ((), z1))
  fun k2 => W.call (pack_Writer_okW W w0 w1) fun v3 => 
  W.cnd v3.1 (W.call (pack_foldedW W (s.size : Int)) fun v4 => W.call (pack_Writer_oneW W v3.2.1 v3.2.2.1 v4) fun v5 => W.room (v5.2.2.1.length + s.size) 1 ((k2 (v5.2.1, ((v5.2.2.1 ++ (Go.Vc.bytesI s)), ())))))
   ((k2 v3.2))
abbrev pack_Writer_Text := pack_Writer_TextW stdW
def pack_Writer_Text_k := kls kp 194 [⟨233,[.b,.row 5 (.int .u8)]⟩] [.ptr 0,.v .str] [⟨233,[.b,.row 5 (.int .u8)]⟩] (.ptr 0) (fun W x => pack_Writer_TextW W x.1 x.2.1 x.2.2.1) [pack_Writer_ok_k,pack_folded_k,pack_Writer_one_k] [] [(4,⟨[],[(0,[.b,.row 0])],[.own 5 (.int .u8)]⟩)] [] Tryz.func194 rfl (h:=fun W x=>by kernel_rfl)
def script_entryW (W : Wd) (w0 : Bool) (w1 : List Int) (xp : AEntry') : Option (Unit × (Bool × (List Int) × Unit)) := W.call (pack_Writer_IntW W w0 w1 (xp.1 :: [])) fun v1 => 
 W.cnd (xp.1 == 1) (W.call (pack_Writer_TextW W v1.2.1 v1.2.2.1 (Go.Vc.strOf xp.2.1)) fun v2 => some ((), v2.2))
  (
  W.cnd (xp.1 == 2) (W.call (pack_Writer_IntW W v1.2.1 v1.2.2.1 (xp.2.2.1 :: ((xp.2.2.2.1.length : Int) :: []))) fun v3 => 
   W.loop (fun (z4 : Int × Bool × List (Int) × Unit) again5 => 
    W.cnd (decide (z4.1 < (xp.2.2.2.1.length : Int))) (W.idx xp.2.2.2.1 z4.1 fun x6 => W.call (pack_Writer_IntW W z4.2.1 z4.2.2.1 (x6 :: [])) fun v7 => (again5 ((IntKind.i64.wrap (z4.1 + 1)), v7.2)))
     (some ((), z4.2)))
    (0, v3.2))
   (some ((), v1.2)))
abbrev script_entry := script_entryW stdW
def script_entry_k := kls kp 125 [⟨233,[.b,.row 5 (.int .u8)]⟩] [.ptr 0,.v tAEntry] [⟨233,[.b,.row 5 (.int .u8)]⟩] .unit (fun W x => script_entryW W x.1 x.2.1 x.2.2.1) [pack_Writer_Int_k,pack_Writer_Text_k] [] [] [(8,⟨[(33,.i)],[(0,[.b,.row 0])],[.own 5 (.int .u8)]⟩)] Tryz.func125 rfl (h:=fun W x=>by kernel_rfl)
def script_bytesOfW (W : Wd) (l : List AEntry') : Option (List Int) := W.call (pack_NewW W) fun v1 => W.call (pack_Writer_IntW W v1.2.1 v1.2.2.1 ((l.length : Int) :: [])) fun v2 => 
 W.loop (fun (z3 : Int × Bool × List (Int) × Unit) again4 => 
  W.cnd (decide (z3.1 < (l.length : Int))) (W.idx l z3.1 fun x5 => W.call (script_entryW W z3.2.1 z3.2.2.1 x5) fun v6 => (again4 ((IntKind.i64.wrap (z3.1 + 1)), v6.2)))
   (W.call (pack_Writer_DoneW W z3.2.1 z3.2.2.1) fun v7 => some v7.1))
  (0, v2.2)
abbrev script_bytesOf := script_bytesOfW stdW
def script_bytesOf_k := kes kp 51 (.p1 (.slc tAEntry)) (.own 5 (.int .u8)) (fun W x => script_bytesOfW W x.1) [pack_New_k,pack_Writer_Int_k,script_entry_k,pack_Writer_Done_k] [] [] [(3,⟨[(13,.i)],[(0,[.b,.row 0])],[.own 5 (.int .u8)]⟩)] Tryz.func51 rfl (h:=fun W x=>by kernel_rfl)
def pack_Reader_TextW (W : Wd) (r0 : Bool) (r1 : List Int) (r2 : Int) (most : Int) : Option (ByteArray × (Bool × (List Int) × Int × Unit)) := W.call (pack_Reader_IntW W r0 r1 r2 0 most) fun v1 => W.call (pack_Reader_goodW W v1.2.1 v1.2.2.1 v1.2.2.2.1) fun v2 => 
 W.cnd (!v2.1) (some ((ByteArray.mk (Array.mk [])), v2.2))
  (
  W.cnd (decide ((v2.2.2.1.length : Int) < v1.1)) (W.call (pack_Reader_failW W v2.2.1 v2.2.2.1 v2.2.2.2.1 4) fun v3 => some ((ByteArray.mk (Array.mk [])), v3.2))
   (W.bnd v1.1 v2.2.2.1.length fun h4 => W.bnd v1.1 v2.2.2.1.length fun h5 => some ((Go.Vc.strOf (v2.2.2.1.take h4)), (v2.2.1, (((v2.2.2.1.take v2.2.2.1.length).drop h5), v2.2.2.2)))))
abbrev pack_Reader_Text := pack_Reader_TextW stdW
def pack_Reader_Text_k := kls kp 132 [⟨215,[.b,.v (.slc (.int .u8)),.i]⟩] [.ptr 0,.i] [⟨215,[.b,.v (.slc (.int .u8)),.i]⟩] (.v .str) (fun W x => pack_Reader_TextW W x.1 x.2.1 x.2.2.1 x.2.2.2.1) [pack_Reader_Int_k,pack_Reader_good_k,pack_Reader_fail_k] [] [] [] Tryz.func132 rfl (h:=fun W x=>by kernel_rfl)
def script_takeW (W : Wd) (r0 : Bool) (r1 : List Int) (r2 : Int) : Option (AEntry' × (Bool × (List Int) × Int × Unit)) := W.call (pack_Reader_IntW W r0 r1 r2 1 4) fun v1 => 
 W.join (fun (z2 : Bool × List (Int) × Int × Int × List (Int) × Int × List (Int) × Unit) => some (z2.2.2.2, (z2.1, (z2.2.1, (z2.2.2.1, ())))))
  fun k3 => 
  W.cnd (v1.1 == 1) (W.call (pack_Reader_TextW W v1.2.1 v1.2.2.1 v1.2.2.2.1 400) fun v4 => W.str (v4.1.size : Int) ((k3 (v4.2.1, (v4.2.2.1, (v4.2.2.2.1, (v1.1, ((Go.Vc.bytesI v4.1), (0, ([], ()))))))))))
   (
   W.cnd (v1.1 == 2) (W.call (pack_Reader_IntW W v1.2.1 v1.2.2.1 v1.2.2.2.1 0 1048576) fun v5 => W.call (pack_Reader_IntW W v5.2.1 v5.2.2.1 v5.2.2.2.1 0 255) fun v6 => 
    W.loop (fun (z7 : Int × Bool × List (Int) × Int × Int × Int × List (Int) × Unit) again8 => 
     W.cnd (decide (0 < z7.1)) (W.call (pack_Reader_ErrW W z7.2.1 z7.2.2.1 z7.2.2.2.1) fun v9 => 
      W.cnd (v9.1 == 0) (
       W.join (fun (z10 : Bool × List (Int) × Int × Int × Int × List (Int) × Unit) => (again8 ((IntKind.i64.wrap (z7.1 - 1)), z10)))
        fun k11 => W.both (W.call (pack_Reader_IntW W v9.2.1 v9.2.2.1 v9.2.2.2.1 0 254) fun v12 => W.room (z7.2.2.2.2.2.2.1.length + (v12.1 :: []).length) 8 ((k11 (v12.2.1, (v12.2.2.1, (v12.2.2.2.1, (z7.2.2.2.2.1, (z7.2.2.2.2.2.1, ((z7.2.2.2.2.2.2.1 ++ (v12.1 :: [])), ()))))))))) (W.call (pack_Reader_IntW W v9.2.1 v9.2.2.1 v9.2.2.2.1 0 254) fun v13 => W.both (W.room (z7.2.2.2.2.2.2.1.length + (v13.1 :: []).length) 8 ((k11 (v13.2.1, (v13.2.2.1, (v13.2.2.2.1, (z7.2.2.2.2.1, (z7.2.2.2.2.2.1, ((z7.2.2.2.2.2.2.1 ++ (v13.1 :: [])), ()))))))))) (W.room (z7.2.2.2.2.2.2.1.length + (v13.1 :: []).length) 8 ((k11 (v13.2.1, (v13.2.2.1, (v13.2.2.2.1, (z7.2.2.2.2.1, (z7.2.2.2.2.2.1, ((z7.2.2.2.2.2.2.1 ++ (v13.1 :: [])), ())))))))))))
       ((k3 (v9.2.1, (v9.2.2.1, (v9.2.2.2.1, (z7.2.2.2.2.1, ([], z7.2.2.2.2.2))))))))
      ((k3 (z7.2.1, (z7.2.2.1, (z7.2.2.2.1, (z7.2.2.2.2.1, ([], z7.2.2.2.2.2))))))))
     (v6.1, (v6.2.1, (v6.2.2.1, (v6.2.2.2.1, (v1.1, (v5.1, ([], ()))))))))
    ((k3 (v1.2.1, (v1.2.2.1, (v1.2.2.2.1, (v1.1, ([], (0, ([], ()))))))))))
abbrev script_take := script_takeW stdW
def script_take_k := kls kp 58 [⟨215,[.b,.v (.slc (.int .u8)),.i]⟩] [.ptr 0] [⟨215,[.b,.v (.slc (.int .u8)),.i]⟩] (.v tAEntry) (fun W x => script_takeW W x.1 x.2.1 x.2.2.1) [pack_Reader_Int_k,pack_Reader_Text_k,pack_Reader_Err_k] [(10,[0,2],(.rd 0 (.rd 2 (.two 1 3 (oN [6,8,10,13,14]) (.two 1 4 (oN [8,10,13,14]) (oN [2,10,13,14]))))))] [(9,⟨[],[(0,[.b,.t (.slc (.int .u8)),.i]),(2,[.i,.nil,.i,.row 1])],[.dead,.own 3 (.int .i64)]⟩),(11,⟨[],[(0,[.b,.t (.slc (.int .u8)),.i]),(2,[.i,.t (.slc (.int .u8)),.i,.row 1])],[.dead,.own 3 (.int .i64)]⟩)] [(8,⟨[(4,.i)],[(0,[.b,.t (.slc (.int .u8)),.i]),(2,[.i,.nil,.i,.row 1])],[.dead,.own 3 (.int .i64)]⟩)] Tryz.func58 rfl (h:=fun W x=>by kernel_rfl)
def script_DecodeW (W : Wd) (b : List Int) : Option ((List AEntry') × Int × Unit) := W.call (pack_OpenW W b) fun v1 => 
 W.join (fun (z2 : Bool × List (Int) × Int × List (Int × List (Int) × Int × List (Int) × Unit) × Unit) => 
  W.join (fun (z3 : Bool × Bool × List (Int) × Int × List (Int × List (Int) × Int × List (Int) × Unit) × Unit) => 
   W.cnd z3.1 (some ([], (3, ())))
    (some (z3.2.2.2.2.1, (0, ()))))
   fun k4 => W.call (pack_Reader_EndW W z2.1 z2.2.1 z2.2.2.1) fun v5 => 
   W.cnd (v5.1 != 0) ((k4 (true, (v5.2.1, (v5.2.2.1, (v5.2.2.2.1, z2.2.2.2))))))
    (W.call (script_bytesOfW W z2.2.2.2.1) fun v6 => W.call (bytes_EqualW W v6 b) fun v7 => (k4 ((!v7), (v5.2.1, (v5.2.2.1, (v5.2.2.2.1, z2.2.2.2)))))))
  fun k8 => W.call (pack_Reader_IntW W v1.2.1 v1.2.2.1 v1.2.2.2.1 0 400) fun v9 => 
  W.loop (fun (z10 : Int × Bool × List (Int) × Int × List (Int × List (Int) × Int × List (Int) × Unit) × Unit) again11 => 
   W.cnd (decide (0 < z10.1)) (W.call (pack_Reader_ErrW W z10.2.1 z10.2.2.1 z10.2.2.2.1) fun v12 => 
    W.cnd (v12.1 == 0) (W.call (script_takeW W v12.2.1 v12.2.2.1 v12.2.2.2.1) fun v13 => W.room (z10.2.2.2.2.1.length + (v13.1 :: []).length) 64 ((again11 ((IntKind.i64.wrap (z10.1 - 1)), (v13.2.1, (v13.2.2.1, (v13.2.2.2.1, ((z10.2.2.2.2.1 ++ (v13.1 :: [])), ()))))))))
     ((k8 (v12.2.1, (v12.2.2.1, (v12.2.2.2.1, z10.2.2.2.2))))))
    ((k8 z10.2)))
   (v9.1, (v9.2.1, (v9.2.2.1, (v9.2.2.2.1, ([], ())))))
abbrev script_Decode := script_DecodeW stdW
def script_Decode_k := kes kp 17 (.p1 (.slc (.int .u8))) (.p2 (.own 114 tAEntry) .i) (fun W x => script_DecodeW W x.1) [pack_Open_k,pack_Reader_Int_k,pack_Reader_Err_k,script_take_k,pack_Reader_End_k,script_bytesOf_k,bytes_Equal_k] [] [(7,⟨[(5,.row 1)],[(0,[.b,.t (.slc (.int .u8)),.i])],[.dead,.own 114 tAEntry]⟩),(500034,⟨[(5,.row 1),(34,.b)],[(0,[.b,.t (.slc (.int .u8)),.i])],[.dead,.own 114 tAEntry]⟩)] [(4,⟨[(5,.row 1),(6,.i)],[(0,[.b,.t (.slc (.int .u8)),.i])],[.dead,.own 114 tAEntry]⟩)] Tryz.func17 rfl (h:=fun W x=>by kernel_rfl)
def script_EncodeW (W : Wd) (l : List AEntry') : Option ((List Int) × Int × Unit) := 
 W.loop (fun (z1 : Int × Unit) again2 => 
  W.cnd (decide (z1.1 < (l.length : Int))) (W.idx l z1.1 fun x3 => W.call (script_bareW W x3) fun v4 => 
   W.cnd (!v4) (some ([], (3, ())))
    ((again2 ((IntKind.i64.wrap (z1.1 + 1)), ()))))
   (W.call (script_bytesOfW W l) fun v5 => W.call (script_DecodeW W v5) fun v6 => 
   W.cnd (v6.2.1 != 0) (some ([], v6.2))
    (some (v5, (0, ())))))
  (0, ())
abbrev script_Encode := script_EncodeW stdW
def script_Encode_k := kes kp 14 (.p1 (.slc tAEntry)) (.p2 (.v (.slc (.int .u8))) .i) (fun W x => script_EncodeW W x.1) [script_bare_k,script_bytesOf_k,script_Decode_k] [] [] [(2,⟨[(11,.i)],[],[]⟩)] Tryz.func14 rfl (h:=fun W x=>by kernel_rfl)
def ref38_oneW (W : Wd) (xp : AEntry') : Option Bool := 
 W.join (fun (z1 : Bool × Unit) => 
  W.cnd z1.1 (some false)
   (
   W.join (fun (z2 : Bool × Unit) => 
    W.cnd z2.1 (some false)
     (
     W.loop (fun (z3 : Int × Unit) again4 => 
      W.cnd (decide (z3.1 < (xp.2.2.2.1.length : Int))) (
       W.join (fun (z5 : Bool × Unit) => 
        W.cnd z5.1 (some false)
         ((again4 ((IntKind.i64.wrap (z3.1 + 1)), ()))))
        fun k6 => W.idx xp.2.2.2.1 z3.1 fun x7 => 
        W.cnd (decide (x7 < 0)) ((k6 (true, ())))
         (W.idx xp.2.2.2.1 z3.1 fun x8 => (k6 ((decide (254 < x8)), ()))))
       (some true))
      (0, ())))
    fun k9 => 
    W.cnd (decide (xp.2.2.1 < 0)) ((k9 (true, ())))
     (
     W.cnd (decide (1048576 < xp.2.2.1)) ((k9 (true, ())))
      (
      W.cnd (decide (255 < (xp.2.2.2.1.length : Int))) ((k9 (true, ())))
       (
       W.cnd (xp.1 != 2) (
        W.cnd (xp.2.2.1 != 0) ((k9 (true, ())))
         ((k9 ((decide (0 < (xp.2.2.2.1.length : Int))), ()))))
        ((k9 (false, ()))))))))
  fun k10 => 
  W.cnd (decide (xp.1 < 1)) ((k10 (true, ())))
   (
   W.cnd (decide (4 < xp.1)) ((k10 (true, ())))
    (
    W.cnd (decide (400 < (xp.2.1.length : Int))) ((k10 (true, ())))
     (
     W.cnd (xp.1 != 1) ((k10 ((decide (0 < (xp.2.1.length : Int))), ())))
      ((k10 (false, ()))))))
def ref38_one_k := kes kp 126 (.p1 tAEntry) .b (fun W x => ref38_oneW W x.1) [] [] [(500028,⟨[(28,.b)],[],[]⟩),(500058,⟨[(58,.b)],[],[]⟩),(500079,⟨[(79,.b)],[],[]⟩)] [(6,⟨[(3,.i)],[],[]⟩)] Tryz.func126 rfl (h:=fun W x=>by kernel_rfl)
def ref38_IsW (W : Wd) (l : List AEntry') : Option Bool := 
 W.loop (fun (z1 : Int × Unit) again2 => 
  W.cnd (decide (z1.1 < (l.length : Int))) (W.idx l z1.1 fun x3 => W.call (ref38_oneW W x3) fun v4 => 
   W.cnd (!v4) (some false)
    ((again2 ((IntKind.i64.wrap (z1.1 + 1)), ()))))
   (some (decide ((l.length : Int) ≤ 400))))
  (0, ())
def ref38_Is_k := kes kp 52 (.p1 (.slc tAEntry)) .b (fun W x => ref38_IsW W x.1) [ref38_one_k] [] [] [(2,⟨[(3,.i)],[],[]⟩)] Tryz.func52 rfl (h:=fun W x=>by kernel_rfl)
def ref04_IntW (W : Wd) (n : Int) : Option (List Int) := 
 W.join (fun (z1 : Int × Unit) => 
  W.loop (fun (z2 : Int × List (Int) × Unit) again3 => 
   W.cnd (decide (128 ≤ z2.1)) (W.nz 128 (W.room (z2.2.1.length + ((IntKind.u8.wrap (IntKind.u64.wrap ((Int.tmod z2.1 128) + 128))) :: []).length) 1 (W.nz 128 ((again3 ((IntKind.u64.wrap (Int.tdiv z2.1 128)), ((z2.2.1 ++ ((IntKind.u8.wrap (IntKind.u64.wrap ((Int.tmod z2.1 128) + 128))) :: [])), ())))))))
    (W.room (z2.2.1.length + ((IntKind.u8.wrap z2.1) :: []).length) 1 (some (z2.2.1 ++ ((IntKind.u8.wrap z2.1) :: [])))))
   (z1.1, ([], ())))
  fun k4 => 
  W.cnd (decide (0 ≤ n)) ((k4 ((IntKind.u64.wrap (2 * (IntKind.u64.wrap n))), ())))
   ((k4 ((IntKind.u64.wrap ((IntKind.u64.wrap (2 * (IntKind.u64.wrap (IntKind.i64.wrap (0 - (IntKind.i64.wrap (n + 1))))))) + 1)), ())))
abbrev ref04_Int := ref04_IntW stdW
def ref04_Int_k := kes kp 53 (.p1 (.int .i64)) (.own 5 (.int .u8)) (fun W x => ref04_IntW W x.1) [] [] [(5,⟨[(3,.t (.int .u64))],[],[]⟩)] [(6,⟨[(3,.t (.int .u64)),(4,.row 1)],[],[.dead,.own 5 (.int .u8)]⟩)] Tryz.func53 rfl (h:=fun W x=>by kernel_rfl)
def ref04_TextW (W : Wd) (s : ByteArray) : Option (List Int) := W.call (ref04_IntW W (s.size : Int)) fun v1 => 
 W.loop (fun (z2 : Int × List (Int) × Unit) again3 => 
  W.cnd (decide (z2.1 < (s.size : Int))) (W.sidx s z2.1 fun x4 => W.room (z2.2.1.length + (x4 :: []).length) 1 ((again3 ((IntKind.i64.wrap (z2.1 + 1)), ((z2.2.1 ++ (x4 :: [])), ())))))
   (some z2.2.1))
  (0, (v1, ()))
abbrev ref04_Text := ref04_TextW stdW
def ref04_Text_k := kes kp 54 (.p1 .str) (.own 5 (.int .u8)) (fun W x => ref04_TextW W x.1) [ref04_Int_k] [] [] [(3,⟨[(3,.row 0),(4,.i)],[],[.own 5 (.int .u8)]⟩)] Tryz.func54 rfl (h:=fun W x=>by kernel_rfl)
def ref38_EncodeW (W : Wd) (l : List AEntry') : Option ((List Int) × Int × Unit) := W.call (ref38_IsW W l) fun v1 => 
 W.cnd (!v1) (some ([], (3, ())))
  (W.call (ref04_IntW W (l.length : Int)) fun v2 => 
  W.loop (fun (z3 : Int × List (Int) × Unit) again4 => 
   W.cnd (decide (z3.1 < (l.length : Int))) (
    W.join (fun (z5 : List (Int) × Unit) => (again4 ((IntKind.i64.wrap (z3.1 + 1)), z5)))
     fun k6 => W.idx l z3.1 fun x7 => W.call (ref04_IntW W x7.1) fun v8 => W.room (z3.2.1.length + v8.length) 1 (
     W.join (fun (z9 : List (Int) × Unit) => 
      W.cnd (x7.1 == 2) (W.call (ref04_IntW W x7.2.2.1) fun v10 => W.room (z9.1.length + v10.length) 1 (W.call (ref04_IntW W (x7.2.2.2.1.length : Int)) fun v11 => W.room ((z9.1 ++ v10).length + v11.length) 1 (
       W.loop (fun (z12 : Int × List (Int) × Unit) again13 => 
        W.cnd (decide (z12.1 < (x7.2.2.2.1.length : Int))) (W.idx x7.2.2.2.1 z12.1 fun x14 => W.call (ref04_IntW W x14) fun v15 => W.room (z12.2.1.length + v15.length) 1 ((again13 ((IntKind.i64.wrap (z12.1 + 1)), ((z12.2.1 ++ v15), ())))))
         ((k6 z12.2)))
        (0, (((z9.1 ++ v10) ++ v11), ())))))
       ((k6 z9)))
      fun k16 => 
      W.cnd (x7.1 == 1) (W.call (ref04_TextW W (Go.Vc.strOf x7.2.1)) fun v17 => W.room ((z3.2.1 ++ v8).length + v17.length) 1 ((k16 (((z3.2.1 ++ v8) ++ v17), ()))))
       ((k16 ((z3.2.1 ++ v8), ())))))
    (some (z3.2.1, (0, ()))))
   (0, (v2, ())))
def ref38_Encode_k := kes kp 15 (.p1 (.slc tAEntry)) (.p2 (.own 5 (.int .u8)) .i) (fun W x => ref38_EncodeW W x.1) [ref38_Is_k,ref04_Int_k,ref04_Text_k] [] [(6,⟨[(4,.row 0)],[],[.own 5 (.int .u8)]⟩),(11,⟨[(4,.row 0)],[],[.own 5 (.int .u8)]⟩)] [(5,⟨[(4,.row 0),(5,.i)],[],[.own 5 (.int .u8)]⟩),(15,⟨[(4,.row 0),(7,.i)],[],[.own 5 (.int .u8)]⟩)] Tryz.func15 rfl (h:=fun W x=>by kernel_rfl)
def ref04_Reader_failW (W : Wd) (r0 : List Int) (r1 : Int) (e : Int) : Option (Unit × ((List Int) × Int × Unit)) := some ((), ([], (e, ())))
abbrev ref04_Reader_fail := ref04_Reader_failW stdW
def ref04_Reader_fail_k := kls kp 133 [⟨126,[.v (.slc (.int .u8)),.i]⟩] [.ptr 0,.i] [⟨126,[.v (.slc (.int .u8)),.i]⟩] .unit (fun W x => ref04_Reader_failW W x.1 x.2.1 x.2.2.1) [] [] [] [] Tryz.func133 rfl (h:=fun W x=>by kernel_rfl)
def ref04_Reader_GetW (W : Wd) (r0 : List Int) (r1 : Int) (lo : Int) (hi : Int) : Option (Int × ((List Int) × Int × Unit)) := 
 W.cnd (r1 != 0) (some (0, (r0, (r1, ()))))
  (
  W.join (fun (z1 : Int × Unit) => 
   W.join (fun (z2 : Bool × Unit) => 
    W.cnd z2.1 (W.call (ref04_Reader_failW W r0 r1 4) fun v3 => some (0, v3.2))
     (
     W.join (fun (z4 : Bool × Unit) => 
      W.cnd z4.1 (W.call (ref04_Reader_failW W r0 r1 3) fun v5 => some (0, v5.2))
       (
       W.loop (fun (z6 : Int × Int × Unit) again7 => 
        W.cnd (decide (0 < z6.2.1)) (W.idx r0 (IntKind.i64.wrap (z6.2.1 - 1)) fun x8 => W.nz 128 ((again7 ((IntKind.u64.wrap ((IntKind.u64.wrap (128 * z6.1)) + (Int.tmod (IntKind.u64.wrap x8) 128))), ((IntKind.i64.wrap (z6.2.1 - 1)), ())))))
         (W.bnd (IntKind.i64.wrap (z1.1 + 1)) r0.length fun h9 => W.nz 2 (
         W.join (fun (z10 : Int × Unit) => 
          W.join (fun (z11 : Bool × Unit) => 
           W.cnd z11.1 (W.call (ref04_Reader_failW W ((r0.take r0.length).drop h9) r1 7) fun v12 => some (0, v12.2))
            (some (z10.1, (((r0.take r0.length).drop h9), (r1, ())))))
           fun k13 => 
           W.cnd (decide (z10.1 < lo)) ((k13 (true, ())))
            ((k13 ((decide (hi < z10.1)), ()))))
          fun k14 => W.nz 2 (
          W.cnd ((Int.tmod z6.1 2) == 1) ((k14 ((IntKind.i64.wrap ((IntKind.i64.wrap (0 - (IntKind.i64.wrap (IntKind.u64.wrap (Int.tdiv z6.1 2))))) - 1)), ())))
           ((k14 ((IntKind.i64.wrap (IntKind.u64.wrap (Int.tdiv z6.1 2))), ())))))))
        (0, ((IntKind.i64.wrap (z1.1 + 1)), ()))))
      fun k15 => 
      W.cnd (z1.1 == 10) ((k15 (true, ())))
       (
       W.cnd (z1.1 == 9) (W.idx r0 9 fun x16 => 
        W.cnd (decide (1 < x16)) ((k15 (true, ())))
         (
         W.cnd (decide (0 < z1.1)) (W.idx r0 z1.1 fun x17 => (k15 ((x17 == 0), ())))
          ((k15 (false, ())))))
        (
        W.cnd (decide (0 < z1.1)) (W.idx r0 z1.1 fun x18 => (k15 ((x18 == 0), ())))
         ((k15 (false, ())))))))
    fun k19 => 
    W.cnd (decide (z1.1 < 10)) ((k19 ((z1.1 == (r0.length : Int)), ())))
     ((k19 (false, ()))))
   fun k20 => 
   W.loop (fun (z21 : Int × Unit) again22 => 
    W.cnd (decide (z21.1 < (r0.length : Int))) (W.idx r0 z21.1 fun x23 => 
     W.cnd (decide (128 ≤ x23)) (
      W.cnd (decide (z21.1 < 10)) ((again22 ((IntKind.i64.wrap (z21.1 + 1)), ())))
       ((k20 z21)))
      ((k20 z21)))
     ((k20 z21)))
    (0, ()))
abbrev ref04_Reader_Get := ref04_Reader_GetW stdW
def ref04_Reader_Get_k := kls kp 61 [⟨126,[.v (.slc (.int .u8)),.i]⟩] [.ptr 0,.i,.i] [⟨126,[.v (.slc (.int .u8)),.i]⟩] .i (fun W x => ref04_Reader_GetW W x.1 x.2.1 x.2.2.1 x.2.2.2.1) [ref04_Reader_fail_k] [] [(6,⟨[(7,.i)],[],[]⟩),(21,⟨[(10,.i)],[],[]⟩),(500049,⟨[(49,.b)],[],[]⟩),(500080,⟨[(80,.b)],[],[]⟩),(500128,⟨[(128,.b)],[],[]⟩)] [(4,⟨[(7,.i)],[],[]⟩),(14,⟨[(8,.t (.int .u64)),(9,.i)],[],[]⟩)] Tryz.func61 rfl (h:=fun W x=>by kernel_rfl)
def ref04_Reader_TextW (W : Wd) (r0 : List Int) (r1 : Int) (most : Int) : Option (ByteArray × ((List Int) × Int × Unit)) := W.call (ref04_Reader_GetW W r0 r1 0 most) fun v1 => 
 W.cnd (v1.2.2.1 != 0) (some ((ByteArray.mk (Array.mk [])), v1.2))
  (
  W.cnd (decide ((v1.2.1.length : Int) < v1.1)) (W.call (ref04_Reader_failW W v1.2.1 v1.2.2.1 4) fun v2 => some ((ByteArray.mk (Array.mk [])), v2.2))
   (W.bnd v1.1 v1.2.1.length fun h3 => W.bnd v1.1 v1.2.1.length fun h4 => some ((Go.Vc.strOf (v1.2.1.take h3)), (((v1.2.1.take v1.2.1.length).drop h4), v1.2.2))))
abbrev ref04_Reader_Text := ref04_Reader_TextW stdW
def ref04_Reader_Text_k := kls kp 62 [⟨126,[.v (.slc (.int .u8)),.i]⟩] [.ptr 0,.i] [⟨126,[.v (.slc (.int .u8)),.i]⟩] (.v .str) (fun W x => ref04_Reader_TextW W x.1 x.2.1 x.2.2.1) [ref04_Reader_Get_k,ref04_Reader_fail_k] [] [] [] Tryz.func62 rfl (h:=fun W x=>by kernel_rfl)
def ref04_Reader_EndW (W : Wd) (r0 : List Int) (r1 : Int) : Option (Int × ((List Int) × Int × Unit)) := 
 W.join (fun (z1 : Bool × Unit) => 
  W.cnd z1.1 (some (5, (r0, (r1, ()))))
   (some (r1, (r0, (r1, ())))))
  fun k2 => 
  W.cnd (r1 == 0) ((k2 ((decide (0 < (r0.length : Int))), ())))
   ((k2 (false, ())))
def ref04_Reader_End_k := kls kp 63 [⟨126,[.v (.slc (.int .u8)),.i]⟩] [.ptr 0] [⟨126,[.v (.slc (.int .u8)),.i]⟩] .i (fun W x => ref04_Reader_EndW W x.1 x.2.1) [] [] [(500015,⟨[(15,.b)],[],[]⟩)] [] Tryz.func63 rfl (h:=fun W x=>by kernel_rfl)
def ref38_SameEntriesW (W : Wd) (a : List AEntry') (b : List AEntry') : Option Bool := W.call (ref38_EncodeW W a) fun v1 => W.call (ref38_EncodeW W b) fun v2 => 
 W.join (fun (z3 : Bool × List (Int) × List (Int) × Unit) => 
  W.cnd z3.1 (some false)
   (
   W.loop (fun (z4 : Int × List (Int) × List (Int) × Unit) again5 => 
    W.cnd (decide (z4.1 < (z4.2.1.length : Int))) (
     W.join (fun (z6 : Bool × List (Int) × List (Int) × Unit) => 
      W.cnd z6.1 (some false)
       ((again5 ((IntKind.i64.wrap (z4.1 + 1)), z6.2))))
      fun k7 => W.idx z4.2.1 z4.1 fun x8 => W.idx z4.2.2.1 z4.1 fun x9 => W.both (W.nth z4.2.1 (Int.toNat z4.1) fun x10 => W.nth z4.2.2.1 (Int.toNat z4.1) fun x11 => (k7 ((x10 != x11), z4.2))) (W.nth z4.2.2.1 (Int.toNat z4.1) fun x12 => W.nth z4.2.1 (Int.toNat z4.1) fun x13 => (k7 ((x13 != x12), z4.2))))
     (some true))
    (0, z3.2)))
  fun k14 => 
  W.cnd (v1.2.1 != v2.2.1) ((k14 (true, (v1.1, (v2.1, ())))))
   ((k14 (((v1.1.length : Int) != (v2.1.length : Int)), (v1.1, (v2.1, ())))))
def ref38_SameEntries_k := kes kp 19 (.p2 (.slc tAEntry) (.slc tAEntry)) .b (fun W x => ref38_SameEntriesW W x.1 x.2.1) [ref38_Encode_k] [(8,[],(.rd 0 (.rd 1 (.rd 2 (.rd 4 (.rd 5 (.rd 6 (.two 3 7 (oN [14,17]) (oN [6,17])))))))))] [(500029,⟨[(5,.row 0),(7,.row 1),(29,.b)],[],[.own 5 (.int .u8),.own 5 (.int .u8)]⟩),(500044,⟨[(5,.row 0),(7,.row 1),(44,.b)],[],[.own 5 (.int .u8),.own 5 (.int .u8)]⟩)] [(6,⟨[(5,.row 0),(7,.row 1),(9,.i)],[],[.own 5 (.int .u8),.own 5 (.int .u8)]⟩)] Tryz.func19 rfl (h:=fun W x=>by kernel_rfl)
def script_onlyW (W : Wd) (e : Int) : Option (List Int) := W.call (cmd_EncodeReplyW W (e, ([], ([], ([], ()))))) fun v1 => some v1
def script_only_k := kes kp 259 (.p1 (.int .i64)) (.own 5 (.int .u8)) (fun W x => script_onlyW W x.1) [cmd_EncodeReply_k] [] [] [] Tryz.func259 rfl (h:=fun W x=>by kernel_rfl)
def drive_Drive_FuseW (W : Wd) (d0 : Bool) (d1 : Bool) (d2 : Int) (d3 : List Int) (d4 : List DriveCell') (d5 : Int) (n : Int) (keep : List Int) : Option (Int × (Bool × Bool × Int × (List Int) × (List DriveCell') × Int × Unit)) := W.call (drive_Drive_readyW W d0 d1 d2 d3 d4 d5) fun v1 => 
 W.cnd (v1.1 != 0) (some v1)
  (W.call (slices_Cloneint_intW W keep) fun v2 => some (0, (false, ((decide (0 ≤ n)), (n, (v2, v1.2.2.2.2.2))))))
def drive_Drive_Fuse_k := kls kp 260 [⟨45,[.b,.b,.i,.v (.slc (.int .i64)),.row 328 tDriveCell,.i]⟩] [.ptr 0,.i,.v (.slc (.int .i64))] [⟨45,[.b,.b,.i,.v (.slc (.int .i64)),.row 328 tDriveCell,.i]⟩] .i (fun W x => drive_Drive_FuseW W x.1 x.2.1 x.2.2.1 x.2.2.2.1 x.2.2.2.2.1 x.2.2.2.2.2.1 x.2.2.2.2.2.2.1 x.2.2.2.2.2.2.2.1) [drive_Drive_ready_k,slices_Cloneint_int_k] [] [] [] Tryz.func260 rfl (h:=fun W x=>by kernel_rfl)
def engine_Engine_Compact2W (W : Wd) (g2 : Int) (g3 : List AMember') (g4 : List AInst') (g5 : List AAsset') (g6 : List AAccount') (g7 : List AChoice') (g8 : List AGroup') (g9 : List AGive') (g10 : List APos') (g11 : List APos') (g12 : List AFlow') (g13 : List AHold') (g14 : Bool) (g0_2 : Int) (g0_3 : Int) (g0_4 : Int) (g0_5 : List Int) (g0_6 : Bool) (g1_0 : Bool) (g1_1 : Bool) (g1_2 : Int) (g1_3 : List Int) (g1_4 : List DriveCell') (g1_5 : Int) (g0_0_1 : Int) (g0_0_2 : Int) (g0_0_3 : Int) (g0_0_4 : Int) (g0_0_5 : Int) (g0_0_6 : Int) (g0_0_7 : List (List Int)) (g0_0_8 : Bool) : Option (Int × (Int × (List AMember') × (List AInst') × (List AAsset') × (List AAccount') × (List AChoice') × (List AGroup') × (List AGive') × (List APos') × (List APos') × (List AFlow') × (List AHold') × Bool × Int × Int × Int × (List Int) × Bool × Bool × Bool × Int × (List Int) × (List DriveCell') × Int × Int × Int × Int × Int × Int × Int × (List (List Int)) × Bool × Unit)) := W.call (engine_Engine_ready3W W g2 g3 g4 g5 g6 g7 g8 g9 g10 g11 g12 g13 g14 g0_2 g0_3 g0_4 g0_5 g0_6 g1_0 g1_1 g1_2 g1_3 g1_4 g1_5 g0_0_1 g0_0_2 g0_0_3 g0_0_4 g0_0_5 g0_0_6 g0_0_7 g0_0_8) fun v1 => 
 W.cnd (v1.1 != 0) (some v1)
  (none)
def engine_Engine_Compact2_k := kls kp 8 [⟨39,[.ptr 1,.ptr 2,.i,.v (.slc tAMember),.v (.slc tAInst),.v (.slc tAAsset),.v (.slc tAAccount),.v (.slc tAChoice),.v (.slc tAGroup),.v (.slc tAGive),.v (.slc tAPos),.v (.slc tAPos),.v (.slc tAFlow),.v (.slc tAHold),.b]⟩,⟨152,[.ptr 3,.ptr 2,.i,.i,.i,.v (.slc (.int .u8)),.b]⟩,⟨45,[.b,.b,.i,.v (.slc (.int .i64)),.row 328 tDriveCell,.i]⟩,⟨275,[.ptr 2,.i,.i,.i,.i,.i,.i,.row 22 (.slc (.int .u8)),.b]⟩] [.ptr 0] [⟨39,[.ptr 1,.ptr 2,.i,.v (.slc tAMember),.v (.slc tAInst),.v (.slc tAAsset),.v (.slc tAAccount),.v (.slc tAChoice),.v (.slc tAGroup),.v (.slc tAGive),.v (.slc tAPos),.v (.slc tAPos),.v (.slc tAFlow),.v (.slc tAHold),.b]⟩,⟨152,[.ptr 3,.ptr 2,.i,.i,.i,.v (.slc (.int .u8)),.b]⟩,⟨45,[.b,.b,.i,.v (.slc (.int .i64)),.row 328 tDriveCell,.i]⟩,⟨275,[.ptr 2,.i,.i,.i,.i,.i,.i,.row 22 (.slc (.int .u8)),.b]⟩] .i (fun W x => engine_Engine_Compact2W W x.1 x.2.1 x.2.2.1 x.2.2.2.1 x.2.2.2.2.1 x.2.2.2.2.2.1 x.2.2.2.2.2.2.1 x.2.2.2.2.2.2.2.1 x.2.2.2.2.2.2.2.2.1 x.2.2.2.2.2.2.2.2.2.1 x.2.2.2.2.2.2.2.2.2.2.1 x.2.2.2.2.2.2.2.2.2.2.2.1 x.2.2.2.2.2.2.2.2.2.2.2.2.1 x.2.2.2.2.2.2.2.2.2.2.2.2.2.1 x.2.2.2.2.2.2.2.2.2.2.2.2.2.2.1 x.2.2.2.2.2.2.2.2.2.2.2.2.2.2.2.1 x.2.2.2.2.2.2.2.2.2.2.2.2.2.2.2.2.1 x.2.2.2.2.2.2.2.2.2.2.2.2.2.2.2.2.2.1 x.2.2.2.2.2.2.2.2.2.2.2.2.2.2.2.2.2.2.1 x.2.2.2.2.2.2.2.2.2.2.2.2.2.2.2.2.2.2.2.1 x.2.2.2.2.2.2.2.2.2.2.2.2.2.2.2.2.2.2.2.2.1 x.2.2.2.2.2.2.2.2.2.2.2.2.2.2.2.2.2.2.2.2.2.1 x.2.2.2.2.2.2.2.2.2.2.2.2.2.2.2.2.2.2.2.2.2.2.1 x.2.2.2.2.2.2.2.2.2.2.2.2.2.2.2.2.2.2.2.2.2.2.2.1 x.2.2.2.2.2.2.2.2.2.2.2.2.2.2.2.2.2.2.2.2.2.2.2.2.1 x.2.2.2.2.2.2.2.2.2.2.2.2.2.2.2.2.2.2.2.2.2.2.2.2.2.1 x.2.2.2.2.2.2.2.2.2.2.2.2.2.2.2.2.2.2.2.2.2.2.2.2.2.2.1 x.2.2.2.2.2.2.2.2.2.2.2.2.2.2.2.2.2.2.2.2.2.2.2.2.2.2.2.1 x.2.2.2.2.2.2.2.2.2.2.2.2.2.2.2.2.2.2.2.2.2.2.2.2.2.2.2.2.1 x.2.2.2.2.2.2.2.2.2.2.2.2.2.2.2.2.2.2.2.2.2.2.2.2.2.2.2.2.2.1 x.2.2.2.2.2.2.2.2.2.2.2.2.2.2.2.2.2.2.2.2.2.2.2.2.2.2.2.2.2.2.1 x.2.2.2.2.2.2.2.2.2.2.2.2.2.2.2.2.2.2.2.2.2.2.2.2.2.2.2.2.2.2.2.1) [engine_Engine_ready3_k] [] [] [] Tryz.func8 rfl (h:=fun W x=>by kernel_rfl)
def drive_Drive_StartW (W : Wd) (d0 : Bool) (d1 : Bool) (d2 : Int) (d3 : List Int) (d4 : List DriveCell') (d5 : Int) : Option (Int × (Bool × Bool × Int × (List Int) × (List DriveCell') × Int × Unit)) := W.call (drive_Drive_ok2W W d0 d1 d2 d3 d4 d5) fun v1 => 
 W.cnd (!v1.1) (some (1, v1.2))
  (some (0, (false, (false, (0, ([], v1.2.2.2.2.2))))))
def drive_Drive_Start_k := kls kp 347 [⟨45,[.b,.b,.i,.v (.slc (.int .i64)),.row 328 tDriveCell,.i]⟩] [.ptr 0] [⟨45,[.b,.b,.i,.v (.slc (.int .i64)),.row 328 tDriveCell,.i]⟩] .i (fun W x => drive_Drive_StartW W x.1 x.2.1 x.2.2.1 x.2.2.2.1 x.2.2.2.2.1 x.2.2.2.2.2.1) [drive_Drive_ok2_k] [] [] [] Tryz.func347 rfl (h:=fun W x=>by kernel_rfl)
def script_Run_1W (W : Wd) (free20 : List (List Int)) (reply : List Int) (now : AState') : Option (Unit × ((List (List Int)) × Unit)) := W.room (free20.length + (reply :: []).length) 24 (some ((), ((free20 ++ (reply :: [])), ())))
def script_Run_1_k := kls kp 135 [⟨93,[.row 22 (.slc (.int .u8))]⟩] [.v (.slc (.int .u8)),.v tAState,.ptr 0] [⟨93,[.row 22 (.slc (.int .u8))]⟩] .unit (fun W x => script_Run_1W W x.1 x.2.1 x.2.2.1) [] [] [] [] Tryz.func135 rfl (h:=fun W x=>by kernel_rfl)
def engine_Engine_State3W (W : Wd) (g2 : Int) (g3 : List AMember') (g4 : List AInst') (g5 : List AAsset') (g6 : List AAccount') (g7 : List AChoice') (g8 : List AGroup') (g9 : List AGive') (g10 : List APos') (g11 : List APos') (g12 : List AFlow') (g13 : List AHold') (g14 : Bool) (g0_2 : Int) (g0_3 : Int) (g0_4 : Int) (g0_5 : List Int) (g0_6 : Bool) (g1_0 : Bool) (g1_1 : Bool) (g1_2 : Int) (g1_3 : List Int) (g1_4 : List DriveCell') (g1_5 : Int) (g0_0_1 : Int) (g0_0_2 : Int) (g0_0_3 : Int) (g0_0_4 : Int) (g0_0_5 : Int) (g0_0_6 : Int) (g0_0_7 : List (List Int)) (g0_0_8 : Bool) : Option (AState' × (Int × (List AMember') × (List AInst') × (List AAsset') × (List AAccount') × (List AChoice') × (List AGroup') × (List AGive') × (List APos') × (List APos') × (List AFlow') × (List AHold') × Bool × Int × Int × Int × (List Int) × Bool × Bool × Bool × Int × (List Int) × (List DriveCell') × Int × Int × Int × Int × Int × Int × Int × (List (List Int)) × Bool × Unit)) := W.call (ledger_CloneW W (g2, (g3, (g4, (g5, (g6, (g7, (g8, (g9, (g10, (g11, (g12, (g13, ()))))))))))))) fun v1 => some (v1, (g2, (g3, (g4, (g5, (g6, (g7, (g8, (g9, (g10, (g11, (g12, (g13, (g14, (g0_2, (g0_3, (g0_4, (g0_5, (g0_6, (g1_0, (g1_1, (g1_2, (g1_3, (g1_4, (g1_5, (g0_0_1, (g0_0_2, (g0_0_3, (g0_0_4, (g0_0_5, (g0_0_6, (g0_0_7, (g0_0_8, ())))))))))))))))))))))))))))))))))
def engine_Engine_State3_k := kls kp 10 [⟨39,[.ptr 1,.ptr 2,.i,.v (.slc tAMember),.v (.slc tAInst),.v (.slc tAAsset),.v (.slc tAAccount),.v (.slc tAChoice),.v (.slc tAGroup),.v (.slc tAGive),.v (.slc tAPos),.v (.slc tAPos),.v (.slc tAFlow),.v (.slc tAHold),.b]⟩,⟨152,[.ptr 3,.ptr 2,.i,.i,.i,.v (.slc (.int .u8)),.b]⟩,⟨45,[.b,.b,.i,.v (.slc (.int .i64)),.row 328 tDriveCell,.i]⟩,⟨275,[.ptr 2,.i,.i,.i,.i,.i,.i,.v (.slc (.slc (.int .u8))),.b]⟩] [.ptr 0] [⟨39,[.ptr 1,.ptr 2,.i,.v (.slc tAMember),.v (.slc tAInst),.v (.slc tAAsset),.v (.slc tAAccount),.v (.slc tAChoice),.v (.slc tAGroup),.v (.slc tAGive),.v (.slc tAPos),.v (.slc tAPos),.v (.slc tAFlow),.v (.slc tAHold),.b]⟩,⟨152,[.ptr 3,.ptr 2,.i,.i,.i,.v (.slc (.int .u8)),.b]⟩,⟨45,[.b,.b,.i,.v (.slc (.int .i64)),.row 328 tDriveCell,.i]⟩,⟨275,[.ptr 2,.i,.i,.i,.i,.i,.i,.v (.slc (.slc (.int .u8))),.b]⟩] (.v tAState) (fun W x => engine_Engine_State3W W x.1 x.2.1 x.2.2.1 x.2.2.2.1 x.2.2.2.2.1 x.2.2.2.2.2.1 x.2.2.2.2.2.2.1 x.2.2.2.2.2.2.2.1 x.2.2.2.2.2.2.2.2.1 x.2.2.2.2.2.2.2.2.2.1 x.2.2.2.2.2.2.2.2.2.2.1 x.2.2.2.2.2.2.2.2.2.2.2.1 x.2.2.2.2.2.2.2.2.2.2.2.2.1 x.2.2.2.2.2.2.2.2.2.2.2.2.2.1 x.2.2.2.2.2.2.2.2.2.2.2.2.2.2.1 x.2.2.2.2.2.2.2.2.2.2.2.2.2.2.2.1 x.2.2.2.2.2.2.2.2.2.2.2.2.2.2.2.2.1 x.2.2.2.2.2.2.2.2.2.2.2.2.2.2.2.2.2.1 x.2.2.2.2.2.2.2.2.2.2.2.2.2.2.2.2.2.2.1 x.2.2.2.2.2.2.2.2.2.2.2.2.2.2.2.2.2.2.2.1 x.2.2.2.2.2.2.2.2.2.2.2.2.2.2.2.2.2.2.2.2.1 x.2.2.2.2.2.2.2.2.2.2.2.2.2.2.2.2.2.2.2.2.2.1 x.2.2.2.2.2.2.2.2.2.2.2.2.2.2.2.2.2.2.2.2.2.2.1 x.2.2.2.2.2.2.2.2.2.2.2.2.2.2.2.2.2.2.2.2.2.2.2.1 x.2.2.2.2.2.2.2.2.2.2.2.2.2.2.2.2.2.2.2.2.2.2.2.2.1 x.2.2.2.2.2.2.2.2.2.2.2.2.2.2.2.2.2.2.2.2.2.2.2.2.2.1 x.2.2.2.2.2.2.2.2.2.2.2.2.2.2.2.2.2.2.2.2.2.2.2.2.2.2.1 x.2.2.2.2.2.2.2.2.2.2.2.2.2.2.2.2.2.2.2.2.2.2.2.2.2.2.2.1 x.2.2.2.2.2.2.2.2.2.2.2.2.2.2.2.2.2.2.2.2.2.2.2.2.2.2.2.2.1 x.2.2.2.2.2.2.2.2.2.2.2.2.2.2.2.2.2.2.2.2.2.2.2.2.2.2.2.2.2.1 x.2.2.2.2.2.2.2.2.2.2.2.2.2.2.2.2.2.2.2.2.2.2.2.2.2.2.2.2.2.2.1 x.2.2.2.2.2.2.2.2.2.2.2.2.2.2.2.2.2.2.2.2.2.2.2.2.2.2.2.2.2.2.2.1) [ledger_Clone_k] [] [] [] Tryz.func10 rfl (h:=fun W x=>by kernel_rfl)
end Go.Proofs.YtclleaffonkegaaGreat

