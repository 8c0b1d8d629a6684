import Derived.Test.YtclleaffonkegaaGreatB8
namespace Go.Proofs.YtclleaffonkegaaGreat
open Go Go.Vc Go.RowKit
open Lot
set_option maxRecDepth 100000
set_option synthInstance.maxSize 100000
set_option synthInstance.maxHeartbeats 0
set_option maxHeartbeats 8000000
def drive_Drive_okNW (_ : Wd) (d0 : Bool) (d1 : Bool) (d2 : Int) (d3 : List Int) (d5 : Int) : Option (Bool × (Bool × Bool × Int × (List Int) × Int × Unit)) := some ((Go.Vc.notIf true true), (d0, (d1, (d2, (d3, (d5, ()))))))
def drive_Drive_okN_k : KC Tryz.prog := kls kp 136 [⟨45, [.v .bool, .v .bool, .v (.int .i64), .v (.slc (.int .i64)), .nil .slc, .v (.int .i64)]⟩] [.ptr 0] [⟨45, [.v .bool, .v .bool, .v (.int .i64), .v (.slc (.int .i64)), .nil .slc, .v (.int .i64)]⟩] (.v .bool) (fun W x => drive_Drive_okNW W x.1 x.2.1 x.2.2.1 x.2.2.2.1 x.2.2.2.2.1) [] [] [] [] Tryz.func136 rfl (by decide +kernel) (fun W x => by kernel_rfl)
def drive_Drive_SizeNW (W : Wd) (d0 : Bool) (d1 : Bool) (d2 : Int) (d3 : List Int) (d5 : Int) : Option (Int × (Bool × Bool × Int × (List Int) × Int × Unit)) := W.call (drive_Drive_okNW W d0 d1 d2 d3 d5) fun v1 => 
 W.cnd (!v1.1) (some (0, v1.2))
  (some ((0 : Int), v1.2))
def drive_Drive_SizeN_k : KC Tryz.prog := kls kp 77 [⟨45, [.v .bool, .v .bool, .v (.int .i64), .v (.slc (.int .i64)), .nil .slc, .v (.int .i64)]⟩] [.ptr 0] [⟨45, [.v .bool, .v .bool, .v (.int .i64), .v (.slc (.int .i64)), .nil .slc, .v (.int .i64)]⟩] (.v (.int .i64)) (fun W x => drive_Drive_SizeNW W x.1 x.2.1 x.2.2.1 x.2.2.2.1 x.2.2.2.2.1) [drive_Drive_okN_k] [] [] [] Tryz.func77 rfl (by decide +kernel) (fun W x => by kernel_rfl)
def vault_OpenNW (W : Wd) (d0 : Bool) (d1 : Bool) (d2 : Int) (d3 : List Int) (d5 : Int) (each : Int) : Option ((Unit × Int × Unit) × (Bool × Bool × Int × (List Int) × Int × Unit)) := W.call (drive_Drive_SizeNW W d0 d1 d2 d3 d5) fun v1 => 
 W.cnd (v1.1 == 0) (some (((), (1, ())), v1.2))
  (
  W.join (fun (z2 : Bool × Unit) => 
   W.cnd z2.1 (some (((), (2, ())), v1.2))
    (none))
   fun k3 => 
   W.cnd (decide (each < 1)) ((k3 (true, ())))
    (
    W.cnd (decide (v1.1 ≤ each)) ((k3 (true, ())))
     ((k3 ((decide (v1.1 ≤ (IntKind.i64.wrap (2 * each)))), ())))))
def vault_OpenN_k : KC Tryz.prog := kls kp 28 [⟨45, [.v .bool, .v .bool, .v (.int .i64), .v (.slc (.int .i64)), .nil .slc, .v (.int .i64)]⟩] [.ptr 0, .v (.int .i64)] [⟨45, [.v .bool, .v .bool, .v (.int .i64), .v (.slc (.int .i64)), .nil .slc, .v (.int .i64)]⟩] (.pair (.nil .ptr) (.pair (.v (.int .i64)) .unit)) (fun W x => vault_OpenNW W x.1 x.2.1 x.2.2.1 x.2.2.2.1 x.2.2.2.2.1 x.2.2.2.2.2.1) [drive_Drive_SizeN_k] [] [(500017, ⟨[(17, .t .bool)], [], []⟩)] [] Tryz.func28 rfl (by decide +kernel) (fun W x => by kernel_rfl)
def engine_OpenNW (W : Wd) (d0 : Bool) (d1 : Bool) (d2 : Int) (d3 : List Int) (d5 : Int) (each : Int) : Option ((Unit × Int × Unit) × (Bool × Bool × Int × (List Int) × Int × Unit)) := W.call (vault_OpenNW W d0 d1 d2 d3 d5 each) fun v1 => 
 W.cnd (v1.1.2.1 != 0) (some (((), v1.1.2), v1.2))
  (W.call (ledger_EmptyW W) fun _ => none)
def engine_OpenN_k : KC Tryz.prog := kls kp 7 [⟨45, [.v .bool, .v .bool, .v (.int .i64), .v (.slc (.int .i64)), .nil .slc, .v (.int .i64)]⟩] [.ptr 0, .v (.int .i64)] [⟨45, [.v .bool, .v .bool, .v (.int .i64), .v (.slc (.int .i64)), .nil .slc, .v (.int .i64)]⟩] (.pair (.nil .ptr) (.pair (.v (.int .i64)) .unit)) (fun W x => engine_OpenNW W x.1 x.2.1 x.2.2.1 x.2.2.2.1 x.2.2.2.2.1 x.2.2.2.2.2.1) [vault_OpenN_k, ledger_Empty_k] [] [] [] Tryz.func7 rfl (by decide +kernel) (fun W x => by kernel_rfl)
def engine_Engine_CompactNW (W : Wd) (g2 : Int) (g3 : List AMember') (g4 : List AInst') (g5 : List AAsset') (g6 : List AAccount') (g7 : List AChoice') (g8 : List AGroup') (g9 : List AGive') (g10 : List APos') (g11 : List APos') (g12 : List AFlow') (g13 : List AHold') (g14 : Bool) : Option (Int × (Int × (List AMember') × (List AInst') × (List AAsset') × (List AAccount') × (List AChoice') × (List AGroup') × (List AGive') × (List APos') × (List APos') × (List AFlow') × (List AHold') × Bool × Unit)) := W.call (engine_Engine_readyW W g2 g3 g4 g5 g6 g7 g8 g9 g10 g11 g12 g13 g14) fun v1 => 
 W.cnd (v1.1 != 0) (some v1)
  (none)
def engine_Engine_CompactN_k : KC Tryz.prog := kls kp 8 [⟨39, [.nil .ptr, .nil .ptr, .v (.int .i64), .v (.slc tAMember), .v (.slc tAInst), .v (.slc tAAsset), .v (.slc tAAccount), .v (.slc tAChoice), .v (.slc tAGroup), .v (.slc tAGive), .v (.slc tAPos), .v (.slc tAPos), .v (.slc tAFlow), .v (.slc tAHold), .v .bool]⟩] [.ptr 0] [⟨39, [.nil .ptr, .nil .ptr, .v (.int .i64), .v (.slc tAMember), .v (.slc tAInst), .v (.slc tAAsset), .v (.slc tAAccount), .v (.slc tAChoice), .v (.slc tAGroup), .v (.slc tAGive), .v (.slc tAPos), .v (.slc tAPos), .v (.slc tAFlow), .v (.slc tAHold), .v .bool]⟩] (.v (.int .i64)) (fun W x => engine_Engine_CompactNW W x.1 x.2.1 x.2.2.1 x.2.2.2.1 x.2.2.2.2.1 x.2.2.2.2.2.1 x.2.2.2.2.2.2.1 x.2.2.2.2.2.2.2.1 x.2.2.2.2.2.2.2.2.1 x.2.2.2.2.2.2.2.2.2.1 x.2.2.2.2.2.2.2.2.2.2.1 x.2.2.2.2.2.2.2.2.2.2.2.1 x.2.2.2.2.2.2.2.2.2.2.2.2.1) [engine_Engine_ready_k] [] [] [] Tryz.func8 rfl (by decide +kernel) (fun W x => by kernel_rfl)
def engine_Engine_StateNW (W : Wd) (g2 : Int) (g3 : List AMember') (g4 : List AInst') (g5 : List AAsset') (g6 : List AAccount') (g7 : List AChoice') (g8 : List AGroup') (g9 : List AGive') (g10 : List APos') (g11 : List APos') (g12 : List AFlow') (g13 : List AHold') (g14 : Bool) : Option (AState' × (Int × (List AMember') × (List AInst') × (List AAsset') × (List AAccount') × (List AChoice') × (List AGroup') × (List AGive') × (List APos') × (List APos') × (List AFlow') × (List AHold') × Bool × Unit)) := W.call (ledger_CloneW W (g2, (g3, (g4, (g5, (g6, (g7, (g8, (g9, (g10, (g11, (g12, (g13, ()))))))))))))) fun v1 => some (v1, (g2, (g3, (g4, (g5, (g6, (g7, (g8, (g9, (g10, (g11, (g12, (g13, (g14, ()))))))))))))))
def engine_Engine_StateN_k : KC Tryz.prog := kls kp 10 [⟨39, [.nil .ptr, .nil .ptr, .v (.int .i64), .v (.slc tAMember), .v (.slc tAInst), .v (.slc tAAsset), .v (.slc tAAccount), .v (.slc tAChoice), .v (.slc tAGroup), .v (.slc tAGive), .v (.slc tAPos), .v (.slc tAPos), .v (.slc tAFlow), .v (.slc tAHold), .v .bool]⟩] [.ptr 0] [⟨39, [.nil .ptr, .nil .ptr, .v (.int .i64), .v (.slc tAMember), .v (.slc tAInst), .v (.slc tAAsset), .v (.slc tAAccount), .v (.slc tAChoice), .v (.slc tAGroup), .v (.slc tAGive), .v (.slc tAPos), .v (.slc tAPos), .v (.slc tAFlow), .v (.slc tAHold), .v .bool]⟩] (.v tAState) (fun W x => engine_Engine_StateNW W x.1 x.2.1 x.2.2.1 x.2.2.2.1 x.2.2.2.2.1 x.2.2.2.2.2.1 x.2.2.2.2.2.2.1 x.2.2.2.2.2.2.2.1 x.2.2.2.2.2.2.2.2.1 x.2.2.2.2.2.2.2.2.2.1 x.2.2.2.2.2.2.2.2.2.2.1 x.2.2.2.2.2.2.2.2.2.2.2.1 x.2.2.2.2.2.2.2.2.2.2.2.2.1) [ledger_Clone_k] [] [] [] Tryz.func10 rfl (by decide +kernel) (fun W x => by kernel_rfl)
def vault_Vault_okNW (_ : Wd) : Option (Bool × Unit) := some (false, ())
def vault_Vault_okN_k : KC Tryz.prog := kls kp 81 [] [.nil .ptr] [] (.v .bool) (fun W x => vault_Vault_okNW W ) [] [] [] [] Tryz.func81 rfl (by decide +kernel) (fun W x => by kernel_rfl)
def vault_Vault_LeftNW (W : Wd) : Option (Int × Unit) := W.call (vault_Vault_okNW W) fun v1 => 
 W.cnd (!v1.1) (some (0, ()))
  (none)
def vault_Vault_LeftN_k : KC Tryz.prog := kls kp 48 [] [.nil .ptr] [] (.v (.int .i64)) (fun W x => vault_Vault_LeftNW W ) [vault_Vault_okN_k] [] [] [] Tryz.func48 rfl (by decide +kernel) (fun W x => by kernel_rfl)
def engine_Engine_LeftNW (W : Wd) (g2 : Int) (g3 : List AMember') (g4 : List AInst') (g5 : List AAsset') (g6 : List AAccount') (g7 : List AChoice') (g8 : List AGroup') (g9 : List AGive') (g10 : List APos') (g11 : List APos') (g12 : List AFlow') (g13 : List AHold') (g14 : Bool) : Option (Int × (Int × (List AMember') × (List AInst') × (List AAsset') × (List AAccount') × (List AChoice') × (List AGroup') × (List AGive') × (List APos') × (List APos') × (List AFlow') × (List AHold') × Bool × Unit)) := W.call (vault_Vault_LeftNW W) fun v1 => some (v1.1, (g2, (g3, (g4, (g5, (g6, (g7, (g8, (g9, (g10, (g11, (g12, (g13, (g14, ()))))))))))))))
def engine_Engine_LeftN_k : KC Tryz.prog := kls kp 11 [⟨39, [.nil .ptr, .nil .ptr, .v (.int .i64), .v (.slc tAMember), .v (.slc tAInst), .v (.slc tAAsset), .v (.slc tAAccount), .v (.slc tAChoice), .v (.slc tAGroup), .v (.slc tAGive), .v (.slc tAPos), .v (.slc tAPos), .v (.slc tAFlow), .v (.slc tAHold), .v .bool]⟩] [.ptr 0] [⟨39, [.nil .ptr, .nil .ptr, .v (.int .i64), .v (.slc tAMember), .v (.slc tAInst), .v (.slc tAAsset), .v (.slc tAAccount), .v (.slc tAChoice), .v (.slc tAGroup), .v (.slc tAGive), .v (.slc tAPos), .v (.slc tAPos), .v (.slc tAFlow), .v (.slc tAHold), .v .bool]⟩] (.v (.int .i64)) (fun W x => engine_Engine_LeftNW W x.1 x.2.1 x.2.2.1 x.2.2.2.1 x.2.2.2.2.1 x.2.2.2.2.2.1 x.2.2.2.2.2.2.1 x.2.2.2.2.2.2.2.1 x.2.2.2.2.2.2.2.2.1 x.2.2.2.2.2.2.2.2.2.1 x.2.2.2.2.2.2.2.2.2.2.1 x.2.2.2.2.2.2.2.2.2.2.2.1 x.2.2.2.2.2.2.2.2.2.2.2.2.1) [vault_Vault_LeftN_k] [] [] [] Tryz.func11 rfl (by decide +kernel) (fun W x => by kernel_rfl)
def drive_Drive_ReadNW (W : Wd) (d0 : Bool) (d1 : Bool) (d2 : Int) (d3 : List Int) (d4 : List DriveCell') (d5 : Int) (at_ : Int) : Option (((List Int) × Int × Unit) × (Bool × Bool × Int × (List Int) × (List DriveCell') × Int × Unit)) := W.call (drive_Drive_ok2W W d0 d1 d2 d3 d4 d5) fun v1 => 
 W.cnd (!v1.1) (some (([], (1, ())), v1.2))
  (
  W.join (fun (z2 : Bool × Bool × Bool × Int × List (Int) × Int × List (Int × Int × Int × Int × Int × Int × Int × Int × Int × Int × Int × Int × Int × Int × Int × Int × Int × Int × Int × Int × Int × Int × Int × Int × Int × Int × Int × Int × Int × Int × Int × Int × Int × Int × Int × Int × Int × Int × Int × Int × Int × Int × Int × Int × Int × Int × Int × Int × Int × Int × Int × _ × _) × Unit) => 
   W.cnd z2.1 (some (([], (2, ())), (z2.2.1, (z2.2.2.1, (z2.2.2.2.1, (z2.2.2.2.2.1, (z2.2.2.2.2.2.2.1, (z2.2.2.2.2.2.1, ()))))))))
    (W.idx z2.2.2.2.2.2.2.1 at_ fun _ => W.nth z2.2.2.2.2.2.2.1 (Int.toNat at_) fun x4 => some (((x4.1 :: (x4.2.1 :: (x4.2.2.1 :: (x4.2.2.2.1 :: (x4.2.2.2.2.1 :: (x4.2.2.2.2.2.1 :: (x4.2.2.2.2.2.2.1 :: (x4.2.2.2.2.2.2.2.1 :: (x4.2.2.2.2.2.2.2.2.1 :: (x4.2.2.2.2.2.2.2.2.2.1 :: (x4.2.2.2.2.2.2.2.2.2.2.1 :: (x4.2.2.2.2.2.2.2.2.2.2.2.1 :: (x4.2.2.2.2.2.2.2.2.2.2.2.2.1 :: (x4.2.2.2.2.2.2.2.2.2.2.2.2.2.1 :: (x4.2.2.2.2.2.2.2.2.2.2.2.2.2.2.1 :: (x4.2.2.2.2.2.2.2.2.2.2.2.2.2.2.2.1 :: (x4.2.2.2.2.2.2.2.2.2.2.2.2.2.2.2.2.1 :: (x4.2.2.2.2.2.2.2.2.2.2.2.2.2.2.2.2.2.1 :: (x4.2.2.2.2.2.2.2.2.2.2.2.2.2.2.2.2.2.2.1 :: (x4.2.2.2.2.2.2.2.2.2.2.2.2.2.2.2.2.2.2.2.1 :: (x4.2.2.2.2.2.2.2.2.2.2.2.2.2.2.2.2.2.2.2.2.1 :: (x4.2.2.2.2.2.2.2.2.2.2.2.2.2.2.2.2.2.2.2.2.2.1 :: (x4.2.2.2.2.2.2.2.2.2.2.2.2.2.2.2.2.2.2.2.2.2.2.1 :: (x4.2.2.2.2.2.2.2.2.2.2.2.2.2.2.2.2.2.2.2.2.2.2.2.1 :: (x4.2.2.2.2.2.2.2.2.2.2.2.2.2.2.2.2.2.2.2.2.2.2.2.2.1 :: (x4.2.2.2.2.2.2.2.2.2.2.2.2.2.2.2.2.2.2.2.2.2.2.2.2.2.1 :: (x4.2.2.2.2.2.2.2.2.2.2.2.2.2.2.2.2.2.2.2.2.2.2.2.2.2.2.1 :: (x4.2.2.2.2.2.2.2.2.2.2.2.2.2.2.2.2.2.2.2.2.2.2.2.2.2.2.2.1 :: (x4.2.2.2.2.2.2.2.2.2.2.2.2.2.2.2.2.2.2.2.2.2.2.2.2.2.2.2.2.1 :: (x4.2.2.2.2.2.2.2.2.2.2.2.2.2.2.2.2.2.2.2.2.2.2.2.2.2.2.2.2.2.1 :: (x4.2.2.2.2.2.2.2.2.2.2.2.2.2.2.2.2.2.2.2.2.2.2.2.2.2.2.2.2.2.2.1 :: (x4.2.2.2.2.2.2.2.2.2.2.2.2.2.2.2.2.2.2.2.2.2.2.2.2.2.2.2.2.2.2.2.1 :: (x4.2.2.2.2.2.2.2.2.2.2.2.2.2.2.2.2.2.2.2.2.2.2.2.2.2.2.2.2.2.2.2.2.1 :: (x4.2.2.2.2.2.2.2.2.2.2.2.2.2.2.2.2.2.2.2.2.2.2.2.2.2.2.2.2.2.2.2.2.2.1 :: (x4.2.2.2.2.2.2.2.2.2.2.2.2.2.2.2.2.2.2.2.2.2.2.2.2.2.2.2.2.2.2.2.2.2.2.1 :: (x4.2.2.2.2.2.2.2.2.2.2.2.2.2.2.2.2.2.2.2.2.2.2.2.2.2.2.2.2.2.2.2.2.2.2.2.1 :: (x4.2.2.2.2.2.2.2.2.2.2.2.2.2.2.2.2.2.2.2.2.2.2.2.2.2.2.2.2.2.2.2.2.2.2.2.2.1 :: (x4.2.2.2.2.2.2.2.2.2.2.2.2.2.2.2.2.2.2.2.2.2.2.2.2.2.2.2.2.2.2.2.2.2.2.2.2.2.1 :: (x4.2.2.2.2.2.2.2.2.2.2.2.2.2.2.2.2.2.2.2.2.2.2.2.2.2.2.2.2.2.2.2.2.2.2.2.2.2.2.1 :: (x4.2.2.2.2.2.2.2.2.2.2.2.2.2.2.2.2.2.2.2.2.2.2.2.2.2.2.2.2.2.2.2.2.2.2.2.2.2.2.2.1 :: (x4.2.2.2.2.2.2.2.2.2.2.2.2.2.2.2.2.2.2.2.2.2.2.2.2.2.2.2.2.2.2.2.2.2.2.2.2.2.2.2.2.1 :: (x4.2.2.2.2.2.2.2.2.2.2.2.2.2.2.2.2.2.2.2.2.2.2.2.2.2.2.2.2.2.2.2.2.2.2.2.2.2.2.2.2.2.1 :: (x4.2.2.2.2.2.2.2.2.2.2.2.2.2.2.2.2.2.2.2.2.2.2.2.2.2.2.2.2.2.2.2.2.2.2.2.2.2.2.2.2.2.2.1 :: (x4.2.2.2.2.2.2.2.2.2.2.2.2.2.2.2.2.2.2.2.2.2.2.2.2.2.2.2.2.2.2.2.2.2.2.2.2.2.2.2.2.2.2.2.1 :: (x4.2.2.2.2.2.2.2.2.2.2.2.2.2.2.2.2.2.2.2.2.2.2.2.2.2.2.2.2.2.2.2.2.2.2.2.2.2.2.2.2.2.2.2.2.1 :: (x4.2.2.2.2.2.2.2.2.2.2.2.2.2.2.2.2.2.2.2.2.2.2.2.2.2.2.2.2.2.2.2.2.2.2.2.2.2.2.2.2.2.2.2.2.2.1 :: (x4.2.2.2.2.2.2.2.2.2.2.2.2.2.2.2.2.2.2.2.2.2.2.2.2.2.2.2.2.2.2.2.2.2.2.2.2.2.2.2.2.2.2.2.2.2.2.1 :: (x4.2.2.2.2.2.2.2.2.2.2.2.2.2.2.2.2.2.2.2.2.2.2.2.2.2.2.2.2.2.2.2.2.2.2.2.2.2.2.2.2.2.2.2.2.2.2.2.1 :: (x4.2.2.2.2.2.2.2.2.2.2.2.2.2.2.2.2.2.2.2.2.2.2.2.2.2.2.2.2.2.2.2.2.2.2.2.2.2.2.2.2.2.2.2.2.2.2.2.2.1 :: (x4.2.2.2.2.2.2.2.2.2.2.2.2.2.2.2.2.2.2.2.2.2.2.2.2.2.2.2.2.2.2.2.2.2.2.2.2.2.2.2.2.2.2.2.2.2.2.2.2.2.1 :: (x4.2.2.2.2.2.2.2.2.2.2.2.2.2.2.2.2.2.2.2.2.2.2.2.2.2.2.2.2.2.2.2.2.2.2.2.2.2.2.2.2.2.2.2.2.2.2.2.2.2.2.1 :: (x4.2.2.2.2.2.2.2.2.2.2.2.2.2.2.2.2.2.2.2.2.2.2.2.2.2.2.2.2.2.2.2.2.2.2.2.2.2.2.2.2.2.2.2.2.2.2.2.2.2.2.2.1 :: (x4.2.2.2.2.2.2.2.2.2.2.2.2.2.2.2.2.2.2.2.2.2.2.2.2.2.2.2.2.2.2.2.2.2.2.2.2.2.2.2.2.2.2.2.2.2.2.2.2.2.2.2.2.1 :: (x4.2.2.2.2.2.2.2.2.2.2.2.2.2.2.2.2.2.2.2.2.2.2.2.2.2.2.2.2.2.2.2.2.2.2.2.2.2.2.2.2.2.2.2.2.2.2.2.2.2.2.2.2.2.1 :: (x4.2.2.2.2.2.2.2.2.2.2.2.2.2.2.2.2.2.2.2.2.2.2.2.2.2.2.2.2.2.2.2.2.2.2.2.2.2.2.2.2.2.2.2.2.2.2.2.2.2.2.2.2.2.2.1 :: (x4.2.2.2.2.2.2.2.2.2.2.2.2.2.2.2.2.2.2.2.2.2.2.2.2.2.2.2.2.2.2.2.2.2.2.2.2.2.2.2.2.2.2.2.2.2.2.2.2.2.2.2.2.2.2.2.1 :: (x4.2.2.2.2.2.2.2.2.2.2.2.2.2.2.2.2.2.2.2.2.2.2.2.2.2.2.2.2.2.2.2.2.2.2.2.2.2.2.2.2.2.2.2.2.2.2.2.2.2.2.2.2.2.2.2.2.1 :: (x4.2.2.2.2.2.2.2.2.2.2.2.2.2.2.2.2.2.2.2.2.2.2.2.2.2.2.2.2.2.2.2.2.2.2.2.2.2.2.2.2.2.2.2.2.2.2.2.2.2.2.2.2.2.2.2.2.2.1 :: (x4.2.2.2.2.2.2.2.2.2.2.2.2.2.2.2.2.2.2.2.2.2.2.2.2.2.2.2.2.2.2.2.2.2.2.2.2.2.2.2.2.2.2.2.2.2.2.2.2.2.2.2.2.2.2.2.2.2.2.1 :: (x4.2.2.2.2.2.2.2.2.2.2.2.2.2.2.2.2.2.2.2.2.2.2.2.2.2.2.2.2.2.2.2.2.2.2.2.2.2.2.2.2.2.2.2.2.2.2.2.2.2.2.2.2.2.2.2.2.2.2.2.1 :: (x4.2.2.2.2.2.2.2.2.2.2.2.2.2.2.2.2.2.2.2.2.2.2.2.2.2.2.2.2.2.2.2.2.2.2.2.2.2.2.2.2.2.2.2.2.2.2.2.2.2.2.2.2.2.2.2.2.2.2.2.2.1 :: (x4.2.2.2.2.2.2.2.2.2.2.2.2.2.2.2.2.2.2.2.2.2.2.2.2.2.2.2.2.2.2.2.2.2.2.2.2.2.2.2.2.2.2.2.2.2.2.2.2.2.2.2.2.2.2.2.2.2.2.2.2.2.1 :: (x4.2.2.2.2.2.2.2.2.2.2.2.2.2.2.2.2.2.2.2.2.2.2.2.2.2.2.2.2.2.2.2.2.2.2.2.2.2.2.2.2.2.2.2.2.2.2.2.2.2.2.2.2.2.2.2.2.2.2.2.2.2.2.1 :: (x4.2.2.2.2.2.2.2.2.2.2.2.2.2.2.2.2.2.2.2.2.2.2.2.2.2.2.2.2.2.2.2.2.2.2.2.2.2.2.2.2.2.2.2.2.2.2.2.2.2.2.2.2.2.2.2.2.2.2.2.2.2.2.2.1 :: (x4.2.2.2.2.2.2.2.2.2.2.2.2.2.2.2.2.2.2.2.2.2.2.2.2.2.2.2.2.2.2.2.2.2.2.2.2.2.2.2.2.2.2.2.2.2.2.2.2.2.2.2.2.2.2.2.2.2.2.2.2.2.2.2.2.1 :: (x4.2.2.2.2.2.2.2.2.2.2.2.2.2.2.2.2.2.2.2.2.2.2.2.2.2.2.2.2.2.2.2.2.2.2.2.2.2.2.2.2.2.2.2.2.2.2.2.2.2.2.2.2.2.2.2.2.2.2.2.2.2.2.2.2.2.1 :: (x4.2.2.2.2.2.2.2.2.2.2.2.2.2.2.2.2.2.2.2.2.2.2.2.2.2.2.2.2.2.2.2.2.2.2.2.2.2.2.2.2.2.2.2.2.2.2.2.2.2.2.2.2.2.2.2.2.2.2.2.2.2.2.2.2.2.2.1 :: (x4.2.2.2.2.2.2.2.2.2.2.2.2.2.2.2.2.2.2.2.2.2.2.2.2.2.2.2.2.2.2.2.2.2.2.2.2.2.2.2.2.2.2.2.2.2.2.2.2.2.2.2.2.2.2.2.2.2.2.2.2.2.2.2.2.2.2.2.1 :: (x4.2.2.2.2.2.2.2.2.2.2.2.2.2.2.2.2.2.2.2.2.2.2.2.2.2.2.2.2.2.2.2.2.2.2.2.2.2.2.2.2.2.2.2.2.2.2.2.2.2.2.2.2.2.2.2.2.2.2.2.2.2.2.2.2.2.2.2.2.1 :: (x4.2.2.2.2.2.2.2.2.2.2.2.2.2.2.2.2.2.2.2.2.2.2.2.2.2.2.2.2.2.2.2.2.2.2.2.2.2.2.2.2.2.2.2.2.2.2.2.2.2.2.2.2.2.2.2.2.2.2.2.2.2.2.2.2.2.2.2.2.2.1 :: (x4.2.2.2.2.2.2.2.2.2.2.2.2.2.2.2.2.2.2.2.2.2.2.2.2.2.2.2.2.2.2.2.2.2.2.2.2.2.2.2.2.2.2.2.2.2.2.2.2.2.2.2.2.2.2.2.2.2.2.2.2.2.2.2.2.2.2.2.2.2.2.1 :: (x4.2.2.2.2.2.2.2.2.2.2.2.2.2.2.2.2.2.2.2.2.2.2.2.2.2.2.2.2.2.2.2.2.2.2.2.2.2.2.2.2.2.2.2.2.2.2.2.2.2.2.2.2.2.2.2.2.2.2.2.2.2.2.2.2.2.2.2.2.2.2.2.1 :: (x4.2.2.2.2.2.2.2.2.2.2.2.2.2.2.2.2.2.2.2.2.2.2.2.2.2.2.2.2.2.2.2.2.2.2.2.2.2.2.2.2.2.2.2.2.2.2.2.2.2.2.2.2.2.2.2.2.2.2.2.2.2.2.2.2.2.2.2.2.2.2.2.2.1 :: (x4.2.2.2.2.2.2.2.2.2.2.2.2.2.2.2.2.2.2.2.2.2.2.2.2.2.2.2.2.2.2.2.2.2.2.2.2.2.2.2.2.2.2.2.2.2.2.2.2.2.2.2.2.2.2.2.2.2.2.2.2.2.2.2.2.2.2.2.2.2.2.2.2.2.1 :: (x4.2.2.2.2.2.2.2.2.2.2.2.2.2.2.2.2.2.2.2.2.2.2.2.2.2.2.2.2.2.2.2.2.2.2.2.2.2.2.2.2.2.2.2.2.2.2.2.2.2.2.2.2.2.2.2.2.2.2.2.2.2.2.2.2.2.2.2.2.2.2.2.2.2.2.1 :: (x4.2.2.2.2.2.2.2.2.2.2.2.2.2.2.2.2.2.2.2.2.2.2.2.2.2.2.2.2.2.2.2.2.2.2.2.2.2.2.2.2.2.2.2.2.2.2.2.2.2.2.2.2.2.2.2.2.2.2.2.2.2.2.2.2.2.2.2.2.2.2.2.2.2.2.2.1 :: (x4.2.2.2.2.2.2.2.2.2.2.2.2.2.2.2.2.2.2.2.2.2.2.2.2.2.2.2.2.2.2.2.2.2.2.2.2.2.2.2.2.2.2.2.2.2.2.2.2.2.2.2.2.2.2.2.2.2.2.2.2.2.2.2.2.2.2.2.2.2.2.2.2.2.2.2.2.1 :: (x4.2.2.2.2.2.2.2.2.2.2.2.2.2.2.2.2.2.2.2.2.2.2.2.2.2.2.2.2.2.2.2.2.2.2.2.2.2.2.2.2.2.2.2.2.2.2.2.2.2.2.2.2.2.2.2.2.2.2.2.2.2.2.2.2.2.2.2.2.2.2.2.2.2.2.2.2.2.1 :: (x4.2.2.2.2.2.2.2.2.2.2.2.2.2.2.2.2.2.2.2.2.2.2.2.2.2.2.2.2.2.2.2.2.2.2.2.2.2.2.2.2.2.2.2.2.2.2.2.2.2.2.2.2.2.2.2.2.2.2.2.2.2.2.2.2.2.2.2.2.2.2.2.2.2.2.2.2.2.2.1 :: (x4.2.2.2.2.2.2.2.2.2.2.2.2.2.2.2.2.2.2.2.2.2.2.2.2.2.2.2.2.2.2.2.2.2.2.2.2.2.2.2.2.2.2.2.2.2.2.2.2.2.2.2.2.2.2.2.2.2.2.2.2.2.2.2.2.2.2.2.2.2.2.2.2.2.2.2.2.2.2.2.1 :: (x4.2.2.2.2.2.2.2.2.2.2.2.2.2.2.2.2.2.2.2.2.2.2.2.2.2.2.2.2.2.2.2.2.2.2.2.2.2.2.2.2.2.2.2.2.2.2.2.2.2.2.2.2.2.2.2.2.2.2.2.2.2.2.2.2.2.2.2.2.2.2.2.2.2.2.2.2.2.2.2.2.1 :: (x4.2.2.2.2.2.2.2.2.2.2.2.2.2.2.2.2.2.2.2.2.2.2.2.2.2.2.2.2.2.2.2.2.2.2.2.2.2.2.2.2.2.2.2.2.2.2.2.2.2.2.2.2.2.2.2.2.2.2.2.2.2.2.2.2.2.2.2.2.2.2.2.2.2.2.2.2.2.2.2.2.2.1 :: (x4.2.2.2.2.2.2.2.2.2.2.2.2.2.2.2.2.2.2.2.2.2.2.2.2.2.2.2.2.2.2.2.2.2.2.2.2.2.2.2.2.2.2.2.2.2.2.2.2.2.2.2.2.2.2.2.2.2.2.2.2.2.2.2.2.2.2.2.2.2.2.2.2.2.2.2.2.2.2.2.2.2.2.1 :: (x4.2.2.2.2.2.2.2.2.2.2.2.2.2.2.2.2.2.2.2.2.2.2.2.2.2.2.2.2.2.2.2.2.2.2.2.2.2.2.2.2.2.2.2.2.2.2.2.2.2.2.2.2.2.2.2.2.2.2.2.2.2.2.2.2.2.2.2.2.2.2.2.2.2.2.2.2.2.2.2.2.2.2.2.1 :: (x4.2.2.2.2.2.2.2.2.2.2.2.2.2.2.2.2.2.2.2.2.2.2.2.2.2.2.2.2.2.2.2.2.2.2.2.2.2.2.2.2.2.2.2.2.2.2.2.2.2.2.2.2.2.2.2.2.2.2.2.2.2.2.2.2.2.2.2.2.2.2.2.2.2.2.2.2.2.2.2.2.2.2.2.2.1 :: (x4.2.2.2.2.2.2.2.2.2.2.2.2.2.2.2.2.2.2.2.2.2.2.2.2.2.2.2.2.2.2.2.2.2.2.2.2.2.2.2.2.2.2.2.2.2.2.2.2.2.2.2.2.2.2.2.2.2.2.2.2.2.2.2.2.2.2.2.2.2.2.2.2.2.2.2.2.2.2.2.2.2.2.2.2.2.1 :: (x4.2.2.2.2.2.2.2.2.2.2.2.2.2.2.2.2.2.2.2.2.2.2.2.2.2.2.2.2.2.2.2.2.2.2.2.2.2.2.2.2.2.2.2.2.2.2.2.2.2.2.2.2.2.2.2.2.2.2.2.2.2.2.2.2.2.2.2.2.2.2.2.2.2.2.2.2.2.2.2.2.2.2.2.2.2.2.1 :: (x4.2.2.2.2.2.2.2.2.2.2.2.2.2.2.2.2.2.2.2.2.2.2.2.2.2.2.2.2.2.2.2.2.2.2.2.2.2.2.2.2.2.2.2.2.2.2.2.2.2.2.2.2.2.2.2.2.2.2.2.2.2.2.2.2.2.2.2.2.2.2.2.2.2.2.2.2.2.2.2.2.2.2.2.2.2.2.2.1 :: (x4.2.2.2.2.2.2.2.2.2.2.2.2.2.2.2.2.2.2.2.2.2.2.2.2.2.2.2.2.2.2.2.2.2.2.2.2.2.2.2.2.2.2.2.2.2.2.2.2.2.2.2.2.2.2.2.2.2.2.2.2.2.2.2.2.2.2.2.2.2.2.2.2.2.2.2.2.2.2.2.2.2.2.2.2.2.2.2.2.1 :: (x4.2.2.2.2.2.2.2.2.2.2.2.2.2.2.2.2.2.2.2.2.2.2.2.2.2.2.2.2.2.2.2.2.2.2.2.2.2.2.2.2.2.2.2.2.2.2.2.2.2.2.2.2.2.2.2.2.2.2.2.2.2.2.2.2.2.2.2.2.2.2.2.2.2.2.2.2.2.2.2.2.2.2.2.2.2.2.2.2.2.1 :: (x4.2.2.2.2.2.2.2.2.2.2.2.2.2.2.2.2.2.2.2.2.2.2.2.2.2.2.2.2.2.2.2.2.2.2.2.2.2.2.2.2.2.2.2.2.2.2.2.2.2.2.2.2.2.2.2.2.2.2.2.2.2.2.2.2.2.2.2.2.2.2.2.2.2.2.2.2.2.2.2.2.2.2.2.2.2.2.2.2.2.2.1 :: (x4.2.2.2.2.2.2.2.2.2.2.2.2.2.2.2.2.2.2.2.2.2.2.2.2.2.2.2.2.2.2.2.2.2.2.2.2.2.2.2.2.2.2.2.2.2.2.2.2.2.2.2.2.2.2.2.2.2.2.2.2.2.2.2.2.2.2.2.2.2.2.2.2.2.2.2.2.2.2.2.2.2.2.2.2.2.2.2.2.2.2.2.1 :: (x4.2.2.2.2.2.2.2.2.2.2.2.2.2.2.2.2.2.2.2.2.2.2.2.2.2.2.2.2.2.2.2.2.2.2.2.2.2.2.2.2.2.2.2.2.2.2.2.2.2.2.2.2.2.2.2.2.2.2.2.2.2.2.2.2.2.2.2.2.2.2.2.2.2.2.2.2.2.2.2.2.2.2.2.2.2.2.2.2.2.2.2.2.1 :: (x4.2.2.2.2.2.2.2.2.2.2.2.2.2.2.2.2.2.2.2.2.2.2.2.2.2.2.2.2.2.2.2.2.2.2.2.2.2.2.2.2.2.2.2.2.2.2.2.2.2.2.2.2.2.2.2.2.2.2.2.2.2.2.2.2.2.2.2.2.2.2.2.2.2.2.2.2.2.2.2.2.2.2.2.2.2.2.2.2.2.2.2.2.2.1 :: (x4.2.2.2.2.2.2.2.2.2.2.2.2.2.2.2.2.2.2.2.2.2.2.2.2.2.2.2.2.2.2.2.2.2.2.2.2.2.2.2.2.2.2.2.2.2.2.2.2.2.2.2.2.2.2.2.2.2.2.2.2.2.2.2.2.2.2.2.2.2.2.2.2.2.2.2.2.2.2.2.2.2.2.2.2.2.2.2.2.2.2.2.2.2.2.1 :: (x4.2.2.2.2.2.2.2.2.2.2.2.2.2.2.2.2.2.2.2.2.2.2.2.2.2.2.2.2.2.2.2.2.2.2.2.2.2.2.2.2.2.2.2.2.2.2.2.2.2.2.2.2.2.2.2.2.2.2.2.2.2.2.2.2.2.2.2.2.2.2.2.2.2.2.2.2.2.2.2.2.2.2.2.2.2.2.2.2.2.2.2.2.2.2.2.1 :: [])))))))))))))))))))))))))))))))))))))))))))))))))))))))))))))))))))))))))))))))))))))))))))))))), (0, ())), (z2.2.1, (z2.2.2.1, (z2.2.2.2.1, (z2.2.2.2.2.1, (z2.2.2.2.2.2.2.1, (z2.2.2.2.2.2.1, ())))))))))
   fun k5 => 
   W.cnd (decide (at_ < 0)) ((k5 (true, (v1.2.1, (v1.2.2.1, (v1.2.2.2.1, (v1.2.2.2.2.1, (v1.2.2.2.2.2.2.1, (v1.2.2.2.2.2.1, ())))))))))
    ((k5 ((decide ((v1.2.2.2.2.2.1.length : Int) ≤ at_)), (v1.2.1, (v1.2.2.1, (v1.2.2.2.1, (v1.2.2.2.2.1, (v1.2.2.2.2.2.2.1, (v1.2.2.2.2.2.1, ()))))))))))
def drive_Drive_ReadN_k : KC Tryz.prog := kls kp 232 [⟨45, [.v .bool, .v .bool, .v (.int .i64), .v (.slc (.int .i64)), .row 328 tDriveCell, .v (.int .i64)]⟩] [.ptr 0, .v (.int .i64)] [⟨45, [.v .bool, .v .bool, .v (.int .i64), .v (.slc (.int .i64)), .row 328 tDriveCell, .v (.int .i64)]⟩] (.pair (.v (.slc (.int .u8))) (.pair (.v (.int .i64)) .unit)) (fun W x => drive_Drive_ReadNW W x.1 x.2.1 x.2.2.1 x.2.2.2.1 x.2.2.2.2.1 x.2.2.2.2.2.1 x.2.2.2.2.2.2.1) [drive_Drive_ok2_k] [] [(500011, ⟨[(11, .t .bool)], [(0, [.t .bool, .t .bool, .t (.int .i64), .t (.slc (.int .i64)), .row 0, .t (.int .i64)])], [.own 328 tDriveCell]⟩)] [] Tryz.func232 rfl (by decide +kernel) (fun W x => by kernel_rfl)
def scroll_span_frameNW (W : Wd) (s0 : Bool) (s1 : Bool) (s2 : Int) (s3 : List Int) (s4 : List DriveCell') (s5 : Int) (s_0 : Int) (s_1 : Int) (at_ : Int) : Option ((FrameFrame' × Bool × Unit) × (Bool × Bool × Int × (List Int) × (List DriveCell') × Int × Unit)) := 
 W.join (fun (z1 : Bool × Bool × Bool × Int × List (Int) × Int × List (Int × Int × Int × Int × Int × Int × Int × Int × Int × Int × Int × Int × Int × Int × Int × Int × Int × Int × Int × Int × Int × Int × Int × Int × Int × Int × Int × Int × Int × Int × Int × Int × Int × Int × Int × Int × Int × Int × Int × Int × Int × Int × Int × Int × Int × Int × Int × Int × Int × Int × Int × _ × _) × Unit) => 
  W.cnd z1.1 (some (((0, (0, (0, (0, (0, ([], ())))))), (false, ())), (z1.2.1, (z1.2.2.1, (z1.2.2.2.1, (z1.2.2.2.2.1, (z1.2.2.2.2.2.2.1, (z1.2.2.2.2.2.1, ()))))))))
   (W.call (drive_Drive_ReadNW W z1.2.1 z1.2.2.1 z1.2.2.2.1 z1.2.2.2.2.1 z1.2.2.2.2.2.2.1 z1.2.2.2.2.2.1 at_) fun v2 => 
   W.cnd (v2.1.2.1 != 0) (some (((0, (0, (0, (0, (0, ([], ())))))), (false, ())), v2.2))
    (W.call (frame_DecodeW W v2.1.1) fun v3 => some ((v3.1, ((v3.2.1 == 0), ())), v2.2))))
  fun k4 => 
  W.cnd (decide (at_ < s_0)) ((k4 (true, (s0, (s1, (s2, (s3, (s5, (s4, ())))))))))
   ((k4 ((decide (s_1 ≤ at_)), (s0, (s1, (s2, (s3, (s5, (s4, ())))))))))
def scroll_span_frameN_k : KC Tryz.prog := kls kp 155 [⟨45, [.v .bool, .v .bool, .v (.int .i64), .v (.slc (.int .i64)), .row 328 tDriveCell, .v (.int .i64)]⟩] [.agg [.ptr 0, .v (.int .i64), .v (.int .i64)], .v (.int .i64)] [⟨45, [.v .bool, .v .bool, .v (.int .i64), .v (.slc (.int .i64)), .row 328 tDriveCell, .v (.int .i64)]⟩] (.pair (.v tFrameFrame) (.pair (.v .bool) .unit)) (fun W x => scroll_span_frameNW W x.1 x.2.1 x.2.2.1 x.2.2.2.1 x.2.2.2.2.1 x.2.2.2.2.2.1 x.2.2.2.2.2.2.1 x.2.2.2.2.2.2.2.1 x.2.2.2.2.2.2.2.2.1) [drive_Drive_ReadN_k, frame_Decode_k] [] [(500018, ⟨[(18, .t .bool)], [(0, [.t .bool, .t .bool, .t (.int .i64), .t (.slc (.int .i64)), .row 0, .t (.int .i64)])], [.own 328 tDriveCell]⟩)] [] Tryz.func155 rfl (by decide +kernel) (fun W x => by kernel_rfl)
def scroll_NewestNW (W : Wd) (d0 : Bool) (d1 : Bool) (d2 : Int) (d3 : List Int) (d4 : List DriveCell') (d5 : Int) (from_ : Int) (to_ : Int) : Option (Int × (Bool × Bool × Int × (List Int) × (List DriveCell') × Int × Unit)) := W.call (scroll_withinW W d0 d1 d2 d3 d4 d5 from_ to_) fun v1 => 
 W.cnd (!v1.1) (some (0, v1.2))
  (
  W.loop (fun (z2 : Int × Int × Bool × Bool × Int × List (Int) × Int × List (Int × Int × Int × Int × Int × Int × Int × Int × Int × Int × Int × Int × Int × Int × Int × Int × Int × Int × Int × Int × Int × Int × Int × Int × Int × Int × Int × Int × Int × Int × Int × Int × Int × Int × Int × Int × Int × Int × Int × Int × Int × Int × Int × Int × Int × Int × Int × Int × Int × Int × _ × _) × Unit) again3 => 
   W.cnd (decide (z2.2.1 < to_)) (
    W.join (fun (z4 : Int × Bool × Bool × Int × List (Int) × Int × List (Int × Int × Int × Int × Int × Int × Int × Int × Int × Int × Int × Int × Int × Int × Int × Int × Int × Int × Int × Int × Int × Int × Int × Int × Int × Int × Int × Int × Int × Int × Int × Int × Int × Int × Int × Int × Int × Int × Int × Int × Int × Int × Int × Int × Int × Int × Int × Int × Int × Int × Int × _ × _) × Unit) => (again3 (z4.1, ((IntKind.i64.wrap (z2.2.1 + 1)), z4.2))))
     fun k5 => W.call (scroll_span_frameNW W z2.2.2.1 z2.2.2.2.1 z2.2.2.2.2.1 z2.2.2.2.2.2.1 z2.2.2.2.2.2.2.2.1 z2.2.2.2.2.2.2.1 from_ to_ z2.2.1) fun v6 => 
     W.cnd v6.1.2.1 ((k5 ((if v6.1.1.1 > z2.1 then v6.1.1.1 else z2.1), (v6.2.1, (v6.2.2.1, (v6.2.2.2.1, (v6.2.2.2.2.1, (v6.2.2.2.2.2.2.1, (v6.2.2.2.2.2.1, ())))))))))
      ((k5 (z2.1, (v6.2.1, (v6.2.2.1, (v6.2.2.2.1, (v6.2.2.2.2.1, (v6.2.2.2.2.2.2.1, (v6.2.2.2.2.2.1, ()))))))))))
    (some (z2.1, (z2.2.2.1, (z2.2.2.2.1, (z2.2.2.2.2.1, (z2.2.2.2.2.2.1, (z2.2.2.2.2.2.2.2.1, (z2.2.2.2.2.2.2.1, ())))))))))
   (0, (from_, (v1.2.1, (v1.2.2.1, (v1.2.2.2.1, (v1.2.2.2.2.1, (v1.2.2.2.2.2.2.1, (v1.2.2.2.2.2.1, ())))))))))
def scroll_NewestN_k : KC Tryz.prog := kls kp 78 [⟨45, [.v .bool, .v .bool, .v (.int .i64), .v (.slc (.int .i64)), .row 328 tDriveCell, .v (.int .i64)]⟩] [.ptr 0, .v (.int .i64), .v (.int .i64)] [⟨45, [.v .bool, .v .bool, .v (.int .i64), .v (.slc (.int .i64)), .row 328 tDriveCell, .v (.int .i64)]⟩] (.v (.int .i64)) (fun W x => scroll_NewestNW W x.1 x.2.1 x.2.2.1 x.2.2.2.1 x.2.2.2.2.1 x.2.2.2.2.2.1 x.2.2.2.2.2.2.1 x.2.2.2.2.2.2.2.1) [scroll_within_k, scroll_span_frameN_k] [] [(7, ⟨[(7, .t (.int .i64))], [(0, [.t .bool, .t .bool, .t (.int .i64), .t (.slc (.int .i64)), .row 0, .t (.int .i64)])], [.own 328 tDriveCell]⟩)] [(6, ⟨[(7, .t (.int .i64)), (9, .t (.int .i64))], [(0, [.t .bool, .t .bool, .t (.int .i64), .t (.slc (.int .i64)), .row 0, .t (.int .i64)])], [.own 328 tDriveCell]⟩)] Tryz.func78 rfl (by decide +kernel) (fun W x => by kernel_rfl)
def still_framesNW (W : Wd) (d0 : Bool) (d1 : Bool) (d2 : Int) (d3 : List Int) (d4 : List DriveCell') (d5 : Int) (at_ : Int) (most : Int) : Option ((List FrameFrame') × (Bool × Bool × Int × (List Int) × (List DriveCell') × Int × Unit)) := 
 W.loop (fun (z1 : Int × Bool × Bool × Int × List (Int) × Int × List (Int × Int × Int × Int × Int × Int × Int × Int × Int × Int × Int × Int × Int × Int × Int × Int × Int × Int × Int × Int × Int × Int × Int × Int × Int × Int × Int × Int × Int × Int × Int × Int × Int × Int × Int × Int × Int × Int × Int × Int × Int × Int × Int × Int × Int × Int × Int × Int × Int × Int × Int × _ × _) × List (Int × Int × Int × Int × Int × List (Int) × Unit) × Unit) again2 => 
  W.cnd (decide ((z1.2.2.2.2.2.2.2.1.length : Int) < z1.1)) (W.call (drive_Drive_ReadNW W z1.2.1 z1.2.2.1 z1.2.2.2.1 z1.2.2.2.2.1 z1.2.2.2.2.2.2.1 z1.2.2.2.2.2.1 (IntKind.i64.wrap (at_ + (z1.2.2.2.2.2.2.2.1.length : Int)))) fun v3 => W.call (frame_DecodeW W v3.1.1) fun v4 => 
   W.join (fun (z5 : Bool × Bool × Bool × Int × List (Int) × Int × List (Int × Int × Int × Int × Int × Int × Int × Int × Int × Int × Int × Int × Int × Int × Int × Int × Int × Int × Int × Int × Int × Int × Int × Int × Int × Int × Int × Int × Int × Int × Int × Int × Int × Int × Int × Int × Int × Int × Int × Int × Int × Int × Int × Int × Int × Int × Int × Int × Int × Int × Int × _ × _) × List (Int × Int × Int × Int × Int × List (Int) × Unit) × Unit) => 
    W.cnd z5.1 (some ([], (z5.2.1, (z5.2.2.1, (z5.2.2.2.1, (z5.2.2.2.2.1, (z5.2.2.2.2.2.2.1, (z5.2.2.2.2.2.1, ()))))))))
     (W.room (z5.2.2.2.2.2.2.2.1.length + (v4.1 :: []).length) 64 (
     W.cnd (decide (v4.1.2.2.2.2.1 < ((z5.2.2.2.2.2.2.2.1 ++ (v4.1 :: [])).length : Int))) (some ([], (z5.2.1, (z5.2.2.1, (z5.2.2.2.1, (z5.2.2.2.2.1, (z5.2.2.2.2.2.2.1, (z5.2.2.2.2.2.1, ()))))))))
      ((again2 (v4.1.2.2.2.2.1, (z5.2.1, (z5.2.2.1, (z5.2.2.2.1, (z5.2.2.2.2.1, (z5.2.2.2.2.2.1, (z5.2.2.2.2.2.2.1, ((z5.2.2.2.2.2.2.2.1 ++ (v4.1 :: [])), ())))))))))))))
    fun k6 => 
    W.cnd (v4.2.1 != 0) ((k6 (true, (v3.2.1, (v3.2.2.1, (v3.2.2.2.1, (v3.2.2.2.2.1, (v3.2.2.2.2.2.2.1, (v3.2.2.2.2.2.1, z1.2.2.2.2.2.2.2)))))))))
     ((k6 ((decide (most < v4.1.2.2.2.2.1)), (v3.2.1, (v3.2.2.1, (v3.2.2.2.1, (v3.2.2.2.2.1, (v3.2.2.2.2.2.2.1, (v3.2.2.2.2.2.1, z1.2.2.2.2.2.2.2))))))))))
   (some (z1.2.2.2.2.2.2.2.1, (z1.2.1, (z1.2.2.1, (z1.2.2.2.1, (z1.2.2.2.2.1, (z1.2.2.2.2.2.2.1, (z1.2.2.2.2.2.1, ())))))))))
  (1, (d0, (d1, (d2, (d3, (d5, (d4, ([], ()))))))))
def still_framesN_k : KC Tryz.prog := kls kp 234 [⟨45, [.v .bool, .v .bool, .v (.int .i64), .v (.slc (.int .i64)), .row 328 tDriveCell, .v (.int .i64)]⟩] [.ptr 0, .v (.int .i64), .v (.int .i64)] [⟨45, [.v .bool, .v .bool, .v (.int .i64), .v (.slc (.int .i64)), .row 328 tDriveCell, .v (.int .i64)]⟩] (.own 240 tFrameFrame) (fun W x => still_framesNW W x.1 x.2.1 x.2.2.1 x.2.2.2.1 x.2.2.2.2.1 x.2.2.2.2.2.1 x.2.2.2.2.2.2.1 x.2.2.2.2.2.2.2.1) [drive_Drive_ReadN_k, frame_Decode_k] [(8, [], (ofL [(0, true), (1, true), (4, true), (5, true), (2, false), (3, false), (6, true), (7, true)]))] [(500038, ⟨[(7, .row 2), (38, .t .bool)], [(0, [.t .bool, .t .bool, .t (.int .i64), .t (.slc (.int .i64)), .row 0, .t (.int .i64)])], [.own 328 tDriveCell, .dead, .own 240 tFrameFrame]⟩)] [(3, ⟨[(7, .row 2), (8, .t (.int .i64))], [(0, [.t .bool, .t .bool, .t (.int .i64), .t (.slc (.int .i64)), .row 0, .t (.int .i64)])], [.own 328 tDriveCell, .dead, .own 240 tFrameFrame]⟩)] Tryz.func234 rfl (by decide +kernel) (fun W x => by kernel_rfl)
def still_placeNW (W : Wd) (d0 : Bool) (d1 : Bool) (d2 : Int) (d3 : List Int) (d4 : List DriveCell') (d5 : Int) (at_ : Int) (each : Int) (odd : Int) : Option ((Int × (List Int) × Unit) × (Bool × Bool × Int × (List Int) × (List DriveCell') × Int × Unit)) := W.call (still_framesNW W d0 d1 d2 d3 d4 d5 at_ each) fun v1 => W.call (frame_JoinW W v1.1) fun v2 => 
 W.join (fun (z3 : Bool × Bool × Bool × Int × List (Int) × Int × List (Int × Int × Int × Int × Int × Int × Int × Int × Int × Int × Int × Int × Int × Int × Int × Int × Int × Int × Int × Int × Int × Int × Int × Int × Int × Int × Int × Int × Int × Int × Int × Int × Int × Int × Int × Int × Int × Int × Int × Int × Int × Int × Int × Int × Int × Int × Int × Int × Int × Int × Int × _ × _) × List (Int × Int × Int × Int × Int × List (Int) × Unit) × List (Int) × Unit) => 
  W.cnd z3.1 (some ((0, ([], ())), (z3.2.1, (z3.2.2.1, (z3.2.2.2.1, (z3.2.2.2.2.1, (z3.2.2.2.2.2.2.1, (z3.2.2.2.2.2.1, ()))))))))
   (W.idx z3.2.2.2.2.2.2.2.1 0 fun _ => W.nth z3.2.2.2.2.2.2.2.1 (Int.toNat 0) fun x5 => some ((x5.2.1, z3.2.2.2.2.2.2.2.2), (z3.2.1, (z3.2.2.1, (z3.2.2.2.1, (z3.2.2.2.2.1, (z3.2.2.2.2.2.2.1, (z3.2.2.2.2.2.1, ())))))))))
  fun k6 => 
  W.cnd (!v2.2.1) ((k6 (true, (v1.2.1, (v1.2.2.1, (v1.2.2.2.1, (v1.2.2.2.2.1, (v1.2.2.2.2.2.2.1, (v1.2.2.2.2.2.1, (v1.1, (v2.1, ())))))))))))
   (W.idx v1.1 0 fun _ => W.nth v1.1 (Int.toNat 0) fun x8 => 
   W.cnd (x8.2.2.1 != 1) ((k6 (true, (v1.2.1, (v1.2.2.1, (v1.2.2.2.1, (v1.2.2.2.2.1, (v1.2.2.2.2.2.2.1, (v1.2.2.2.2.2.1, (v1.1, (v2.1, ())))))))))))
    (W.idx v1.1 0 fun _ => W.nth v1.1 (Int.toNat 0) fun x10 => W.nz 2 ((k6 (((Int.tmod x10.2.1 2) != odd), (v1.2.1, (v1.2.2.1, (v1.2.2.2.1, (v1.2.2.2.2.1, (v1.2.2.2.2.2.2.1, (v1.2.2.2.2.2.1, (v1.1, (v2.1, ())))))))))))))
def still_placeN_k : KC Tryz.prog := kls kp 157 [⟨45, [.v .bool, .v .bool, .v (.int .i64), .v (.slc (.int .i64)), .row 328 tDriveCell, .v (.int .i64)]⟩] [.ptr 0, .v (.int .i64), .v (.int .i64), .v (.int .i64)] [⟨45, [.v .bool, .v .bool, .v (.int .i64), .v (.slc (.int .i64)), .row 328 tDriveCell, .v (.int .i64)]⟩] (.pair (.v (.int .i64)) (.pair (.own 5 (.int .u8)) .unit)) (fun W x => still_placeNW W x.1 x.2.1 x.2.2.1 x.2.2.2.1 x.2.2.2.2.1 x.2.2.2.2.2.1 x.2.2.2.2.2.2.1 x.2.2.2.2.2.2.2.1 x.2.2.2.2.2.2.2.2.1) [still_framesN_k, frame_Join_k] [] [(500039, ⟨[(10, .row 1), (11, .row 2), (39, .t .bool)], [(0, [.t .bool, .t .bool, .t (.int .i64), .t (.slc (.int .i64)), .row 0, .t (.int .i64)])], [.own 328 tDriveCell, .own 240 tFrameFrame, .own 5 (.int .u8)]⟩)] [] Tryz.func157 rfl (by decide +kernel) (fun W x => by kernel_rfl)
def still_LoadNW (W : Wd) (d0 : Bool) (d1 : Bool) (d2 : Int) (d3 : List Int) (d4 : List DriveCell') (d5 : Int) (at_ : Int) (each : Int) : Option ((Int × (List Int) × Int × Unit) × (Bool × Bool × Int × (List Int) × (List DriveCell') × Int × Unit)) := W.call (still_checkW W d0 d1 d2 d3 d4 d5 at_ each) fun v1 => 
 W.cnd (v1.1 != 0) (some ((0, ([], (v1.1, ()))), v1.2))
  (W.call (still_placeNW W v1.2.1 v1.2.2.1 v1.2.2.2.1 v1.2.2.2.2.1 v1.2.2.2.2.2.1 v1.2.2.2.2.2.2.1 at_ each 0) fun v2 => 
  W.join (fun (z3 : Int × List (Int) × Bool × Bool × Int × List (Int) × Int × List (Int × Int × Int × Int × Int × Int × Int × Int × Int × Int × Int × Int × Int × Int × Int × Int × Int × Int × Int × Int × Int × Int × Int × Int × Int × Int × Int × Int × Int × Int × Int × Int × Int × Int × Int × Int × Int × Int × Int × Int × Int × Int × Int × Int × Int × Int × Int × Int × Int × Int × _ × _) × Unit) => 
   W.cnd (z3.1 == 0) (some ((0, ([], (11, ()))), (z3.2.2.1, (z3.2.2.2.1, (z3.2.2.2.2.1, (z3.2.2.2.2.2.1, (z3.2.2.2.2.2.2.2.1, (z3.2.2.2.2.2.2.1, ()))))))))
    (some ((z3.1, (z3.2.1, (0, ()))), (z3.2.2.1, (z3.2.2.2.1, (z3.2.2.2.2.1, (z3.2.2.2.2.2.1, (z3.2.2.2.2.2.2.2.1, (z3.2.2.2.2.2.2.1, ())))))))))
   fun k4 => W.call (still_placeNW W v2.2.1 v2.2.2.1 v2.2.2.2.1 v2.2.2.2.2.1 v2.2.2.2.2.2.1 v2.2.2.2.2.2.2.1 (IntKind.i64.wrap (at_ + each)) each 1) fun v5 => 
   W.cnd (decide (v2.1.1 < v5.1.1)) ((k4 (v5.1.1, (v5.1.2.1, (v5.2.1, (v5.2.2.1, (v5.2.2.2.1, (v5.2.2.2.2.1, (v5.2.2.2.2.2.2.1, (v5.2.2.2.2.2.1, ()))))))))))
    ((k4 (v2.1.1, (v2.1.2.1, (v5.2.1, (v5.2.2.1, (v5.2.2.2.1, (v5.2.2.2.2.1, (v5.2.2.2.2.2.2.1, (v5.2.2.2.2.2.1, ())))))))))))
def still_LoadN_k : KC Tryz.prog := kls kp 79 [⟨45, [.v .bool, .v .bool, .v (.int .i64), .v (.slc (.int .i64)), .row 328 tDriveCell, .v (.int .i64)]⟩] [.ptr 0, .v (.int .i64), .v (.int .i64)] [⟨45, [.v .bool, .v .bool, .v (.int .i64), .v (.slc (.int .i64)), .row 328 tDriveCell, .v (.int .i64)]⟩] (.pair (.v (.int .i64)) (.pair (.v (.slc (.int .u8))) (.pair (.v (.int .i64)) .unit))) (fun W x => still_LoadNW W x.1 x.2.1 x.2.2.1 x.2.2.2.1 x.2.2.2.2.1 x.2.2.2.2.2.1 x.2.2.2.2.2.2.1 x.2.2.2.2.2.2.2.1) [still_check_k, still_placeN_k] [] [(8, ⟨[(10, .t (.int .i64)), (11, .t (.slc (.int .u8)))], [(0, [.t .bool, .t .bool, .t (.int .i64), .t (.slc (.int .i64)), .row 0, .t (.int .i64)])], [.own 328 tDriveCell]⟩)] [] Tryz.func79 rfl (by decide +kernel) (fun W x => by kernel_rfl)
def scroll_Scroll_takeNW (W : Wd) (s1 : Int) (s2 : Int) (s3 : Int) (s4 : Int) (s5 : Int) (s6 : Int) (s7 : List (List Int)) (s8 : Bool) (s0_0 : Bool) (s0_1 : Bool) (s0_2 : Int) (s0_3 : List Int) (s0_4 : List DriveCell') (s0_5 : Int) : Option (Bool × (Int × Int × Int × Int × Int × Int × (List (List Int)) × Bool × Bool × Bool × Int × (List Int) × (List DriveCell') × Int × Unit)) := W.both (W.call (scroll_span_frameNW W s0_0 s0_1 s0_2 s0_3 s0_4 s0_5 s1 s2 s6) fun v1 => 
  W.join (fun (z2 : Bool × Int × Int × Int × Int × Int × Int × Bool × Bool × Bool × Int × List (Int) × Int × List (List (Int)) × List (Int × Int × Int × Int × Int × Int × Int × Int × Int × Int × Int × Int × Int × Int × Int × Int × Int × Int × Int × Int × Int × Int × Int × Int × Int × Int × Int × Int × Int × Int × Int × Int × Int × Int × Int × Int × Int × Int × Int × Int × Int × Int × Int × _ × _) × Unit) => 
   W.cnd z2.1 (some (false, (z2.2.1, (z2.2.2.1, (z2.2.2.2.1, (z2.2.2.2.2.1, (z2.2.2.2.2.2.1, (z2.2.2.2.2.2.2.1, (z2.2.2.2.2.2.2.2.2.2.2.2.2.2.1, (z2.2.2.2.2.2.2.2.1, (z2.2.2.2.2.2.2.2.2.1, (z2.2.2.2.2.2.2.2.2.2.1, (z2.2.2.2.2.2.2.2.2.2.2.1, (z2.2.2.2.2.2.2.2.2.2.2.2.1, (z2.2.2.2.2.2.2.2.2.2.2.2.2.2.2.1, (z2.2.2.2.2.2.2.2.2.2.2.2.2.1, ()))))))))))))))))
    (
    W.loop (fun (z3 : Int × Int × Int × Int × Int × Int × Int × Bool × Bool × Bool × Int × List (Int) × Int × List (List (Int)) × List (Int × Int × Int × Int × Int × Int × Int × Int × Int × Int × Int × Int × Int × Int × Int × Int × Int × Int × Int × Int × Int × Int × Int × Int × Int × Int × Int × Int × Int × Int × Int × Int × Int × Int × Int × Int × Int × Int × Int × Int × Int × Int × Int × _ × _) × List (Int × Int × Int × Int × Int × List (Int) × Unit) × Unit) again4 => 
     W.cnd (decide (z3.1 < v1.1.1.2.2.2.2.1)) (
      W.join (fun (z5 : Int × Int × Int × Int × Int × Int × Bool × Bool × Bool × Int × List (Int) × Int × List (List (Int)) × List (Int × Int × Int × Int × Int × Int × Int × Int × Int × Int × Int × Int × Int × Int × Int × Int × Int × Int × Int × Int × Int × Int × Int × Int × Int × Int × Int × Int × Int × Int × Int × Int × Int × Int × Int × Int × Int × Int × Int × Int × Int × Int × Int × Int × _ × _) × List (Int × Int × Int × Int × Int × List (Int) × Unit) × Unit) => (again4 ((IntKind.i64.wrap (z3.1 + 1)), z5)))
       fun k6 => W.both (W.call (scroll_span_frameNW W z3.2.2.2.2.2.2.2.2.1 z3.2.2.2.2.2.2.2.2.2.1 z3.2.2.2.2.2.2.2.2.2.2.1 z3.2.2.2.2.2.2.2.2.2.2.2.1 z3.2.2.2.2.2.2.2.2.2.2.2.2.2.2.1 z3.2.2.2.2.2.2.2.2.2.2.2.2.1 z3.2.1 z3.2.2.1 (IntKind.i64.wrap (z3.2.2.2.2.2.2.1 + z3.1))) fun v7 => 
        W.cnd (!v7.1.2.1) (some (false, (z3.2.1, (z3.2.2.1, (z3.2.2.2.1, (z3.2.2.2.2.1, (z3.2.2.2.2.2.1, (z3.2.2.2.2.2.2.1, (z3.2.2.2.2.2.2.2.2.2.2.2.2.2.1, (z3.2.2.2.2.2.2.2.1, v7.2))))))))))
         (W.room (z3.2.2.2.2.2.2.2.2.2.2.2.2.2.2.2.1.length + (v7.1.1 :: []).length) 64 ((k6 (z3.2.1, (z3.2.2.1, (z3.2.2.2.1, (z3.2.2.2.2.1, (z3.2.2.2.2.2.1, (z3.2.2.2.2.2.2.1, (z3.2.2.2.2.2.2.2.1, (v7.2.1, (v7.2.2.1, (v7.2.2.2.1, (v7.2.2.2.2.1, (v7.2.2.2.2.2.2.1, (z3.2.2.2.2.2.2.2.2.2.2.2.2.2.1, (v7.2.2.2.2.2.1, ((z3.2.2.2.2.2.2.2.2.2.2.2.2.2.2.2.1 ++ (v7.1.1 :: [])), ()))))))))))))))))))) (W.call (scroll_span_frameNW W z3.2.2.2.2.2.2.2.2.1 z3.2.2.2.2.2.2.2.2.2.1 z3.2.2.2.2.2.2.2.2.2.2.1 z3.2.2.2.2.2.2.2.2.2.2.2.1 z3.2.2.2.2.2.2.2.2.2.2.2.2.2.2.1 z3.2.2.2.2.2.2.2.2.2.2.2.2.1 z3.2.1 z3.2.2.1 (IntKind.i64.wrap (z3.2.2.2.2.2.2.1 + z3.1))) fun v8 => 
        W.cnd (!v8.1.2.1) (some (false, (z3.2.1, (z3.2.2.1, (z3.2.2.2.1, (z3.2.2.2.2.1, (z3.2.2.2.2.2.1, (z3.2.2.2.2.2.2.1, (z3.2.2.2.2.2.2.2.2.2.2.2.2.2.1, (z3.2.2.2.2.2.2.2.1, v8.2))))))))))
         (W.room (z3.2.2.2.2.2.2.2.2.2.2.2.2.2.2.2.1.length + (v8.1.1 :: []).length) 64 ((k6 (z3.2.1, (z3.2.2.1, (z3.2.2.2.1, (z3.2.2.2.2.1, (z3.2.2.2.2.2.1, (z3.2.2.2.2.2.2.1, (z3.2.2.2.2.2.2.2.1, (v8.2.1, (v8.2.2.1, (v8.2.2.2.1, (v8.2.2.2.2.1, (v8.2.2.2.2.2.2.1, (z3.2.2.2.2.2.2.2.2.2.2.2.2.2.1, (v8.2.2.2.2.2.1, ((z3.2.2.2.2.2.2.2.2.2.2.2.2.2.2.2.1 ++ (v8.1.1 :: [])), ()))))))))))))))))))))
      (W.call (frame_JoinW W z3.2.2.2.2.2.2.2.2.2.2.2.2.2.2.2.1) fun v9 => 
      W.cnd (!v9.2.1) (some (false, (z3.2.1, (z3.2.2.1, (z3.2.2.2.1, (z3.2.2.2.2.1, (z3.2.2.2.2.2.1, (z3.2.2.2.2.2.2.1, (z3.2.2.2.2.2.2.2.2.2.2.2.2.2.1, (z3.2.2.2.2.2.2.2.1, (z3.2.2.2.2.2.2.2.2.1, (z3.2.2.2.2.2.2.2.2.2.1, (z3.2.2.2.2.2.2.2.2.2.2.1, (z3.2.2.2.2.2.2.2.2.2.2.2.1, (z3.2.2.2.2.2.2.2.2.2.2.2.2.2.2.1, (z3.2.2.2.2.2.2.2.2.2.2.2.2.1, ()))))))))))))))))
       (W.both (W.both (W.both (W.room (z3.2.2.2.2.2.2.2.2.2.2.2.2.2.1.length + (v9.1 :: []).length) 24 (some (true, (z3.2.1, (z3.2.2.1, (z3.2.2.2.1, (z3.2.2.2.2.1, (v1.1.1.1, ((IntKind.i64.wrap (z3.2.2.2.2.2.2.1 + (z3.2.2.2.2.2.2.2.2.2.2.2.2.2.2.2.1.length : Int))), ((z3.2.2.2.2.2.2.2.2.2.2.2.2.2.1 ++ (v9.1 :: [])), (z3.2.2.2.2.2.2.2.1, (z3.2.2.2.2.2.2.2.2.1, (z3.2.2.2.2.2.2.2.2.2.1, (z3.2.2.2.2.2.2.2.2.2.2.1, (z3.2.2.2.2.2.2.2.2.2.2.2.1, (z3.2.2.2.2.2.2.2.2.2.2.2.2.2.2.1, (z3.2.2.2.2.2.2.2.2.2.2.2.2.1, ()))))))))))))))))) (W.room (z3.2.2.2.2.2.2.2.2.2.2.2.2.2.1.length + (v9.1 :: []).length) 24 (some (true, (z3.2.1, (z3.2.2.1, (z3.2.2.2.1, (z3.2.2.2.2.1, (v1.1.1.1, ((IntKind.i64.wrap (z3.2.2.2.2.2.2.1 + (z3.2.2.2.2.2.2.2.2.2.2.2.2.2.2.2.1.length : Int))), ((z3.2.2.2.2.2.2.2.2.2.2.2.2.2.1 ++ (v9.1 :: [])), (z3.2.2.2.2.2.2.2.1, (z3.2.2.2.2.2.2.2.2.1, (z3.2.2.2.2.2.2.2.2.2.1, (z3.2.2.2.2.2.2.2.2.2.2.1, (z3.2.2.2.2.2.2.2.2.2.2.2.1, (z3.2.2.2.2.2.2.2.2.2.2.2.2.2.2.1, (z3.2.2.2.2.2.2.2.2.2.2.2.2.1, ())))))))))))))))))) (W.room (z3.2.2.2.2.2.2.2.2.2.2.2.2.2.1.length + (v9.1 :: []).length) 24 (some (true, (z3.2.1, (z3.2.2.1, (z3.2.2.2.1, (z3.2.2.2.2.1, (v1.1.1.1, ((IntKind.i64.wrap (z3.2.2.2.2.2.2.1 + (z3.2.2.2.2.2.2.2.2.2.2.2.2.2.2.2.1.length : Int))), ((z3.2.2.2.2.2.2.2.2.2.2.2.2.2.1 ++ (v9.1 :: [])), (z3.2.2.2.2.2.2.2.1, (z3.2.2.2.2.2.2.2.2.1, (z3.2.2.2.2.2.2.2.2.2.1, (z3.2.2.2.2.2.2.2.2.2.2.1, (z3.2.2.2.2.2.2.2.2.2.2.2.1, (z3.2.2.2.2.2.2.2.2.2.2.2.2.2.2.1, (z3.2.2.2.2.2.2.2.2.2.2.2.2.1, ())))))))))))))))))) (W.both (W.both (W.both (W.room (z3.2.2.2.2.2.2.2.2.2.2.2.2.2.1.length + (v9.1 :: []).length) 24 (some (true, (z3.2.1, (z3.2.2.1, (z3.2.2.2.1, (z3.2.2.2.2.1, (v1.1.1.1, ((IntKind.i64.wrap (z3.2.2.2.2.2.2.1 + (z3.2.2.2.2.2.2.2.2.2.2.2.2.2.2.2.1.length : Int))), ((z3.2.2.2.2.2.2.2.2.2.2.2.2.2.1 ++ (v9.1 :: [])), (z3.2.2.2.2.2.2.2.1, (z3.2.2.2.2.2.2.2.2.1, (z3.2.2.2.2.2.2.2.2.2.1, (z3.2.2.2.2.2.2.2.2.2.2.1, (z3.2.2.2.2.2.2.2.2.2.2.2.1, (z3.2.2.2.2.2.2.2.2.2.2.2.2.2.2.1, (z3.2.2.2.2.2.2.2.2.2.2.2.2.1, ()))))))))))))))))) (W.room (z3.2.2.2.2.2.2.2.2.2.2.2.2.2.1.length + (v9.1 :: []).length) 24 (some (true, (z3.2.1, (z3.2.2.1, (z3.2.2.2.1, (z3.2.2.2.2.1, (v1.1.1.1, ((IntKind.i64.wrap (z3.2.2.2.2.2.2.1 + (z3.2.2.2.2.2.2.2.2.2.2.2.2.2.2.2.1.length : Int))), ((z3.2.2.2.2.2.2.2.2.2.2.2.2.2.1 ++ (v9.1 :: [])), (z3.2.2.2.2.2.2.2.1, (z3.2.2.2.2.2.2.2.2.1, (z3.2.2.2.2.2.2.2.2.2.1, (z3.2.2.2.2.2.2.2.2.2.2.1, (z3.2.2.2.2.2.2.2.2.2.2.2.1, (z3.2.2.2.2.2.2.2.2.2.2.2.2.2.2.1, (z3.2.2.2.2.2.2.2.2.2.2.2.2.1, ())))))))))))))))))) (W.room (z3.2.2.2.2.2.2.2.2.2.2.2.2.2.1.length + (v9.1 :: []).length) 24 (some (true, (z3.2.1, (z3.2.2.1, (z3.2.2.2.1, (z3.2.2.2.2.1, (v1.1.1.1, ((IntKind.i64.wrap (z3.2.2.2.2.2.2.1 + (z3.2.2.2.2.2.2.2.2.2.2.2.2.2.2.2.1.length : Int))), ((z3.2.2.2.2.2.2.2.2.2.2.2.2.2.1 ++ (v9.1 :: [])), (z3.2.2.2.2.2.2.2.1, (z3.2.2.2.2.2.2.2.2.1, (z3.2.2.2.2.2.2.2.2.2.1, (z3.2.2.2.2.2.2.2.2.2.2.1, (z3.2.2.2.2.2.2.2.2.2.2.2.1, (z3.2.2.2.2.2.2.2.2.2.2.2.2.2.2.1, (z3.2.2.2.2.2.2.2.2.2.2.2.2.1, ())))))))))))))))))) (W.both (W.room (z3.2.2.2.2.2.2.2.2.2.2.2.2.2.1.length + (v9.1 :: []).length) 24 (some (true, (z3.2.1, (z3.2.2.1, (z3.2.2.2.1, (z3.2.2.2.2.1, (v1.1.1.1, ((IntKind.i64.wrap (z3.2.2.2.2.2.2.1 + (z3.2.2.2.2.2.2.2.2.2.2.2.2.2.2.2.1.length : Int))), ((z3.2.2.2.2.2.2.2.2.2.2.2.2.2.1 ++ (v9.1 :: [])), (z3.2.2.2.2.2.2.2.1, (z3.2.2.2.2.2.2.2.2.1, (z3.2.2.2.2.2.2.2.2.2.1, (z3.2.2.2.2.2.2.2.2.2.2.1, (z3.2.2.2.2.2.2.2.2.2.2.2.1, (z3.2.2.2.2.2.2.2.2.2.2.2.2.2.2.1, (z3.2.2.2.2.2.2.2.2.2.2.2.2.1, ()))))))))))))))))) (W.room (z3.2.2.2.2.2.2.2.2.2.2.2.2.2.1.length + (v9.1 :: []).length) 24 (some (true, (z3.2.1, (z3.2.2.1, (z3.2.2.2.1, (z3.2.2.2.2.1, (v1.1.1.1, ((IntKind.i64.wrap (z3.2.2.2.2.2.2.1 + (z3.2.2.2.2.2.2.2.2.2.2.2.2.2.2.2.1.length : Int))), ((z3.2.2.2.2.2.2.2.2.2.2.2.2.2.1 ++ (v9.1 :: [])), (z3.2.2.2.2.2.2.2.1, (z3.2.2.2.2.2.2.2.2.1, (z3.2.2.2.2.2.2.2.2.2.1, (z3.2.2.2.2.2.2.2.2.2.2.1, (z3.2.2.2.2.2.2.2.2.2.2.2.1, (z3.2.2.2.2.2.2.2.2.2.2.2.2.2.2.1, (z3.2.2.2.2.2.2.2.2.2.2.2.2.1, ()))))))))))))))))))))))
     (0, (z2.2.1, (z2.2.2.1, (z2.2.2.2.1, (z2.2.2.2.2.1, (z2.2.2.2.2.2.1, (z2.2.2.2.2.2.2.1, (z2.2.2.2.2.2.2.2.1, (z2.2.2.2.2.2.2.2.2.1, (z2.2.2.2.2.2.2.2.2.2.1, (z2.2.2.2.2.2.2.2.2.2.2.1, (z2.2.2.2.2.2.2.2.2.2.2.2.1, (z2.2.2.2.2.2.2.2.2.2.2.2.2.1, (z2.2.2.2.2.2.2.2.2.2.2.2.2.2.1, (z2.2.2.2.2.2.2.2.2.2.2.2.2.2.2.1, ([], ()))))))))))))))))))
   fun k10 => 
   W.cnd (!v1.1.2.1) ((k10 (true, (s1, (s2, (s3, (s4, (s5, (s6, (s8, (v1.2.1, (v1.2.2.1, (v1.2.2.2.1, (v1.2.2.2.2.1, (v1.2.2.2.2.2.2.1, (s7, (v1.2.2.2.2.2.1, ())))))))))))))))))
    (W.call (scroll_Scroll_nextW W s1 s2 s3 s4 s5 s6 s7 s8 v1.2.1 v1.2.2.1 v1.2.2.2.1 v1.2.2.2.2.1 v1.2.2.2.2.2.1 v1.2.2.2.2.2.2.1 v1.1.1) fun v11 => (k10 ((!v11.1), (v11.2.1, (v11.2.2.1, (v11.2.2.2.1, (v11.2.2.2.2.1, (v11.2.2.2.2.2.1, (v11.2.2.2.2.2.2.1, (v11.2.2.2.2.2.2.2.2.1, (v11.2.2.2.2.2.2.2.2.2.1, (v11.2.2.2.2.2.2.2.2.2.2.1, (v11.2.2.2.2.2.2.2.2.2.2.2.1, (v11.2.2.2.2.2.2.2.2.2.2.2.2.1, (v11.2.2.2.2.2.2.2.2.2.2.2.2.2.2.1, (v11.2.2.2.2.2.2.2.1, (v11.2.2.2.2.2.2.2.2.2.2.2.2.2.1, ())))))))))))))))))) (W.call (scroll_span_frameNW W s0_0 s0_1 s0_2 s0_3 s0_4 s0_5 s1 s2 s6) fun v12 => 
  W.join (fun (z13 : Bool × Int × Int × Int × Int × Int × Int × Bool × Bool × Bool × Int × List (Int) × Int × List (List (Int)) × List (Int × Int × Int × Int × Int × Int × Int × Int × Int × Int × Int × Int × Int × Int × Int × Int × Int × Int × Int × Int × Int × Int × Int × Int × Int × Int × Int × Int × Int × Int × Int × Int × Int × Int × Int × Int × Int × Int × Int × Int × Int × Int × Int × _ × _) × Unit) => 
   W.cnd z13.1 (some (false, (z13.2.1, (z13.2.2.1, (z13.2.2.2.1, (z13.2.2.2.2.1, (z13.2.2.2.2.2.1, (z13.2.2.2.2.2.2.1, (z13.2.2.2.2.2.2.2.2.2.2.2.2.2.1, (z13.2.2.2.2.2.2.2.1, (z13.2.2.2.2.2.2.2.2.1, (z13.2.2.2.2.2.2.2.2.2.1, (z13.2.2.2.2.2.2.2.2.2.2.1, (z13.2.2.2.2.2.2.2.2.2.2.2.1, (z13.2.2.2.2.2.2.2.2.2.2.2.2.2.2.1, (z13.2.2.2.2.2.2.2.2.2.2.2.2.1, ()))))))))))))))))
    (
    W.loop (fun (z14 : Int × Int × Int × Int × Int × Int × Int × Bool × Bool × Bool × Int × List (Int) × Int × List (List (Int)) × List (Int × Int × Int × Int × Int × Int × Int × Int × Int × Int × Int × Int × Int × Int × Int × Int × Int × Int × Int × Int × Int × Int × Int × Int × Int × Int × Int × Int × Int × Int × Int × Int × Int × Int × Int × Int × Int × Int × Int × Int × Int × Int × Int × _ × _) × List (Int × Int × Int × Int × Int × List (Int) × Unit) × Unit) again15 => 
     W.cnd (decide (z14.1 < v12.1.1.2.2.2.2.1)) (
      W.join (fun (z16 : Int × Int × Int × Int × Int × Int × Bool × Bool × Bool × Int × List (Int) × Int × List (List (Int)) × List (Int × Int × Int × Int × Int × Int × Int × Int × Int × Int × Int × Int × Int × Int × Int × Int × Int × Int × Int × Int × Int × Int × Int × Int × Int × Int × Int × Int × Int × Int × Int × Int × Int × Int × Int × Int × Int × Int × Int × Int × Int × Int × Int × Int × _ × _) × List (Int × Int × Int × Int × Int × List (Int) × Unit) × Unit) => (again15 ((IntKind.i64.wrap (z14.1 + 1)), z16)))
       fun k17 => W.both (W.call (scroll_span_frameNW W z14.2.2.2.2.2.2.2.2.1 z14.2.2.2.2.2.2.2.2.2.1 z14.2.2.2.2.2.2.2.2.2.2.1 z14.2.2.2.2.2.2.2.2.2.2.2.1 z14.2.2.2.2.2.2.2.2.2.2.2.2.2.2.1 z14.2.2.2.2.2.2.2.2.2.2.2.2.1 z14.2.1 z14.2.2.1 (IntKind.i64.wrap (z14.2.2.2.2.2.2.1 + z14.1))) fun v18 => 
        W.cnd (!v18.1.2.1) (some (false, (z14.2.1, (z14.2.2.1, (z14.2.2.2.1, (z14.2.2.2.2.1, (z14.2.2.2.2.2.1, (z14.2.2.2.2.2.2.1, (z14.2.2.2.2.2.2.2.2.2.2.2.2.2.1, (z14.2.2.2.2.2.2.2.1, v18.2))))))))))
         (W.room (z14.2.2.2.2.2.2.2.2.2.2.2.2.2.2.2.1.length + (v18.1.1 :: []).length) 64 ((k17 (z14.2.1, (z14.2.2.1, (z14.2.2.2.1, (z14.2.2.2.2.1, (z14.2.2.2.2.2.1, (z14.2.2.2.2.2.2.1, (z14.2.2.2.2.2.2.2.1, (v18.2.1, (v18.2.2.1, (v18.2.2.2.1, (v18.2.2.2.2.1, (v18.2.2.2.2.2.2.1, (z14.2.2.2.2.2.2.2.2.2.2.2.2.2.1, (v18.2.2.2.2.2.1, ((z14.2.2.2.2.2.2.2.2.2.2.2.2.2.2.2.1 ++ (v18.1.1 :: [])), ()))))))))))))))))))) (W.call (scroll_span_frameNW W z14.2.2.2.2.2.2.2.2.1 z14.2.2.2.2.2.2.2.2.2.1 z14.2.2.2.2.2.2.2.2.2.2.1 z14.2.2.2.2.2.2.2.2.2.2.2.1 z14.2.2.2.2.2.2.2.2.2.2.2.2.2.2.1 z14.2.2.2.2.2.2.2.2.2.2.2.2.1 z14.2.1 z14.2.2.1 (IntKind.i64.wrap (z14.2.2.2.2.2.2.1 + z14.1))) fun v19 => 
        W.cnd (!v19.1.2.1) (some (false, (z14.2.1, (z14.2.2.1, (z14.2.2.2.1, (z14.2.2.2.2.1, (z14.2.2.2.2.2.1, (z14.2.2.2.2.2.2.1, (z14.2.2.2.2.2.2.2.2.2.2.2.2.2.1, (z14.2.2.2.2.2.2.2.1, v19.2))))))))))
         (W.room (z14.2.2.2.2.2.2.2.2.2.2.2.2.2.2.2.1.length + (v19.1.1 :: []).length) 64 ((k17 (z14.2.1, (z14.2.2.1, (z14.2.2.2.1, (z14.2.2.2.2.1, (z14.2.2.2.2.2.1, (z14.2.2.2.2.2.2.1, (z14.2.2.2.2.2.2.2.1, (v19.2.1, (v19.2.2.1, (v19.2.2.2.1, (v19.2.2.2.2.1, (v19.2.2.2.2.2.2.1, (z14.2.2.2.2.2.2.2.2.2.2.2.2.2.1, (v19.2.2.2.2.2.1, ((z14.2.2.2.2.2.2.2.2.2.2.2.2.2.2.2.1 ++ (v19.1.1 :: [])), ()))))))))))))))))))))
      (W.call (frame_JoinW W z14.2.2.2.2.2.2.2.2.2.2.2.2.2.2.2.1) fun v20 => 
      W.cnd (!v20.2.1) (some (false, (z14.2.1, (z14.2.2.1, (z14.2.2.2.1, (z14.2.2.2.2.1, (z14.2.2.2.2.2.1, (z14.2.2.2.2.2.2.1, (z14.2.2.2.2.2.2.2.2.2.2.2.2.2.1, (z14.2.2.2.2.2.2.2.1, (z14.2.2.2.2.2.2.2.2.1, (z14.2.2.2.2.2.2.2.2.2.1, (z14.2.2.2.2.2.2.2.2.2.2.1, (z14.2.2.2.2.2.2.2.2.2.2.2.1, (z14.2.2.2.2.2.2.2.2.2.2.2.2.2.2.1, (z14.2.2.2.2.2.2.2.2.2.2.2.2.1, ()))))))))))))))))
       (W.both (W.both (W.both (W.room (z14.2.2.2.2.2.2.2.2.2.2.2.2.2.1.length + (v20.1 :: []).length) 24 (some (true, (z14.2.1, (z14.2.2.1, (z14.2.2.2.1, (z14.2.2.2.2.1, (v12.1.1.1, ((IntKind.i64.wrap (z14.2.2.2.2.2.2.1 + (z14.2.2.2.2.2.2.2.2.2.2.2.2.2.2.2.1.length : Int))), ((z14.2.2.2.2.2.2.2.2.2.2.2.2.2.1 ++ (v20.1 :: [])), (z14.2.2.2.2.2.2.2.1, (z14.2.2.2.2.2.2.2.2.1, (z14.2.2.2.2.2.2.2.2.2.1, (z14.2.2.2.2.2.2.2.2.2.2.1, (z14.2.2.2.2.2.2.2.2.2.2.2.1, (z14.2.2.2.2.2.2.2.2.2.2.2.2.2.2.1, (z14.2.2.2.2.2.2.2.2.2.2.2.2.1, ()))))))))))))))))) (W.room (z14.2.2.2.2.2.2.2.2.2.2.2.2.2.1.length + (v20.1 :: []).length) 24 (some (true, (z14.2.1, (z14.2.2.1, (z14.2.2.2.1, (z14.2.2.2.2.1, (v12.1.1.1, ((IntKind.i64.wrap (z14.2.2.2.2.2.2.1 + (z14.2.2.2.2.2.2.2.2.2.2.2.2.2.2.2.1.length : Int))), ((z14.2.2.2.2.2.2.2.2.2.2.2.2.2.1 ++ (v20.1 :: [])), (z14.2.2.2.2.2.2.2.1, (z14.2.2.2.2.2.2.2.2.1, (z14.2.2.2.2.2.2.2.2.2.1, (z14.2.2.2.2.2.2.2.2.2.2.1, (z14.2.2.2.2.2.2.2.2.2.2.2.1, (z14.2.2.2.2.2.2.2.2.2.2.2.2.2.2.1, (z14.2.2.2.2.2.2.2.2.2.2.2.2.1, ())))))))))))))))))) (W.room (z14.2.2.2.2.2.2.2.2.2.2.2.2.2.1.length + (v20.1 :: []).length) 24 (some (true, (z14.2.1, (z14.2.2.1, (z14.2.2.2.1, (z14.2.2.2.2.1, (v12.1.1.1, ((IntKind.i64.wrap (z14.2.2.2.2.2.2.1 + (z14.2.2.2.2.2.2.2.2.2.2.2.2.2.2.2.1.length : Int))), ((z14.2.2.2.2.2.2.2.2.2.2.2.2.2.1 ++ (v20.1 :: [])), (z14.2.2.2.2.2.2.2.1, (z14.2.2.2.2.2.2.2.2.1, (z14.2.2.2.2.2.2.2.2.2.1, (z14.2.2.2.2.2.2.2.2.2.2.1, (z14.2.2.2.2.2.2.2.2.2.2.2.1, (z14.2.2.2.2.2.2.2.2.2.2.2.2.2.2.1, (z14.2.2.2.2.2.2.2.2.2.2.2.2.1, ())))))))))))))))))) (W.both (W.both (W.both (W.room (z14.2.2.2.2.2.2.2.2.2.2.2.2.2.1.length + (v20.1 :: []).length) 24 (some (true, (z14.2.1, (z14.2.2.1, (z14.2.2.2.1, (z14.2.2.2.2.1, (v12.1.1.1, ((IntKind.i64.wrap (z14.2.2.2.2.2.2.1 + (z14.2.2.2.2.2.2.2.2.2.2.2.2.2.2.2.1.length : Int))), ((z14.2.2.2.2.2.2.2.2.2.2.2.2.2.1 ++ (v20.1 :: [])), (z14.2.2.2.2.2.2.2.1, (z14.2.2.2.2.2.2.2.2.1, (z14.2.2.2.2.2.2.2.2.2.1, (z14.2.2.2.2.2.2.2.2.2.2.1, (z14.2.2.2.2.2.2.2.2.2.2.2.1, (z14.2.2.2.2.2.2.2.2.2.2.2.2.2.2.1, (z14.2.2.2.2.2.2.2.2.2.2.2.2.1, ()))))))))))))))))) (W.room (z14.2.2.2.2.2.2.2.2.2.2.2.2.2.1.length + (v20.1 :: []).length) 24 (some (true, (z14.2.1, (z14.2.2.1, (z14.2.2.2.1, (z14.2.2.2.2.1, (v12.1.1.1, ((IntKind.i64.wrap (z14.2.2.2.2.2.2.1 + (z14.2.2.2.2.2.2.2.2.2.2.2.2.2.2.2.1.length : Int))), ((z14.2.2.2.2.2.2.2.2.2.2.2.2.2.1 ++ (v20.1 :: [])), (z14.2.2.2.2.2.2.2.1, (z14.2.2.2.2.2.2.2.2.1, (z14.2.2.2.2.2.2.2.2.2.1, (z14.2.2.2.2.2.2.2.2.2.2.1, (z14.2.2.2.2.2.2.2.2.2.2.2.1, (z14.2.2.2.2.2.2.2.2.2.2.2.2.2.2.1, (z14.2.2.2.2.2.2.2.2.2.2.2.2.1, ())))))))))))))))))) (W.room (z14.2.2.2.2.2.2.2.2.2.2.2.2.2.1.length + (v20.1 :: []).length) 24 (some (true, (z14.2.1, (z14.2.2.1, (z14.2.2.2.1, (z14.2.2.2.2.1, (v12.1.1.1, ((IntKind.i64.wrap (z14.2.2.2.2.2.2.1 + (z14.2.2.2.2.2.2.2.2.2.2.2.2.2.2.2.1.length : Int))), ((z14.2.2.2.2.2.2.2.2.2.2.2.2.2.1 ++ (v20.1 :: [])), (z14.2.2.2.2.2.2.2.1, (z14.2.2.2.2.2.2.2.2.1, (z14.2.2.2.2.2.2.2.2.2.1, (z14.2.2.2.2.2.2.2.2.2.2.1, (z14.2.2.2.2.2.2.2.2.2.2.2.1, (z14.2.2.2.2.2.2.2.2.2.2.2.2.2.2.1, (z14.2.2.2.2.2.2.2.2.2.2.2.2.1, ())))))))))))))))))) (W.both (W.room (z14.2.2.2.2.2.2.2.2.2.2.2.2.2.1.length + (v20.1 :: []).length) 24 (some (true, (z14.2.1, (z14.2.2.1, (z14.2.2.2.1, (z14.2.2.2.2.1, (v12.1.1.1, ((IntKind.i64.wrap (z14.2.2.2.2.2.2.1 + (z14.2.2.2.2.2.2.2.2.2.2.2.2.2.2.2.1.length : Int))), ((z14.2.2.2.2.2.2.2.2.2.2.2.2.2.1 ++ (v20.1 :: [])), (z14.2.2.2.2.2.2.2.1, (z14.2.2.2.2.2.2.2.2.1, (z14.2.2.2.2.2.2.2.2.2.1, (z14.2.2.2.2.2.2.2.2.2.2.1, (z14.2.2.2.2.2.2.2.2.2.2.2.1, (z14.2.2.2.2.2.2.2.2.2.2.2.2.2.2.1, (z14.2.2.2.2.2.2.2.2.2.2.2.2.1, ()))))))))))))))))) (W.room (z14.2.2.2.2.2.2.2.2.2.2.2.2.2.1.length + (v20.1 :: []).length) 24 (some (true, (z14.2.1, (z14.2.2.1, (z14.2.2.2.1, (z14.2.2.2.2.1, (v12.1.1.1, ((IntKind.i64.wrap (z14.2.2.2.2.2.2.1 + (z14.2.2.2.2.2.2.2.2.2.2.2.2.2.2.2.1.length : Int))), ((z14.2.2.2.2.2.2.2.2.2.2.2.2.2.1 ++ (v20.1 :: [])), (z14.2.2.2.2.2.2.2.1, (z14.2.2.2.2.2.2.2.2.1, (z14.2.2.2.2.2.2.2.2.2.1, (z14.2.2.2.2.2.2.2.2.2.2.1, (z14.2.2.2.2.2.2.2.2.2.2.2.1, (z14.2.2.2.2.2.2.2.2.2.2.2.2.2.2.1, (z14.2.2.2.2.2.2.2.2.2.2.2.2.1, ()))))))))))))))))))))))
     (0, (z13.2.1, (z13.2.2.1, (z13.2.2.2.1, (z13.2.2.2.2.1, (z13.2.2.2.2.2.1, (z13.2.2.2.2.2.2.1, (z13.2.2.2.2.2.2.2.1, (z13.2.2.2.2.2.2.2.2.1, (z13.2.2.2.2.2.2.2.2.2.1, (z13.2.2.2.2.2.2.2.2.2.2.1, (z13.2.2.2.2.2.2.2.2.2.2.2.1, (z13.2.2.2.2.2.2.2.2.2.2.2.2.1, (z13.2.2.2.2.2.2.2.2.2.2.2.2.2.1, (z13.2.2.2.2.2.2.2.2.2.2.2.2.2.2.1, ([], ()))))))))))))))))))
   fun k21 => 
   W.cnd (!v12.1.2.1) ((k21 (true, (s1, (s2, (s3, (s4, (s5, (s6, (s8, (v12.2.1, (v12.2.2.1, (v12.2.2.2.1, (v12.2.2.2.2.1, (v12.2.2.2.2.2.2.1, (s7, (v12.2.2.2.2.2.1, ())))))))))))))))))
    (W.call (scroll_Scroll_nextW W s1 s2 s3 s4 s5 s6 s7 s8 v12.2.1 v12.2.2.1 v12.2.2.2.1 v12.2.2.2.2.1 v12.2.2.2.2.2.1 v12.2.2.2.2.2.2.1 v12.1.1) fun v22 => (k21 ((!v22.1), (v22.2.1, (v22.2.2.1, (v22.2.2.2.1, (v22.2.2.2.2.1, (v22.2.2.2.2.2.1, (v22.2.2.2.2.2.2.1, (v22.2.2.2.2.2.2.2.2.1, (v22.2.2.2.2.2.2.2.2.2.1, (v22.2.2.2.2.2.2.2.2.2.2.1, (v22.2.2.2.2.2.2.2.2.2.2.2.1, (v22.2.2.2.2.2.2.2.2.2.2.2.2.1, (v22.2.2.2.2.2.2.2.2.2.2.2.2.2.2.1, (v22.2.2.2.2.2.2.2.1, (v22.2.2.2.2.2.2.2.2.2.2.2.2.2.1, ()))))))))))))))))))
def scroll_Scroll_takeN_k : KC Tryz.prog := kls kp 236 [⟨275, [.ptr 1, .v (.int .i64), .v (.int .i64), .v (.int .i64), .v (.int .i64), .v (.int .i64), .v (.int .i64), .row 22 (.slc (.int .u8)), .v .bool]⟩, ⟨45, [.v .bool, .v .bool, .v (.int .i64), .v (.slc (.int .i64)), .row 328 tDriveCell, .v (.int .i64)]⟩] [.ptr 0] [⟨275, [.ptr 1, .v (.int .i64), .v (.int .i64), .v (.int .i64), .v (.int .i64), .v (.int .i64), .v (.int .i64), .row 22 (.slc (.int .u8)), .v .bool]⟩, ⟨45, [.v .bool, .v .bool, .v (.int .i64), .v (.slc (.int .i64)), .row 328 tDriveCell, .v (.int .i64)]⟩] (.v .bool) (fun W x => scroll_Scroll_takeNW W x.1 x.2.1 x.2.2.1 x.2.2.2.1 x.2.2.2.2.1 x.2.2.2.2.2.1 x.2.2.2.2.2.2.1 x.2.2.2.2.2.2.2.1 x.2.2.2.2.2.2.2.2.1 x.2.2.2.2.2.2.2.2.2.1 x.2.2.2.2.2.2.2.2.2.2.1 x.2.2.2.2.2.2.2.2.2.2.2.1 x.2.2.2.2.2.2.2.2.2.2.2.2.1 x.2.2.2.2.2.2.2.2.2.2.2.2.2.1) [scroll_span_frameN_k, scroll_Scroll_next_k, frame_Join_k] [(1, [1], (.rd 0 (.rd 1 (.rd 2 (.rd 3 (.rd 4 (.rd 5 (.rd 6 (.rd 7 (.two 8 12 (ofL [(9, true), (10, true), (11, true), (12, false), (13, false), (14, true)]) (ofL [(8, false), (9, true), (10, true), (11, true), (13, false), (14, true)]))))))))))), (8, [1], (.rd 0 (.rd 1 (.rd 2 (.rd 3 (.rd 4 (.rd 5 (.rd 6 (.rd 7 (.rd 8 (.rd 9 (.two 10 14 (ofL [(11, true), (12, true), (13, true), (14, false), (15, false), (16, true)]) (ofL [(10, false), (11, true), (12, true), (13, true), (15, false), (16, true)]))))))))))))), (16, [0], (.rd 0 (.rd 1 (.rd 2 (.rd 3 (.rd 4 (.rd 5 (.rd 7 (.rd 10 (.rd 11 (.rd 12 (.rd 14 (.rd 15 (.rd 17 (.rd 18 (.three 6 8 13 (.two 8 13 (.two 9 13 (ofL [(13, false), (16, true), (19, true), (20, true), (21, false), (22, true), (23, true), (24, false), (25, true), (26, true), (27, false)]) (ofL [(16, true), (9, false), (19, true), (20, true), (21, false), (22, true), (23, true), (24, false), (25, true), (26, true), (27, false)])) (ofL [(16, true), (8, false), (9, false), (19, true), (20, true), (21, false), (22, true), (23, true), (24, false), (25, true), (26, true), (27, false)])) (.two 6 13 (.two 9 13 (ofL [(13, false), (16, true), (19, true), (20, true), (21, false), (22, true), (23, true), (24, false), (25, true), (26, true), (27, false)]) (ofL [(16, true), (9, false), (19, true), (20, true), (21, false), (22, true), (23, true), (24, false), (25, true), (26, true), (27, false)])) (ofL [(16, true), (6, false), (9, false), (19, true), (20, true), (21, false), (22, true), (23, true), (24, false), (25, true), (26, true), (27, false)])) (.rd 16 (.two 6 8 (ofL [(8, false), (9, false), (19, true), (20, true), (21, false), (22, true), (23, true), (24, false), (25, true), (26, true), (27, false)]) (ofL [(6, false), (9, false), (19, true), (20, true), (21, false), (22, true), (23, true), (24, false), (25, true), (26, true), (27, false)])))))))))))))))))))] [(12, ⟨[(5, .row 3)], [(0, [.own 1 0, .t (.int .i64), .t (.int .i64), .t (.int .i64), .t (.int .i64), .t (.int .i64), .t (.int .i64), .row 0, .t .bool]), (1, [.t .bool, .t .bool, .t (.int .i64), .t (.slc (.int .i64)), .row 1, .t (.int .i64)])], [.own 22 (.slc (.int .u8)), .own 328 tDriveCell, .dead, .own 240 tFrameFrame]⟩), (500029, ⟨[(29, .t .bool)], [(0, [.own 1 0, .t (.int .i64), .t (.int .i64), .t (.int .i64), .t (.int .i64), .t (.int .i64), .t (.int .i64), .row 0, .t .bool]), (1, [.t .bool, .t .bool, .t (.int .i64), .t (.slc (.int .i64)), .row 1, .t (.int .i64)])], [.own 22 (.slc (.int .u8)), .own 328 tDriveCell]⟩)] [(6, ⟨[(5, .row 3), (32, .t (.int .i64))], [(0, [.own 1 0, .t (.int .i64), .t (.int .i64), .t (.int .i64), .t (.int .i64), .t (.int .i64), .t (.int .i64), .row 0, .t .bool]), (1, [.t .bool, .t .bool, .t (.int .i64), .t (.slc (.int .i64)), .row 1, .t (.int .i64)])], [.own 22 (.slc (.int .u8)), .own 328 tDriveCell, .dead, .own 240 tFrameFrame]⟩)] Tryz.func236 rfl (by decide +kernel) (fun W x => by kernel_rfl)
def scroll_OpenNW (W : Wd) (d0 : Bool) (d1 : Bool) (d2 : Int) (d3 : List Int) (d4 : List DriveCell') (d5 : Int) (from_ : Int) (to_ : Int) (life : Int) (era : Int) : Option ((Unit × Int × Unit) × (Bool × Bool × Int × (List Int) × (List DriveCell') × Int × Int × Int × Int × Int × Int × Int × (List (List Int)) × Bool × Unit)) := W.call (drive_Drive_Size2W W d0 d1 d2 d3 d4 d5) fun v1 => 
 W.cnd (v1.1 == 0) (none)
  (
  W.join (fun (z2 : Bool × Bool × Bool × Int × List (Int) × Int × List (Int × Int × Int × Int × Int × Int × Int × Int × Int × Int × Int × Int × Int × Int × Int × Int × Int × Int × Int × Int × Int × Int × Int × Int × Int × Int × Int × Int × Int × Int × Int × Int × Int × Int × Int × Int × Int × Int × Int × Int × Int × Int × Int × Int × Int × Int × Int × Int × Int × Int × Int × _ × _) × Unit) => 
   W.cnd z2.1 (none)
    (
    W.loop (fun (z3 : Bool × Bool × Int × List (Int) × Int × Int × Int × Int × Int × Int × Int × Bool × List (Int × Int × Int × Int × Int × Int × Int × Int × Int × Int × Int × Int × Int × Int × Int × Int × Int × Int × Int × Int × Int × Int × Int × Int × Int × Int × Int × Int × Int × Int × Int × Int × Int × Int × Int × Int × Int × Int × Int × Int × Int × Int × Int × Int × Int × _ × _) × List (List (Int)) × Unit) again4 => W.call (scroll_Scroll_takeNW W z3.2.2.2.2.2.1 z3.2.2.2.2.2.2.1 z3.2.2.2.2.2.2.2.1 z3.2.2.2.2.2.2.2.2.1 z3.2.2.2.2.2.2.2.2.2.1 z3.2.2.2.2.2.2.2.2.2.2.1 z3.2.2.2.2.2.2.2.2.2.2.2.2.2.1 z3.2.2.2.2.2.2.2.2.2.2.2.1 z3.1 z3.2.1 z3.2.2.1 z3.2.2.2.1 z3.2.2.2.2.2.2.2.2.2.2.2.2.1 z3.2.2.2.2.1) fun v5 => 
     W.cnd v5.1 ((again4 (v5.2.2.2.2.2.2.2.2.2.1, (v5.2.2.2.2.2.2.2.2.2.2.1, (v5.2.2.2.2.2.2.2.2.2.2.2.1, (v5.2.2.2.2.2.2.2.2.2.2.2.2.1, (v5.2.2.2.2.2.2.2.2.2.2.2.2.2.2.1, (v5.2.1, (v5.2.2.1, (v5.2.2.2.1, (v5.2.2.2.2.1, (v5.2.2.2.2.2.1, (v5.2.2.2.2.2.2.1, (v5.2.2.2.2.2.2.2.2.1, (v5.2.2.2.2.2.2.2.2.2.2.2.2.2.1, (v5.2.2.2.2.2.2.2.1, ()))))))))))))))))
      (some (((), (0, ())), (v5.2.2.2.2.2.2.2.2.2.1, (v5.2.2.2.2.2.2.2.2.2.2.1, (v5.2.2.2.2.2.2.2.2.2.2.2.1, (v5.2.2.2.2.2.2.2.2.2.2.2.2.1, (v5.2.2.2.2.2.2.2.2.2.2.2.2.2.1, (v5.2.2.2.2.2.2.2.2.2.2.2.2.2.2.1, (v5.2.1, (v5.2.2.1, (v5.2.2.2.1, (v5.2.2.2.2.1, (v5.2.2.2.2.2.1, (v5.2.2.2.2.2.2.1, (v5.2.2.2.2.2.2.2.1, (v5.2.2.2.2.2.2.2.2.1, ())))))))))))))))))
     (z2.2.1, (z2.2.2.1, (z2.2.2.2.1, (z2.2.2.2.2.1, (z2.2.2.2.2.2.1, (from_, (to_, (life, (era, (0, (from_, (false, (z2.2.2.2.2.2.2.1, ([], ()))))))))))))))))
   fun k6 => W.call (scroll_withinW W v1.2.1 v1.2.2.1 v1.2.2.2.1 v1.2.2.2.2.1 v1.2.2.2.2.2.1 v1.2.2.2.2.2.2.1 from_ to_) fun v7 => 
   W.cnd (!v7.1) ((k6 (true, (v7.2.1, (v7.2.2.1, (v7.2.2.2.1, (v7.2.2.2.2.1, (v7.2.2.2.2.2.2.1, (v7.2.2.2.2.2.1, ())))))))))
    (
    W.cnd (decide (life < 1)) ((k6 (true, (v7.2.1, (v7.2.2.1, (v7.2.2.2.1, (v7.2.2.2.2.1, (v7.2.2.2.2.2.2.1, (v7.2.2.2.2.2.1, ())))))))))
     (
     W.cnd (decide (16777215 < life)) ((k6 (true, (v7.2.1, (v7.2.2.1, (v7.2.2.2.1, (v7.2.2.2.2.1, (v7.2.2.2.2.2.2.1, (v7.2.2.2.2.2.1, ())))))))))
      (
      W.cnd (decide (era < 0)) ((k6 (true, (v7.2.1, (v7.2.2.1, (v7.2.2.2.1, (v7.2.2.2.2.1, (v7.2.2.2.2.2.2.1, (v7.2.2.2.2.2.1, ())))))))))
       (
       W.cnd (decide (16777215 < era)) ((k6 (true, (v7.2.1, (v7.2.2.1, (v7.2.2.2.1, (v7.2.2.2.2.1, (v7.2.2.2.2.2.2.1, (v7.2.2.2.2.2.1, ())))))))))
        (W.call (scroll_NewestNW W v7.2.1 v7.2.2.1 v7.2.2.2.1 v7.2.2.2.2.1 v7.2.2.2.2.2.1 v7.2.2.2.2.2.2.1 from_ to_) fun v8 => (k6 ((decide (life ≤ v8.1)), (v8.2.1, (v8.2.2.1, (v8.2.2.2.1, (v8.2.2.2.2.1, (v8.2.2.2.2.2.2.1, (v8.2.2.2.2.2.1, ()))))))))))))))
def scroll_OpenN_k : KC Tryz.prog := kls kp 158 [⟨45, [.v .bool, .v .bool, .v (.int .i64), .v (.slc (.int .i64)), .row 328 tDriveCell, .v (.int .i64)]⟩] [.ptr 0, .v (.int .i64), .v (.int .i64), .v (.int .i64), .v (.int .i64)] [⟨45, [.v .bool, .v .bool, .v (.int .i64), .v (.slc (.int .i64)), .row 328 tDriveCell, .v (.int .i64)]⟩, ⟨275, [.ptr 0, .v (.int .i64), .v (.int .i64), .v (.int .i64), .v (.int .i64), .v (.int .i64), .v (.int .i64), .row 22 (.slc (.int .u8)), .v .bool]⟩] (.pair (.ptr 1) (.pair (.v (.int .i64)) .unit)) (fun W x => scroll_OpenNW W x.1 x.2.1 x.2.2.1 x.2.2.2.1 x.2.2.2.2.1 x.2.2.2.2.2.1 x.2.2.2.2.2.2.1 x.2.2.2.2.2.2.2.1 x.2.2.2.2.2.2.2.2.1 x.2.2.2.2.2.2.2.2.2.1) [drive_Drive_Size2_k, scroll_within_k, scroll_NewestN_k, scroll_Scroll_takeN_k] [] [(500017, ⟨[(17, .t .bool)], [(0, [.t .bool, .t .bool, .t (.int .i64), .t (.slc (.int .i64)), .row 0, .t (.int .i64)])], [.own 328 tDriveCell]⟩)] [(6, ⟨[], [(0, [.t .bool, .t .bool, .t (.int .i64), .t (.slc (.int .i64)), .row 0, .t (.int .i64)]), (1, [.own 0 0, .t (.int .i64), .t (.int .i64), .t (.int .i64), .t (.int .i64), .t (.int .i64), .t (.int .i64), .row 1, .t .bool])], [.own 328 tDriveCell, .own 22 (.slc (.int .u8))]⟩)] Tryz.func158 rfl (by decide +kernel) (fun W x => by kernel_rfl)
def vault_Vault_turnNW (W : Wd) (vp2 : Int) (vp3 : Int) (vp4 : Int) (vp5 : List Int) (vp6 : Bool) (vp1_0 : Bool) (vp1_1 : Bool) (vp1_2 : Int) (vp1_3 : List Int) (vp1_4 : List DriveCell') (vp1_5 : Int) : Option (Int × (Int × Int × Int × (List Int) × Bool × Bool × Bool × Int × (List Int) × (List DriveCell') × Int × Int × Int × Int × Int × Int × Int × (List (List Int)) × Bool × Unit)) := W.call (drive_Drive_Size2W W vp1_0 vp1_1 vp1_2 vp1_3 vp1_4 vp1_5) fun v1 => W.call (scroll_OpenNW W v1.2.1 v1.2.2.1 v1.2.2.2.1 v1.2.2.2.2.1 v1.2.2.2.2.2.1 v1.2.2.2.2.2.2.1 (IntKind.i64.wrap (2 * vp2)) v1.1 vp3 vp4) fun v2 => some (v2.1.2.1, (vp2, (vp3, (vp4, (vp5, (vp6, v2.2))))))
def vault_Vault_turnN_k : KC Tryz.prog := kls kp 80 [⟨152, [.nil .ptr, .ptr 1, .v (.int .i64), .v (.int .i64), .v (.int .i64), .v (.slc (.int .u8)), .v .bool]⟩, ⟨45, [.v .bool, .v .bool, .v (.int .i64), .v (.slc (.int .i64)), .row 328 tDriveCell, .v (.int .i64)]⟩] [.ptr 0] [⟨152, [.ptr 2, .ptr 1, .v (.int .i64), .v (.int .i64), .v (.int .i64), .v (.slc (.int .u8)), .v .bool]⟩, ⟨45, [.v .bool, .v .bool, .v (.int .i64), .v (.slc (.int .i64)), .row 328 tDriveCell, .v (.int .i64)]⟩, ⟨275, [.ptr 1, .v (.int .i64), .v (.int .i64), .v (.int .i64), .v (.int .i64), .v (.int .i64), .v (.int .i64), .row 22 (.slc (.int .u8)), .v .bool]⟩] (.v (.int .i64)) (fun W x => vault_Vault_turnNW W x.1 x.2.1 x.2.2.1 x.2.2.2.1 x.2.2.2.2.1 x.2.2.2.2.2.1 x.2.2.2.2.2.2.1 x.2.2.2.2.2.2.2.1 x.2.2.2.2.2.2.2.2.1 x.2.2.2.2.2.2.2.2.2.1 x.2.2.2.2.2.2.2.2.2.2.1) [drive_Drive_Size2_k, scroll_OpenN_k] [(1, [1], (ofL [(0, true), (1, true), (2, true), (3, true), (4, true), (5, true), (6, true), (7, true), (8, true), (9, true), (10, true), (11, true), (12, true), (14, true), (15, true), (16, true), (17, true), (18, true), (19, true), (20, true), (21, true), (13, false), (22, false), (23, true), (24, true), (25, true), (26, true), (27, true)]))] [] [] Tryz.func80 rfl (by decide +kernel) (fun W x => by kernel_rfl)
def vault_Open3NW (W : Wd) (d0 : Bool) (d1 : Bool) (d2 : Int) (d3 : List Int) (d4 : List DriveCell') (d5 : Int) (each : Int) : Option ((Unit × Int × Unit) × (Bool × Bool × Int × (List Int) × (List DriveCell') × Int × Int × Int × Int × (List Int) × Bool × Int × Int × Int × Int × Int × Int × (List (List Int)) × Bool × Unit)) := W.call (drive_Drive_Size2W W d0 d1 d2 d3 d4 d5) fun v1 => 
 W.cnd (v1.1 == 0) (none)
  (
  W.join (fun (z2 : Bool × Bool × Bool × Int × List (Int) × Int × List (Int × Int × Int × Int × Int × Int × Int × Int × Int × Int × Int × Int × Int × Int × Int × Int × Int × Int × Int × Int × Int × Int × Int × Int × Int × Int × Int × Int × Int × Int × Int × Int × Int × Int × Int × Int × Int × Int × Int × Int × Int × Int × Int × Int × Int × Int × Int × Int × Int × Int × Int × _ × _) × Unit) => 
   W.cnd z2.1 (none)
    (W.call (scroll_NewestNW W z2.2.1 z2.2.2.1 z2.2.2.2.1 z2.2.2.2.2.1 z2.2.2.2.2.2.2.1 z2.2.2.2.2.2.1 0 v1.1) fun v3 => 
    W.cnd (decide (16777214 ≤ v3.1)) (none)
     (W.call (still_LoadNW W v3.2.1 v3.2.2.1 v3.2.2.2.1 v3.2.2.2.2.1 v3.2.2.2.2.2.1 v3.2.2.2.2.2.2.1 0 each) fun v4 => W.call (vault_Vault_turnNW W each (IntKind.i64.wrap (v3.1 + 1)) v4.1.1 v4.1.2.1 false v4.2.1 v4.2.2.1 v4.2.2.2.1 v4.2.2.2.2.1 v4.2.2.2.2.2.1 v4.2.2.2.2.2.2.1) fun v5 => some (((), (v5.1, ())), (v5.2.2.2.2.2.2.1, (v5.2.2.2.2.2.2.2.1, (v5.2.2.2.2.2.2.2.2.1, (v5.2.2.2.2.2.2.2.2.2.1, (v5.2.2.2.2.2.2.2.2.2.2.1, (v5.2.2.2.2.2.2.2.2.2.2.2.1, (v5.2.1, (v5.2.2.1, (v5.2.2.2.1, (v5.2.2.2.2.1, (v5.2.2.2.2.2.1, v5.2.2.2.2.2.2.2.2.2.2.2.2)))))))))))))))
   fun k6 => 
   W.cnd (decide (each < 1)) ((k6 (true, (v1.2.1, (v1.2.2.1, (v1.2.2.2.1, (v1.2.2.2.2.1, (v1.2.2.2.2.2.2.1, (v1.2.2.2.2.2.1, ())))))))))
    (
    W.cnd (decide (v1.1 ≤ each)) ((k6 (true, (v1.2.1, (v1.2.2.1, (v1.2.2.2.1, (v1.2.2.2.2.1, (v1.2.2.2.2.2.2.1, (v1.2.2.2.2.2.1, ())))))))))
     ((k6 ((decide (v1.1 ≤ (IntKind.i64.wrap (2 * each)))), (v1.2.1, (v1.2.2.1, (v1.2.2.2.1, (v1.2.2.2.2.1, (v1.2.2.2.2.2.2.1, (v1.2.2.2.2.2.1, ())))))))))))
def vault_Open3N_k : KC Tryz.prog := kls kp 28 [⟨45, [.v .bool, .v .bool, .v (.int .i64), .v (.slc (.int .i64)), .row 328 tDriveCell, .v (.int .i64)]⟩] [.ptr 0, .v (.int .i64)] [⟨45, [.v .bool, .v .bool, .v (.int .i64), .v (.slc (.int .i64)), .row 328 tDriveCell, .v (.int .i64)]⟩, ⟨152, [.ptr 2, .ptr 0, .v (.int .i64), .v (.int .i64), .v (.int .i64), .v (.slc (.int .u8)), .v .bool]⟩, ⟨275, [.ptr 0, .v (.int .i64), .v (.int .i64), .v (.int .i64), .v (.int .i64), .v (.int .i64), .v (.int .i64), .row 22 (.slc (.int .u8)), .v .bool]⟩] (.pair (.ptr 1) (.pair (.v (.int .i64)) .unit)) (fun W x => vault_Open3NW W x.1 x.2.1 x.2.2.1 x.2.2.2.1 x.2.2.2.2.1 x.2.2.2.2.2.1 x.2.2.2.2.2.2.1) [drive_Drive_Size2_k, scroll_NewestN_k, still_LoadN_k, vault_Vault_turnN_k] [] [(500017, ⟨[(17, .t .bool)], [(0, [.t .bool, .t .bool, .t (.int .i64), .t (.slc (.int .i64)), .row 0, .t (.int .i64)])], [.own 328 tDriveCell]⟩)] [] Tryz.func28 rfl (by decide +kernel) (fun W x => by kernel_rfl)
def engine_Open3NW (W : Wd) (d0 : Bool) (d1 : Bool) (d2 : Int) (d3 : List Int) (d4 : List DriveCell') (d5 : Int) (each : Int) : Option ((Unit × Int × Unit) × (Bool × Bool × Int × (List Int) × (List DriveCell') × Int × Int × (List AMember') × (List AInst') × (List AAsset') × (List AAccount') × (List AChoice') × (List AGroup') × (List AGive') × (List APos') × (List APos') × (List AFlow') × (List AHold') × Bool × Int × Int × Int × (List Int) × Bool × Int × Int × Int × Int × Int × Int × (List (List Int)) × Bool × Unit)) := W.call (vault_Open3NW W d0 d1 d2 d3 d4 d5 each) fun v1 => 
 W.cnd (v1.1.2.1 != 0) (none)
  (W.call (ledger_EmptyW W) fun v2 => W.call (vault_Vault_StateW W v1.2.2.2.2.2.2.2.1 v1.2.2.2.2.2.2.2.2.1 v1.2.2.2.2.2.2.2.2.2.1 v1.2.2.2.2.2.2.2.2.2.2.1 v1.2.2.2.2.2.2.2.2.2.2.2.1 v1.2.2.2.2.2.2.2.2.2.2.2.2.1 v1.2.2.2.2.2.2.2.2.2.2.2.2.2.1 v1.2.2.2.2.2.2.2.2.2.2.2.2.2.2.1 v1.2.2.2.2.2.2.2.2.2.2.2.2.2.2.2.1 v1.2.2.2.2.2.2.2.2.2.2.2.2.2.2.2.2.1 v1.2.2.2.2.2.2.2.2.2.2.2.2.2.2.2.2.2.1 v1.2.2.2.2.2.2.2.2.2.2.2.2.2.2.2.2.2.2.1 v1.2.2.2.2.2.2.2.2.2.2.2.2.2.2.2.2.2.2.2.1 v1.2.1 v1.2.2.1 v1.2.2.2.1 v1.2.2.2.2.1 v1.2.2.2.2.2.1 v1.2.2.2.2.2.2.1) fun v3 => 
  W.cnd v3.1.2.1 (none)
   (W.call (vault_Vault_RecordsW W v3.2.1 v3.2.2.1 v3.2.2.2.1 v3.2.2.2.2.1 v3.2.2.2.2.2.1 v3.2.2.2.2.2.2.1 v3.2.2.2.2.2.2.2.1 v3.2.2.2.2.2.2.2.2.1 v3.2.2.2.2.2.2.2.2.2.1 v3.2.2.2.2.2.2.2.2.2.2.1 v3.2.2.2.2.2.2.2.2.2.2.2.1 v3.2.2.2.2.2.2.2.2.2.2.2.2.1 v3.2.2.2.2.2.2.2.2.2.2.2.2.2.1 v3.2.2.2.2.2.2.2.2.2.2.2.2.2.2.1 v3.2.2.2.2.2.2.2.2.2.2.2.2.2.2.2.1 v3.2.2.2.2.2.2.2.2.2.2.2.2.2.2.2.2.1 v3.2.2.2.2.2.2.2.2.2.2.2.2.2.2.2.2.2.1 v3.2.2.2.2.2.2.2.2.2.2.2.2.2.2.2.2.2.2.1 v3.2.2.2.2.2.2.2.2.2.2.2.2.2.2.2.2.2.2.2.1) fun v4 => 
   W.loop (fun (z5 : Int × Bool × Bool × Int × List (Int) × Int × Int × Int × Int × List (Int) × Bool × Int × Int × Int × Int × Int × Int × Bool × Int × List (Int × Int × Int × Int × Unit) × List (Int × Int × Int × Int × List (Int) × Unit) × List (Int × Int × Int × Unit) × List (Int × Int × Int × List (Int) × Unit) × List ((Int × Int × Unit) × (Int × Int × Unit) × Bool × Unit) × List (Int × (Int × Int × Unit) × Int × Int × Int × Unit) × List (Int × (Int × Int × Unit) × (Int × Int × Unit) × (Int × Int × Unit) × Int × Int × Int × Int × Unit) × List ((Int × Int × Unit) × List (Int × Int × Unit) × Unit) × List ((Int × Int × Unit) × List (Int × Int × Unit) × Unit) × List ((Int × Int × Unit) × Int × Unit) × List ((Int × Int × Unit) × List (Int × Int × Int × Unit) × Unit) × Bool × List (Int × Int × Int × Int × Int × Int × Int × Int × Int × Int × Int × Int × Int × Int × Int × Int × Int × Int × Int × Int × Int × Int × Int × Int × Int × Int × _ × _) × List (List (Int)) × List (List (Int)) × Unit) again6 => 
    W.cnd (decide (z5.1 < (v4.1.length : Int))) (W.idx z5.2.2.2.2.2.2.2.2.2.2.2.2.2.2.2.2.2.2.2.2.2.2.2.2.2.2.2.2.2.2.2.2.2.1 z5.1 fun _ => W.nth z5.2.2.2.2.2.2.2.2.2.2.2.2.2.2.2.2.2.2.2.2.2.2.2.2.2.2.2.2.2.2.2.2.2.1 (Int.toNat z5.1) fun x8 => W.call (engine_Engine_replayW W z5.2.2.2.2.2.2.2.2.2.2.2.2.2.2.2.2.2.2.1 z5.2.2.2.2.2.2.2.2.2.2.2.2.2.2.2.2.2.2.2.1 z5.2.2.2.2.2.2.2.2.2.2.2.2.2.2.2.2.2.2.2.2.1 z5.2.2.2.2.2.2.2.2.2.2.2.2.2.2.2.2.2.2.2.2.2.1 z5.2.2.2.2.2.2.2.2.2.2.2.2.2.2.2.2.2.2.2.2.2.2.1 z5.2.2.2.2.2.2.2.2.2.2.2.2.2.2.2.2.2.2.2.2.2.2.2.1 z5.2.2.2.2.2.2.2.2.2.2.2.2.2.2.2.2.2.2.2.2.2.2.2.2.1 z5.2.2.2.2.2.2.2.2.2.2.2.2.2.2.2.2.2.2.2.2.2.2.2.2.2.1 z5.2.2.2.2.2.2.2.2.2.2.2.2.2.2.2.2.2.2.2.2.2.2.2.2.2.2.1 z5.2.2.2.2.2.2.2.2.2.2.2.2.2.2.2.2.2.2.2.2.2.2.2.2.2.2.2.1 z5.2.2.2.2.2.2.2.2.2.2.2.2.2.2.2.2.2.2.2.2.2.2.2.2.2.2.2.2.1 z5.2.2.2.2.2.2.2.2.2.2.2.2.2.2.2.2.2.2.2.2.2.2.2.2.2.2.2.2.2.1 z5.2.2.2.2.2.2.2.2.2.2.2.2.2.2.2.2.2.2.2.2.2.2.2.2.2.2.2.2.2.2.1 z5.2.2.2.2.2.2.1 z5.2.2.2.2.2.2.2.1 z5.2.2.2.2.2.2.2.2.1 z5.2.2.2.2.2.2.2.2.2.1 z5.2.2.2.2.2.2.2.2.2.2.1 z5.2.1 z5.2.2.1 z5.2.2.2.1 z5.2.2.2.2.1 z5.2.2.2.2.2.2.2.2.2.2.2.2.2.2.2.2.2.2.2.2.2.2.2.2.2.2.2.2.2.2.2.1 z5.2.2.2.2.2.1 z5.2.2.2.2.2.2.2.2.2.2.2.1 z5.2.2.2.2.2.2.2.2.2.2.2.2.1 z5.2.2.2.2.2.2.2.2.2.2.2.2.2.1 z5.2.2.2.2.2.2.2.2.2.2.2.2.2.2.1 z5.2.2.2.2.2.2.2.2.2.2.2.2.2.2.2.1 z5.2.2.2.2.2.2.2.2.2.2.2.2.2.2.2.2.1 z5.2.2.2.2.2.2.2.2.2.2.2.2.2.2.2.2.2.2.2.2.2.2.2.2.2.2.2.2.2.2.2.2.1 z5.2.2.2.2.2.2.2.2.2.2.2.2.2.2.2.2.2.1 x8) fun v9 => 
     W.cnd (!v9.1) (none)
      ((again6 ((IntKind.i64.wrap (z5.1 + 1)), (v9.2.2.2.2.2.2.2.2.2.2.2.2.2.2.2.2.2.2.2.1, (v9.2.2.2.2.2.2.2.2.2.2.2.2.2.2.2.2.2.2.2.2.1, (v9.2.2.2.2.2.2.2.2.2.2.2.2.2.2.2.2.2.2.2.2.2.1, (v9.2.2.2.2.2.2.2.2.2.2.2.2.2.2.2.2.2.2.2.2.2.2.1, (v9.2.2.2.2.2.2.2.2.2.2.2.2.2.2.2.2.2.2.2.2.2.2.2.2.1, (v9.2.2.2.2.2.2.2.2.2.2.2.2.2.2.1, (v9.2.2.2.2.2.2.2.2.2.2.2.2.2.2.2.1, (v9.2.2.2.2.2.2.2.2.2.2.2.2.2.2.2.2.1, (v9.2.2.2.2.2.2.2.2.2.2.2.2.2.2.2.2.2.1, (v9.2.2.2.2.2.2.2.2.2.2.2.2.2.2.2.2.2.2.1, (v9.2.2.2.2.2.2.2.2.2.2.2.2.2.2.2.2.2.2.2.2.2.2.2.2.2.1, (v9.2.2.2.2.2.2.2.2.2.2.2.2.2.2.2.2.2.2.2.2.2.2.2.2.2.2.1, (v9.2.2.2.2.2.2.2.2.2.2.2.2.2.2.2.2.2.2.2.2.2.2.2.2.2.2.2.1, (v9.2.2.2.2.2.2.2.2.2.2.2.2.2.2.2.2.2.2.2.2.2.2.2.2.2.2.2.2.1, (v9.2.2.2.2.2.2.2.2.2.2.2.2.2.2.2.2.2.2.2.2.2.2.2.2.2.2.2.2.2.1, (v9.2.2.2.2.2.2.2.2.2.2.2.2.2.2.2.2.2.2.2.2.2.2.2.2.2.2.2.2.2.2.1, (v9.2.2.2.2.2.2.2.2.2.2.2.2.2.2.2.2.2.2.2.2.2.2.2.2.2.2.2.2.2.2.2.2.1, (v9.2.1, (v9.2.2.1, (v9.2.2.2.1, (v9.2.2.2.2.1, (v9.2.2.2.2.2.1, (v9.2.2.2.2.2.2.1, (v9.2.2.2.2.2.2.2.1, (v9.2.2.2.2.2.2.2.2.1, (v9.2.2.2.2.2.2.2.2.2.1, (v9.2.2.2.2.2.2.2.2.2.2.1, (v9.2.2.2.2.2.2.2.2.2.2.2.1, (v9.2.2.2.2.2.2.2.2.2.2.2.2.1, (v9.2.2.2.2.2.2.2.2.2.2.2.2.2.1, (v9.2.2.2.2.2.2.2.2.2.2.2.2.2.2.2.2.2.2.2.2.2.2.2.1, (v9.2.2.2.2.2.2.2.2.2.2.2.2.2.2.2.2.2.2.2.2.2.2.2.2.2.2.2.2.2.2.2.1, z5.2.2.2.2.2.2.2.2.2.2.2.2.2.2.2.2.2.2.2.2.2.2.2.2.2.2.2.2.2.2.2.2.2))))))))))))))))))))))))))))))))))))
     (some (((), (0, ())), (z5.2.1, (z5.2.2.1, (z5.2.2.2.1, (z5.2.2.2.2.1, (z5.2.2.2.2.2.2.2.2.2.2.2.2.2.2.2.2.2.2.2.2.2.2.2.2.2.2.2.2.2.2.2.1, (z5.2.2.2.2.2.1, (z5.2.2.2.2.2.2.2.2.2.2.2.2.2.2.2.2.2.2.1, (z5.2.2.2.2.2.2.2.2.2.2.2.2.2.2.2.2.2.2.2.1, (z5.2.2.2.2.2.2.2.2.2.2.2.2.2.2.2.2.2.2.2.2.1, (z5.2.2.2.2.2.2.2.2.2.2.2.2.2.2.2.2.2.2.2.2.2.1, (z5.2.2.2.2.2.2.2.2.2.2.2.2.2.2.2.2.2.2.2.2.2.2.1, (z5.2.2.2.2.2.2.2.2.2.2.2.2.2.2.2.2.2.2.2.2.2.2.2.1, (z5.2.2.2.2.2.2.2.2.2.2.2.2.2.2.2.2.2.2.2.2.2.2.2.2.1, (z5.2.2.2.2.2.2.2.2.2.2.2.2.2.2.2.2.2.2.2.2.2.2.2.2.2.1, (z5.2.2.2.2.2.2.2.2.2.2.2.2.2.2.2.2.2.2.2.2.2.2.2.2.2.2.1, (z5.2.2.2.2.2.2.2.2.2.2.2.2.2.2.2.2.2.2.2.2.2.2.2.2.2.2.2.1, (z5.2.2.2.2.2.2.2.2.2.2.2.2.2.2.2.2.2.2.2.2.2.2.2.2.2.2.2.2.1, (z5.2.2.2.2.2.2.2.2.2.2.2.2.2.2.2.2.2.2.2.2.2.2.2.2.2.2.2.2.2.1, (z5.2.2.2.2.2.2.2.2.2.2.2.2.2.2.2.2.2.2.2.2.2.2.2.2.2.2.2.2.2.2.1, (z5.2.2.2.2.2.2.1, (z5.2.2.2.2.2.2.2.1, (z5.2.2.2.2.2.2.2.2.1, (z5.2.2.2.2.2.2.2.2.2.1, (z5.2.2.2.2.2.2.2.2.2.2.1, (z5.2.2.2.2.2.2.2.2.2.2.2.1, (z5.2.2.2.2.2.2.2.2.2.2.2.2.1, (z5.2.2.2.2.2.2.2.2.2.2.2.2.2.1, (z5.2.2.2.2.2.2.2.2.2.2.2.2.2.2.1, (z5.2.2.2.2.2.2.2.2.2.2.2.2.2.2.2.1, (z5.2.2.2.2.2.2.2.2.2.2.2.2.2.2.2.2.1, (z5.2.2.2.2.2.2.2.2.2.2.2.2.2.2.2.2.2.2.2.2.2.2.2.2.2.2.2.2.2.2.2.2.1, (z5.2.2.2.2.2.2.2.2.2.2.2.2.2.2.2.2.2.1, ())))))))))))))))))))))))))))))))))))
    (0, (v4.2.2.2.2.2.2.2.2.2.2.2.2.2.2.1, (v4.2.2.2.2.2.2.2.2.2.2.2.2.2.2.2.1, (v4.2.2.2.2.2.2.2.2.2.2.2.2.2.2.2.2.1, (v4.2.2.2.2.2.2.2.2.2.2.2.2.2.2.2.2.2.1, (v4.2.2.2.2.2.2.2.2.2.2.2.2.2.2.2.2.2.2.2.1, (v4.2.1, (v4.2.2.1, (v4.2.2.2.1, (v4.2.2.2.2.1, (v4.2.2.2.2.2.1, (v4.2.2.2.2.2.2.1, (v4.2.2.2.2.2.2.2.1, (v4.2.2.2.2.2.2.2.2.1, (v4.2.2.2.2.2.2.2.2.2.1, (v4.2.2.2.2.2.2.2.2.2.2.1, (v4.2.2.2.2.2.2.2.2.2.2.2.1, (v4.2.2.2.2.2.2.2.2.2.2.2.2.2.1, (v2.1, (v2.2.1, (v2.2.2.1, (v2.2.2.2.1, (v2.2.2.2.2.1, (v2.2.2.2.2.2.1, (v2.2.2.2.2.2.2.1, (v2.2.2.2.2.2.2.2.1, (v2.2.2.2.2.2.2.2.2.1, (v2.2.2.2.2.2.2.2.2.2.1, (v2.2.2.2.2.2.2.2.2.2.2.1, (v2.2.2.2.2.2.2.2.2.2.2.2.1, (false, (v4.2.2.2.2.2.2.2.2.2.2.2.2.2.2.2.2.2.2.1, (v4.2.2.2.2.2.2.2.2.2.2.2.2.1, (v4.1, ()))))))))))))))))))))))))))))))))))))
def engine_Open3N_k : KC Tryz.prog := kls kp 7 [⟨45, [.v .bool, .v .bool, .v (.int .i64), .v (.slc (.int .i64)), .row 328 tDriveCell, .v (.int .i64)]⟩] [.ptr 0, .v (.int .i64)] [⟨45, [.v .bool, .v .bool, .v (.int .i64), .v (.slc (.int .i64)), .row 328 tDriveCell, .v (.int .i64)]⟩, ⟨39, [.ptr 2, .ptr 0, .v (.int .i64), .v (.slc tAMember), .v (.slc tAInst), .v (.slc tAAsset), .v (.slc tAAccount), .v (.slc tAChoice), .v (.slc tAGroup), .v (.slc tAGive), .v (.slc tAPos), .v (.slc tAPos), .v (.slc tAFlow), .v (.slc tAHold), .v .bool]⟩, ⟨152, [.ptr 3, .ptr 0, .v (.int .i64), .v (.int .i64), .v (.int .i64), .v (.slc (.int .u8)), .v .bool]⟩, ⟨275, [.ptr 0, .v (.int .i64), .v (.int .i64), .v (.int .i64), .v (.int .i64), .v (.int .i64), .v (.int .i64), .row 22 (.slc (.int .u8)), .v .bool]⟩] (.pair (.ptr 1) (.pair (.v (.int .i64)) .unit)) (fun W x => engine_Open3NW W x.1 x.2.1 x.2.2.1 x.2.2.2.1 x.2.2.2.2.1 x.2.2.2.2.2.1 x.2.2.2.2.2.2.1) [vault_Open3N_k, ledger_Empty_k, vault_Vault_State_k, vault_Vault_Records_k, engine_Engine_replay_k] [] [] [(11, ⟨[(45, .row 3), (47, .t (.int .i64))], [(0, [.t .bool, .t .bool, .t (.int .i64), .t (.slc (.int .i64)), .row 0, .t (.int .i64)]), (1, [.own 2 0, .own 0 0, .t (.int .i64), .t (.int .i64), .t (.int .i64), .t (.slc (.int .u8)), .t .bool]), (2, [.own 0 0, .t (.int .i64), .t (.int .i64), .t (.int .i64), .t (.int .i64), .t (.int .i64), .t (.int .i64), .row 1, .t .bool]), (3, [.own 1 0, .own 0 0, .t (.int .i64), .t (.slc tAMember), .t (.slc tAInst), .t (.slc tAAsset), .t (.slc tAAccount), .t (.slc tAChoice), .t (.slc tAGroup), .t (.slc tAGive), .t (.slc tAPos), .t (.slc tAPos), .t (.slc tAFlow), .t (.slc tAHold), .t .bool])], [.own 328 tDriveCell, .own 22 (.slc (.int .u8)), .dead, .own 22 (.slc (.int .u8))]⟩)] Tryz.func7 rfl (by decide +kernel) (fun W x => by kernel_rfl)
def law37_livesNW (W : Wd) : Option Bool := W.call (drive_NewW W 20) fun v1 => W.call (engine_Open3NW W v1.2.1 v1.2.2.1 v1.2.2.2.1 v1.2.2.2.2.1 v1.2.2.2.2.2.1 v1.2.2.2.2.2.2.1 4) fun v2 => 
 W.cnd (v2.1.2.1 != 0) (some false)
  (W.call (engine_Engine_Do3W W v2.2.2.2.2.2.2.2.1 v2.2.2.2.2.2.2.2.2.1 v2.2.2.2.2.2.2.2.2.2.1 v2.2.2.2.2.2.2.2.2.2.2.1 v2.2.2.2.2.2.2.2.2.2.2.2.1 v2.2.2.2.2.2.2.2.2.2.2.2.2.1 v2.2.2.2.2.2.2.2.2.2.2.2.2.2.1 v2.2.2.2.2.2.2.2.2.2.2.2.2.2.2.1 v2.2.2.2.2.2.2.2.2.2.2.2.2.2.2.2.1 v2.2.2.2.2.2.2.2.2.2.2.2.2.2.2.2.2.1 v2.2.2.2.2.2.2.2.2.2.2.2.2.2.2.2.2.2.1 v2.2.2.2.2.2.2.2.2.2.2.2.2.2.2.2.2.2.2.1 v2.2.2.2.2.2.2.2.2.2.2.2.2.2.2.2.2.2.2.2.1 v2.2.2.2.2.2.2.2.2.2.2.2.2.2.2.2.2.2.2.2.2.1 v2.2.2.2.2.2.2.2.2.2.2.2.2.2.2.2.2.2.2.2.2.2.1 v2.2.2.2.2.2.2.2.2.2.2.2.2.2.2.2.2.2.2.2.2.2.2.1 v2.2.2.2.2.2.2.2.2.2.2.2.2.2.2.2.2.2.2.2.2.2.2.2.1 v2.2.2.2.2.2.2.2.2.2.2.2.2.2.2.2.2.2.2.2.2.2.2.2.2.1 v2.2.1 v2.2.2.1 v2.2.2.2.1 v2.2.2.2.2.1 v2.2.2.2.2.2.1 v2.2.2.2.2.2.2.1 v2.2.2.2.2.2.2.2.2.2.2.2.2.2.2.2.2.2.2.2.2.2.2.2.2.2.1 v2.2.2.2.2.2.2.2.2.2.2.2.2.2.2.2.2.2.2.2.2.2.2.2.2.2.2.1 v2.2.2.2.2.2.2.2.2.2.2.2.2.2.2.2.2.2.2.2.2.2.2.2.2.2.2.2.1 v2.2.2.2.2.2.2.2.2.2.2.2.2.2.2.2.2.2.2.2.2.2.2.2.2.2.2.2.2.1 v2.2.2.2.2.2.2.2.2.2.2.2.2.2.2.2.2.2.2.2.2.2.2.2.2.2.2.2.2.2.1 v2.2.2.2.2.2.2.2.2.2.2.2.2.2.2.2.2.2.2.2.2.2.2.2.2.2.2.2.2.2.2.1 v2.2.2.2.2.2.2.2.2.2.2.2.2.2.2.2.2.2.2.2.2.2.2.2.2.2.2.2.2.2.2.2.1 v2.2.2.2.2.2.2.2.2.2.2.2.2.2.2.2.2.2.2.2.2.2.2.2.2.2.2.2.2.2.2.2.2.1 (2 :: (0 :: (2 :: (18 :: []))))) fun v3 => W.call (engine_Open3NW W v3.2.2.2.2.2.2.2.2.2.2.2.2.2.2.2.2.2.2.2.1 v3.2.2.2.2.2.2.2.2.2.2.2.2.2.2.2.2.2.2.2.2.1 v3.2.2.2.2.2.2.2.2.2.2.2.2.2.2.2.2.2.2.2.2.2.1 v3.2.2.2.2.2.2.2.2.2.2.2.2.2.2.2.2.2.2.2.2.2.2.1 v3.2.2.2.2.2.2.2.2.2.2.2.2.2.2.2.2.2.2.2.2.2.2.2.1 v3.2.2.2.2.2.2.2.2.2.2.2.2.2.2.2.2.2.2.2.2.2.2.2.2.1 4) fun v4 => 
  W.join (fun (z5 : Bool × Bool × Bool × Int × List (Int) × Int × Int × Int × Int × Int × Int × Int × Bool × Int × Int × Int × Int × Int × Int × Bool × List (Int × Int × Int × Int × Int × Int × Int × Int × Int × Int × Int × Int × Int × Int × Int × Int × Int × Int × Int × Int × Int × Int × Int × Int × Int × Int × Int × Int × Int × Int × Int × Int × Int × Int × Int × Int × Int × _ × _) × List (List (Int)) × List (List (Int)) × Unit) => 
   W.cnd z5.1 (some false)
    (W.call (engine_Engine_State2W W v4.2.2.2.2.2.2.2.1 v4.2.2.2.2.2.2.2.2.1 v4.2.2.2.2.2.2.2.2.2.1 v4.2.2.2.2.2.2.2.2.2.2.1 v4.2.2.2.2.2.2.2.2.2.2.2.1 v4.2.2.2.2.2.2.2.2.2.2.2.2.1 v4.2.2.2.2.2.2.2.2.2.2.2.2.2.1 v4.2.2.2.2.2.2.2.2.2.2.2.2.2.2.1 v4.2.2.2.2.2.2.2.2.2.2.2.2.2.2.2.1 v4.2.2.2.2.2.2.2.2.2.2.2.2.2.2.2.2.1 v4.2.2.2.2.2.2.2.2.2.2.2.2.2.2.2.2.2.1 v4.2.2.2.2.2.2.2.2.2.2.2.2.2.2.2.2.2.2.1 v4.2.2.2.2.2.2.2.2.2.2.2.2.2.2.2.2.2.2.2.1 v4.2.2.2.2.2.2.2.2.2.2.2.2.2.2.2.2.2.2.2.2.1 v4.2.2.2.2.2.2.2.2.2.2.2.2.2.2.2.2.2.2.2.2.2.1 v4.2.2.2.2.2.2.2.2.2.2.2.2.2.2.2.2.2.2.2.2.2.2.1 v4.2.2.2.2.2.2.2.2.2.2.2.2.2.2.2.2.2.2.2.2.2.2.2.1 v4.2.2.2.2.2.2.2.2.2.2.2.2.2.2.2.2.2.2.2.2.2.2.2.2.1 z5.2.1 z5.2.2.1 z5.2.2.2.1 z5.2.2.2.2.1 z5.2.2.2.2.2.2.2.2.2.2.2.2.2.2.2.2.2.2.2.2.1 z5.2.2.2.2.2.1 z5.2.2.2.2.2.2.2.2.2.2.2.2.2.1 z5.2.2.2.2.2.2.2.2.2.2.2.2.2.2.1 z5.2.2.2.2.2.2.2.2.2.2.2.2.2.2.2.1 z5.2.2.2.2.2.2.2.2.2.2.2.2.2.2.2.2.1 z5.2.2.2.2.2.2.2.2.2.2.2.2.2.2.2.2.2.1 z5.2.2.2.2.2.2.2.2.2.2.2.2.2.2.2.2.2.2.1 z5.2.2.2.2.2.2.2.2.2.2.2.2.2.2.2.2.2.2.2.2.2.2.1 z5.2.2.2.2.2.2.2.2.2.2.2.2.2.2.2.2.2.2.2.1) fun v6 => 
    W.cnd ((v6.1.2.1.length : Int) == 1) (W.idx v6.1.2.1 0 fun x7 => some (x7.2.1 == 9))
     (some false)))
   fun k8 => 
   W.cnd (v3.1.2.1 != 0) ((k8 (true, (v4.2.1, (v4.2.2.1, (v4.2.2.2.1, (v4.2.2.2.2.1, (v4.2.2.2.2.2.2.1, (v3.2.2.2.2.2.2.2.2.2.2.2.2.2.2.2.2.2.2.2.2.2.2.2.2.2.1, (v3.2.2.2.2.2.2.2.2.2.2.2.2.2.2.2.2.2.2.2.2.2.2.2.2.2.2.1, (v3.2.2.2.2.2.2.2.2.2.2.2.2.2.2.2.2.2.2.2.2.2.2.2.2.2.2.2.1, (v3.2.2.2.2.2.2.2.2.2.2.2.2.2.2.2.2.2.2.2.2.2.2.2.2.2.2.2.2.1, (v3.2.2.2.2.2.2.2.2.2.2.2.2.2.2.2.2.2.2.2.2.2.2.2.2.2.2.2.2.2.1, (v3.2.2.2.2.2.2.2.2.2.2.2.2.2.2.2.2.2.2.2.2.2.2.2.2.2.2.2.2.2.2.1, (v3.2.2.2.2.2.2.2.2.2.2.2.2.2.2.2.2.2.2.2.2.2.2.2.2.2.2.2.2.2.2.2.2.1, (v4.2.2.2.2.2.2.2.2.2.2.2.2.2.2.2.2.2.2.2.2.2.2.2.2.2.1, (v4.2.2.2.2.2.2.2.2.2.2.2.2.2.2.2.2.2.2.2.2.2.2.2.2.2.2.1, (v4.2.2.2.2.2.2.2.2.2.2.2.2.2.2.2.2.2.2.2.2.2.2.2.2.2.2.2.1, (v4.2.2.2.2.2.2.2.2.2.2.2.2.2.2.2.2.2.2.2.2.2.2.2.2.2.2.2.2.1, (v4.2.2.2.2.2.2.2.2.2.2.2.2.2.2.2.2.2.2.2.2.2.2.2.2.2.2.2.2.2.1, (v4.2.2.2.2.2.2.2.2.2.2.2.2.2.2.2.2.2.2.2.2.2.2.2.2.2.2.2.2.2.2.1, (v4.2.2.2.2.2.2.2.2.2.2.2.2.2.2.2.2.2.2.2.2.2.2.2.2.2.2.2.2.2.2.2.2.1, (v4.2.2.2.2.2.1, (v3.2.2.2.2.2.2.2.2.2.2.2.2.2.2.2.2.2.2.2.2.2.2.2.2.2.2.2.2.2.2.2.1, (v4.2.2.2.2.2.2.2.2.2.2.2.2.2.2.2.2.2.2.2.2.2.2.2.2.2.2.2.2.2.2.2.1, ())))))))))))))))))))))))))
    (
    W.cnd (v4.1.2.1 != 0) ((k8 (true, (v4.2.1, (v4.2.2.1, (v4.2.2.2.1, (v4.2.2.2.2.1, (v4.2.2.2.2.2.2.1, (v3.2.2.2.2.2.2.2.2.2.2.2.2.2.2.2.2.2.2.2.2.2.2.2.2.2.1, (v3.2.2.2.2.2.2.2.2.2.2.2.2.2.2.2.2.2.2.2.2.2.2.2.2.2.2.1, (v3.2.2.2.2.2.2.2.2.2.2.2.2.2.2.2.2.2.2.2.2.2.2.2.2.2.2.2.1, (v3.2.2.2.2.2.2.2.2.2.2.2.2.2.2.2.2.2.2.2.2.2.2.2.2.2.2.2.2.1, (v3.2.2.2.2.2.2.2.2.2.2.2.2.2.2.2.2.2.2.2.2.2.2.2.2.2.2.2.2.2.1, (v3.2.2.2.2.2.2.2.2.2.2.2.2.2.2.2.2.2.2.2.2.2.2.2.2.2.2.2.2.2.2.1, (v3.2.2.2.2.2.2.2.2.2.2.2.2.2.2.2.2.2.2.2.2.2.2.2.2.2.2.2.2.2.2.2.2.1, (v4.2.2.2.2.2.2.2.2.2.2.2.2.2.2.2.2.2.2.2.2.2.2.2.2.2.1, (v4.2.2.2.2.2.2.2.2.2.2.2.2.2.2.2.2.2.2.2.2.2.2.2.2.2.2.1, (v4.2.2.2.2.2.2.2.2.2.2.2.2.2.2.2.2.2.2.2.2.2.2.2.2.2.2.2.1, (v4.2.2.2.2.2.2.2.2.2.2.2.2.2.2.2.2.2.2.2.2.2.2.2.2.2.2.2.2.1, (v4.2.2.2.2.2.2.2.2.2.2.2.2.2.2.2.2.2.2.2.2.2.2.2.2.2.2.2.2.2.1, (v4.2.2.2.2.2.2.2.2.2.2.2.2.2.2.2.2.2.2.2.2.2.2.2.2.2.2.2.2.2.2.1, (v4.2.2.2.2.2.2.2.2.2.2.2.2.2.2.2.2.2.2.2.2.2.2.2.2.2.2.2.2.2.2.2.2.1, (v4.2.2.2.2.2.1, (v3.2.2.2.2.2.2.2.2.2.2.2.2.2.2.2.2.2.2.2.2.2.2.2.2.2.2.2.2.2.2.2.1, (v4.2.2.2.2.2.2.2.2.2.2.2.2.2.2.2.2.2.2.2.2.2.2.2.2.2.2.2.2.2.2.2.1, ())))))))))))))))))))))))))
     (W.call (ref01_SameW W v3.1.1 (0 :: (0 :: (0 :: (0 :: []))))) fun v9 => (k8 ((!v9), (v4.2.1, (v4.2.2.1, (v4.2.2.2.1, (v4.2.2.2.2.1, (v4.2.2.2.2.2.2.1, (v3.2.2.2.2.2.2.2.2.2.2.2.2.2.2.2.2.2.2.2.2.2.2.2.2.2.1, (v3.2.2.2.2.2.2.2.2.2.2.2.2.2.2.2.2.2.2.2.2.2.2.2.2.2.2.1, (v3.2.2.2.2.2.2.2.2.2.2.2.2.2.2.2.2.2.2.2.2.2.2.2.2.2.2.2.1, (v3.2.2.2.2.2.2.2.2.2.2.2.2.2.2.2.2.2.2.2.2.2.2.2.2.2.2.2.2.1, (v3.2.2.2.2.2.2.2.2.2.2.2.2.2.2.2.2.2.2.2.2.2.2.2.2.2.2.2.2.2.1, (v3.2.2.2.2.2.2.2.2.2.2.2.2.2.2.2.2.2.2.2.2.2.2.2.2.2.2.2.2.2.2.1, (v3.2.2.2.2.2.2.2.2.2.2.2.2.2.2.2.2.2.2.2.2.2.2.2.2.2.2.2.2.2.2.2.2.1, (v4.2.2.2.2.2.2.2.2.2.2.2.2.2.2.2.2.2.2.2.2.2.2.2.2.2.1, (v4.2.2.2.2.2.2.2.2.2.2.2.2.2.2.2.2.2.2.2.2.2.2.2.2.2.2.1, (v4.2.2.2.2.2.2.2.2.2.2.2.2.2.2.2.2.2.2.2.2.2.2.2.2.2.2.2.1, (v4.2.2.2.2.2.2.2.2.2.2.2.2.2.2.2.2.2.2.2.2.2.2.2.2.2.2.2.2.1, (v4.2.2.2.2.2.2.2.2.2.2.2.2.2.2.2.2.2.2.2.2.2.2.2.2.2.2.2.2.2.1, (v4.2.2.2.2.2.2.2.2.2.2.2.2.2.2.2.2.2.2.2.2.2.2.2.2.2.2.2.2.2.2.1, (v4.2.2.2.2.2.2.2.2.2.2.2.2.2.2.2.2.2.2.2.2.2.2.2.2.2.2.2.2.2.2.2.2.1, (v4.2.2.2.2.2.1, (v3.2.2.2.2.2.2.2.2.2.2.2.2.2.2.2.2.2.2.2.2.2.2.2.2.2.2.2.2.2.2.2.1, (v4.2.2.2.2.2.2.2.2.2.2.2.2.2.2.2.2.2.2.2.2.2.2.2.2.2.2.2.2.2.2.2.1, ())))))))))))))))))))))))))))
def law37_livesN_k : KC Tryz.prog := kes kp 12 .unit (.v .bool) (fun W x => law37_livesNW W ) [drive_New_k, engine_Open3N_k, engine_Engine_Do3_k, ref01_Same_k, engine_Engine_State2_k] [] [(500043, ⟨[(43, .t .bool)], [(0, [.t .bool, .t .bool, .t (.int .i64), .t (.slc (.int .i64)), .row 0, .t (.int .i64)]), (3, [.own 0 0, .t (.int .i64), .t (.int .i64), .t (.int .i64), .t (.int .i64), .t (.int .i64), .t (.int .i64), .row 1, .t .bool]), (6, [.own 0 0, .t (.int .i64), .t (.int .i64), .t (.int .i64), .t (.int .i64), .t (.int .i64), .t (.int .i64), .row 4, .t .bool])], [.own 328 tDriveCell, .own 22 (.slc (.int .u8)), .dead, .dead, .own 22 (.slc (.int .u8))]⟩)] [] Tryz.func12 rfl (by decide +kernel) (fun W x => by kernel_rfl)
def law37_EngineNobodyNW (W : Wd) (b : List Int) (each : Int) : Option Bool := 
 W.cnd (decide (0 < 2)) (
  W.cnd (0 == 1) (W.call (ref01_CutW W b 90) fun v1 => W.call (engine_Engine_DoW W 0 [] [] [] [] [] [] [] [] [] [] [] false v1) fun v2 => W.call (engine_OpenNW W false false 0 [] 0 each) fun v3 => 
   W.cnd (decide (0 < (v2.1.1.length : Int))) (some false)
    (
    W.cnd (v2.1.2.1 != 1) (some false)
     (
     W.cnd (v3.1.2.1 != 1) (some false)
      (W.call (engine_Engine_CompactNW W v2.2.1 v2.2.2.1 v2.2.2.2.1 v2.2.2.2.2.1 v2.2.2.2.2.2.1 v2.2.2.2.2.2.2.1 v2.2.2.2.2.2.2.2.1 v2.2.2.2.2.2.2.2.2.1 v2.2.2.2.2.2.2.2.2.2.1 v2.2.2.2.2.2.2.2.2.2.2.1 v2.2.2.2.2.2.2.2.2.2.2.2.1 v2.2.2.2.2.2.2.2.2.2.2.2.2.1 v2.2.2.2.2.2.2.2.2.2.2.2.2.2.1) fun v4 => 
      W.cnd (v4.1 != 1) (some false)
       (W.call (engine_Engine_StateNW W v4.2.1 v4.2.2.1 v4.2.2.2.1 v4.2.2.2.2.1 v4.2.2.2.2.2.1 v4.2.2.2.2.2.2.1 v4.2.2.2.2.2.2.2.1 v4.2.2.2.2.2.2.2.2.1 v4.2.2.2.2.2.2.2.2.2.1 v4.2.2.2.2.2.2.2.2.2.2.1 v4.2.2.2.2.2.2.2.2.2.2.2.1 v4.2.2.2.2.2.2.2.2.2.2.2.2.1 v4.2.2.2.2.2.2.2.2.2.2.2.2.2.1) fun v5 => W.call (ref33_SameW W v5.1 (0, ([], ([], ([], ([], ([], ([], ([], ([], ([], ([], ([], ()))))))))))))) fun v6 => 
       W.cnd (!v6) (some false)
        (W.call (engine_Engine_LeftNW W v5.2.1 v5.2.2.1 v5.2.2.2.1 v5.2.2.2.2.1 v5.2.2.2.2.2.1 v5.2.2.2.2.2.2.1 v5.2.2.2.2.2.2.2.1 v5.2.2.2.2.2.2.2.2.1 v5.2.2.2.2.2.2.2.2.2.1 v5.2.2.2.2.2.2.2.2.2.2.1 v5.2.2.2.2.2.2.2.2.2.2.2.1 v5.2.2.2.2.2.2.2.2.2.2.2.2.1 v5.2.2.2.2.2.2.2.2.2.2.2.2.2.1) fun v7 => 
        W.cnd (v7.1 != 0) (some false)
         (
         W.cnd (decide ((IntKind.i64.wrap (0 + 1)) < 2)) (
          W.cnd ((IntKind.i64.wrap (0 + 1)) == 1) (W.call (ref01_CutW W b 90) fun v8 => W.call (engine_Engine_DoW W 0 [] [] [] [] [] [] [] [] [] [] [] false v8) fun v9 => W.call (engine_OpenNW W false false 0 [] 0 each) fun v10 => 
           W.cnd (decide (0 < (v9.1.1.length : Int))) (some false)
            (
            W.cnd (v9.1.2.1 != 1) (some false)
             (
             W.cnd (v10.1.2.1 != 1) (some false)
              (W.call (engine_Engine_CompactNW W v9.2.1 v9.2.2.1 v9.2.2.2.1 v9.2.2.2.2.1 v9.2.2.2.2.2.1 v9.2.2.2.2.2.2.1 v9.2.2.2.2.2.2.2.1 v9.2.2.2.2.2.2.2.2.1 v9.2.2.2.2.2.2.2.2.2.1 v9.2.2.2.2.2.2.2.2.2.2.1 v9.2.2.2.2.2.2.2.2.2.2.2.1 v9.2.2.2.2.2.2.2.2.2.2.2.2.1 v9.2.2.2.2.2.2.2.2.2.2.2.2.2.1) fun v11 => 
              W.cnd (v11.1 != 1) (some false)
               (W.call (engine_Engine_StateNW W v11.2.1 v11.2.2.1 v11.2.2.2.1 v11.2.2.2.2.1 v11.2.2.2.2.2.1 v11.2.2.2.2.2.2.1 v11.2.2.2.2.2.2.2.1 v11.2.2.2.2.2.2.2.2.1 v11.2.2.2.2.2.2.2.2.2.1 v11.2.2.2.2.2.2.2.2.2.2.1 v11.2.2.2.2.2.2.2.2.2.2.2.1 v11.2.2.2.2.2.2.2.2.2.2.2.2.1 v11.2.2.2.2.2.2.2.2.2.2.2.2.2.1) fun v12 => W.call (ref33_SameW W v12.1 (0, ([], ([], ([], ([], ([], ([], ([], ([], ([], ([], ([], ()))))))))))))) fun v13 => 
               W.cnd (!v13) (some false)
                (W.call (engine_Engine_LeftNW W v12.2.1 v12.2.2.1 v12.2.2.2.1 v12.2.2.2.2.1 v12.2.2.2.2.2.1 v12.2.2.2.2.2.2.1 v12.2.2.2.2.2.2.2.1 v12.2.2.2.2.2.2.2.2.1 v12.2.2.2.2.2.2.2.2.2.1 v12.2.2.2.2.2.2.2.2.2.2.1 v12.2.2.2.2.2.2.2.2.2.2.2.1 v12.2.2.2.2.2.2.2.2.2.2.2.2.1 v12.2.2.2.2.2.2.2.2.2.2.2.2.2.1) fun v14 => 
                W.cnd (v14.1 != 0) (some false)
                 (
                 W.cnd (decide ((IntKind.i64.wrap ((IntKind.i64.wrap (0 + 1)) + 1)) < 2)) (
                  W.cnd ((IntKind.i64.wrap ((IntKind.i64.wrap (0 + 1)) + 1)) == 1) (W.call (ref01_CutW W b 90) fun v15 => W.call (engine_Engine_DoW W 0 [] [] [] [] [] [] [] [] [] [] [] false v15) fun v16 => W.call (engine_OpenNW W false false 0 [] 0 each) fun v17 => 
                   W.cnd (decide (0 < (v16.1.1.length : Int))) (some false)
                    (
                    W.cnd (v16.1.2.1 != 1) (some false)
                     (
                     W.cnd (v17.1.2.1 != 1) (some false)
                      (W.call (engine_Engine_CompactNW W v16.2.1 v16.2.2.1 v16.2.2.2.1 v16.2.2.2.2.1 v16.2.2.2.2.2.1 v16.2.2.2.2.2.2.1 v16.2.2.2.2.2.2.2.1 v16.2.2.2.2.2.2.2.2.1 v16.2.2.2.2.2.2.2.2.2.1 v16.2.2.2.2.2.2.2.2.2.2.1 v16.2.2.2.2.2.2.2.2.2.2.2.1 v16.2.2.2.2.2.2.2.2.2.2.2.2.1 v16.2.2.2.2.2.2.2.2.2.2.2.2.2.1) fun v18 => 
                      W.cnd (v18.1 != 1) (some false)
                       (W.call (engine_Engine_StateNW W v18.2.1 v18.2.2.1 v18.2.2.2.1 v18.2.2.2.2.1 v18.2.2.2.2.2.1 v18.2.2.2.2.2.2.1 v18.2.2.2.2.2.2.2.1 v18.2.2.2.2.2.2.2.2.1 v18.2.2.2.2.2.2.2.2.2.1 v18.2.2.2.2.2.2.2.2.2.2.1 v18.2.2.2.2.2.2.2.2.2.2.2.1 v18.2.2.2.2.2.2.2.2.2.2.2.2.1 v18.2.2.2.2.2.2.2.2.2.2.2.2.2.1) fun v19 => W.call (ref33_SameW W v19.1 (0, ([], ([], ([], ([], ([], ([], ([], ([], ([], ([], ([], ()))))))))))))) fun v20 => 
                       W.cnd (!v20) (some false)
                        (W.call (engine_Engine_LeftNW W v19.2.1 v19.2.2.1 v19.2.2.2.1 v19.2.2.2.2.1 v19.2.2.2.2.2.1 v19.2.2.2.2.2.2.1 v19.2.2.2.2.2.2.2.1 v19.2.2.2.2.2.2.2.2.1 v19.2.2.2.2.2.2.2.2.2.1 v19.2.2.2.2.2.2.2.2.2.2.1 v19.2.2.2.2.2.2.2.2.2.2.2.1 v19.2.2.2.2.2.2.2.2.2.2.2.2.1 v19.2.2.2.2.2.2.2.2.2.2.2.2.2.1) fun v21 => 
                        W.cnd (v21.1 != 0) (some false)
                         (
                         W.cnd (decide ((IntKind.i64.wrap ((IntKind.i64.wrap ((IntKind.i64.wrap (0 + 1)) + 1)) + 1)) < 2)) (
                          W.cnd ((IntKind.i64.wrap ((IntKind.i64.wrap ((IntKind.i64.wrap (0 + 1)) + 1)) + 1)) == 1) (W.call (ref01_CutW W b 90) fun v22 => W.call (engine_Engine_DoW W 0 [] [] [] [] [] [] [] [] [] [] [] false v22) fun v23 => W.call (engine_OpenNW W false false 0 [] 0 each) fun v24 => 
                           W.cnd (decide (0 < (v23.1.1.length : Int))) (some false)
                            (
                            W.cnd (v23.1.2.1 != 1) (some false)
                             (
                             W.cnd (v24.1.2.1 != 1) (some false)
                              (W.call (engine_Engine_CompactNW W v23.2.1 v23.2.2.1 v23.2.2.2.1 v23.2.2.2.2.1 v23.2.2.2.2.2.1 v23.2.2.2.2.2.2.1 v23.2.2.2.2.2.2.2.1 v23.2.2.2.2.2.2.2.2.1 v23.2.2.2.2.2.2.2.2.2.1 v23.2.2.2.2.2.2.2.2.2.2.1 v23.2.2.2.2.2.2.2.2.2.2.2.1 v23.2.2.2.2.2.2.2.2.2.2.2.2.1 v23.2.2.2.2.2.2.2.2.2.2.2.2.2.1) fun v25 => 
                              W.cnd (v25.1 != 1) (some false)
                               (W.call (engine_Engine_StateNW W v25.2.1 v25.2.2.1 v25.2.2.2.1 v25.2.2.2.2.1 v25.2.2.2.2.2.1 v25.2.2.2.2.2.2.1 v25.2.2.2.2.2.2.2.1 v25.2.2.2.2.2.2.2.2.1 v25.2.2.2.2.2.2.2.2.2.1 v25.2.2.2.2.2.2.2.2.2.2.1 v25.2.2.2.2.2.2.2.2.2.2.2.1 v25.2.2.2.2.2.2.2.2.2.2.2.2.1 v25.2.2.2.2.2.2.2.2.2.2.2.2.2.1) fun v26 => W.call (ref33_SameW W v26.1 (0, ([], ([], ([], ([], ([], ([], ([], ([], ([], ([], ([], ()))))))))))))) fun v27 => 
                               W.cnd (!v27) (some false)
                                (W.call (engine_Engine_LeftNW W v26.2.1 v26.2.2.1 v26.2.2.2.1 v26.2.2.2.2.1 v26.2.2.2.2.2.1 v26.2.2.2.2.2.2.1 v26.2.2.2.2.2.2.2.1 v26.2.2.2.2.2.2.2.2.1 v26.2.2.2.2.2.2.2.2.2.1 v26.2.2.2.2.2.2.2.2.2.2.1 v26.2.2.2.2.2.2.2.2.2.2.2.1 v26.2.2.2.2.2.2.2.2.2.2.2.2.1 v26.2.2.2.2.2.2.2.2.2.2.2.2.2.1) fun v28 => 
                                W.cnd (v28.1 != 0) (some false)
                                 (
                                 W.cnd (decide ((IntKind.i64.wrap ((IntKind.i64.wrap ((IntKind.i64.wrap ((IntKind.i64.wrap (0 + 1)) + 1)) + 1)) + 1)) < 2)) (
                                  W.cnd ((IntKind.i64.wrap ((IntKind.i64.wrap ((IntKind.i64.wrap ((IntKind.i64.wrap (0 + 1)) + 1)) + 1)) + 1)) == 1) (W.call (ref01_CutW W b 90) fun v29 => W.call (engine_Engine_DoW W 0 [] [] [] [] [] [] [] [] [] [] [] false v29) fun v30 => W.call (engine_OpenNW W false false 0 [] 0 each) fun v31 => 
                                   W.cnd (decide (0 < (v30.1.1.length : Int))) (some false)
                                    (
                                    W.cnd (v30.1.2.1 != 1) (some false)
                                     (
                                     W.cnd (v31.1.2.1 != 1) (some false)
                                      (W.call (engine_Engine_CompactNW W v30.2.1 v30.2.2.1 v30.2.2.2.1 v30.2.2.2.2.1 v30.2.2.2.2.2.1 v30.2.2.2.2.2.2.1 v30.2.2.2.2.2.2.2.1 v30.2.2.2.2.2.2.2.2.1 v30.2.2.2.2.2.2.2.2.2.1 v30.2.2.2.2.2.2.2.2.2.2.1 v30.2.2.2.2.2.2.2.2.2.2.2.1 v30.2.2.2.2.2.2.2.2.2.2.2.2.1 v30.2.2.2.2.2.2.2.2.2.2.2.2.2.1) fun v32 => 
                                      W.cnd (v32.1 != 1) (some false)
                                       (W.call (engine_Engine_StateNW W v32.2.1 v32.2.2.1 v32.2.2.2.1 v32.2.2.2.2.1 v32.2.2.2.2.2.1 v32.2.2.2.2.2.2.1 v32.2.2.2.2.2.2.2.1 v32.2.2.2.2.2.2.2.2.1 v32.2.2.2.2.2.2.2.2.2.1 v32.2.2.2.2.2.2.2.2.2.2.1 v32.2.2.2.2.2.2.2.2.2.2.2.1 v32.2.2.2.2.2.2.2.2.2.2.2.2.1 v32.2.2.2.2.2.2.2.2.2.2.2.2.2.1) fun v33 => W.call (ref33_SameW W v33.1 (0, ([], ([], ([], ([], ([], ([], ([], ([], ([], ([], ([], ()))))))))))))) fun v34 => 
                                       W.cnd (!v34) (some false)
                                        (W.call (engine_Engine_LeftNW W v33.2.1 v33.2.2.1 v33.2.2.2.1 v33.2.2.2.2.1 v33.2.2.2.2.2.1 v33.2.2.2.2.2.2.1 v33.2.2.2.2.2.2.2.1 v33.2.2.2.2.2.2.2.2.1 v33.2.2.2.2.2.2.2.2.2.1 v33.2.2.2.2.2.2.2.2.2.2.1 v33.2.2.2.2.2.2.2.2.2.2.2.1 v33.2.2.2.2.2.2.2.2.2.2.2.2.1 v33.2.2.2.2.2.2.2.2.2.2.2.2.2.1) fun v35 => 
                                        W.cnd (v35.1 != 0) (some false)
                                         (none)))))))
                                   (W.call (ref01_CutW W b 90) fun v36 => W.call (engine_Engine_Do2W W v36) fun v37 => W.call (engine_Open2W W each) fun v38 => 
                                   W.cnd (decide (0 < (v37.1.1.length : Int))) (some false)
                                    (
                                    W.cnd (v37.1.2.1 != 1) (some false)
                                     (
                                     W.cnd (v38.1.2.1 != 1) (some false)
                                      (W.call (engine_Engine_CompactW W) fun v39 => 
                                      W.cnd (v39.1 != 1) (some false)
                                       (W.call (engine_Engine_StateW W) fun v40 => W.call (ref33_SameW W v40.1 (0, ([], ([], ([], ([], ([], ([], ([], ([], ([], ([], ([], ()))))))))))))) fun v41 => 
                                       W.cnd (!v41) (some false)
                                        (W.call (engine_Engine_LeftW W) fun v42 => 
                                        W.cnd (v42.1 != 0) (some false)
                                         (none))))))))
                                  (W.call (law37_livesNW W) fun v43 => some v43))))))))
                           (W.call (ref01_CutW W b 90) fun v44 => W.call (engine_Engine_Do2W W v44) fun v45 => W.call (engine_Open2W W each) fun v46 => 
                           W.cnd (decide (0 < (v45.1.1.length : Int))) (some false)
                            (
                            W.cnd (v45.1.2.1 != 1) (some false)
                             (
                             W.cnd (v46.1.2.1 != 1) (some false)
                              (W.call (engine_Engine_CompactW W) fun v47 => 
                              W.cnd (v47.1 != 1) (some false)
                               (W.call (engine_Engine_StateW W) fun v48 => W.call (ref33_SameW W v48.1 (0, ([], ([], ([], ([], ([], ([], ([], ([], ([], ([], ([], ()))))))))))))) fun v49 => 
                               W.cnd (!v49) (some false)
                                (W.call (engine_Engine_LeftW W) fun v50 => 
                                W.cnd (v50.1 != 0) (some false)
                                 (
                                 W.cnd (decide ((IntKind.i64.wrap ((IntKind.i64.wrap ((IntKind.i64.wrap ((IntKind.i64.wrap (0 + 1)) + 1)) + 1)) + 1)) < 2)) (
                                  W.cnd ((IntKind.i64.wrap ((IntKind.i64.wrap ((IntKind.i64.wrap ((IntKind.i64.wrap (0 + 1)) + 1)) + 1)) + 1)) == 1) (W.call (ref01_CutW W b 90) fun v51 => W.call (engine_Engine_DoW W 0 [] [] [] [] [] [] [] [] [] [] [] false v51) fun v52 => W.call (engine_OpenNW W false false 0 [] 0 each) fun v53 => 
                                   W.cnd (decide (0 < (v52.1.1.length : Int))) (some false)
                                    (
                                    W.cnd (v52.1.2.1 != 1) (some false)
                                     (
                                     W.cnd (v53.1.2.1 != 1) (some false)
                                      (W.call (engine_Engine_CompactNW W v52.2.1 v52.2.2.1 v52.2.2.2.1 v52.2.2.2.2.1 v52.2.2.2.2.2.1 v52.2.2.2.2.2.2.1 v52.2.2.2.2.2.2.2.1 v52.2.2.2.2.2.2.2.2.1 v52.2.2.2.2.2.2.2.2.2.1 v52.2.2.2.2.2.2.2.2.2.2.1 v52.2.2.2.2.2.2.2.2.2.2.2.1 v52.2.2.2.2.2.2.2.2.2.2.2.2.1 v52.2.2.2.2.2.2.2.2.2.2.2.2.2.1) fun v54 => 
                                      W.cnd (v54.1 != 1) (some false)
                                       (W.call (engine_Engine_StateNW W v54.2.1 v54.2.2.1 v54.2.2.2.1 v54.2.2.2.2.1 v54.2.2.2.2.2.1 v54.2.2.2.2.2.2.1 v54.2.2.2.2.2.2.2.1 v54.2.2.2.2.2.2.2.2.1 v54.2.2.2.2.2.2.2.2.2.1 v54.2.2.2.2.2.2.2.2.2.2.1 v54.2.2.2.2.2.2.2.2.2.2.2.1 v54.2.2.2.2.2.2.2.2.2.2.2.2.1 v54.2.2.2.2.2.2.2.2.2.2.2.2.2.1) fun v55 => W.call (ref33_SameW W v55.1 (0, ([], ([], ([], ([], ([], ([], ([], ([], ([], ([], ([], ()))))))))))))) fun v56 => 
                                       W.cnd (!v56) (some false)
                                        (W.call (engine_Engine_LeftNW W v55.2.1 v55.2.2.1 v55.2.2.2.1 v55.2.2.2.2.1 v55.2.2.2.2.2.1 v55.2.2.2.2.2.2.1 v55.2.2.2.2.2.2.2.1 v55.2.2.2.2.2.2.2.2.1 v55.2.2.2.2.2.2.2.2.2.1 v55.2.2.2.2.2.2.2.2.2.2.1 v55.2.2.2.2.2.2.2.2.2.2.2.1 v55.2.2.2.2.2.2.2.2.2.2.2.2.1 v55.2.2.2.2.2.2.2.2.2.2.2.2.2.1) fun v57 => 
                                        W.cnd (v57.1 != 0) (some false)
                                         (none)))))))
                                   (W.call (ref01_CutW W b 90) fun v58 => W.call (engine_Engine_Do2W W v58) fun v59 => W.call (engine_Open2W W each) fun v60 => 
                                   W.cnd (decide (0 < (v59.1.1.length : Int))) (some false)
                                    (
                                    W.cnd (v59.1.2.1 != 1) (some false)
                                     (
                                     W.cnd (v60.1.2.1 != 1) (some false)
                                      (W.call (engine_Engine_CompactW W) fun v61 => 
                                      W.cnd (v61.1 != 1) (some false)
                                       (W.call (engine_Engine_StateW W) fun v62 => W.call (ref33_SameW W v62.1 (0, ([], ([], ([], ([], ([], ([], ([], ([], ([], ([], ([], ()))))))))))))) fun v63 => 
                                       W.cnd (!v63) (some false)
                                        (W.call (engine_Engine_LeftW W) fun v64 => 
                                        W.cnd (v64.1 != 0) (some false)
                                         (none))))))))
                                  (W.call (law37_livesNW W) fun v65 => some v65)))))))))
                          (W.call (law37_livesNW W) fun v66 => some v66))))))))
                   (W.call (ref01_CutW W b 90) fun v67 => W.call (engine_Engine_Do2W W v67) fun v68 => W.call (engine_Open2W W each) fun v69 => 
                   W.cnd (decide (0 < (v68.1.1.length : Int))) (some false)
                    (
                    W.cnd (v68.1.2.1 != 1) (some false)
                     (
                     W.cnd (v69.1.2.1 != 1) (some false)
                      (W.call (engine_Engine_CompactW W) fun v70 => 
                      W.cnd (v70.1 != 1) (some false)
                       (W.call (engine_Engine_StateW W) fun v71 => W.call (ref33_SameW W v71.1 (0, ([], ([], ([], ([], ([], ([], ([], ([], ([], ([], ([], ()))))))))))))) fun v72 => 
                       W.cnd (!v72) (some false)
                        (W.call (engine_Engine_LeftW W) fun v73 => 
                        W.cnd (v73.1 != 0) (some false)
                         (
                         W.cnd (decide ((IntKind.i64.wrap ((IntKind.i64.wrap ((IntKind.i64.wrap (0 + 1)) + 1)) + 1)) < 2)) (
                          W.cnd ((IntKind.i64.wrap ((IntKind.i64.wrap ((IntKind.i64.wrap (0 + 1)) + 1)) + 1)) == 1) (W.call (ref01_CutW W b 90) fun v74 => W.call (engine_Engine_DoW W 0 [] [] [] [] [] [] [] [] [] [] [] false v74) fun v75 => W.call (engine_OpenNW W false false 0 [] 0 each) fun v76 => 
                           W.cnd (decide (0 < (v75.1.1.length : Int))) (some false)
                            (
                            W.cnd (v75.1.2.1 != 1) (some false)
                             (
                             W.cnd (v76.1.2.1 != 1) (some false)
                              (W.call (engine_Engine_CompactNW W v75.2.1 v75.2.2.1 v75.2.2.2.1 v75.2.2.2.2.1 v75.2.2.2.2.2.1 v75.2.2.2.2.2.2.1 v75.2.2.2.2.2.2.2.1 v75.2.2.2.2.2.2.2.2.1 v75.2.2.2.2.2.2.2.2.2.1 v75.2.2.2.2.2.2.2.2.2.2.1 v75.2.2.2.2.2.2.2.2.2.2.2.1 v75.2.2.2.2.2.2.2.2.2.2.2.2.1 v75.2.2.2.2.2.2.2.2.2.2.2.2.2.1) fun v77 => 
                              W.cnd (v77.1 != 1) (some false)
                               (W.call (engine_Engine_StateNW W v77.2.1 v77.2.2.1 v77.2.2.2.1 v77.2.2.2.2.1 v77.2.2.2.2.2.1 v77.2.2.2.2.2.2.1 v77.2.2.2.2.2.2.2.1 v77.2.2.2.2.2.2.2.2.1 v77.2.2.2.2.2.2.2.2.2.1 v77.2.2.2.2.2.2.2.2.2.2.1 v77.2.2.2.2.2.2.2.2.2.2.2.1 v77.2.2.2.2.2.2.2.2.2.2.2.2.1 v77.2.2.2.2.2.2.2.2.2.2.2.2.2.1) fun v78 => W.call (ref33_SameW W v78.1 (0, ([], ([], ([], ([], ([], ([], ([], ([], ([], ([], ([], ()))))))))))))) fun v79 => 
                               W.cnd (!v79) (some false)
                                (W.call (engine_Engine_LeftNW W v78.2.1 v78.2.2.1 v78.2.2.2.1 v78.2.2.2.2.1 v78.2.2.2.2.2.1 v78.2.2.2.2.2.2.1 v78.2.2.2.2.2.2.2.1 v78.2.2.2.2.2.2.2.2.1 v78.2.2.2.2.2.2.2.2.2.1 v78.2.2.2.2.2.2.2.2.2.2.1 v78.2.2.2.2.2.2.2.2.2.2.2.1 v78.2.2.2.2.2.2.2.2.2.2.2.2.1 v78.2.2.2.2.2.2.2.2.2.2.2.2.2.1) fun v80 => 
                                W.cnd (v80.1 != 0) (some false)
                                 (
                                 W.cnd (decide ((IntKind.i64.wrap ((IntKind.i64.wrap ((IntKind.i64.wrap ((IntKind.i64.wrap (0 + 1)) + 1)) + 1)) + 1)) < 2)) (
                                  W.cnd ((IntKind.i64.wrap ((IntKind.i64.wrap ((IntKind.i64.wrap ((IntKind.i64.wrap (0 + 1)) + 1)) + 1)) + 1)) == 1) (W.call (ref01_CutW W b 90) fun v81 => W.call (engine_Engine_DoW W 0 [] [] [] [] [] [] [] [] [] [] [] false v81) fun v82 => W.call (engine_OpenNW W false false 0 [] 0 each) fun v83 => 
                                   W.cnd (decide (0 < (v82.1.1.length : Int))) (some false)
                                    (
                                    W.cnd (v82.1.2.1 != 1) (some false)
                                     (
                                     W.cnd (v83.1.2.1 != 1) (some false)
                                      (W.call (engine_Engine_CompactNW W v82.2.1 v82.2.2.1 v82.2.2.2.1 v82.2.2.2.2.1 v82.2.2.2.2.2.1 v82.2.2.2.2.2.2.1 v82.2.2.2.2.2.2.2.1 v82.2.2.2.2.2.2.2.2.1 v82.2.2.2.2.2.2.2.2.2.1 v82.2.2.2.2.2.2.2.2.2.2.1 v82.2.2.2.2.2.2.2.2.2.2.2.1 v82.2.2.2.2.2.2.2.2.2.2.2.2.1 v82.2.2.2.2.2.2.2.2.2.2.2.2.2.1) fun v84 => 
                                      W.cnd (v84.1 != 1) (some false)
                                       (W.call (engine_Engine_StateNW W v84.2.1 v84.2.2.1 v84.2.2.2.1 v84.2.2.2.2.1 v84.2.2.2.2.2.1 v84.2.2.2.2.2.2.1 v84.2.2.2.2.2.2.2.1 v84.2.2.2.2.2.2.2.2.1 v84.2.2.2.2.2.2.2.2.2.1 v84.2.2.2.2.2.2.2.2.2.2.1 v84.2.2.2.2.2.2.2.2.2.2.2.1 v84.2.2.2.2.2.2.2.2.2.2.2.2.1 v84.2.2.2.2.2.2.2.2.2.2.2.2.2.1) fun v85 => W.call (ref33_SameW W v85.1 (0, ([], ([], ([], ([], ([], ([], ([], ([], ([], ([], ([], ()))))))))))))) fun v86 => 
                                       W.cnd (!v86) (some false)
                                        (W.call (engine_Engine_LeftNW W v85.2.1 v85.2.2.1 v85.2.2.2.1 v85.2.2.2.2.1 v85.2.2.2.2.2.1 v85.2.2.2.2.2.2.1 v85.2.2.2.2.2.2.2.1 v85.2.2.2.2.2.2.2.2.1 v85.2.2.2.2.2.2.2.2.2.1 v85.2.2.2.2.2.2.2.2.2.2.1 v85.2.2.2.2.2.2.2.2.2.2.2.1 v85.2.2.2.2.2.2.2.2.2.2.2.2.1 v85.2.2.2.2.2.2.2.2.2.2.2.2.2.1) fun v87 => 
                                        W.cnd (v87.1 != 0) (some false)
                                         (none)))))))
                                   (W.call (ref01_CutW W b 90) fun v88 => W.call (engine_Engine_Do2W W v88) fun v89 => W.call (engine_Open2W W each) fun v90 => 
                                   W.cnd (decide (0 < (v89.1.1.length : Int))) (some false)
                                    (
                                    W.cnd (v89.1.2.1 != 1) (some false)
                                     (
                                     W.cnd (v90.1.2.1 != 1) (some false)
                                      (W.call (engine_Engine_CompactW W) fun v91 => 
                                      W.cnd (v91.1 != 1) (some false)
                                       (W.call (engine_Engine_StateW W) fun v92 => W.call (ref33_SameW W v92.1 (0, ([], ([], ([], ([], ([], ([], ([], ([], ([], ([], ([], ()))))))))))))) fun v93 => 
                                       W.cnd (!v93) (some false)
                                        (W.call (engine_Engine_LeftW W) fun v94 => 
                                        W.cnd (v94.1 != 0) (some false)
                                         (none))))))))
                                  (W.call (law37_livesNW W) fun v95 => some v95))))))))
                           (W.call (ref01_CutW W b 90) fun v96 => W.call (engine_Engine_Do2W W v96) fun v97 => W.call (engine_Open2W W each) fun v98 => 
                           W.cnd (decide (0 < (v97.1.1.length : Int))) (some false)
                            (
                            W.cnd (v97.1.2.1 != 1) (some false)
                             (
                             W.cnd (v98.1.2.1 != 1) (some false)
                              (W.call (engine_Engine_CompactW W) fun v99 => 
                              W.cnd (v99.1 != 1) (some false)
                               (W.call (engine_Engine_StateW W) fun v100 => W.call (ref33_SameW W v100.1 (0, ([], ([], ([], ([], ([], ([], ([], ([], ([], ([], ([], ()))))))))))))) fun v101 => 
                               W.cnd (!v101) (some false)
                                (W.call (engine_Engine_LeftW W) fun v102 => 
                                W.cnd (v102.1 != 0) (some false)
                                 (
                                 W.cnd (decide ((IntKind.i64.wrap ((IntKind.i64.wrap ((IntKind.i64.wrap ((IntKind.i64.wrap (0 + 1)) + 1)) + 1)) + 1)) < 2)) (
                                  W.cnd ((IntKind.i64.wrap ((IntKind.i64.wrap ((IntKind.i64.wrap ((IntKind.i64.wrap (0 + 1)) + 1)) + 1)) + 1)) == 1) (W.call (ref01_CutW W b 90) fun v103 => W.call (engine_Engine_DoW W 0 [] [] [] [] [] [] [] [] [] [] [] false v103) fun v104 => W.call (engine_OpenNW W false false 0 [] 0 each) fun v105 => 
                                   W.cnd (decide (0 < (v104.1.1.length : Int))) (some false)
                                    (
                                    W.cnd (v104.1.2.1 != 1) (some false)
                                     (
                                     W.cnd (v105.1.2.1 != 1) (some false)
                                      (W.call (engine_Engine_CompactNW W v104.2.1 v104.2.2.1 v104.2.2.2.1 v104.2.2.2.2.1 v104.2.2.2.2.2.1 v104.2.2.2.2.2.2.1 v104.2.2.2.2.2.2.2.1 v104.2.2.2.2.2.2.2.2.1 v104.2.2.2.2.2.2.2.2.2.1 v104.2.2.2.2.2.2.2.2.2.2.1 v104.2.2.2.2.2.2.2.2.2.2.2.1 v104.2.2.2.2.2.2.2.2.2.2.2.2.1 v104.2.2.2.2.2.2.2.2.2.2.2.2.2.1) fun v106 => 
                                      W.cnd (v106.1 != 1) (some false)
                                       (W.call (engine_Engine_StateNW W v106.2.1 v106.2.2.1 v106.2.2.2.1 v106.2.2.2.2.1 v106.2.2.2.2.2.1 v106.2.2.2.2.2.2.1 v106.2.2.2.2.2.2.2.1 v106.2.2.2.2.2.2.2.2.1 v106.2.2.2.2.2.2.2.2.2.1 v106.2.2.2.2.2.2.2.2.2.2.1 v106.2.2.2.2.2.2.2.2.2.2.2.1 v106.2.2.2.2.2.2.2.2.2.2.2.2.1 v106.2.2.2.2.2.2.2.2.2.2.2.2.2.1) fun v107 => W.call (ref33_SameW W v107.1 (0, ([], ([], ([], ([], ([], ([], ([], ([], ([], ([], ([], ()))))))))))))) fun v108 => 
                                       W.cnd (!v108) (some false)
                                        (W.call (engine_Engine_LeftNW W v107.2.1 v107.2.2.1 v107.2.2.2.1 v107.2.2.2.2.1 v107.2.2.2.2.2.1 v107.2.2.2.2.2.2.1 v107.2.2.2.2.2.2.2.1 v107.2.2.2.2.2.2.2.2.1 v107.2.2.2.2.2.2.2.2.2.1 v107.2.2.2.2.2.2.2.2.2.2.1 v107.2.2.2.2.2.2.2.2.2.2.2.1 v107.2.2.2.2.2.2.2.2.2.2.2.2.1 v107.2.2.2.2.2.2.2.2.2.2.2.2.2.1) fun v109 => 
                                        W.cnd (v109.1 != 0) (some false)
                                         (none)))))))
                                   (W.call (ref01_CutW W b 90) fun v110 => W.call (engine_Engine_Do2W W v110) fun v111 => W.call (engine_Open2W W each) fun v112 => 
                                   W.cnd (decide (0 < (v111.1.1.length : Int))) (some false)
                                    (
                                    W.cnd (v111.1.2.1 != 1) (some false)
                                     (
                                     W.cnd (v112.1.2.1 != 1) (some false)
                                      (W.call (engine_Engine_CompactW W) fun v113 => 
                                      W.cnd (v113.1 != 1) (some false)
                                       (W.call (engine_Engine_StateW W) fun v114 => W.call (ref33_SameW W v114.1 (0, ([], ([], ([], ([], ([], ([], ([], ([], ([], ([], ([], ()))))))))))))) fun v115 => 
                                       W.cnd (!v115) (some false)
                                        (W.call (engine_Engine_LeftW W) fun v116 => 
                                        W.cnd (v116.1 != 0) (some false)
                                         (none))))))))
                                  (W.call (law37_livesNW W) fun v117 => some v117)))))))))
                          (W.call (law37_livesNW W) fun v118 => some v118)))))))))
                  (W.call (law37_livesNW W) fun v119 => some v119))))))))
           (W.call (ref01_CutW W b 90) fun v120 => W.call (engine_Engine_Do2W W v120) fun v121 => W.call (engine_Open2W W each) fun v122 => 
           W.cnd (decide (0 < (v121.1.1.length : Int))) (some false)
            (
            W.cnd (v121.1.2.1 != 1) (some false)
             (
             W.cnd (v122.1.2.1 != 1) (some false)
              (W.call (engine_Engine_CompactW W) fun v123 => 
              W.cnd (v123.1 != 1) (some false)
               (W.call (engine_Engine_StateW W) fun v124 => W.call (ref33_SameW W v124.1 (0, ([], ([], ([], ([], ([], ([], ([], ([], ([], ([], ([], ()))))))))))))) fun v125 => 
               W.cnd (!v125) (some false)
                (W.call (engine_Engine_LeftW W) fun v126 => 
                W.cnd (v126.1 != 0) (some false)
                 (
                 W.cnd (decide ((IntKind.i64.wrap ((IntKind.i64.wrap (0 + 1)) + 1)) < 2)) (
                  W.cnd ((IntKind.i64.wrap ((IntKind.i64.wrap (0 + 1)) + 1)) == 1) (W.call (ref01_CutW W b 90) fun v127 => W.call (engine_Engine_DoW W 0 [] [] [] [] [] [] [] [] [] [] [] false v127) fun v128 => W.call (engine_OpenNW W false false 0 [] 0 each) fun v129 => 
                   W.cnd (decide (0 < (v128.1.1.length : Int))) (some false)
                    (
                    W.cnd (v128.1.2.1 != 1) (some false)
                     (
                     W.cnd (v129.1.2.1 != 1) (some false)
                      (W.call (engine_Engine_CompactNW W v128.2.1 v128.2.2.1 v128.2.2.2.1 v128.2.2.2.2.1 v128.2.2.2.2.2.1 v128.2.2.2.2.2.2.1 v128.2.2.2.2.2.2.2.1 v128.2.2.2.2.2.2.2.2.1 v128.2.2.2.2.2.2.2.2.2.1 v128.2.2.2.2.2.2.2.2.2.2.1 v128.2.2.2.2.2.2.2.2.2.2.2.1 v128.2.2.2.2.2.2.2.2.2.2.2.2.1 v128.2.2.2.2.2.2.2.2.2.2.2.2.2.1) fun v130 => 
                      W.cnd (v130.1 != 1) (some false)
                       (W.call (engine_Engine_StateNW W v130.2.1 v130.2.2.1 v130.2.2.2.1 v130.2.2.2.2.1 v130.2.2.2.2.2.1 v130.2.2.2.2.2.2.1 v130.2.2.2.2.2.2.2.1 v130.2.2.2.2.2.2.2.2.1 v130.2.2.2.2.2.2.2.2.2.1 v130.2.2.2.2.2.2.2.2.2.2.1 v130.2.2.2.2.2.2.2.2.2.2.2.1 v130.2.2.2.2.2.2.2.2.2.2.2.2.1 v130.2.2.2.2.2.2.2.2.2.2.2.2.2.1) fun v131 => W.call (ref33_SameW W v131.1 (0, ([], ([], ([], ([], ([], ([], ([], ([], ([], ([], ([], ()))))))))))))) fun v132 => 
                       W.cnd (!v132) (some false)
                        (W.call (engine_Engine_LeftNW W v131.2.1 v131.2.2.1 v131.2.2.2.1 v131.2.2.2.2.1 v131.2.2.2.2.2.1 v131.2.2.2.2.2.2.1 v131.2.2.2.2.2.2.2.1 v131.2.2.2.2.2.2.2.2.1 v131.2.2.2.2.2.2.2.2.2.1 v131.2.2.2.2.2.2.2.2.2.2.1 v131.2.2.2.2.2.2.2.2.2.2.2.1 v131.2.2.2.2.2.2.2.2.2.2.2.2.1 v131.2.2.2.2.2.2.2.2.2.2.2.2.2.1) fun v133 => 
                        W.cnd (v133.1 != 0) (some false)
                         (
                         W.cnd (decide ((IntKind.i64.wrap ((IntKind.i64.wrap ((IntKind.i64.wrap (0 + 1)) + 1)) + 1)) < 2)) (
                          W.cnd ((IntKind.i64.wrap ((IntKind.i64.wrap ((IntKind.i64.wrap (0 + 1)) + 1)) + 1)) == 1) (W.call (ref01_CutW W b 90) fun v134 => W.call (engine_Engine_DoW W 0 [] [] [] [] [] [] [] [] [] [] [] false v134) fun v135 => W.call (engine_OpenNW W false false 0 [] 0 each) fun v136 => 
                           W.cnd (decide (0 < (v135.1.1.length : Int))) (some false)
                            (
                            W.cnd (v135.1.2.1 != 1) (some false)
                             (
                             W.cnd (v136.1.2.1 != 1) (some false)
                              (W.call (engine_Engine_CompactNW W v135.2.1 v135.2.2.1 v135.2.2.2.1 v135.2.2.2.2.1 v135.2.2.2.2.2.1 v135.2.2.2.2.2.2.1 v135.2.2.2.2.2.2.2.1 v135.2.2.2.2.2.2.2.2.1 v135.2.2.2.2.2.2.2.2.2.1 v135.2.2.2.2.2.2.2.2.2.2.1 v135.2.2.2.2.2.2.2.2.2.2.2.1 v135.2.2.2.2.2.2.2.2.2.2.2.2.1 v135.2.2.2.2.2.2.2.2.2.2.2.2.2.1) fun v137 => 
                              W.cnd (v137.1 != 1) (some false)
                               (W.call (engine_Engine_StateNW W v137.2.1 v137.2.2.1 v137.2.2.2.1 v137.2.2.2.2.1 v137.2.2.2.2.2.1 v137.2.2.2.2.2.2.1 v137.2.2.2.2.2.2.2.1 v137.2.2.2.2.2.2.2.2.1 v137.2.2.2.2.2.2.2.2.2.1 v137.2.2.2.2.2.2.2.2.2.2.1 v137.2.2.2.2.2.2.2.2.2.2.2.1 v137.2.2.2.2.2.2.2.2.2.2.2.2.1 v137.2.2.2.2.2.2.2.2.2.2.2.2.2.1) fun v138 => W.call (ref33_SameW W v138.1 (0, ([], ([], ([], ([], ([], ([], ([], ([], ([], ([], ([], ()))))))))))))) fun v139 => 
                               W.cnd (!v139) (some false)
                                (W.call (engine_Engine_LeftNW W v138.2.1 v138.2.2.1 v138.2.2.2.1 v138.2.2.2.2.1 v138.2.2.2.2.2.1 v138.2.2.2.2.2.2.1 v138.2.2.2.2.2.2.2.1 v138.2.2.2.2.2.2.2.2.1 v138.2.2.2.2.2.2.2.2.2.1 v138.2.2.2.2.2.2.2.2.2.2.1 v138.2.2.2.2.2.2.2.2.2.2.2.1 v138.2.2.2.2.2.2.2.2.2.2.2.2.1 v138.2.2.2.2.2.2.2.2.2.2.2.2.2.1) fun v140 => 
                                W.cnd (v140.1 != 0) (some false)
                                 (
                                 W.cnd (decide ((IntKind.i64.wrap ((IntKind.i64.wrap ((IntKind.i64.wrap ((IntKind.i64.wrap (0 + 1)) + 1)) + 1)) + 1)) < 2)) (
                                  W.cnd ((IntKind.i64.wrap ((IntKind.i64.wrap ((IntKind.i64.wrap ((IntKind.i64.wrap (0 + 1)) + 1)) + 1)) + 1)) == 1) (W.call (ref01_CutW W b 90) fun v141 => W.call (engine_Engine_DoW W 0 [] [] [] [] [] [] [] [] [] [] [] false v141) fun v142 => W.call (engine_OpenNW W false false 0 [] 0 each) fun v143 => 
                                   W.cnd (decide (0 < (v142.1.1.length : Int))) (some false)
                                    (
                                    W.cnd (v142.1.2.1 != 1) (some false)
                                     (
                                     W.cnd (v143.1.2.1 != 1) (some false)
                                      (W.call (engine_Engine_CompactNW W v142.2.1 v142.2.2.1 v142.2.2.2.1 v142.2.2.2.2.1 v142.2.2.2.2.2.1 v142.2.2.2.2.2.2.1 v142.2.2.2.2.2.2.2.1 v142.2.2.2.2.2.2.2.2.1 v142.2.2.2.2.2.2.2.2.2.1 v142.2.2.2.2.2.2.2.2.2.2.1 v142.2.2.2.2.2.2.2.2.2.2.2.1 v142.2.2.2.2.2.2.2.2.2.2.2.2.1 v142.2.2.2.2.2.2.2.2.2.2.2.2.2.1) fun v144 => 
                                      W.cnd (v144.1 != 1) (some false)
                                       (W.call (engine_Engine_StateNW W v144.2.1 v144.2.2.1 v144.2.2.2.1 v144.2.2.2.2.1 v144.2.2.2.2.2.1 v144.2.2.2.2.2.2.1 v144.2.2.2.2.2.2.2.1 v144.2.2.2.2.2.2.2.2.1 v144.2.2.2.2.2.2.2.2.2.1 v144.2.2.2.2.2.2.2.2.2.2.1 v144.2.2.2.2.2.2.2.2.2.2.2.1 v144.2.2.2.2.2.2.2.2.2.2.2.2.1 v144.2.2.2.2.2.2.2.2.2.2.2.2.2.1) fun v145 => W.call (ref33_SameW W v145.1 (0, ([], ([], ([], ([], ([], ([], ([], ([], ([], ([], ([], ()))))))))))))) fun v146 => 
                                       W.cnd (!v146) (some false)
                                        (W.call (engine_Engine_LeftNW W v145.2.1 v145.2.2.1 v145.2.2.2.1 v145.2.2.2.2.1 v145.2.2.2.2.2.1 v145.2.2.2.2.2.2.1 v145.2.2.2.2.2.2.2.1 v145.2.2.2.2.2.2.2.2.1 v145.2.2.2.2.2.2.2.2.2.1 v145.2.2.2.2.2.2.2.2.2.2.1 v145.2.2.2.2.2.2.2.2.2.2.2.1 v145.2.2.2.2.2.2.2.2.2.2.2.2.1 v145.2.2.2.2.2.2.2.2.2.2.2.2.2.1) fun v147 => 
                                        W.cnd (v147.1 != 0) (some false)
                                         (none)))))))
                                   (W.call (ref01_CutW W b 90) fun v148 => W.call (engine_Engine_Do2W W v148) fun v149 => W.call (engine_Open2W W each) fun v150 => 
                                   W.cnd (decide (0 < (v149.1.1.length : Int))) (some false)
                                    (
                                    W.cnd (v149.1.2.1 != 1) (some false)
                                     (
                                     W.cnd (v150.1.2.1 != 1) (some false)
                                      (W.call (engine_Engine_CompactW W) fun v151 => 
                                      W.cnd (v151.1 != 1) (some false)
                                       (W.call (engine_Engine_StateW W) fun v152 => W.call (ref33_SameW W v152.1 (0, ([], ([], ([], ([], ([], ([], ([], ([], ([], ([], ([], ()))))))))))))) fun v153 => 
                                       W.cnd (!v153) (some false)
                                        (W.call (engine_Engine_LeftW W) fun v154 => 
                                        W.cnd (v154.1 != 0) (some false)
                                         (none))))))))
                                  (W.call (law37_livesNW W) fun v155 => some v155))))))))
                           (W.call (ref01_CutW W b 90) fun v156 => W.call (engine_Engine_Do2W W v156) fun v157 => W.call (engine_Open2W W each) fun v158 => 
                           W.cnd (decide (0 < (v157.1.1.length : Int))) (some false)
                            (
                            W.cnd (v157.1.2.1 != 1) (some false)
                             (
                             W.cnd (v158.1.2.1 != 1) (some false)
                              (W.call (engine_Engine_CompactW W) fun v159 => 
                              W.cnd (v159.1 != 1) (some false)
                               (W.call (engine_Engine_StateW W) fun v160 => W.call (ref33_SameW W v160.1 (0, ([], ([], ([], ([], ([], ([], ([], ([], ([], ([], ([], ()))))))))))))) fun v161 => 
                               W.cnd (!v161) (some false)
                                (W.call (engine_Engine_LeftW W) fun v162 => 
                                W.cnd (v162.1 != 0) (some false)
                                 (
                                 W.cnd (decide ((IntKind.i64.wrap ((IntKind.i64.wrap ((IntKind.i64.wrap ((IntKind.i64.wrap (0 + 1)) + 1)) + 1)) + 1)) < 2)) (
                                  W.cnd ((IntKind.i64.wrap ((IntKind.i64.wrap ((IntKind.i64.wrap ((IntKind.i64.wrap (0 + 1)) + 1)) + 1)) + 1)) == 1) (W.call (ref01_CutW W b 90) fun v163 => W.call (engine_Engine_DoW W 0 [] [] [] [] [] [] [] [] [] [] [] false v163) fun v164 => W.call (engine_OpenNW W false false 0 [] 0 each) fun v165 => 
                                   W.cnd (decide (0 < (v164.1.1.length : Int))) (some false)
                                    (
                                    W.cnd (v164.1.2.1 != 1) (some false)
                                     (
                                     W.cnd (v165.1.2.1 != 1) (some false)
                                      (W.call (engine_Engine_CompactNW W v164.2.1 v164.2.2.1 v164.2.2.2.1 v164.2.2.2.2.1 v164.2.2.2.2.2.1 v164.2.2.2.2.2.2.1 v164.2.2.2.2.2.2.2.1 v164.2.2.2.2.2.2.2.2.1 v164.2.2.2.2.2.2.2.2.2.1 v164.2.2.2.2.2.2.2.2.2.2.1 v164.2.2.2.2.2.2.2.2.2.2.2.1 v164.2.2.2.2.2.2.2.2.2.2.2.2.1 v164.2.2.2.2.2.2.2.2.2.2.2.2.2.1) fun v166 => 
                                      W.cnd (v166.1 != 1) (some false)
                                       (W.call (engine_Engine_StateNW W v166.2.1 v166.2.2.1 v166.2.2.2.1 v166.2.2.2.2.1 v166.2.2.2.2.2.1 v166.2.2.2.2.2.2.1 v166.2.2.2.2.2.2.2.1 v166.2.2.2.2.2.2.2.2.1 v166.2.2.2.2.2.2.2.2.2.1 v166.2.2.2.2.2.2.2.2.2.2.1 v166.2.2.2.2.2.2.2.2.2.2.2.1 v166.2.2.2.2.2.2.2.2.2.2.2.2.1 v166.2.2.2.2.2.2.2.2.2.2.2.2.2.1) fun v167 => W.call (ref33_SameW W v167.1 (0, ([], ([], ([], ([], ([], ([], ([], ([], ([], ([], ([], ()))))))))))))) fun v168 => 
                                       W.cnd (!v168) (some false)
                                        (W.call (engine_Engine_LeftNW W v167.2.1 v167.2.2.1 v167.2.2.2.1 v167.2.2.2.2.1 v167.2.2.2.2.2.1 v167.2.2.2.2.2.2.1 v167.2.2.2.2.2.2.2.1 v167.2.2.2.2.2.2.2.2.1 v167.2.2.2.2.2.2.2.2.2.1 v167.2.2.2.2.2.2.2.2.2.2.1 v167.2.2.2.2.2.2.2.2.2.2.2.1 v167.2.2.2.2.2.2.2.2.2.2.2.2.1 v167.2.2.2.2.2.2.2.2.2.2.2.2.2.1) fun v169 => 
                                        W.cnd (v169.1 != 0) (some false)
                                         (none)))))))
                                   (W.call (ref01_CutW W b 90) fun v170 => W.call (engine_Engine_Do2W W v170) fun v171 => W.call (engine_Open2W W each) fun v172 => 
                                   W.cnd (decide (0 < (v171.1.1.length : Int))) (some false)
                                    (
                                    W.cnd (v171.1.2.1 != 1) (some false)
                                     (
                                     W.cnd (v172.1.2.1 != 1) (some false)
                                      (W.call (engine_Engine_CompactW W) fun v173 => 
                                      W.cnd (v173.1 != 1) (some false)
                                       (W.call (engine_Engine_StateW W) fun v174 => W.call (ref33_SameW W v174.1 (0, ([], ([], ([], ([], ([], ([], ([], ([], ([], ([], ([], ()))))))))))))) fun v175 => 
                                       W.cnd (!v175) (some false)
                                        (W.call (engine_Engine_LeftW W) fun v176 => 
                                        W.cnd (v176.1 != 0) (some false)
                                         (none))))))))
                                  (W.call (law37_livesNW W) fun v177 => some v177)))))))))
                          (W.call (law37_livesNW W) fun v178 => some v178))))))))
                   (W.call (ref01_CutW W b 90) fun v179 => W.call (engine_Engine_Do2W W v179) fun v180 => W.call (engine_Open2W W each) fun v181 => 
                   W.cnd (decide (0 < (v180.1.1.length : Int))) (some false)
                    (
                    W.cnd (v180.1.2.1 != 1) (some false)
                     (
                     W.cnd (v181.1.2.1 != 1) (some false)
                      (W.call (engine_Engine_CompactW W) fun v182 => 
                      W.cnd (v182.1 != 1) (some false)
                       (W.call (engine_Engine_StateW W) fun v183 => W.call (ref33_SameW W v183.1 (0, ([], ([], ([], ([], ([], ([], ([], ([], ([], ([], ([], ()))))))))))))) fun v184 => 
                       W.cnd (!v184) (some false)
                        (W.call (engine_Engine_LeftW W) fun v185 => 
                        W.cnd (v185.1 != 0) (some false)
                         (
                         W.cnd (decide ((IntKind.i64.wrap ((IntKind.i64.wrap ((IntKind.i64.wrap (0 + 1)) + 1)) + 1)) < 2)) (
                          W.cnd ((IntKind.i64.wrap ((IntKind.i64.wrap ((IntKind.i64.wrap (0 + 1)) + 1)) + 1)) == 1) (W.call (ref01_CutW W b 90) fun v186 => W.call (engine_Engine_DoW W 0 [] [] [] [] [] [] [] [] [] [] [] false v186) fun v187 => W.call (engine_OpenNW W false false 0 [] 0 each) fun v188 => 
                           W.cnd (decide (0 < (v187.1.1.length : Int))) (some false)
                            (
                            W.cnd (v187.1.2.1 != 1) (some false)
                             (
                             W.cnd (v188.1.2.1 != 1) (some false)
                              (W.call (engine_Engine_CompactNW W v187.2.1 v187.2.2.1 v187.2.2.2.1 v187.2.2.2.2.1 v187.2.2.2.2.2.1 v187.2.2.2.2.2.2.1 v187.2.2.2.2.2.2.2.1 v187.2.2.2.2.2.2.2.2.1 v187.2.2.2.2.2.2.2.2.2.1 v187.2.2.2.2.2.2.2.2.2.2.1 v187.2.2.2.2.2.2.2.2.2.2.2.1 v187.2.2.2.2.2.2.2.2.2.2.2.2.1 v187.2.2.2.2.2.2.2.2.2.2.2.2.2.1) fun v189 => 
                              W.cnd (v189.1 != 1) (some false)
                               (W.call (engine_Engine_StateNW W v189.2.1 v189.2.2.1 v189.2.2.2.1 v189.2.2.2.2.1 v189.2.2.2.2.2.1 v189.2.2.2.2.2.2.1 v189.2.2.2.2.2.2.2.1 v189.2.2.2.2.2.2.2.2.1 v189.2.2.2.2.2.2.2.2.2.1 v189.2.2.2.2.2.2.2.2.2.2.1 v189.2.2.2.2.2.2.2.2.2.2.2.1 v189.2.2.2.2.2.2.2.2.2.2.2.2.1 v189.2.2.2.2.2.2.2.2.2.2.2.2.2.1) fun v190 => W.call (ref33_SameW W v190.1 (0, ([], ([], ([], ([], ([], ([], ([], ([], ([], ([], ([], ()))))))))))))) fun v191 => 
                               W.cnd (!v191) (some false)
                                (W.call (engine_Engine_LeftNW W v190.2.1 v190.2.2.1 v190.2.2.2.1 v190.2.2.2.2.1 v190.2.2.2.2.2.1 v190.2.2.2.2.2.2.1 v190.2.2.2.2.2.2.2.1 v190.2.2.2.2.2.2.2.2.1 v190.2.2.2.2.2.2.2.2.2.1 v190.2.2.2.2.2.2.2.2.2.2.1 v190.2.2.2.2.2.2.2.2.2.2.2.1 v190.2.2.2.2.2.2.2.2.2.2.2.2.1 v190.2.2.2.2.2.2.2.2.2.2.2.2.2.1) fun v192 => 
                                W.cnd (v192.1 != 0) (some false)
                                 (
                                 W.cnd (decide ((IntKind.i64.wrap ((IntKind.i64.wrap ((IntKind.i64.wrap ((IntKind.i64.wrap (0 + 1)) + 1)) + 1)) + 1)) < 2)) (
                                  W.cnd ((IntKind.i64.wrap ((IntKind.i64.wrap ((IntKind.i64.wrap ((IntKind.i64.wrap (0 + 1)) + 1)) + 1)) + 1)) == 1) (W.call (ref01_CutW W b 90) fun v193 => W.call (engine_Engine_DoW W 0 [] [] [] [] [] [] [] [] [] [] [] false v193) fun v194 => W.call (engine_OpenNW W false false 0 [] 0 each) fun v195 => 
                                   W.cnd (decide (0 < (v194.1.1.length : Int))) (some false)
                                    (
                                    W.cnd (v194.1.2.1 != 1) (some false)
                                     (
                                     W.cnd (v195.1.2.1 != 1) (some false)
                                      (W.call (engine_Engine_CompactNW W v194.2.1 v194.2.2.1 v194.2.2.2.1 v194.2.2.2.2.1 v194.2.2.2.2.2.1 v194.2.2.2.2.2.2.1 v194.2.2.2.2.2.2.2.1 v194.2.2.2.2.2.2.2.2.1 v194.2.2.2.2.2.2.2.2.2.1 v194.2.2.2.2.2.2.2.2.2.2.1 v194.2.2.2.2.2.2.2.2.2.2.2.1 v194.2.2.2.2.2.2.2.2.2.2.2.2.1 v194.2.2.2.2.2.2.2.2.2.2.2.2.2.1) fun v196 => 
                                      W.cnd (v196.1 != 1) (some false)
                                       (W.call (engine_Engine_StateNW W v196.2.1 v196.2.2.1 v196.2.2.2.1 v196.2.2.2.2.1 v196.2.2.2.2.2.1 v196.2.2.2.2.2.2.1 v196.2.2.2.2.2.2.2.1 v196.2.2.2.2.2.2.2.2.1 v196.2.2.2.2.2.2.2.2.2.1 v196.2.2.2.2.2.2.2.2.2.2.1 v196.2.2.2.2.2.2.2.2.2.2.2.1 v196.2.2.2.2.2.2.2.2.2.2.2.2.1 v196.2.2.2.2.2.2.2.2.2.2.2.2.2.1) fun v197 => W.call (ref33_SameW W v197.1 (0, ([], ([], ([], ([], ([], ([], ([], ([], ([], ([], ([], ()))))))))))))) fun v198 => 
                                       W.cnd (!v198) (some false)
                                        (W.call (engine_Engine_LeftNW W v197.2.1 v197.2.2.1 v197.2.2.2.1 v197.2.2.2.2.1 v197.2.2.2.2.2.1 v197.2.2.2.2.2.2.1 v197.2.2.2.2.2.2.2.1 v197.2.2.2.2.2.2.2.2.1 v197.2.2.2.2.2.2.2.2.2.1 v197.2.2.2.2.2.2.2.2.2.2.1 v197.2.2.2.2.2.2.2.2.2.2.2.1 v197.2.2.2.2.2.2.2.2.2.2.2.2.1 v197.2.2.2.2.2.2.2.2.2.2.2.2.2.1) fun v199 => 
                                        W.cnd (v199.1 != 0) (some false)
                                         (none)))))))
                                   (W.call (ref01_CutW W b 90) fun v200 => W.call (engine_Engine_Do2W W v200) fun v201 => W.call (engine_Open2W W each) fun v202 => 
                                   W.cnd (decide (0 < (v201.1.1.length : Int))) (some false)
                                    (
                                    W.cnd (v201.1.2.1 != 1) (some false)
                                     (
                                     W.cnd (v202.1.2.1 != 1) (some false)
                                      (W.call (engine_Engine_CompactW W) fun v203 => 
                                      W.cnd (v203.1 != 1) (some false)
                                       (W.call (engine_Engine_StateW W) fun v204 => W.call (ref33_SameW W v204.1 (0, ([], ([], ([], ([], ([], ([], ([], ([], ([], ([], ([], ()))))))))))))) fun v205 => 
                                       W.cnd (!v205) (some false)
                                        (W.call (engine_Engine_LeftW W) fun v206 => 
                                        W.cnd (v206.1 != 0) (some false)
                                         (none))))))))
                                  (W.call (law37_livesNW W) fun v207 => some v207))))))))
                           (W.call (ref01_CutW W b 90) fun v208 => W.call (engine_Engine_Do2W W v208) fun v209 => W.call (engine_Open2W W each) fun v210 => 
                           W.cnd (decide (0 < (v209.1.1.length : Int))) (some false)
                            (
                            W.cnd (v209.1.2.1 != 1) (some false)
                             (
                             W.cnd (v210.1.2.1 != 1) (some false)
                              (W.call (engine_Engine_CompactW W) fun v211 => 
                              W.cnd (v211.1 != 1) (some false)
                               (W.call (engine_Engine_StateW W) fun v212 => W.call (ref33_SameW W v212.1 (0, ([], ([], ([], ([], ([], ([], ([], ([], ([], ([], ([], ()))))))))))))) fun v213 => 
                               W.cnd (!v213) (some false)
                                (W.call (engine_Engine_LeftW W) fun v214 => 
                                W.cnd (v214.1 != 0) (some false)
                                 (
                                 W.cnd (decide ((IntKind.i64.wrap ((IntKind.i64.wrap ((IntKind.i64.wrap ((IntKind.i64.wrap (0 + 1)) + 1)) + 1)) + 1)) < 2)) (
                                  W.cnd ((IntKind.i64.wrap ((IntKind.i64.wrap ((IntKind.i64.wrap ((IntKind.i64.wrap (0 + 1)) + 1)) + 1)) + 1)) == 1) (W.call (ref01_CutW W b 90) fun v215 => W.call (engine_Engine_DoW W 0 [] [] [] [] [] [] [] [] [] [] [] false v215) fun v216 => W.call (engine_OpenNW W false false 0 [] 0 each) fun v217 => 
                                   W.cnd (decide (0 < (v216.1.1.length : Int))) (some false)
                                    (
                                    W.cnd (v216.1.2.1 != 1) (some false)
                                     (
                                     W.cnd (v217.1.2.1 != 1) (some false)
                                      (W.call (engine_Engine_CompactNW W v216.2.1 v216.2.2.1 v216.2.2.2.1 v216.2.2.2.2.1 v216.2.2.2.2.2.1 v216.2.2.2.2.2.2.1 v216.2.2.2.2.2.2.2.1 v216.2.2.2.2.2.2.2.2.1 v216.2.2.2.2.2.2.2.2.2.1 v216.2.2.2.2.2.2.2.2.2.2.1 v216.2.2.2.2.2.2.2.2.2.2.2.1 v216.2.2.2.2.2.2.2.2.2.2.2.2.1 v216.2.2.2.2.2.2.2.2.2.2.2.2.2.1) fun v218 => 
                                      W.cnd (v218.1 != 1) (some false)
                                       (W.call (engine_Engine_StateNW W v218.2.1 v218.2.2.1 v218.2.2.2.1 v218.2.2.2.2.1 v218.2.2.2.2.2.1 v218.2.2.2.2.2.2.1 v218.2.2.2.2.2.2.2.1 v218.2.2.2.2.2.2.2.2.1 v218.2.2.2.2.2.2.2.2.2.1 v218.2.2.2.2.2.2.2.2.2.2.1 v218.2.2.2.2.2.2.2.2.2.2.2.1 v218.2.2.2.2.2.2.2.2.2.2.2.2.1 v218.2.2.2.2.2.2.2.2.2.2.2.2.2.1) fun v219 => W.call (ref33_SameW W v219.1 (0, ([], ([], ([], ([], ([], ([], ([], ([], ([], ([], ([], ()))))))))))))) fun v220 => 
                                       W.cnd (!v220) (some false)
                                        (W.call (engine_Engine_LeftNW W v219.2.1 v219.2.2.1 v219.2.2.2.1 v219.2.2.2.2.1 v219.2.2.2.2.2.1 v219.2.2.2.2.2.2.1 v219.2.2.2.2.2.2.2.1 v219.2.2.2.2.2.2.2.2.1 v219.2.2.2.2.2.2.2.2.2.1 v219.2.2.2.2.2.2.2.2.2.2.1 v219.2.2.2.2.2.2.2.2.2.2.2.1 v219.2.2.2.2.2.2.2.2.2.2.2.2.1 v219.2.2.2.2.2.2.2.2.2.2.2.2.2.1) fun v221 => 
                                        W.cnd (v221.1 != 0) (some false)
                                         (none)))))))
                                   (W.call (ref01_CutW W b 90) fun v222 => W.call (engine_Engine_Do2W W v222) fun v223 => W.call (engine_Open2W W each) fun v224 => 
                                   W.cnd (decide (0 < (v223.1.1.length : Int))) (some false)
                                    (
                                    W.cnd (v223.1.2.1 != 1) (some false)
                                     (
                                     W.cnd (v224.1.2.1 != 1) (some false)
                                      (W.call (engine_Engine_CompactW W) fun v225 => 
                                      W.cnd (v225.1 != 1) (some false)
                                       (W.call (engine_Engine_StateW W) fun v226 => W.call (ref33_SameW W v226.1 (0, ([], ([], ([], ([], ([], ([], ([], ([], ([], ([], ([], ()))))))))))))) fun v227 => 
                                       W.cnd (!v227) (some false)
                                        (W.call (engine_Engine_LeftW W) fun v228 => 
                                        W.cnd (v228.1 != 0) (some false)
                                         (none))))))))
                                  (W.call (law37_livesNW W) fun v229 => some v229)))))))))
                          (W.call (law37_livesNW W) fun v230 => some v230)))))))))
                  (W.call (law37_livesNW W) fun v231 => some v231)))))))))
          (W.call (law37_livesNW W) fun v232 => some v232))))))))
   (W.call (ref01_CutW W b 90) fun v233 => W.call (engine_Engine_Do2W W v233) fun v234 => W.call (engine_Open2W W each) fun v235 => 
   W.cnd (decide (0 < (v234.1.1.length : Int))) (some false)
    (
    W.cnd (v234.1.2.1 != 1) (some false)
     (
     W.cnd (v235.1.2.1 != 1) (some false)
      (W.call (engine_Engine_CompactW W) fun v236 => 
      W.cnd (v236.1 != 1) (some false)
       (W.call (engine_Engine_StateW W) fun v237 => W.call (ref33_SameW W v237.1 (0, ([], ([], ([], ([], ([], ([], ([], ([], ([], ([], ([], ()))))))))))))) fun v238 => 
       W.cnd (!v238) (some false)
        (W.call (engine_Engine_LeftW W) fun v239 => 
        W.cnd (v239.1 != 0) (some false)
         (
         W.cnd (decide ((IntKind.i64.wrap (0 + 1)) < 2)) (
          W.cnd ((IntKind.i64.wrap (0 + 1)) == 1) (W.call (ref01_CutW W b 90) fun v240 => W.call (engine_Engine_DoW W 0 [] [] [] [] [] [] [] [] [] [] [] false v240) fun v241 => W.call (engine_OpenNW W false false 0 [] 0 each) fun v242 => 
           W.cnd (decide (0 < (v241.1.1.length : Int))) (some false)
            (
            W.cnd (v241.1.2.1 != 1) (some false)
             (
             W.cnd (v242.1.2.1 != 1) (some false)
              (W.call (engine_Engine_CompactNW W v241.2.1 v241.2.2.1 v241.2.2.2.1 v241.2.2.2.2.1 v241.2.2.2.2.2.1 v241.2.2.2.2.2.2.1 v241.2.2.2.2.2.2.2.1 v241.2.2.2.2.2.2.2.2.1 v241.2.2.2.2.2.2.2.2.2.1 v241.2.2.2.2.2.2.2.2.2.2.1 v241.2.2.2.2.2.2.2.2.2.2.2.1 v241.2.2.2.2.2.2.2.2.2.2.2.2.1 v241.2.2.2.2.2.2.2.2.2.2.2.2.2.1) fun v243 => 
              W.cnd (v243.1 != 1) (some false)
               (W.call (engine_Engine_StateNW W v243.2.1 v243.2.2.1 v243.2.2.2.1 v243.2.2.2.2.1 v243.2.2.2.2.2.1 v243.2.2.2.2.2.2.1 v243.2.2.2.2.2.2.2.1 v243.2.2.2.2.2.2.2.2.1 v243.2.2.2.2.2.2.2.2.2.1 v243.2.2.2.2.2.2.2.2.2.2.1 v243.2.2.2.2.2.2.2.2.2.2.2.1 v243.2.2.2.2.2.2.2.2.2.2.2.2.1 v243.2.2.2.2.2.2.2.2.2.2.2.2.2.1) fun v244 => W.call (ref33_SameW W v244.1 (0, ([], ([], ([], ([], ([], ([], ([], ([], ([], ([], ([], ()))))))))))))) fun v245 => 
               W.cnd (!v245) (some false)
                (W.call (engine_Engine_LeftNW W v244.2.1 v244.2.2.1 v244.2.2.2.1 v244.2.2.2.2.1 v244.2.2.2.2.2.1 v244.2.2.2.2.2.2.1 v244.2.2.2.2.2.2.2.1 v244.2.2.2.2.2.2.2.2.1 v244.2.2.2.2.2.2.2.2.2.1 v244.2.2.2.2.2.2.2.2.2.2.1 v244.2.2.2.2.2.2.2.2.2.2.2.1 v244.2.2.2.2.2.2.2.2.2.2.2.2.1 v244.2.2.2.2.2.2.2.2.2.2.2.2.2.1) fun v246 => 
                W.cnd (v246.1 != 0) (some false)
                 (
                 W.cnd (decide ((IntKind.i64.wrap ((IntKind.i64.wrap (0 + 1)) + 1)) < 2)) (
                  W.cnd ((IntKind.i64.wrap ((IntKind.i64.wrap (0 + 1)) + 1)) == 1) (W.call (ref01_CutW W b 90) fun v247 => W.call (engine_Engine_DoW W 0 [] [] [] [] [] [] [] [] [] [] [] false v247) fun v248 => W.call (engine_OpenNW W false false 0 [] 0 each) fun v249 => 
                   W.cnd (decide (0 < (v248.1.1.length : Int))) (some false)
                    (
                    W.cnd (v248.1.2.1 != 1) (some false)
                     (
                     W.cnd (v249.1.2.1 != 1) (some false)
                      (W.call (engine_Engine_CompactNW W v248.2.1 v248.2.2.1 v248.2.2.2.1 v248.2.2.2.2.1 v248.2.2.2.2.2.1 v248.2.2.2.2.2.2.1 v248.2.2.2.2.2.2.2.1 v248.2.2.2.2.2.2.2.2.1 v248.2.2.2.2.2.2.2.2.2.1 v248.2.2.2.2.2.2.2.2.2.2.1 v248.2.2.2.2.2.2.2.2.2.2.2.1 v248.2.2.2.2.2.2.2.2.2.2.2.2.1 v248.2.2.2.2.2.2.2.2.2.2.2.2.2.1) fun v250 => 
                      W.cnd (v250.1 != 1) (some false)
                       (W.call (engine_Engine_StateNW W v250.2.1 v250.2.2.1 v250.2.2.2.1 v250.2.2.2.2.1 v250.2.2.2.2.2.1 v250.2.2.2.2.2.2.1 v250.2.2.2.2.2.2.2.1 v250.2.2.2.2.2.2.2.2.1 v250.2.2.2.2.2.2.2.2.2.1 v250.2.2.2.2.2.2.2.2.2.2.1 v250.2.2.2.2.2.2.2.2.2.2.2.1 v250.2.2.2.2.2.2.2.2.2.2.2.2.1 v250.2.2.2.2.2.2.2.2.2.2.2.2.2.1) fun v251 => W.call (ref33_SameW W v251.1 (0, ([], ([], ([], ([], ([], ([], ([], ([], ([], ([], ([], ()))))))))))))) fun v252 => 
                       W.cnd (!v252) (some false)
                        (W.call (engine_Engine_LeftNW W v251.2.1 v251.2.2.1 v251.2.2.2.1 v251.2.2.2.2.1 v251.2.2.2.2.2.1 v251.2.2.2.2.2.2.1 v251.2.2.2.2.2.2.2.1 v251.2.2.2.2.2.2.2.2.1 v251.2.2.2.2.2.2.2.2.2.1 v251.2.2.2.2.2.2.2.2.2.2.1 v251.2.2.2.2.2.2.2.2.2.2.2.1 v251.2.2.2.2.2.2.2.2.2.2.2.2.1 v251.2.2.2.2.2.2.2.2.2.2.2.2.2.1) fun v253 => 
                        W.cnd (v253.1 != 0) (some false)
                         (
                         W.cnd (decide ((IntKind.i64.wrap ((IntKind.i64.wrap ((IntKind.i64.wrap (0 + 1)) + 1)) + 1)) < 2)) (
                          W.cnd ((IntKind.i64.wrap ((IntKind.i64.wrap ((IntKind.i64.wrap (0 + 1)) + 1)) + 1)) == 1) (W.call (ref01_CutW W b 90) fun v254 => W.call (engine_Engine_DoW W 0 [] [] [] [] [] [] [] [] [] [] [] false v254) fun v255 => W.call (engine_OpenNW W false false 0 [] 0 each) fun v256 => 
                           W.cnd (decide (0 < (v255.1.1.length : Int))) (some false)
                            (
                            W.cnd (v255.1.2.1 != 1) (some false)
                             (
                             W.cnd (v256.1.2.1 != 1) (some false)
                              (W.call (engine_Engine_CompactNW W v255.2.1 v255.2.2.1 v255.2.2.2.1 v255.2.2.2.2.1 v255.2.2.2.2.2.1 v255.2.2.2.2.2.2.1 v255.2.2.2.2.2.2.2.1 v255.2.2.2.2.2.2.2.2.1 v255.2.2.2.2.2.2.2.2.2.1 v255.2.2.2.2.2.2.2.2.2.2.1 v255.2.2.2.2.2.2.2.2.2.2.2.1 v255.2.2.2.2.2.2.2.2.2.2.2.2.1 v255.2.2.2.2.2.2.2.2.2.2.2.2.2.1) fun v257 => 
                              W.cnd (v257.1 != 1) (some false)
                               (W.call (engine_Engine_StateNW W v257.2.1 v257.2.2.1 v257.2.2.2.1 v257.2.2.2.2.1 v257.2.2.2.2.2.1 v257.2.2.2.2.2.2.1 v257.2.2.2.2.2.2.2.1 v257.2.2.2.2.2.2.2.2.1 v257.2.2.2.2.2.2.2.2.2.1 v257.2.2.2.2.2.2.2.2.2.2.1 v257.2.2.2.2.2.2.2.2.2.2.2.1 v257.2.2.2.2.2.2.2.2.2.2.2.2.1 v257.2.2.2.2.2.2.2.2.2.2.2.2.2.1) fun v258 => W.call (ref33_SameW W v258.1 (0, ([], ([], ([], ([], ([], ([], ([], ([], ([], ([], ([], ()))))))))))))) fun v259 => 
                               W.cnd (!v259) (some false)
                                (W.call (engine_Engine_LeftNW W v258.2.1 v258.2.2.1 v258.2.2.2.1 v258.2.2.2.2.1 v258.2.2.2.2.2.1 v258.2.2.2.2.2.2.1 v258.2.2.2.2.2.2.2.1 v258.2.2.2.2.2.2.2.2.1 v258.2.2.2.2.2.2.2.2.2.1 v258.2.2.2.2.2.2.2.2.2.2.1 v258.2.2.2.2.2.2.2.2.2.2.2.1 v258.2.2.2.2.2.2.2.2.2.2.2.2.1 v258.2.2.2.2.2.2.2.2.2.2.2.2.2.1) fun v260 => 
                                W.cnd (v260.1 != 0) (some false)
                                 (
                                 W.cnd (decide ((IntKind.i64.wrap ((IntKind.i64.wrap ((IntKind.i64.wrap ((IntKind.i64.wrap (0 + 1)) + 1)) + 1)) + 1)) < 2)) (
                                  W.cnd ((IntKind.i64.wrap ((IntKind.i64.wrap ((IntKind.i64.wrap ((IntKind.i64.wrap (0 + 1)) + 1)) + 1)) + 1)) == 1) (W.call (ref01_CutW W b 90) fun v261 => W.call (engine_Engine_DoW W 0 [] [] [] [] [] [] [] [] [] [] [] false v261) fun v262 => W.call (engine_OpenNW W false false 0 [] 0 each) fun v263 => 
                                   W.cnd (decide (0 < (v262.1.1.length : Int))) (some false)
                                    (
                                    W.cnd (v262.1.2.1 != 1) (some false)
                                     (
                                     W.cnd (v263.1.2.1 != 1) (some false)
                                      (W.call (engine_Engine_CompactNW W v262.2.1 v262.2.2.1 v262.2.2.2.1 v262.2.2.2.2.1 v262.2.2.2.2.2.1 v262.2.2.2.2.2.2.1 v262.2.2.2.2.2.2.2.1 v262.2.2.2.2.2.2.2.2.1 v262.2.2.2.2.2.2.2.2.2.1 v262.2.2.2.2.2.2.2.2.2.2.1 v262.2.2.2.2.2.2.2.2.2.2.2.1 v262.2.2.2.2.2.2.2.2.2.2.2.2.1 v262.2.2.2.2.2.2.2.2.2.2.2.2.2.1) fun v264 => 
                                      W.cnd (v264.1 != 1) (some false)
                                       (W.call (engine_Engine_StateNW W v264.2.1 v264.2.2.1 v264.2.2.2.1 v264.2.2.2.2.1 v264.2.2.2.2.2.1 v264.2.2.2.2.2.2.1 v264.2.2.2.2.2.2.2.1 v264.2.2.2.2.2.2.2.2.1 v264.2.2.2.2.2.2.2.2.2.1 v264.2.2.2.2.2.2.2.2.2.2.1 v264.2.2.2.2.2.2.2.2.2.2.2.1 v264.2.2.2.2.2.2.2.2.2.2.2.2.1 v264.2.2.2.2.2.2.2.2.2.2.2.2.2.1) fun v265 => W.call (ref33_SameW W v265.1 (0, ([], ([], ([], ([], ([], ([], ([], ([], ([], ([], ([], ()))))))))))))) fun v266 => 
                                       W.cnd (!v266) (some false)
                                        (W.call (engine_Engine_LeftNW W v265.2.1 v265.2.2.1 v265.2.2.2.1 v265.2.2.2.2.1 v265.2.2.2.2.2.1 v265.2.2.2.2.2.2.1 v265.2.2.2.2.2.2.2.1 v265.2.2.2.2.2.2.2.2.1 v265.2.2.2.2.2.2.2.2.2.1 v265.2.2.2.2.2.2.2.2.2.2.1 v265.2.2.2.2.2.2.2.2.2.2.2.1 v265.2.2.2.2.2.2.2.2.2.2.2.2.1 v265.2.2.2.2.2.2.2.2.2.2.2.2.2.1) fun v267 => 
                                        W.cnd (v267.1 != 0) (some false)
                                         (none)))))))
                                   (W.call (ref01_CutW W b 90) fun v268 => W.call (engine_Engine_Do2W W v268) fun v269 => W.call (engine_Open2W W each) fun v270 => 
                                   W.cnd (decide (0 < (v269.1.1.length : Int))) (some false)
                                    (
                                    W.cnd (v269.1.2.1 != 1) (some false)
                                     (
                                     W.cnd (v270.1.2.1 != 1) (some false)
                                      (W.call (engine_Engine_CompactW W) fun v271 => 
                                      W.cnd (v271.1 != 1) (some false)
                                       (W.call (engine_Engine_StateW W) fun v272 => W.call (ref33_SameW W v272.1 (0, ([], ([], ([], ([], ([], ([], ([], ([], ([], ([], ([], ()))))))))))))) fun v273 => 
                                       W.cnd (!v273) (some false)
                                        (W.call (engine_Engine_LeftW W) fun v274 => 
                                        W.cnd (v274.1 != 0) (some false)
                                         (none))))))))
                                  (W.call (law37_livesNW W) fun v275 => some v275))))))))
                           (W.call (ref01_CutW W b 90) fun v276 => W.call (engine_Engine_Do2W W v276) fun v277 => W.call (engine_Open2W W each) fun v278 => 
                           W.cnd (decide (0 < (v277.1.1.length : Int))) (some false)
                            (
                            W.cnd (v277.1.2.1 != 1) (some false)
                             (
                             W.cnd (v278.1.2.1 != 1) (some false)
                              (W.call (engine_Engine_CompactW W) fun v279 => 
                              W.cnd (v279.1 != 1) (some false)
                               (W.call (engine_Engine_StateW W) fun v280 => W.call (ref33_SameW W v280.1 (0, ([], ([], ([], ([], ([], ([], ([], ([], ([], ([], ([], ()))))))))))))) fun v281 => 
                               W.cnd (!v281) (some false)
                                (W.call (engine_Engine_LeftW W) fun v282 => 
                                W.cnd (v282.1 != 0) (some false)
                                 (
                                 W.cnd (decide ((IntKind.i64.wrap ((IntKind.i64.wrap ((IntKind.i64.wrap ((IntKind.i64.wrap (0 + 1)) + 1)) + 1)) + 1)) < 2)) (
                                  W.cnd ((IntKind.i64.wrap ((IntKind.i64.wrap ((IntKind.i64.wrap ((IntKind.i64.wrap (0 + 1)) + 1)) + 1)) + 1)) == 1) (W.call (ref01_CutW W b 90) fun v283 => W.call (engine_Engine_DoW W 0 [] [] [] [] [] [] [] [] [] [] [] false v283) fun v284 => W.call (engine_OpenNW W false false 0 [] 0 each) fun v285 => 
                                   W.cnd (decide (0 < (v284.1.1.length : Int))) (some false)
                                    (
                                    W.cnd (v284.1.2.1 != 1) (some false)
                                     (
                                     W.cnd (v285.1.2.1 != 1) (some false)
                                      (W.call (engine_Engine_CompactNW W v284.2.1 v284.2.2.1 v284.2.2.2.1 v284.2.2.2.2.1 v284.2.2.2.2.2.1 v284.2.2.2.2.2.2.1 v284.2.2.2.2.2.2.2.1 v284.2.2.2.2.2.2.2.2.1 v284.2.2.2.2.2.2.2.2.2.1 v284.2.2.2.2.2.2.2.2.2.2.1 v284.2.2.2.2.2.2.2.2.2.2.2.1 v284.2.2.2.2.2.2.2.2.2.2.2.2.1 v284.2.2.2.2.2.2.2.2.2.2.2.2.2.1) fun v286 => 
                                      W.cnd (v286.1 != 1) (some false)
                                       (W.call (engine_Engine_StateNW W v286.2.1 v286.2.2.1 v286.2.2.2.1 v286.2.2.2.2.1 v286.2.2.2.2.2.1 v286.2.2.2.2.2.2.1 v286.2.2.2.2.2.2.2.1 v286.2.2.2.2.2.2.2.2.1 v286.2.2.2.2.2.2.2.2.2.1 v286.2.2.2.2.2.2.2.2.2.2.1 v286.2.2.2.2.2.2.2.2.2.2.2.1 v286.2.2.2.2.2.2.2.2.2.2.2.2.1 v286.2.2.2.2.2.2.2.2.2.2.2.2.2.1) fun v287 => W.call (ref33_SameW W v287.1 (0, ([], ([], ([], ([], ([], ([], ([], ([], ([], ([], ([], ()))))))))))))) fun v288 => 
                                       W.cnd (!v288) (some false)
                                        (W.call (engine_Engine_LeftNW W v287.2.1 v287.2.2.1 v287.2.2.2.1 v287.2.2.2.2.1 v287.2.2.2.2.2.1 v287.2.2.2.2.2.2.1 v287.2.2.2.2.2.2.2.1 v287.2.2.2.2.2.2.2.2.1 v287.2.2.2.2.2.2.2.2.2.1 v287.2.2.2.2.2.2.2.2.2.2.1 v287.2.2.2.2.2.2.2.2.2.2.2.1 v287.2.2.2.2.2.2.2.2.2.2.2.2.1 v287.2.2.2.2.2.2.2.2.2.2.2.2.2.1) fun v289 => 
                                        W.cnd (v289.1 != 0) (some false)
                                         (none)))))))
                                   (W.call (ref01_CutW W b 90) fun v290 => W.call (engine_Engine_Do2W W v290) fun v291 => W.call (engine_Open2W W each) fun v292 => 
                                   W.cnd (decide (0 < (v291.1.1.length : Int))) (some false)
                                    (
                                    W.cnd (v291.1.2.1 != 1) (some false)
                                     (
                                     W.cnd (v292.1.2.1 != 1) (some false)
                                      (W.call (engine_Engine_CompactW W) fun v293 => 
                                      W.cnd (v293.1 != 1) (some false)
                                       (W.call (engine_Engine_StateW W) fun v294 => W.call (ref33_SameW W v294.1 (0, ([], ([], ([], ([], ([], ([], ([], ([], ([], ([], ([], ()))))))))))))) fun v295 => 
                                       W.cnd (!v295) (some false)
                                        (W.call (engine_Engine_LeftW W) fun v296 => 
                                        W.cnd (v296.1 != 0) (some false)
                                         (none))))))))
                                  (W.call (law37_livesNW W) fun v297 => some v297)))))))))
                          (W.call (law37_livesNW W) fun v298 => some v298))))))))
                   (W.call (ref01_CutW W b 90) fun v299 => W.call (engine_Engine_Do2W W v299) fun v300 => W.call (engine_Open2W W each) fun v301 => 
                   W.cnd (decide (0 < (v300.1.1.length : Int))) (some false)
                    (
                    W.cnd (v300.1.2.1 != 1) (some false)
                     (
                     W.cnd (v301.1.2.1 != 1) (some false)
                      (W.call (engine_Engine_CompactW W) fun v302 => 
                      W.cnd (v302.1 != 1) (some false)
                       (W.call (engine_Engine_StateW W) fun v303 => W.call (ref33_SameW W v303.1 (0, ([], ([], ([], ([], ([], ([], ([], ([], ([], ([], ([], ()))))))))))))) fun v304 => 
                       W.cnd (!v304) (some false)
                        (W.call (engine_Engine_LeftW W) fun v305 => 
                        W.cnd (v305.1 != 0) (some false)
                         (
                         W.cnd (decide ((IntKind.i64.wrap ((IntKind.i64.wrap ((IntKind.i64.wrap (0 + 1)) + 1)) + 1)) < 2)) (
                          W.cnd ((IntKind.i64.wrap ((IntKind.i64.wrap ((IntKind.i64.wrap (0 + 1)) + 1)) + 1)) == 1) (W.call (ref01_CutW W b 90) fun v306 => W.call (engine_Engine_DoW W 0 [] [] [] [] [] [] [] [] [] [] [] false v306) fun v307 => W.call (engine_OpenNW W false false 0 [] 0 each) fun v308 => 
                           W.cnd (decide (0 < (v307.1.1.length : Int))) (some false)
                            (
                            W.cnd (v307.1.2.1 != 1) (some false)
                             (
                             W.cnd (v308.1.2.1 != 1) (some false)
                              (W.call (engine_Engine_CompactNW W v307.2.1 v307.2.2.1 v307.2.2.2.1 v307.2.2.2.2.1 v307.2.2.2.2.2.1 v307.2.2.2.2.2.2.1 v307.2.2.2.2.2.2.2.1 v307.2.2.2.2.2.2.2.2.1 v307.2.2.2.2.2.2.2.2.2.1 v307.2.2.2.2.2.2.2.2.2.2.1 v307.2.2.2.2.2.2.2.2.2.2.2.1 v307.2.2.2.2.2.2.2.2.2.2.2.2.1 v307.2.2.2.2.2.2.2.2.2.2.2.2.2.1) fun v309 => 
                              W.cnd (v309.1 != 1) (some false)
                               (W.call (engine_Engine_StateNW W v309.2.1 v309.2.2.1 v309.2.2.2.1 v309.2.2.2.2.1 v309.2.2.2.2.2.1 v309.2.2.2.2.2.2.1 v309.2.2.2.2.2.2.2.1 v309.2.2.2.2.2.2.2.2.1 v309.2.2.2.2.2.2.2.2.2.1 v309.2.2.2.2.2.2.2.2.2.2.1 v309.2.2.2.2.2.2.2.2.2.2.2.1 v309.2.2.2.2.2.2.2.2.2.2.2.2.1 v309.2.2.2.2.2.2.2.2.2.2.2.2.2.1) fun v310 => W.call (ref33_SameW W v310.1 (0, ([], ([], ([], ([], ([], ([], ([], ([], ([], ([], ([], ()))))))))))))) fun v311 => 
                               W.cnd (!v311) (some false)
                                (W.call (engine_Engine_LeftNW W v310.2.1 v310.2.2.1 v310.2.2.2.1 v310.2.2.2.2.1 v310.2.2.2.2.2.1 v310.2.2.2.2.2.2.1 v310.2.2.2.2.2.2.2.1 v310.2.2.2.2.2.2.2.2.1 v310.2.2.2.2.2.2.2.2.2.1 v310.2.2.2.2.2.2.2.2.2.2.1 v310.2.2.2.2.2.2.2.2.2.2.2.1 v310.2.2.2.2.2.2.2.2.2.2.2.2.1 v310.2.2.2.2.2.2.2.2.2.2.2.2.2.1) fun v312 => 
                                W.cnd (v312.1 != 0) (some false)
                                 (
                                 W.cnd (decide ((IntKind.i64.wrap ((IntKind.i64.wrap ((IntKind.i64.wrap ((IntKind.i64.wrap (0 + 1)) + 1)) + 1)) + 1)) < 2)) (
                                  W.cnd ((IntKind.i64.wrap ((IntKind.i64.wrap ((IntKind.i64.wrap ((IntKind.i64.wrap (0 + 1)) + 1)) + 1)) + 1)) == 1) (W.call (ref01_CutW W b 90) fun v313 => W.call (engine_Engine_DoW W 0 [] [] [] [] [] [] [] [] [] [] [] false v313) fun v314 => W.call (engine_OpenNW W false false 0 [] 0 each) fun v315 => 
                                   W.cnd (decide (0 < (v314.1.1.length : Int))) (some false)
                                    (
                                    W.cnd (v314.1.2.1 != 1) (some false)
                                     (
                                     W.cnd (v315.1.2.1 != 1) (some false)
                                      (W.call (engine_Engine_CompactNW W v314.2.1 v314.2.2.1 v314.2.2.2.1 v314.2.2.2.2.1 v314.2.2.2.2.2.1 v314.2.2.2.2.2.2.1 v314.2.2.2.2.2.2.2.1 v314.2.2.2.2.2.2.2.2.1 v314.2.2.2.2.2.2.2.2.2.1 v314.2.2.2.2.2.2.2.2.2.2.1 v314.2.2.2.2.2.2.2.2.2.2.2.1 v314.2.2.2.2.2.2.2.2.2.2.2.2.1 v314.2.2.2.2.2.2.2.2.2.2.2.2.2.1) fun v316 => 
                                      W.cnd (v316.1 != 1) (some false)
                                       (W.call (engine_Engine_StateNW W v316.2.1 v316.2.2.1 v316.2.2.2.1 v316.2.2.2.2.1 v316.2.2.2.2.2.1 v316.2.2.2.2.2.2.1 v316.2.2.2.2.2.2.2.1 v316.2.2.2.2.2.2.2.2.1 v316.2.2.2.2.2.2.2.2.2.1 v316.2.2.2.2.2.2.2.2.2.2.1 v316.2.2.2.2.2.2.2.2.2.2.2.1 v316.2.2.2.2.2.2.2.2.2.2.2.2.1 v316.2.2.2.2.2.2.2.2.2.2.2.2.2.1) fun v317 => W.call (ref33_SameW W v317.1 (0, ([], ([], ([], ([], ([], ([], ([], ([], ([], ([], ([], ()))))))))))))) fun v318 => 
                                       W.cnd (!v318) (some false)
                                        (W.call (engine_Engine_LeftNW W v317.2.1 v317.2.2.1 v317.2.2.2.1 v317.2.2.2.2.1 v317.2.2.2.2.2.1 v317.2.2.2.2.2.2.1 v317.2.2.2.2.2.2.2.1 v317.2.2.2.2.2.2.2.2.1 v317.2.2.2.2.2.2.2.2.2.1 v317.2.2.2.2.2.2.2.2.2.2.1 v317.2.2.2.2.2.2.2.2.2.2.2.1 v317.2.2.2.2.2.2.2.2.2.2.2.2.1 v317.2.2.2.2.2.2.2.2.2.2.2.2.2.1) fun v319 => 
                                        W.cnd (v319.1 != 0) (some false)
                                         (none)))))))
                                   (W.call (ref01_CutW W b 90) fun v320 => W.call (engine_Engine_Do2W W v320) fun v321 => W.call (engine_Open2W W each) fun v322 => 
                                   W.cnd (decide (0 < (v321.1.1.length : Int))) (some false)
                                    (
                                    W.cnd (v321.1.2.1 != 1) (some false)
                                     (
                                     W.cnd (v322.1.2.1 != 1) (some false)
                                      (W.call (engine_Engine_CompactW W) fun v323 => 
                                      W.cnd (v323.1 != 1) (some false)
                                       (W.call (engine_Engine_StateW W) fun v324 => W.call (ref33_SameW W v324.1 (0, ([], ([], ([], ([], ([], ([], ([], ([], ([], ([], ([], ()))))))))))))) fun v325 => 
                                       W.cnd (!v325) (some false)
                                        (W.call (engine_Engine_LeftW W) fun v326 => 
                                        W.cnd (v326.1 != 0) (some false)
                                         (none))))))))
                                  (W.call (law37_livesNW W) fun v327 => some v327))))))))
                           (W.call (ref01_CutW W b 90) fun v328 => W.call (engine_Engine_Do2W W v328) fun v329 => W.call (engine_Open2W W each) fun v330 => 
                           W.cnd (decide (0 < (v329.1.1.length : Int))) (some false)
                            (
                            W.cnd (v329.1.2.1 != 1) (some false)
                             (
                             W.cnd (v330.1.2.1 != 1) (some false)
                              (W.call (engine_Engine_CompactW W) fun v331 => 
                              W.cnd (v331.1 != 1) (some false)
                               (W.call (engine_Engine_StateW W) fun v332 => W.call (ref33_SameW W v332.1 (0, ([], ([], ([], ([], ([], ([], ([], ([], ([], ([], ([], ()))))))))))))) fun v333 => 
                               W.cnd (!v333) (some false)
                                (W.call (engine_Engine_LeftW W) fun v334 => 
                                W.cnd (v334.1 != 0) (some false)
                                 (
                                 W.cnd (decide ((IntKind.i64.wrap ((IntKind.i64.wrap ((IntKind.i64.wrap ((IntKind.i64.wrap (0 + 1)) + 1)) + 1)) + 1)) < 2)) (
                                  W.cnd ((IntKind.i64.wrap ((IntKind.i64.wrap ((IntKind.i64.wrap ((IntKind.i64.wrap (0 + 1)) + 1)) + 1)) + 1)) == 1) (W.call (ref01_CutW W b 90) fun v335 => W.call (engine_Engine_DoW W 0 [] [] [] [] [] [] [] [] [] [] [] false v335) fun v336 => W.call (engine_OpenNW W false false 0 [] 0 each) fun v337 => 
                                   W.cnd (decide (0 < (v336.1.1.length : Int))) (some false)
                                    (
                                    W.cnd (v336.1.2.1 != 1) (some false)
                                     (
                                     W.cnd (v337.1.2.1 != 1) (some false)
                                      (W.call (engine_Engine_CompactNW W v336.2.1 v336.2.2.1 v336.2.2.2.1 v336.2.2.2.2.1 v336.2.2.2.2.2.1 v336.2.2.2.2.2.2.1 v336.2.2.2.2.2.2.2.1 v336.2.2.2.2.2.2.2.2.1 v336.2.2.2.2.2.2.2.2.2.1 v336.2.2.2.2.2.2.2.2.2.2.1 v336.2.2.2.2.2.2.2.2.2.2.2.1 v336.2.2.2.2.2.2.2.2.2.2.2.2.1 v336.2.2.2.2.2.2.2.2.2.2.2.2.2.1) fun v338 => 
                                      W.cnd (v338.1 != 1) (some false)
                                       (W.call (engine_Engine_StateNW W v338.2.1 v338.2.2.1 v338.2.2.2.1 v338.2.2.2.2.1 v338.2.2.2.2.2.1 v338.2.2.2.2.2.2.1 v338.2.2.2.2.2.2.2.1 v338.2.2.2.2.2.2.2.2.1 v338.2.2.2.2.2.2.2.2.2.1 v338.2.2.2.2.2.2.2.2.2.2.1 v338.2.2.2.2.2.2.2.2.2.2.2.1 v338.2.2.2.2.2.2.2.2.2.2.2.2.1 v338.2.2.2.2.2.2.2.2.2.2.2.2.2.1) fun v339 => W.call (ref33_SameW W v339.1 (0, ([], ([], ([], ([], ([], ([], ([], ([], ([], ([], ([], ()))))))))))))) fun v340 => 
                                       W.cnd (!v340) (some false)
                                        (W.call (engine_Engine_LeftNW W v339.2.1 v339.2.2.1 v339.2.2.2.1 v339.2.2.2.2.1 v339.2.2.2.2.2.1 v339.2.2.2.2.2.2.1 v339.2.2.2.2.2.2.2.1 v339.2.2.2.2.2.2.2.2.1 v339.2.2.2.2.2.2.2.2.2.1 v339.2.2.2.2.2.2.2.2.2.2.1 v339.2.2.2.2.2.2.2.2.2.2.2.1 v339.2.2.2.2.2.2.2.2.2.2.2.2.1 v339.2.2.2.2.2.2.2.2.2.2.2.2.2.1) fun v341 => 
                                        W.cnd (v341.1 != 0) (some false)
                                         (none)))))))
                                   (W.call (ref01_CutW W b 90) fun v342 => W.call (engine_Engine_Do2W W v342) fun v343 => W.call (engine_Open2W W each) fun v344 => 
                                   W.cnd (decide (0 < (v343.1.1.length : Int))) (some false)
                                    (
                                    W.cnd (v343.1.2.1 != 1) (some false)
                                     (
                                     W.cnd (v344.1.2.1 != 1) (some false)
                                      (W.call (engine_Engine_CompactW W) fun v345 => 
                                      W.cnd (v345.1 != 1) (some false)
                                       (W.call (engine_Engine_StateW W) fun v346 => W.call (ref33_SameW W v346.1 (0, ([], ([], ([], ([], ([], ([], ([], ([], ([], ([], ([], ()))))))))))))) fun v347 => 
                                       W.cnd (!v347) (some false)
                                        (W.call (engine_Engine_LeftW W) fun v348 => 
                                        W.cnd (v348.1 != 0) (some false)
                                         (none))))))))
                                  (W.call (law37_livesNW W) fun v349 => some v349)))))))))
                          (W.call (law37_livesNW W) fun v350 => some v350)))))))))
                  (W.call (law37_livesNW W) fun v351 => some v351))))))))
           (W.call (ref01_CutW W b 90) fun v352 => W.call (engine_Engine_Do2W W v352) fun v353 => W.call (engine_Open2W W each) fun v354 => 
           W.cnd (decide (0 < (v353.1.1.length : Int))) (some false)
            (
            W.cnd (v353.1.2.1 != 1) (some false)
             (
             W.cnd (v354.1.2.1 != 1) (some false)
              (W.call (engine_Engine_CompactW W) fun v355 => 
              W.cnd (v355.1 != 1) (some false)
               (W.call (engine_Engine_StateW W) fun v356 => W.call (ref33_SameW W v356.1 (0, ([], ([], ([], ([], ([], ([], ([], ([], ([], ([], ([], ()))))))))))))) fun v357 => 
               W.cnd (!v357) (some false)
                (W.call (engine_Engine_LeftW W) fun v358 => 
                W.cnd (v358.1 != 0) (some false)
                 (
                 W.cnd (decide ((IntKind.i64.wrap ((IntKind.i64.wrap (0 + 1)) + 1)) < 2)) (
                  W.cnd ((IntKind.i64.wrap ((IntKind.i64.wrap (0 + 1)) + 1)) == 1) (W.call (ref01_CutW W b 90) fun v359 => W.call (engine_Engine_DoW W 0 [] [] [] [] [] [] [] [] [] [] [] false v359) fun v360 => W.call (engine_OpenNW W false false 0 [] 0 each) fun v361 => 
                   W.cnd (decide (0 < (v360.1.1.length : Int))) (some false)
                    (
                    W.cnd (v360.1.2.1 != 1) (some false)
                     (
                     W.cnd (v361.1.2.1 != 1) (some false)
                      (W.call (engine_Engine_CompactNW W v360.2.1 v360.2.2.1 v360.2.2.2.1 v360.2.2.2.2.1 v360.2.2.2.2.2.1 v360.2.2.2.2.2.2.1 v360.2.2.2.2.2.2.2.1 v360.2.2.2.2.2.2.2.2.1 v360.2.2.2.2.2.2.2.2.2.1 v360.2.2.2.2.2.2.2.2.2.2.1 v360.2.2.2.2.2.2.2.2.2.2.2.1 v360.2.2.2.2.2.2.2.2.2.2.2.2.1 v360.2.2.2.2.2.2.2.2.2.2.2.2.2.1) fun v362 => 
                      W.cnd (v362.1 != 1) (some false)
                       (W.call (engine_Engine_StateNW W v362.2.1 v362.2.2.1 v362.2.2.2.1 v362.2.2.2.2.1 v362.2.2.2.2.2.1 v362.2.2.2.2.2.2.1 v362.2.2.2.2.2.2.2.1 v362.2.2.2.2.2.2.2.2.1 v362.2.2.2.2.2.2.2.2.2.1 v362.2.2.2.2.2.2.2.2.2.2.1 v362.2.2.2.2.2.2.2.2.2.2.2.1 v362.2.2.2.2.2.2.2.2.2.2.2.2.1 v362.2.2.2.2.2.2.2.2.2.2.2.2.2.1) fun v363 => W.call (ref33_SameW W v363.1 (0, ([], ([], ([], ([], ([], ([], ([], ([], ([], ([], ([], ()))))))))))))) fun v364 => 
                       W.cnd (!v364) (some false)
                        (W.call (engine_Engine_LeftNW W v363.2.1 v363.2.2.1 v363.2.2.2.1 v363.2.2.2.2.1 v363.2.2.2.2.2.1 v363.2.2.2.2.2.2.1 v363.2.2.2.2.2.2.2.1 v363.2.2.2.2.2.2.2.2.1 v363.2.2.2.2.2.2.2.2.2.1 v363.2.2.2.2.2.2.2.2.2.2.1 v363.2.2.2.2.2.2.2.2.2.2.2.1 v363.2.2.2.2.2.2.2.2.2.2.2.2.1 v363.2.2.2.2.2.2.2.2.2.2.2.2.2.1) fun v365 => 
                        W.cnd (v365.1 != 0) (some false)
                         (
                         W.cnd (decide ((IntKind.i64.wrap ((IntKind.i64.wrap ((IntKind.i64.wrap (0 + 1)) + 1)) + 1)) < 2)) (
                          W.cnd ((IntKind.i64.wrap ((IntKind.i64.wrap ((IntKind.i64.wrap (0 + 1)) + 1)) + 1)) == 1) (W.call (ref01_CutW W b 90) fun v366 => W.call (engine_Engine_DoW W 0 [] [] [] [] [] [] [] [] [] [] [] false v366) fun v367 => W.call (engine_OpenNW W false false 0 [] 0 each) fun v368 => 
                           W.cnd (decide (0 < (v367.1.1.length : Int))) (some false)
                            (
                            W.cnd (v367.1.2.1 != 1) (some false)
                             (
                             W.cnd (v368.1.2.1 != 1) (some false)
                              (W.call (engine_Engine_CompactNW W v367.2.1 v367.2.2.1 v367.2.2.2.1 v367.2.2.2.2.1 v367.2.2.2.2.2.1 v367.2.2.2.2.2.2.1 v367.2.2.2.2.2.2.2.1 v367.2.2.2.2.2.2.2.2.1 v367.2.2.2.2.2.2.2.2.2.1 v367.2.2.2.2.2.2.2.2.2.2.1 v367.2.2.2.2.2.2.2.2.2.2.2.1 v367.2.2.2.2.2.2.2.2.2.2.2.2.1 v367.2.2.2.2.2.2.2.2.2.2.2.2.2.1) fun v369 => 
                              W.cnd (v369.1 != 1) (some false)
                               (W.call (engine_Engine_StateNW W v369.2.1 v369.2.2.1 v369.2.2.2.1 v369.2.2.2.2.1 v369.2.2.2.2.2.1 v369.2.2.2.2.2.2.1 v369.2.2.2.2.2.2.2.1 v369.2.2.2.2.2.2.2.2.1 v369.2.2.2.2.2.2.2.2.2.1 v369.2.2.2.2.2.2.2.2.2.2.1 v369.2.2.2.2.2.2.2.2.2.2.2.1 v369.2.2.2.2.2.2.2.2.2.2.2.2.1 v369.2.2.2.2.2.2.2.2.2.2.2.2.2.1) fun v370 => W.call (ref33_SameW W v370.1 (0, ([], ([], ([], ([], ([], ([], ([], ([], ([], ([], ([], ()))))))))))))) fun v371 => 
                               W.cnd (!v371) (some false)
                                (W.call (engine_Engine_LeftNW W v370.2.1 v370.2.2.1 v370.2.2.2.1 v370.2.2.2.2.1 v370.2.2.2.2.2.1 v370.2.2.2.2.2.2.1 v370.2.2.2.2.2.2.2.1 v370.2.2.2.2.2.2.2.2.1 v370.2.2.2.2.2.2.2.2.2.1 v370.2.2.2.2.2.2.2.2.2.2.1 v370.2.2.2.2.2.2.2.2.2.2.2.1 v370.2.2.2.2.2.2.2.2.2.2.2.2.1 v370.2.2.2.2.2.2.2.2.2.2.2.2.2.1) fun v372 => 
                                W.cnd (v372.1 != 0) (some false)
                                 (
                                 W.cnd (decide ((IntKind.i64.wrap ((IntKind.i64.wrap ((IntKind.i64.wrap ((IntKind.i64.wrap (0 + 1)) + 1)) + 1)) + 1)) < 2)) (
                                  W.cnd ((IntKind.i64.wrap ((IntKind.i64.wrap ((IntKind.i64.wrap ((IntKind.i64.wrap (0 + 1)) + 1)) + 1)) + 1)) == 1) (W.call (ref01_CutW W b 90) fun v373 => W.call (engine_Engine_DoW W 0 [] [] [] [] [] [] [] [] [] [] [] false v373) fun v374 => W.call (engine_OpenNW W false false 0 [] 0 each) fun v375 => 
                                   W.cnd (decide (0 < (v374.1.1.length : Int))) (some false)
                                    (
                                    W.cnd (v374.1.2.1 != 1) (some false)
                                     (
                                     W.cnd (v375.1.2.1 != 1) (some false)
                                      (W.call (engine_Engine_CompactNW W v374.2.1 v374.2.2.1 v374.2.2.2.1 v374.2.2.2.2.1 v374.2.2.2.2.2.1 v374.2.2.2.2.2.2.1 v374.2.2.2.2.2.2.2.1 v374.2.2.2.2.2.2.2.2.1 v374.2.2.2.2.2.2.2.2.2.1 v374.2.2.2.2.2.2.2.2.2.2.1 v374.2.2.2.2.2.2.2.2.2.2.2.1 v374.2.2.2.2.2.2.2.2.2.2.2.2.1 v374.2.2.2.2.2.2.2.2.2.2.2.2.2.1) fun v376 => 
                                      W.cnd (v376.1 != 1) (some false)
                                       (W.call (engine_Engine_StateNW W v376.2.1 v376.2.2.1 v376.2.2.2.1 v376.2.2.2.2.1 v376.2.2.2.2.2.1 v376.2.2.2.2.2.2.1 v376.2.2.2.2.2.2.2.1 v376.2.2.2.2.2.2.2.2.1 v376.2.2.2.2.2.2.2.2.2.1 v376.2.2.2.2.2.2.2.2.2.2.1 v376.2.2.2.2.2.2.2.2.2.2.2.1 v376.2.2.2.2.2.2.2.2.2.2.2.2.1 v376.2.2.2.2.2.2.2.2.2.2.2.2.2.1) fun v377 => W.call (ref33_SameW W v377.1 (0, ([], ([], ([], ([], ([], ([], ([], ([], ([], ([], ([], ()))))))))))))) fun v378 => 
                                       W.cnd (!v378) (some false)
                                        (W.call (engine_Engine_LeftNW W v377.2.1 v377.2.2.1 v377.2.2.2.1 v377.2.2.2.2.1 v377.2.2.2.2.2.1 v377.2.2.2.2.2.2.1 v377.2.2.2.2.2.2.2.1 v377.2.2.2.2.2.2.2.2.1 v377.2.2.2.2.2.2.2.2.2.1 v377.2.2.2.2.2.2.2.2.2.2.1 v377.2.2.2.2.2.2.2.2.2.2.2.1 v377.2.2.2.2.2.2.2.2.2.2.2.2.1 v377.2.2.2.2.2.2.2.2.2.2.2.2.2.1) fun v379 => 
                                        W.cnd (v379.1 != 0) (some false)
                                         (none)))))))
                                   (W.call (ref01_CutW W b 90) fun v380 => W.call (engine_Engine_Do2W W v380) fun v381 => W.call (engine_Open2W W each) fun v382 => 
                                   W.cnd (decide (0 < (v381.1.1.length : Int))) (some false)
                                    (
                                    W.cnd (v381.1.2.1 != 1) (some false)
                                     (
                                     W.cnd (v382.1.2.1 != 1) (some false)
                                      (W.call (engine_Engine_CompactW W) fun v383 => 
                                      W.cnd (v383.1 != 1) (some false)
                                       (W.call (engine_Engine_StateW W) fun v384 => W.call (ref33_SameW W v384.1 (0, ([], ([], ([], ([], ([], ([], ([], ([], ([], ([], ([], ()))))))))))))) fun v385 => 
                                       W.cnd (!v385) (some false)
                                        (W.call (engine_Engine_LeftW W) fun v386 => 
                                        W.cnd (v386.1 != 0) (some false)
                                         (none))))))))
                                  (W.call (law37_livesNW W) fun v387 => some v387))))))))
                           (W.call (ref01_CutW W b 90) fun v388 => W.call (engine_Engine_Do2W W v388) fun v389 => W.call (engine_Open2W W each) fun v390 => 
                           W.cnd (decide (0 < (v389.1.1.length : Int))) (some false)
                            (
                            W.cnd (v389.1.2.1 != 1) (some false)
                             (
                             W.cnd (v390.1.2.1 != 1) (some false)
                              (W.call (engine_Engine_CompactW W) fun v391 => 
                              W.cnd (v391.1 != 1) (some false)
                               (W.call (engine_Engine_StateW W) fun v392 => W.call (ref33_SameW W v392.1 (0, ([], ([], ([], ([], ([], ([], ([], ([], ([], ([], ([], ()))))))))))))) fun v393 => 
                               W.cnd (!v393) (some false)
                                (W.call (engine_Engine_LeftW W) fun v394 => 
                                W.cnd (v394.1 != 0) (some false)
                                 (
                                 W.cnd (decide ((IntKind.i64.wrap ((IntKind.i64.wrap ((IntKind.i64.wrap ((IntKind.i64.wrap (0 + 1)) + 1)) + 1)) + 1)) < 2)) (
                                  W.cnd ((IntKind.i64.wrap ((IntKind.i64.wrap ((IntKind.i64.wrap ((IntKind.i64.wrap (0 + 1)) + 1)) + 1)) + 1)) == 1) (W.call (ref01_CutW W b 90) fun v395 => W.call (engine_Engine_DoW W 0 [] [] [] [] [] [] [] [] [] [] [] false v395) fun v396 => W.call (engine_OpenNW W false false 0 [] 0 each) fun v397 => 
                                   W.cnd (decide (0 < (v396.1.1.length : Int))) (some false)
                                    (
                                    W.cnd (v396.1.2.1 != 1) (some false)
                                     (
                                     W.cnd (v397.1.2.1 != 1) (some false)
                                      (W.call (engine_Engine_CompactNW W v396.2.1 v396.2.2.1 v396.2.2.2.1 v396.2.2.2.2.1 v396.2.2.2.2.2.1 v396.2.2.2.2.2.2.1 v396.2.2.2.2.2.2.2.1 v396.2.2.2.2.2.2.2.2.1 v396.2.2.2.2.2.2.2.2.2.1 v396.2.2.2.2.2.2.2.2.2.2.1 v396.2.2.2.2.2.2.2.2.2.2.2.1 v396.2.2.2.2.2.2.2.2.2.2.2.2.1 v396.2.2.2.2.2.2.2.2.2.2.2.2.2.1) fun v398 => 
                                      W.cnd (v398.1 != 1) (some false)
                                       (W.call (engine_Engine_StateNW W v398.2.1 v398.2.2.1 v398.2.2.2.1 v398.2.2.2.2.1 v398.2.2.2.2.2.1 v398.2.2.2.2.2.2.1 v398.2.2.2.2.2.2.2.1 v398.2.2.2.2.2.2.2.2.1 v398.2.2.2.2.2.2.2.2.2.1 v398.2.2.2.2.2.2.2.2.2.2.1 v398.2.2.2.2.2.2.2.2.2.2.2.1 v398.2.2.2.2.2.2.2.2.2.2.2.2.1 v398.2.2.2.2.2.2.2.2.2.2.2.2.2.1) fun v399 => W.call (ref33_SameW W v399.1 (0, ([], ([], ([], ([], ([], ([], ([], ([], ([], ([], ([], ()))))))))))))) fun v400 => 
                                       W.cnd (!v400) (some false)
                                        (W.call (engine_Engine_LeftNW W v399.2.1 v399.2.2.1 v399.2.2.2.1 v399.2.2.2.2.1 v399.2.2.2.2.2.1 v399.2.2.2.2.2.2.1 v399.2.2.2.2.2.2.2.1 v399.2.2.2.2.2.2.2.2.1 v399.2.2.2.2.2.2.2.2.2.1 v399.2.2.2.2.2.2.2.2.2.2.1 v399.2.2.2.2.2.2.2.2.2.2.2.1 v399.2.2.2.2.2.2.2.2.2.2.2.2.1 v399.2.2.2.2.2.2.2.2.2.2.2.2.2.1) fun v401 => 
                                        W.cnd (v401.1 != 0) (some false)
                                         (none)))))))
                                   (W.call (ref01_CutW W b 90) fun v402 => W.call (engine_Engine_Do2W W v402) fun v403 => W.call (engine_Open2W W each) fun v404 => 
                                   W.cnd (decide (0 < (v403.1.1.length : Int))) (some false)
                                    (
                                    W.cnd (v403.1.2.1 != 1) (some false)
                                     (
                                     W.cnd (v404.1.2.1 != 1) (some false)
                                      (W.call (engine_Engine_CompactW W) fun v405 => 
                                      W.cnd (v405.1 != 1) (some false)
                                       (W.call (engine_Engine_StateW W) fun v406 => W.call (ref33_SameW W v406.1 (0, ([], ([], ([], ([], ([], ([], ([], ([], ([], ([], ([], ()))))))))))))) fun v407 => 
                                       W.cnd (!v407) (some false)
                                        (W.call (engine_Engine_LeftW W) fun v408 => 
                                        W.cnd (v408.1 != 0) (some false)
                                         (none))))))))
                                  (W.call (law37_livesNW W) fun v409 => some v409)))))))))
                          (W.call (law37_livesNW W) fun v410 => some v410))))))))
                   (W.call (ref01_CutW W b 90) fun v411 => W.call (engine_Engine_Do2W W v411) fun v412 => W.call (engine_Open2W W each) fun v413 => 
                   W.cnd (decide (0 < (v412.1.1.length : Int))) (some false)
                    (
                    W.cnd (v412.1.2.1 != 1) (some false)
                     (
                     W.cnd (v413.1.2.1 != 1) (some false)
                      (W.call (engine_Engine_CompactW W) fun v414 => 
                      W.cnd (v414.1 != 1) (some false)
                       (W.call (engine_Engine_StateW W) fun v415 => W.call (ref33_SameW W v415.1 (0, ([], ([], ([], ([], ([], ([], ([], ([], ([], ([], ([], ()))))))))))))) fun v416 => 
                       W.cnd (!v416) (some false)
                        (W.call (engine_Engine_LeftW W) fun v417 => 
                        W.cnd (v417.1 != 0) (some false)
                         (
                         W.cnd (decide ((IntKind.i64.wrap ((IntKind.i64.wrap ((IntKind.i64.wrap (0 + 1)) + 1)) + 1)) < 2)) (
                          W.cnd ((IntKind.i64.wrap ((IntKind.i64.wrap ((IntKind.i64.wrap (0 + 1)) + 1)) + 1)) == 1) (W.call (ref01_CutW W b 90) fun v418 => W.call (engine_Engine_DoW W 0 [] [] [] [] [] [] [] [] [] [] [] false v418) fun v419 => W.call (engine_OpenNW W false false 0 [] 0 each) fun v420 => 
                           W.cnd (decide (0 < (v419.1.1.length : Int))) (some false)
                            (
                            W.cnd (v419.1.2.1 != 1) (some false)
                             (
                             W.cnd (v420.1.2.1 != 1) (some false)
                              (W.call (engine_Engine_CompactNW W v419.2.1 v419.2.2.1 v419.2.2.2.1 v419.2.2.2.2.1 v419.2.2.2.2.2.1 v419.2.2.2.2.2.2.1 v419.2.2.2.2.2.2.2.1 v419.2.2.2.2.2.2.2.2.1 v419.2.2.2.2.2.2.2.2.2.1 v419.2.2.2.2.2.2.2.2.2.2.1 v419.2.2.2.2.2.2.2.2.2.2.2.1 v419.2.2.2.2.2.2.2.2.2.2.2.2.1 v419.2.2.2.2.2.2.2.2.2.2.2.2.2.1) fun v421 => 
                              W.cnd (v421.1 != 1) (some false)
                               (W.call (engine_Engine_StateNW W v421.2.1 v421.2.2.1 v421.2.2.2.1 v421.2.2.2.2.1 v421.2.2.2.2.2.1 v421.2.2.2.2.2.2.1 v421.2.2.2.2.2.2.2.1 v421.2.2.2.2.2.2.2.2.1 v421.2.2.2.2.2.2.2.2.2.1 v421.2.2.2.2.2.2.2.2.2.2.1 v421.2.2.2.2.2.2.2.2.2.2.2.1 v421.2.2.2.2.2.2.2.2.2.2.2.2.1 v421.2.2.2.2.2.2.2.2.2.2.2.2.2.1) fun v422 => W.call (ref33_SameW W v422.1 (0, ([], ([], ([], ([], ([], ([], ([], ([], ([], ([], ([], ()))))))))))))) fun v423 => 
                               W.cnd (!v423) (some false)
                                (W.call (engine_Engine_LeftNW W v422.2.1 v422.2.2.1 v422.2.2.2.1 v422.2.2.2.2.1 v422.2.2.2.2.2.1 v422.2.2.2.2.2.2.1 v422.2.2.2.2.2.2.2.1 v422.2.2.2.2.2.2.2.2.1 v422.2.2.2.2.2.2.2.2.2.1 v422.2.2.2.2.2.2.2.2.2.2.1 v422.2.2.2.2.2.2.2.2.2.2.2.1 v422.2.2.2.2.2.2.2.2.2.2.2.2.1 v422.2.2.2.2.2.2.2.2.2.2.2.2.2.1) fun v424 => 
                                W.cnd (v424.1 != 0) (some false)
                                 (
                                 W.cnd (decide ((IntKind.i64.wrap ((IntKind.i64.wrap ((IntKind.i64.wrap ((IntKind.i64.wrap (0 + 1)) + 1)) + 1)) + 1)) < 2)) (
                                  W.cnd ((IntKind.i64.wrap ((IntKind.i64.wrap ((IntKind.i64.wrap ((IntKind.i64.wrap (0 + 1)) + 1)) + 1)) + 1)) == 1) (W.call (ref01_CutW W b 90) fun v425 => W.call (engine_Engine_DoW W 0 [] [] [] [] [] [] [] [] [] [] [] false v425) fun v426 => W.call (engine_OpenNW W false false 0 [] 0 each) fun v427 => 
                                   W.cnd (decide (0 < (v426.1.1.length : Int))) (some false)
                                    (
                                    W.cnd (v426.1.2.1 != 1) (some false)
                                     (
                                     W.cnd (v427.1.2.1 != 1) (some false)
                                      (W.call (engine_Engine_CompactNW W v426.2.1 v426.2.2.1 v426.2.2.2.1 v426.2.2.2.2.1 v426.2.2.2.2.2.1 v426.2.2.2.2.2.2.1 v426.2.2.2.2.2.2.2.1 v426.2.2.2.2.2.2.2.2.1 v426.2.2.2.2.2.2.2.2.2.1 v426.2.2.2.2.2.2.2.2.2.2.1 v426.2.2.2.2.2.2.2.2.2.2.2.1 v426.2.2.2.2.2.2.2.2.2.2.2.2.1 v426.2.2.2.2.2.2.2.2.2.2.2.2.2.1) fun v428 => 
                                      W.cnd (v428.1 != 1) (some false)
                                       (W.call (engine_Engine_StateNW W v428.2.1 v428.2.2.1 v428.2.2.2.1 v428.2.2.2.2.1 v428.2.2.2.2.2.1 v428.2.2.2.2.2.2.1 v428.2.2.2.2.2.2.2.1 v428.2.2.2.2.2.2.2.2.1 v428.2.2.2.2.2.2.2.2.2.1 v428.2.2.2.2.2.2.2.2.2.2.1 v428.2.2.2.2.2.2.2.2.2.2.2.1 v428.2.2.2.2.2.2.2.2.2.2.2.2.1 v428.2.2.2.2.2.2.2.2.2.2.2.2.2.1) fun v429 => W.call (ref33_SameW W v429.1 (0, ([], ([], ([], ([], ([], ([], ([], ([], ([], ([], ([], ()))))))))))))) fun v430 => 
                                       W.cnd (!v430) (some false)
                                        (W.call (engine_Engine_LeftNW W v429.2.1 v429.2.2.1 v429.2.2.2.1 v429.2.2.2.2.1 v429.2.2.2.2.2.1 v429.2.2.2.2.2.2.1 v429.2.2.2.2.2.2.2.1 v429.2.2.2.2.2.2.2.2.1 v429.2.2.2.2.2.2.2.2.2.1 v429.2.2.2.2.2.2.2.2.2.2.1 v429.2.2.2.2.2.2.2.2.2.2.2.1 v429.2.2.2.2.2.2.2.2.2.2.2.2.1 v429.2.2.2.2.2.2.2.2.2.2.2.2.2.1) fun v431 => 
                                        W.cnd (v431.1 != 0) (some false)
                                         (none)))))))
                                   (W.call (ref01_CutW W b 90) fun v432 => W.call (engine_Engine_Do2W W v432) fun v433 => W.call (engine_Open2W W each) fun v434 => 
                                   W.cnd (decide (0 < (v433.1.1.length : Int))) (some false)
                                    (
                                    W.cnd (v433.1.2.1 != 1) (some false)
                                     (
                                     W.cnd (v434.1.2.1 != 1) (some false)
                                      (W.call (engine_Engine_CompactW W) fun v435 => 
                                      W.cnd (v435.1 != 1) (some false)
                                       (W.call (engine_Engine_StateW W) fun v436 => W.call (ref33_SameW W v436.1 (0, ([], ([], ([], ([], ([], ([], ([], ([], ([], ([], ([], ()))))))))))))) fun v437 => 
                                       W.cnd (!v437) (some false)
                                        (W.call (engine_Engine_LeftW W) fun v438 => 
                                        W.cnd (v438.1 != 0) (some false)
                                         (none))))))))
                                  (W.call (law37_livesNW W) fun v439 => some v439))))))))
                           (W.call (ref01_CutW W b 90) fun v440 => W.call (engine_Engine_Do2W W v440) fun v441 => W.call (engine_Open2W W each) fun v442 => 
                           W.cnd (decide (0 < (v441.1.1.length : Int))) (some false)
                            (
                            W.cnd (v441.1.2.1 != 1) (some false)
                             (
                             W.cnd (v442.1.2.1 != 1) (some false)
                              (W.call (engine_Engine_CompactW W) fun v443 => 
                              W.cnd (v443.1 != 1) (some false)
                               (W.call (engine_Engine_StateW W) fun v444 => W.call (ref33_SameW W v444.1 (0, ([], ([], ([], ([], ([], ([], ([], ([], ([], ([], ([], ()))))))))))))) fun v445 => 
                               W.cnd (!v445) (some false)
                                (W.call (engine_Engine_LeftW W) fun v446 => 
                                W.cnd (v446.1 != 0) (some false)
                                 (
                                 W.cnd (decide ((IntKind.i64.wrap ((IntKind.i64.wrap ((IntKind.i64.wrap ((IntKind.i64.wrap (0 + 1)) + 1)) + 1)) + 1)) < 2)) (
                                  W.cnd ((IntKind.i64.wrap ((IntKind.i64.wrap ((IntKind.i64.wrap ((IntKind.i64.wrap (0 + 1)) + 1)) + 1)) + 1)) == 1) (W.call (ref01_CutW W b 90) fun v447 => W.call (engine_Engine_DoW W 0 [] [] [] [] [] [] [] [] [] [] [] false v447) fun v448 => W.call (engine_OpenNW W false false 0 [] 0 each) fun v449 => 
                                   W.cnd (decide (0 < (v448.1.1.length : Int))) (some false)
                                    (
                                    W.cnd (v448.1.2.1 != 1) (some false)
                                     (
                                     W.cnd (v449.1.2.1 != 1) (some false)
                                      (W.call (engine_Engine_CompactNW W v448.2.1 v448.2.2.1 v448.2.2.2.1 v448.2.2.2.2.1 v448.2.2.2.2.2.1 v448.2.2.2.2.2.2.1 v448.2.2.2.2.2.2.2.1 v448.2.2.2.2.2.2.2.2.1 v448.2.2.2.2.2.2.2.2.2.1 v448.2.2.2.2.2.2.2.2.2.2.1 v448.2.2.2.2.2.2.2.2.2.2.2.1 v448.2.2.2.2.2.2.2.2.2.2.2.2.1 v448.2.2.2.2.2.2.2.2.2.2.2.2.2.1) fun v450 => 
                                      W.cnd (v450.1 != 1) (some false)
                                       (W.call (engine_Engine_StateNW W v450.2.1 v450.2.2.1 v450.2.2.2.1 v450.2.2.2.2.1 v450.2.2.2.2.2.1 v450.2.2.2.2.2.2.1 v450.2.2.2.2.2.2.2.1 v450.2.2.2.2.2.2.2.2.1 v450.2.2.2.2.2.2.2.2.2.1 v450.2.2.2.2.2.2.2.2.2.2.1 v450.2.2.2.2.2.2.2.2.2.2.2.1 v450.2.2.2.2.2.2.2.2.2.2.2.2.1 v450.2.2.2.2.2.2.2.2.2.2.2.2.2.1) fun v451 => W.call (ref33_SameW W v451.1 (0, ([], ([], ([], ([], ([], ([], ([], ([], ([], ([], ([], ()))))))))))))) fun v452 => 
                                       W.cnd (!v452) (some false)
                                        (W.call (engine_Engine_LeftNW W v451.2.1 v451.2.2.1 v451.2.2.2.1 v451.2.2.2.2.1 v451.2.2.2.2.2.1 v451.2.2.2.2.2.2.1 v451.2.2.2.2.2.2.2.1 v451.2.2.2.2.2.2.2.2.1 v451.2.2.2.2.2.2.2.2.2.1 v451.2.2.2.2.2.2.2.2.2.2.1 v451.2.2.2.2.2.2.2.2.2.2.2.1 v451.2.2.2.2.2.2.2.2.2.2.2.2.1 v451.2.2.2.2.2.2.2.2.2.2.2.2.2.1) fun v453 => 
                                        W.cnd (v453.1 != 0) (some false)
                                         (none)))))))
                                   (W.call (ref01_CutW W b 90) fun v454 => W.call (engine_Engine_Do2W W v454) fun v455 => W.call (engine_Open2W W each) fun v456 => 
                                   W.cnd (decide (0 < (v455.1.1.length : Int))) (some false)
                                    (
                                    W.cnd (v455.1.2.1 != 1) (some false)
                                     (
                                     W.cnd (v456.1.2.1 != 1) (some false)
                                      (W.call (engine_Engine_CompactW W) fun v457 => 
                                      W.cnd (v457.1 != 1) (some false)
                                       (W.call (engine_Engine_StateW W) fun v458 => W.call (ref33_SameW W v458.1 (0, ([], ([], ([], ([], ([], ([], ([], ([], ([], ([], ([], ()))))))))))))) fun v459 => 
                                       W.cnd (!v459) (some false)
                                        (W.call (engine_Engine_LeftW W) fun v460 => 
                                        W.cnd (v460.1 != 0) (some false)
                                         (none))))))))
                                  (W.call (law37_livesNW W) fun v461 => some v461)))))))))
                          (W.call (law37_livesNW W) fun v462 => some v462)))))))))
                  (W.call (law37_livesNW W) fun v463 => some v463)))))))))
          (W.call (law37_livesNW W) fun v464 => some v464)))))))))
  (W.call (law37_livesNW W) fun v465 => some v465)
def law37_EngineNobodyN_k : KC Tryz.prog := kes kp 3 (.pair (.slc (.int .u8)) (.pair (.int .i64) .unit)) (.v .bool) (fun W x => law37_EngineNobodyNW W x.1 x.2.1) [ref01_Cut_k, engine_Engine_Do_k, engine_OpenN_k, engine_Engine_CompactN_k, engine_Engine_StateN_k, ref33_Same_k, engine_Engine_LeftN_k, engine_Engine_Do2_k, engine_Open2_k, engine_Engine_Compact_k, engine_Engine_State_k, engine_Engine_Left_k, law37_livesN_k] [] [] [] Tryz.func3 rfl (by decide +kernel) (fun W x => by kernel_rfl)
end Go.Proofs.YtclleaffonkegaaGreat


