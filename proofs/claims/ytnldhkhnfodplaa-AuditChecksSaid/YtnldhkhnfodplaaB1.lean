import Derived.Test.YtnldhkhnfodplaaK2
import Derived.Test.YtnldhkhnfodplaaRows
import Derived.Laws.Bits64
import Derived.Laws.Bits64b
import Derived.Laws.BytesString
namespace Go.Proofs.Ytnldhkhnfodplaa
open Go.Vc
def tab : List TI := [
  ⟨false, .other, 0, 0, false, [], none⟩,
  ⟨false, .other, 0, 0, false, [], none⟩,
  ⟨true, .int .i64, 1, 8, false, [.int .i64 0], some [.int .i64]⟩,
  ⟨true, .int .i64, 1, 8, false, [.int .i64 0], some [.int .i64]⟩,
  ⟨true, .bool, 1, 1, false, [.bool false], some [.bool]⟩,
  ⟨true, .int .u8, 1, 1, false, [.int .u8 0], some [.int .u8]⟩,
  ⟨false, .other, 0, 0, false, [], none⟩,
  ⟨false, .other, 0, 0, false, [], none⟩,
  ⟨false, .other, 0, 0, false, [], none⟩,
  ⟨true, .string, 1, 16, false, [.string .empty], some [.str]⟩,
  ⟨false, .other, 0, 0, false, [], none⟩,
  ⟨false, .other, 0, 0, false, [], none⟩,
  ⟨true, .int .u64, 1, 8, false, [.int .u64 0], some [.int .u64]⟩,
  ⟨false, .other, 0, 0, false, [], none⟩,
  ⟨false, .other, 0, 0, false, [], none⟩,
  ⟨false, .other, 0, 0, false, [], none⟩,
  ⟨false, .other, 0, 0, false, [], none⟩,
  ⟨false, .other, 0, 0, false, [], none⟩,
  ⟨false, .other, 0, 0, false, [], none⟩,
  ⟨false, .other, 0, 0, false, [], none⟩,
  ⟨false, .other, 0, 0, false, [], none⟩,
  ⟨true, .int .i32, 1, 4, false, [.int .i32 0], some [.int .i32]⟩,
  ⟨true, .struct [(0, 3, 1), (1, 2, 1), (2, 3, 1), (3, 3, 1)], 4, 32, true, [.int .i64 0, .int .i64 0, .int .i64 0, .int .i64 0], some [.int .i64, .int .i64, .int .i64, .int .i64]⟩,
  ⟨true, .struct [(0, 3, 1), (1, 2, 1), (2, 3, 1), (3, 3, 1)], 4, 32, true, [.int .i64 0, .int .i64 0, .int .i64 0, .int .i64 0], some [.int .i64, .int .i64, .int .i64, .int .i64]⟩,
  ⟨true, .slice 3, 1, 24, false, [.slice none 0 0], none⟩,
  ⟨true, .int .i64, 1, 8, false, [.int .i64 0], some [.int .i64]⟩,
  ⟨false, .other, 0, 0, false, [], none⟩,
  ⟨false, .other, 0, 0, false, [], none⟩,
  ⟨false, .other, 0, 0, false, [], none⟩,
  ⟨false, .other, 0, 0, false, [], none⟩,
  ⟨false, .other, 0, 0, false, [], none⟩,
  ⟨false, .other, 0, 0, false, [], none⟩,
  ⟨false, .other, 0, 0, false, [], none⟩,
  ⟨false, .other, 0, 0, false, [], none⟩,
  ⟨false, .other, 0, 0, false, [], none⟩,
  ⟨false, .other, 0, 0, false, [], none⟩,
  ⟨false, .other, 0, 0, false, [], none⟩,
  ⟨false, .other, 0, 0, false, [], none⟩,
  ⟨true, .slice 44, 1, 24, false, [.slice none 0 0], none⟩,
  ⟨true, .ptr 63, 1, 8, false, [.pointer none], none⟩,
  ⟨false, .other, 0, 0, false, [], none⟩,
  ⟨true, .slice 5, 1, 24, false, [.slice none 0 0], none⟩,
  ⟨true, .slice 2, 1, 24, false, [.slice none 0 0], none⟩,
  ⟨true, .struct [(0, 3, 1), (1, 42, 1), (2, 9, 1), (3, 2, 1), (4, 2, 1), (5, 3, 1)], 6, 72, true, [.int .i64 0, .slice none 0 0, .string .empty, .int .i64 0, .int .i64 0, .int .i64 0], none⟩,
  ⟨true, .struct [(0, 3, 1), (1, 42, 1), (2, 9, 1), (3, 2, 1), (4, 2, 1), (5, 3, 1)], 6, 72, true, [.int .i64 0, .slice none 0 0, .string .empty, .int .i64 0, .int .i64 0, .int .i64 0], none⟩,
  ⟨false, .other, 0, 0, false, [], none⟩,
  ⟨false, .other, 0, 0, false, [], none⟩,
  ⟨false, .other, 0, 0, false, [], none⟩,
  ⟨false, .other, 0, 0, false, [], none⟩,
  ⟨false, .other, 0, 0, false, [], none⟩,
  ⟨false, .other, 0, 0, false, [], none⟩,
  ⟨false, .other, 0, 0, false, [], none⟩,
  ⟨false, .other, 0, 0, false, [], none⟩,
  ⟨false, .other, 0, 0, false, [], none⟩,
  ⟨false, .other, 0, 0, false, [], none⟩,
  ⟨true, .ptr 65, 1, 8, false, [.pointer none], none⟩,
  ⟨false, .other, 0, 0, false, [], none⟩,
  ⟨false, .other, 0, 0, false, [], none⟩,
  ⟨false, .other, 0, 0, false, [], none⟩,
  ⟨false, .other, 0, 0, false, [], none⟩,
  ⟨false, .other, 0, 0, false, [], none⟩,
  ⟨false, .other, 0, 0, false, [], none⟩,
  ⟨true, .struct [(0, 4, 1), (1, 41, 1)], 2, 32, true, [.bool false, .slice none 0 0], none⟩,
  ⟨true, .struct [(0, 4, 1), (1, 41, 1)], 2, 32, true, [.bool false, .slice none 0 0], none⟩,
  ⟨true, .struct [(0, 4, 1), (1, 41, 1), (2, 25, 1)], 3, 40, true, [.bool false, .slice none 0 0, .int .i64 0], none⟩,
  ⟨true, .struct [(0, 4, 1), (1, 41, 1), (2, 25, 1)], 3, 40, true, [.bool false, .slice none 0 0, .int .i64 0], none⟩,
  ⟨false, .other, 0, 0, false, [], none⟩,
  ⟨true, .slice 23, 1, 24, false, [.slice none 0 0], none⟩,
  ⟨true, .slice 152, 1, 24, false, [.slice none 0 0], none⟩,
  ⟨true, .slice 147, 1, 24, false, [.slice none 0 0], none⟩,
  ⟨true, .slice 149, 1, 24, false, [.slice none 0 0], none⟩,
  ⟨true, .slice 188, 1, 24, false, [.slice none 0 0], none⟩,
  ⟨true, .slice 154, 1, 24, false, [.slice none 0 0], none⟩,
  ⟨true, .slice 158, 1, 24, false, [.slice none 0 0], none⟩,
  ⟨true, .slice 221, 1, 24, false, [.slice none 0 0], none⟩,
  ⟨true, .slice 131, 1, 24, false, [.slice none 0 0], none⟩,
  ⟨true, .slice 224, 1, 24, false, [.slice none 0 0], none⟩,
  ⟨true, .struct [(0, 3, 1), (1, 67, 1), (2, 68, 1), (3, 69, 1), (4, 70, 1), (5, 71, 1), (6, 72, 1), (7, 73, 1), (8, 74, 1), (9, 74, 1), (10, 75, 1), (11, 76, 1)], 12, 272, true, [.int .i64 0, .slice none 0 0, .slice none 0 0, .slice none 0 0, .slice none 0 0, .slice none 0 0, .slice none 0 0, .slice none 0 0, .slice none 0 0, .slice none 0 0, .slice none 0 0, .slice none 0 0], none⟩,
  ⟨true, .struct [(0, 3, 1), (1, 67, 1), (2, 68, 1), (3, 69, 1), (4, 70, 1), (5, 71, 1), (6, 72, 1), (7, 73, 1), (8, 74, 1), (9, 74, 1), (10, 75, 1), (11, 76, 1)], 12, 272, true, [.int .i64 0, .slice none 0 0, .slice none 0 0, .slice none 0 0, .slice none 0 0, .slice none 0 0, .slice none 0 0, .slice none 0 0, .slice none 0 0, .slice none 0 0, .slice none 0 0, .slice none 0 0], none⟩,
  ⟨true, .slice 160, 1, 24, false, [.slice none 0 0], none⟩,
  ⟨false, .other, 0, 0, false, [], none⟩,
  ⟨false, .other, 0, 0, false, [], none⟩,
  ⟨false, .other, 0, 0, false, [], none⟩,
  ⟨false, .other, 0, 0, false, [], none⟩,
  ⟨true, .struct [(0, 3, 1), (1, 3, 1)], 2, 16, true, [.int .i64 0, .int .i64 0], some [.int .i64, .int .i64]⟩,
  ⟨true, .struct [(0, 3, 1), (1, 3, 1)], 2, 16, true, [.int .i64 0, .int .i64 0], some [.int .i64, .int .i64]⟩,
  ⟨true, .struct [(0, 4, 1), (1, 41, 1)], 2, 32, true, [.bool false, .slice none 0 0], none⟩,
  ⟨true, .struct [(0, 4, 1), (1, 41, 1)], 2, 32, true, [.bool false, .slice none 0 0], none⟩,
  ⟨false, .other, 0, 0, false, [], none⟩,
  ⟨false, .other, 0, 0, false, [], none⟩,
  ⟨false, .other, 0, 0, false, [], none⟩,
  ⟨false, .other, 0, 0, false, [], none⟩,
  ⟨true, .int .u64, 1, 8, false, [.int .u64 0], some [.int .u64]⟩,
  ⟨true, .struct [(0, 2, 1), (1, 92, 1)], 2, 16, true, [.int .i64 0, .int .u64 0], some [.int .i64, .int .u64]⟩,
  ⟨true, .struct [(0, 2, 1), (1, 92, 1)], 2, 16, true, [.int .i64 0, .int .u64 0], some [.int .i64, .int .u64]⟩,
  ⟨false, .other, 0, 0, false, [], none⟩,
  ⟨false, .other, 0, 0, false, [], none⟩,
  ⟨false, .other, 0, 0, false, [], none⟩,
  ⟨false, .other, 0, 0, false, [], none⟩,
  ⟨true, .slice 174, 1, 24, false, [.slice none 0 0], none⟩,
  ⟨false, .other, 0, 0, false, [], none⟩,
  ⟨false, .other, 0, 0, false, [], none⟩,
  ⟨false, .other, 0, 0, false, [], none⟩,
  ⟨false, .other, 0, 0, false, [], none⟩,
  ⟨true, .struct [(0, 3, 1), (1, 3, 1), (2, 3, 1), (3, 85, 2), (5, 85, 2), (7, 3, 1), (8, 3, 1), (9, 3, 1), (10, 3, 1), (11, 2, 1), (12, 2, 1), (13, 42, 1)], 14, 128, true, [.int .i64 0, .int .i64 0, .int .i64 0, .int .i64 0, .int .i64 0, .int .i64 0, .int .i64 0, .int .i64 0, .int .i64 0, .int .i64 0, .int .i64 0, .int .i64 0, .int .i64 0, .slice none 0 0], none⟩,
  ⟨true, .struct [(0, 3, 1), (1, 3, 1), (2, 3, 1), (3, 85, 2), (5, 85, 2), (7, 3, 1), (8, 3, 1), (9, 3, 1), (10, 3, 1), (11, 2, 1), (12, 2, 1), (13, 42, 1)], 14, 128, true, [.int .i64 0, .int .i64 0, .int .i64 0, .int .i64 0, .int .i64 0, .int .i64 0, .int .i64 0, .int .i64 0, .int .i64 0, .int .i64 0, .int .i64 0, .int .i64 0, .int .i64 0, .slice none 0 0], none⟩,
  ⟨false, .other, 0, 0, false, [], none⟩,
  ⟨false, .other, 0, 0, false, [], none⟩,
  ⟨false, .other, 0, 0, false, [], none⟩,
  ⟨false, .other, 0, 0, false, [], none⟩,
  ⟨false, .other, 0, 0, false, [], none⟩,
  ⟨false, .other, 0, 0, false, [], none⟩,
  ⟨false, .other, 0, 0, false, [], none⟩,
  ⟨false, .other, 0, 0, false, [], none⟩,
  ⟨false, .other, 0, 0, false, [], none⟩,
  ⟨false, .other, 0, 0, false, [], none⟩,
  ⟨false, .other, 0, 0, false, [], none⟩,
  ⟨false, .other, 0, 0, false, [], none⟩,
  ⟨false, .other, 0, 0, false, [], none⟩,
  ⟨false, .other, 0, 0, false, [], none⟩,
  ⟨true, .slice 163, 1, 24, false, [.slice none 0 0], none⟩,
  ⟨true, .struct [(0, 25, 1), (1, 42, 1), (2, 99, 1), (3, 120, 1)], 4, 80, true, [.int .i64 0, .slice none 0 0, .slice none 0 0, .slice none 0 0], none⟩,
  ⟨true, .struct [(0, 25, 1), (1, 42, 1), (2, 99, 1), (3, 120, 1)], 4, 80, true, [.int .i64 0, .slice none 0 0, .slice none 0 0, .slice none 0 0], none⟩,
  ⟨false, .other, 0, 0, false, [], none⟩,
  ⟨false, .other, 0, 0, false, [], none⟩,
  ⟨false, .other, 0, 0, false, [], none⟩,
  ⟨false, .other, 0, 0, false, [], none⟩,
  ⟨false, .other, 0, 0, false, [], none⟩,
  ⟨false, .other, 0, 0, false, [], none⟩,
  ⟨false, .other, 0, 0, false, [], none⟩,
  ⟨true, .struct [(0, 85, 2), (2, 2, 1)], 3, 24, true, [.int .i64 0, .int .i64 0, .int .i64 0], some [.int .i64, .int .i64, .int .i64]⟩,
  ⟨true, .struct [(0, 85, 2), (2, 2, 1)], 3, 24, true, [.int .i64 0, .int .i64 0, .int .i64 0], some [.int .i64, .int .i64, .int .i64]⟩,
  ⟨false, .other, 0, 0, false, [], none⟩,
  ⟨false, .other, 0, 0, false, [], none⟩,
  ⟨false, .other, 0, 0, false, [], none⟩,
  ⟨false, .other, 0, 0, false, [], none⟩,
  ⟨false, .other, 0, 0, false, [], none⟩,
  ⟨false, .other, 0, 0, false, [], none⟩,
  ⟨false, .other, 0, 0, false, [], none⟩,
  ⟨false, .other, 0, 0, false, [], none⟩,
  ⟨false, .other, 0, 0, false, [], none⟩,
  ⟨false, .other, 0, 0, false, [], none⟩,
  ⟨false, .other, 0, 0, false, [], none⟩,
  ⟨false, .other, 0, 0, false, [], none⟩,
  ⟨false, .other, 0, 0, false, [], none⟩,
  ⟨false, .other, 0, 0, false, [], none⟩,
  ⟨true, .struct [(0, 3, 1), (1, 2, 1), (2, 2, 1)], 3, 24, true, [.int .i64 0, .int .i64 0, .int .i64 0], some [.int .i64, .int .i64, .int .i64]⟩,
  ⟨true, .struct [(0, 3, 1), (1, 2, 1), (2, 2, 1)], 3, 24, true, [.int .i64 0, .int .i64 0, .int .i64 0], some [.int .i64, .int .i64, .int .i64]⟩,
  ⟨true, .struct [(0, 3, 1), (1, 3, 1), (2, 3, 1), (3, 24, 1)], 4, 48, true, [.int .i64 0, .int .i64 0, .int .i64 0, .slice none 0 0], none⟩,
  ⟨true, .struct [(0, 3, 1), (1, 3, 1), (2, 3, 1), (3, 24, 1)], 4, 48, true, [.int .i64 0, .int .i64 0, .int .i64 0, .slice none 0 0], none⟩,
  ⟨false, .other, 0, 0, false, [], none⟩,
  ⟨true, .struct [(0, 3, 1), (1, 2, 1), (2, 2, 1), (3, 2, 1), (4, 42, 1)], 5, 56, true, [.int .i64 0, .int .i64 0, .int .i64 0, .int .i64 0, .slice none 0 0], none⟩,
  ⟨true, .struct [(0, 3, 1), (1, 2, 1), (2, 2, 1), (3, 2, 1), (4, 42, 1)], 5, 56, true, [.int .i64 0, .int .i64 0, .int .i64 0, .int .i64 0, .slice none 0 0], none⟩,
  ⟨true, .struct [(0, 3, 1), (1, 85, 2), (3, 3, 1), (4, 2, 1), (5, 2, 1)], 6, 48, true, [.int .i64 0, .int .i64 0, .int .i64 0, .int .i64 0, .int .i64 0, .int .i64 0], some [.int .i64, .int .i64, .int .i64, .int .i64, .int .i64, .int .i64]⟩,
  ⟨true, .struct [(0, 3, 1), (1, 85, 2), (3, 3, 1), (4, 2, 1), (5, 2, 1)], 6, 48, true, [.int .i64 0, .int .i64 0, .int .i64 0, .int .i64 0, .int .i64 0, .int .i64 0], some [.int .i64, .int .i64, .int .i64, .int .i64, .int .i64, .int .i64]⟩,
  ⟨true, .struct [(0, 3, 1), (1, 2, 1)], 2, 16, true, [.int .i64 0, .int .i64 0], some [.int .i64, .int .i64]⟩,
  ⟨true, .struct [(0, 3, 1), (1, 2, 1)], 2, 16, true, [.int .i64 0, .int .i64 0], some [.int .i64, .int .i64]⟩,
  ⟨true, .struct [(0, 3, 1), (1, 85, 2), (3, 85, 2), (5, 156, 2), (7, 2, 1), (8, 3, 1), (9, 3, 1), (10, 3, 1)], 11, 88, true, [.int .i64 0, .int .i64 0, .int .i64 0, .int .i64 0, .int .i64 0, .int .i64 0, .int .i64 0, .int .i64 0, .int .i64 0, .int .i64 0, .int .i64 0], some [.int .i64, .int .i64, .int .i64, .int .i64, .int .i64, .int .i64, .int .i64, .int .i64, .int .i64, .int .i64, .int .i64]⟩,
  ⟨true, .struct [(0, 3, 1), (1, 85, 2), (3, 85, 2), (5, 156, 2), (7, 2, 1), (8, 3, 1), (9, 3, 1), (10, 3, 1)], 11, 88, true, [.int .i64 0, .int .i64 0, .int .i64 0, .int .i64 0, .int .i64 0, .int .i64 0, .int .i64 0, .int .i64 0, .int .i64 0, .int .i64 0, .int .i64 0], some [.int .i64, .int .i64, .int .i64, .int .i64, .int .i64, .int .i64, .int .i64, .int .i64, .int .i64, .int .i64, .int .i64]⟩,
  ⟨true, .struct [(0, 105, 14), (14, 122, 4)], 18, 208, true, [.int .i64 0, .int .i64 0, .int .i64 0, .int .i64 0, .int .i64 0, .int .i64 0, .int .i64 0, .int .i64 0, .int .i64 0, .int .i64 0, .int .i64 0, .int .i64 0, .int .i64 0, .slice none 0 0, .int .i64 0, .slice none 0 0, .slice none 0 0, .slice none 0 0], none⟩,
  ⟨true, .struct [(0, 105, 14), (14, 122, 4)], 18, 208, true, [.int .i64 0, .int .i64 0, .int .i64 0, .int .i64 0, .int .i64 0, .int .i64 0, .int .i64 0, .int .i64 0, .int .i64 0, .int .i64 0, .int .i64 0, .int .i64 0, .int .i64 0, .slice none 0 0, .int .i64 0, .slice none 0 0, .slice none 0 0, .slice none 0 0], none⟩,
  ⟨true, .slice 200, 1, 24, false, [.slice none 0 0], none⟩,
  ⟨true, .struct [(0, 85, 2), (2, 2, 1), (3, 161, 1)], 4, 48, true, [.int .i64 0, .int .i64 0, .int .i64 0, .slice none 0 0], none⟩,
  ⟨true, .struct [(0, 85, 2), (2, 2, 1), (3, 161, 1)], 4, 48, true, [.int .i64 0, .int .i64 0, .int .i64 0, .slice none 0 0], none⟩,
  ⟨false, .other, 0, 0, false, [], none⟩,
  ⟨false, .other, 0, 0, false, [], none⟩,
  ⟨false, .other, 0, 0, false, [], none⟩,
  ⟨false, .other, 0, 0, false, [], none⟩,
  ⟨false, .other, 0, 0, false, [], none⟩,
  ⟨false, .other, 0, 0, false, [], none⟩,
  ⟨false, .other, 0, 0, false, [], none⟩,
  ⟨false, .other, 0, 0, false, [], none⟩,
  ⟨false, .other, 0, 0, false, [], none⟩,
  ⟨true, .struct [(0, 85, 2), (2, 85, 2), (4, 2, 1)], 5, 40, true, [.int .i64 0, .int .i64 0, .int .i64 0, .int .i64 0, .int .i64 0], some [.int .i64, .int .i64, .int .i64, .int .i64, .int .i64]⟩,
  ⟨true, .struct [(0, 85, 2), (2, 85, 2), (4, 2, 1)], 5, 40, true, [.int .i64 0, .int .i64 0, .int .i64 0, .int .i64 0, .int .i64 0], some [.int .i64, .int .i64, .int .i64, .int .i64, .int .i64]⟩,
  ⟨false, .other, 0, 0, false, [], none⟩,
  ⟨true, .ptr 179, 1, 8, false, [.pointer none], none⟩,
  ⟨true, .slice 94, 1, 24, false, [.slice none 0 0], none⟩,
  ⟨true, .struct [(0, 177, 1)], 1, 24, true, [.slice none 0 0], none⟩,
  ⟨true, .struct [(0, 177, 1)], 1, 24, true, [.slice none 0 0], none⟩,
  ⟨false, .other, 0, 0, false, [], none⟩,
  ⟨false, .other, 0, 0, false, [], none⟩,
  ⟨false, .other, 0, 0, false, [], none⟩,
  ⟨false, .other, 0, 0, false, [], none⟩,
  ⟨false, .other, 0, 0, false, [], none⟩,
  ⟨false, .other, 0, 0, false, [], none⟩,
  ⟨false, .other, 0, 0, false, [], none⟩,
  ⟨true, .struct [(0, 85, 2), (2, 85, 2), (4, 4, 1)], 5, 40, true, [.int .i64 0, .int .i64 0, .int .i64 0, .int .i64 0, .bool false], some [.int .i64, .int .i64, .int .i64, .int .i64, .bool]⟩,
  ⟨true, .struct [(0, 85, 2), (2, 85, 2), (4, 4, 1)], 5, 40, true, [.int .i64 0, .int .i64 0, .int .i64 0, .int .i64 0, .bool false], some [.int .i64, .int .i64, .int .i64, .int .i64, .bool]⟩,
  ⟨false, .other, 0, 0, false, [], none⟩,
  ⟨false, .other, 0, 0, false, [], none⟩,
  ⟨false, .other, 0, 0, false, [], none⟩,
  ⟨false, .other, 0, 0, false, [], none⟩,
  ⟨true, .ptr 195, 1, 8, false, [.pointer none], none⟩,
  ⟨true, .struct [(0, 41, 1), (1, 3, 1)], 2, 32, true, [.slice none 0 0, .int .i64 0], none⟩,
  ⟨true, .struct [(0, 41, 1), (1, 3, 1)], 2, 32, true, [.slice none 0 0, .int .i64 0], none⟩,
  ⟨false, .other, 0, 0, false, [], none⟩,
  ⟨false, .other, 0, 0, false, [], none⟩,
  ⟨false, .other, 0, 0, false, [], none⟩,
  ⟨true, .struct [(0, 3, 1), (1, 3, 1), (2, 2, 1)], 3, 24, true, [.int .i64 0, .int .i64 0, .int .i64 0], some [.int .i64, .int .i64, .int .i64]⟩,
  ⟨true, .struct [(0, 3, 1), (1, 3, 1), (2, 2, 1)], 3, 24, true, [.int .i64 0, .int .i64 0, .int .i64 0], some [.int .i64, .int .i64, .int .i64]⟩,
  ⟨false, .other, 0, 0, false, [], none⟩,
  ⟨false, .other, 0, 0, false, [], none⟩,
  ⟨false, .other, 0, 0, false, [], none⟩,
  ⟨false, .other, 0, 0, false, [], none⟩,
  ⟨false, .other, 0, 0, false, [], none⟩,
  ⟨false, .other, 0, 0, false, [], none⟩,
  ⟨false, .other, 0, 0, false, [], none⟩,
  ⟨false, .other, 0, 0, false, [], none⟩,
  ⟨true, .slice 85, 1, 24, false, [.slice none 0 0], none⟩,
  ⟨false, .other, 0, 0, false, [], none⟩,
  ⟨false, .other, 0, 0, false, [], none⟩,
  ⟨false, .other, 0, 0, false, [], none⟩,
  ⟨false, .other, 0, 0, false, [], none⟩,
  ⟨false, .other, 0, 0, false, [], none⟩,
  ⟨false, .other, 0, 0, false, [], none⟩,
  ⟨false, .other, 0, 0, false, [], none⟩,
  ⟨false, .other, 0, 0, false, [], none⟩,
  ⟨true, .int .u64, 1, 8, false, [.int .u64 0], some [.int .u64]⟩,
  ⟨true, .slice 156, 1, 24, false, [.slice none 0 0], none⟩,
  ⟨true, .struct [(0, 85, 2), (2, 219, 1)], 3, 40, true, [.int .i64 0, .int .i64 0, .slice none 0 0], none⟩,
  ⟨true, .struct [(0, 85, 2), (2, 219, 1)], 3, 40, true, [.int .i64 0, .int .i64 0, .slice none 0 0], none⟩,
  ⟨false, .other, 0, 0, false, [], none⟩,
  ⟨true, .struct [(0, 85, 2), (2, 161, 1)], 3, 40, true, [.int .i64 0, .int .i64 0, .slice none 0 0], none⟩,
  ⟨true, .struct [(0, 85, 2), (2, 161, 1)], 3, 40, true, [.int .i64 0, .int .i64 0, .slice none 0 0], none⟩,
  ⟨false, .other, 0, 0, false, [], none⟩,
  ⟨false, .other, 0, 0, false, [], none⟩,
  ⟨false, .other, 0, 0, false, [], none⟩,
  ⟨false, .other, 0, 0, false, [], none⟩,
  ⟨false, .other, 0, 0, false, [], none⟩,
  ⟨false, .other, 0, 0, false, [], none⟩,
  ⟨false, .other, 0, 0, false, [], none⟩,
  ⟨false, .other, 0, 0, false, [], none⟩,
  ⟨false, .other, 0, 0, false, [], none⟩,
  ⟨false, .other, 0, 0, false, [], none⟩,
  ⟨false, .other, 0, 0, false, [], none⟩,
  ⟨false, .other, 0, 0, false, [], none⟩,
  ⟨true, .ptr 105, 1, 8, false, [.pointer none], none⟩,
  ⟨false, .other, 0, 0, false, [], none⟩,
  ⟨false, .other, 0, 0, false, [], none⟩,
  ⟨false, .other, 0, 0, false, [], none⟩,
  ⟨true, .slice 75, 1, 24, false, [.slice none 0 0], none⟩,
  ⟨false, .other, 0, 0, false, [], none⟩,
  ⟨true, .map 85 4, 1, 8, false, [.map none], none⟩,
  ⟨false, .other, 0, 0, false, [], none⟩,
  ⟨false, .other, 0, 0, false, [], none⟩,
  ⟨false, .other, 0, 0, false, [], none⟩,
  ⟨false, .other, 0, 0, false, [], none⟩,
  ⟨true, .struct [(0, 2, 1), (1, 94, 2)], 3, 24, true, [.int .i64 0, .int .i64 0, .int .u64 0], some [.int .i64, .int .i64, .int .u64]⟩,
  ⟨true, .struct [(0, 2, 1), (1, 94, 2)], 3, 24, true, [.int .i64 0, .int .i64 0, .int .u64 0], some [.int .i64, .int .i64, .int .u64]⟩,
  ⟨false, .other, 0, 0, false, [], none⟩,
  ⟨false, .other, 0, 0, false, [], none⟩,
  ⟨false, .other, 0, 0, false, [], none⟩,
  ⟨false, .other, 0, 0, false, [], none⟩,
  ⟨true, .struct [(0, 92, 1), (1, 92, 1)], 2, 16, true, [.int .u64 0, .int .u64 0], some [.int .u64, .int .u64]⟩,
  ⟨true, .struct [(0, 92, 1), (1, 92, 1)], 2, 16, true, [.int .u64 0, .int .u64 0], some [.int .u64, .int .u64]⟩,
  ⟨false, .other, 0, 0, false, [], none⟩,
  ⟨false, .other, 0, 0, false, [], none⟩,
  ⟨false, .other, 0, 0, false, [], none⟩,
  ⟨false, .other, 0, 0, false, [], none⟩,
  ⟨false, .other, 0, 0, false, [], none⟩,
  ⟨false, .other, 0, 0, false, [], none⟩,
  ⟨true, .ptr 249, 1, 8, false, [.pointer none], none⟩,
  ⟨false, .other, 0, 0, false, [], none⟩,
  ⟨false, .other, 0, 0, false, [], none⟩,
  ⟨false, .other, 0, 0, false, [], none⟩,
  ⟨true, .int .i64, 1, 8, false, [.int .i64 0], some [.int .i64]⟩,
  ⟨false, .other, 0, 0, false, [], none⟩,
  ⟨false, .other, 0, 0, false, [], none⟩,
  ⟨false, .other, 0, 0, false, [], none⟩,
  ⟨false, .other, 0, 0, false, [], none⟩,
  ⟨false, .other, 0, 0, false, [], none⟩,
  ⟨false, .other, 0, 0, false, [], none⟩,
  ⟨false, .other, 0, 0, false, [], none⟩,
  ⟨true, .int .u32, 1, 4, false, [.int .u32 0], some [.int .u32]⟩,
  ⟨false, .other, 0, 0, false, [], none⟩,
  ⟨true, .int .u64, 1, 8, false, [.int .u64 0], some [.int .u64]⟩,
  ⟨false, .other, 0, 0, false, [], none⟩,
  ⟨false, .other, 0, 0, false, [], none⟩,
  ⟨false, .other, 0, 0, false, [], none⟩,
  ⟨true, .ptr 3, 1, 8, false, [.pointer none], none⟩,
  ⟨false, .other, 0, 0, false, [], none⟩,
  ⟨true, .ptr 276, 1, 8, false, [.pointer none], none⟩,
  ⟨false, .other, 0, 0, false, [], none⟩,
  ⟨false, .other, 0, 0, false, [], none⟩,
  ⟨false, .other, 0, 0, false, [], none⟩,
  ⟨false, .other, 0, 0, false, [], none⟩,
  ⟨false, .other, 0, 0, false, [], none⟩,
  ⟨false, .other, 0, 0, false, [], none⟩,
  ⟨false, .other, 0, 0, false, [], none⟩,
  ⟨false, .other, 0, 0, false, [], none⟩,
  ⟨false, .other, 0, 0, false, [], none⟩,
  ⟨false, .other, 0, 0, false, [], none⟩,
  ⟨false, .other, 0, 0, false, [], none⟩,
  ⟨true, .ptr 5, 1, 8, false, [.pointer none], none⟩,
  ⟨false, .other, 0, 0, false, [], none⟩,
  ⟨false, .other, 0, 0, false, [], none⟩,
  ⟨false, .other, 0, 0, false, [], none⟩,
  ⟨false, .other, 0, 0, false, [], none⟩,
  ⟨false, .other, 0, 0, false, [], none⟩]

theorem tab_ok : TableOk Try.prog tab := tableOk_of (by kernel_rfl)
end Go.Proofs.Ytnldhkhnfodplaa

namespace Go.Proofs.Ytnldhkhnfodplaa
open Go Go.Vc Go.RowKit

def memberIs (id cap ph un : Int) : Bool := decide (1 ≤ id ∧ id ≤ 8 ∧ 0 ≤ cap ∧ cap ≤ 4611686018427387904 ∧ 0 ≤ ph ∧ ph ≤ 3 ∧ 0 ≤ un ∧ un ≤ 2097152)

theorem start {f : FuncId} {fn : Func} {c : Code} {args : Array Value} {w : World} {R : Value → World → Prop} (A : Anns)
    (hf : Try.prog.funcs[f]? = some fn) (hb : fn.body = some c) (hn : (fn.name == "runtime.NumGoroutine") = false) (hl : loopsOk A c = true) (xs : List XV) (hargs : args = (denL xs).toArray) (hw : wfL [] xs)
    (h : initK xs fn.ntmps fun ts => vc Try.prog tab A noDraw c (retQ tab fn.results.toList R) ts [] w) : CallsX Try.prog f args w R :=
  callsX_of_vc tab_ok (noDraw_ok _) hf hb hn hl xs hargs hw h

set_option maxRecDepth 100000 in
theorem check_any (id cap ph un : Int) (w : World)  :
    CallsX Try.prog 141 #[.agg #[.int .i64 id, .int .i64 cap, .int .i64 ph, .int .i64 un]] w fun v w' => v = .int .i64 (if memberIs id cap ph un then 0 else 2) ∧ Below w.heap.size w w' := by
  refine start [] Try.func141 rfl (by decide +kernel) rfl [.agg [.int .i64 id, .int .i64 cap, .int .i64 ph, .int .i64 un]] rfl ⟨⟨trivial, trivial, trivial, trivial, trivial⟩, trivial⟩ ?_
  intro b ⟨hb, _⟩
  repeat' (apply And.intro <;> intro h)
  all_goals
    intro w' hs
    refine ⟨?_, hs.below (Nat.le_refl _) (by simp [hb])⟩
    simp only [oneRes, XV.den, memberIs, decide_eq_true_eq, decide_eq_false_iff_not] at *
    congr 1
    split <;> omega
end Go.Proofs.Ytnldhkhnfodplaa

namespace Go.Proofs.Ytnldhkhnfodplaa
open Go Go.Vc Go.RowKit

abbrev rI (n : Int) : R := .val (.int .i64 n)
abbrev rB (b : Bool) : R := .val (.bool b)
abbrev rS (s : ByteArray) : R := .val (.string s)
def rIs (l : List Int) : R := .sl 1 (l.map fun n => [.val (.int .i64 n)])
def rBs (l : List Int) : R := .sl 1 (l.map fun n => [.val (.int .u8 n)])
def ok64 (n : Int) : Prop := (Lit.int .i64 n).wf = true
theorem ok64.is {n : Int} (h : ok64 n) : -9223372036854775808 ≤ n ∧ n ≤ 9223372036854775807 := bounds_i64 h
theorem opn_i64 : Opn Try.prog 2 Int (fun n => [rI n]) ok64 := Opn.int Try.underlying2
theorem opn_int : Opn Try.prog 3 Int (fun n => [rI n]) ok64 := Opn.int Try.underlying3
theorem opn_u8 : Opn Try.prog 5 Int (fun n => [.val (.int .u8 n)]) (fun n => (Lit.int .u8 n).wf = true) := Opn.int Try.underlying5
theorem opn_str : Opn Try.prog 9 ByteArray (fun s => [rS s]) (fun s => s.size ≤ maxLen) := Opn.str Try.underlying9
theorem opn_i64s : Opn Try.prog 42 (List Int) (fun l => [rIs l]) (fun l => (∀ a ∈ l, ok64 a) ∧ l.length ≤ maxLen) := Opn.slice Try.underlying42 (by kernel_rfl) opn_i64
end Go.Proofs.Ytnldhkhnfodplaa

namespace Go.Proofs.Ytnldhkhnfodplaa
open Go Go.Vc Go.RowKit

structure Mem where
  id : Int
  cap : Int
  ph : Int
  un : Int
def Mem.v (m : Mem) : Value := .agg #[.int .i64 m.id, .int .i64 m.cap, .int .i64 m.ph, .int .i64 m.un]
def Mem.zero : Mem := ⟨0, 0, 0, 0⟩
def Mem.ok (m : Mem) : Bool := memberIs m.id m.cap m.ph m.un
def tupME (r : Mem × Int) : Value := .tuple #[r.1.v, .int .i64 r.2]
def stepS (m : Mem) (day fr : Int) : Mem × Int :=
  if m.ok = false ∨ day < 0 ∨ 1048576 < day then (Mem.zero, 2) else if m.ph ≠ fr then (Mem.zero, 13) else (⟨m.id, m.cap, m.ph + 1, m.un⟩, 0)

theorem check_m (m : Mem) (w : World) : CallsX Try.prog 141 #[m.v] w fun v w' => v = .int .i64 (if m.ok then 0 else 2) ∧ Below w.heap.size w w' := check_any m.id m.cap m.ph m.un w

theorem ph_range {m : Mem} (h : m.ok = true) : 1 ≤ m.id ∧ m.id ≤ 8 ∧ 0 ≤ m.cap ∧ m.cap ≤ 4611686018427387904 ∧ 0 ≤ m.ph ∧ m.ph ≤ 3 ∧ 0 ≤ m.un ∧ m.un ≤ 2097152 := by
  simpa [Mem.ok, memberIs] using h

set_option maxRecDepth 100000 in
theorem step_any (m : Mem) (day fr : Int) (w : World) :
    CallsX Try.prog 80 #[m.v, .int .i64 day, .int .i64 fr] w fun v w' => v = tupME (stepS m day fr) ∧ Below w.heap.size w w' := by
  refine start [] Try.func80 rfl (by decide +kernel) rfl [.agg [.int .i64 m.id, .int .i64 m.cap, .int .i64 m.ph, .int .i64 m.un], .int .i64 day, .int .i64 fr] rfl ⟨⟨trivial, trivial, trivial, trivial, trivial⟩, trivial, trivial, trivial⟩ ?_
  intro b0 ⟨hb0, _⟩ b1 ⟨hb1, _⟩ W1 hs1
  refine (check_m m W1).mono ?_
  rintro _ W2 ⟨rfl, hb2⟩
  refine ⟨Kept.of_below' _ hs1 hb2, ?_⟩
  have k1 := hs1.on (Below.refl _ w) (Nat.le_refl _) ⟨hb0, hb1, trivial⟩
  have k2 := below_on k1 (Nat.le_refl _) hb2
  repeat' (apply And.intro <;> intro h)
  all_goals
    intro w' hs
    refine ⟨?_, hs.on k2 (Nat.le_refl _) ⟨hb0, hb1, trivial⟩⟩
    clear hs k2 k1 hb2 hs1
    have hr := @ph_range m
    cases hm : m.ok <;> simp_all [oneRes, XV.den, denL, ofConst, constL, tupME, stepS, Mem.v, Mem.zero]
    all_goals first
      | omega
      | (split <;> first | omega | (simp; done) | (simp; omega))
      | (exact IntWalk.i64_in _ (by omega))
      | (rw [if_neg (by omega)]; exact ⟨⟨rfl, rfl, IntWalk.i64_in _ (by omega), rfl⟩, rfl⟩)
      | (rw [if_neg (by omega)]; trace_state)
      | trace_state
end Go.Proofs.Ytnldhkhnfodplaa

namespace Go.Proofs.Ytnldhkhnfodplaa
open Go Go.Vc Go.RowKit

def soonS (m : Mem) (day : Int) : Int :=
  if m.ph ≠ 1 ∨ m.un < day then 0 else max 1 (IntKind.i64.wrap (IntKind.i64.wrap (m.un - day) + 1))

set_option maxRecDepth 100000 in
theorem soon_any (m : Mem) (day : Int) (w : World) :
    CallsX Try.prog 19 #[m.v, .int .i64 day] w fun v w' => v = .int .i64 (soonS m day) ∧ Below w.heap.size w w' := by
  refine start [] Try.func19 rfl (by decide +kernel) rfl [.agg [.int .i64 m.id, .int .i64 m.cap, .int .i64 m.ph, .int .i64 m.un], .int .i64 day] rfl ⟨⟨trivial, trivial, trivial, trivial, trivial⟩, trivial, trivial⟩ ?_
  intro b0 ⟨hb0, _⟩
  repeat' (apply And.intro <;> intro h)
  all_goals
    intro w' hs
    refine ⟨?_, hs.on (Below.refl _ w) (Nat.le_refl _) ⟨hb0, trivial⟩⟩
    clear hs
    simp_all [oneRes, XV.den, denL, ofConst, constL, soonS]
    all_goals first
      | omega
      | (rw [if_neg (by omega)]; done)
      | (rw [if_neg (by omega)]; omega)
      | trace_state

set_option maxRecDepth 100000 in
theorem open_any (m : Mem) (day : Int) (w : World) :
    CallsX Try.prog 20 #[m.v, .int .i64 day] w fun v w' => v = .int .i64 (if soonS m day = 0 then 18 else 0) ∧ Below w.heap.size w w' := by
  refine start [] Try.func20 rfl (by decide +kernel) rfl [.agg [.int .i64 m.id, .int .i64 m.cap, .int .i64 m.ph, .int .i64 m.un], .int .i64 day] rfl ⟨⟨trivial, trivial, trivial, trivial, trivial⟩, trivial, trivial⟩ ?_
  intro b0 ⟨hb0, _⟩ W1 hs1
  refine (soon_any m day W1).mono ?_
  rintro _ W2 ⟨rfl, hb2⟩
  refine ⟨Kept.of_below' _ hs1 hb2, ?_⟩
  have k1 := hs1.on (Below.refl _ w) (Nat.le_refl _) ⟨hb0, trivial⟩
  have k2 := below_on k1 (Nat.le_refl _) hb2
  repeat' (apply And.intro <;> intro h)
  all_goals
    intro w' hs
    refine ⟨?_, hs.on k2 (Nat.le_refl _) ⟨hb0, trivial⟩⟩
    clear hs k2 k1 hb2 hs1
    simp_all [oneRes, XV.den, denL, ofConst, constL]

def failS (m : Mem) (day days : Int) : Mem × Int :=
  if days < 0 ∨ 16 < days then (Mem.zero, 2) else
  if (stepS m day 0).2 = 0 then (⟨(stepS m day 0).1.id, (stepS m day 0).1.cap, (stepS m day 0).1.ph, IntKind.i64.wrap (day + days)⟩, 0) else stepS m day 0

set_option maxRecDepth 100000 in
theorem fail_any (m : Mem) (day days : Int) (w : World) :
    CallsX Try.prog 15 #[m.v, .int .i64 day, .int .i64 days] w fun v w' => v = tupME (failS m day days) ∧ Below w.heap.size w w' := by
  refine start [] Try.func15 rfl (by decide +kernel) rfl [.agg [.int .i64 m.id, .int .i64 m.cap, .int .i64 m.ph, .int .i64 m.un], .int .i64 day, .int .i64 days] rfl ⟨⟨trivial, trivial, trivial, trivial, trivial⟩, trivial, trivial, trivial⟩ ?_
  intro b0 ⟨hb0, _⟩
  intro b1 ⟨hb1, _⟩
  repeat' (apply And.intro <;> intro h)
  rotate_left
  · rename_i h1
    intro W1 hs1
    refine (step_any m day 0 W1).mono ?_
    rintro _ W2 ⟨rfl, hb2⟩
    refine ⟨Kept.of_below' _ hs1 hb2, ?_⟩
    have k1 := hs1.on (Below.refl _ w) (Nat.le_refl _) ⟨hb0, hb1, trivial⟩
    have k2 := below_on k1 (Nat.le_refl _) hb2
    clear hs1 hb2 k1
    repeat' (apply And.intro <;> intro h2)
    all_goals
      intro w' hs
      refine ⟨?_, hs.on k2 (Nat.le_refl _) ⟨hb0, hb1, trivial⟩⟩
      clear hs k2
      simp_all [oneRes, XV.den, denL, ofConst, constL, inj0, tupME, Mem.v, failS]
      all_goals (rw [if_neg (by omega)]; simp_all [Mem.v])
  all_goals
    intro w' hs
    refine ⟨?_, hs.on (Below.refl _ w) (Nat.le_refl _) ⟨hb0, hb1, trivial⟩⟩
    clear hs
    simp_all [oneRes, XV.den, denL, ofConst, constL, inj0, tupME, Mem.v, failS, Mem.zero]

def sellS (m : Mem) (day : Int) : Mem × Int :=
  if (stepS m day 1).2 ≠ 0 then (Mem.zero, (stepS m day 1).2) else if day ≤ m.un then (Mem.zero, 18) else ((stepS m day 1).1, 0)

set_option maxRecDepth 100000 in
theorem sell_any (m : Mem) (day : Int) (w : World) :
    CallsX Try.prog 16 #[m.v, .int .i64 day] w fun v w' => v = tupME (sellS m day) ∧ Below w.heap.size w w' := by
  refine start [] Try.func16 rfl (by decide +kernel) rfl [.agg [.int .i64 m.id, .int .i64 m.cap, .int .i64 m.ph, .int .i64 m.un], .int .i64 day] rfl ⟨⟨trivial, trivial, trivial, trivial, trivial⟩, trivial, trivial⟩ ?_
  intro b0 ⟨hb0, _⟩ b1 ⟨hb1, _⟩ W1 hs1
  refine (step_any m day 1 W1).mono ?_
  rintro _ W2 ⟨rfl, hb3⟩
  refine ⟨Kept.of_below' _ hs1 hb3, ?_⟩
  have k1 := hs1.on (Below.refl _ w) (Nat.le_refl _) ⟨hb0, hb1, trivial⟩
  have k2 := below_on k1 (Nat.le_refl _) hb3
  clear hs1 hb3 k1
  intro b2 ⟨hb2, _⟩
  replace hb2 := Nat.le_trans k2.size hb2
  repeat' (apply And.intro <;> intro h2)
  all_goals
    intro w' hs
    refine ⟨?_, hs.on k2 (Nat.le_refl _) ⟨hb0, hb1, hb2, trivial⟩⟩
    clear hs k2
    simp_all [oneRes, XV.den, denL, ofConst, constL, inj0, tupME, Mem.v, Mem.zero, sellS]
  all_goals (rw [if_neg (by omega)]; simp_all [Mem.v])

set_option maxRecDepth 100000 in
theorem close_any (m : Mem) (day : Int) (w : World) :
    CallsX Try.prog 17 #[m.v, .int .i64 day] w fun v w' => v = tupME (stepS m day 2) ∧ Below w.heap.size w w' := by
  refine start [] Try.func17 rfl (by decide +kernel) rfl [.agg [.int .i64 m.id, .int .i64 m.cap, .int .i64 m.ph, .int .i64 m.un], .int .i64 day] rfl ⟨⟨trivial, trivial, trivial, trivial, trivial⟩, trivial, trivial⟩ ?_
  intro b0 ⟨hb0, _⟩ b1 ⟨hb1, _⟩ W1 hs1
  refine (step_any m day 2 W1).mono ?_
  rintro _ W2 ⟨rfl, hb3⟩
  refine ⟨Kept.of_below' _ hs1 hb3, ?_⟩
  have k1 := hs1.on (Below.refl _ w) (Nat.le_refl _) ⟨hb0, hb1, trivial⟩
  have k2 := below_on k1 (Nat.le_refl _) hb3
  clear hs1 hb3 k1
  intro w' hs
  refine ⟨?_, hs.on k2 (Nat.le_refl _) ⟨hb0, hb1, trivial⟩⟩
  clear hs k2
  simp_all [oneRes, XV.den, denL, ofConst, constL, inj0, tupME, Mem.v, Mem.zero]
end Go.Proofs.Ytnldhkhnfodplaa

namespace Go.Proofs.Ytnldhkhnfodplaa
open Go Go.Vc Go.RowKit

theorem fail_c : failS ⟨1, 0, 0, 0⟩ 5 2 = (⟨1, 0, 1, 7⟩, 0) := by kernel_rfl
theorem sell_c7 : sellS ⟨1, 0, 1, 7⟩ 7 = (Mem.zero, 18) := by kernel_rfl
theorem sell_c8 : sellS ⟨1, 0, 1, 7⟩ 8 = (⟨1, 0, 2, 7⟩, 0) := by kernel_rfl
theorem soon_c : soonS ⟨1, 0, 1, 7⟩ 6 = 2 := by kernel_rfl

set_option maxRecDepth 100000 in
theorem lives_any (w : World) :
    CallsX Try.prog 18 #[] w fun v w' => v = .bool true ∧ Below w.heap.size w w' := by
  refine start [] Try.func18 rfl (by decide +kernel) rfl [] rfl trivial ?_
  intro W1 hs1
  refine onCall hs1 (Below.refl _ w) (Nat.le_refl _) trivial (fail_c ▸ fail_any ⟨1, 0, 0, 0⟩ 5 2 W1) fun W2 k2 => ?_
  clear hs1
  intro b0 ⟨hb0, _⟩
  replace hb0 := Nat.le_trans k2.size hb0
  intro W3 hs3
  refine onCall hs3 k2 (Nat.le_refl _) ⟨hb0, trivial⟩ (sell_c7 ▸ sell_any ⟨1, 0, 1, 7⟩ 7 W3) fun W4 k4 => ?_
  clear hs3 k2
  intro b2 ⟨hb2, _⟩
  replace hb2 := Nat.le_trans k4.size hb2
  intro W5 hs5
  refine onCall hs5 k4 (Nat.le_refl _) ⟨hb0, hb2, trivial⟩ (sell_c8 ▸ sell_any ⟨1, 0, 1, 7⟩ 8 W5) fun W6 k6 => ?_
  clear hs5 k4
  intro b1 ⟨hb1, _⟩
  replace hb1 := Nat.le_trans k6.size hb1
  repeat' (apply And.intro <;> intro h)
  all_goals first
    | (exfalso; simp [oneRes, XV.den, denL, ofConst, constL, inj0, inj1, tupME] at *; done)
    | skip
  intro W7 hs7
  refine onCall hs7 k6 (Nat.le_refl _) ⟨hb0, hb2, hb1, trivial⟩ (soon_c ▸ soon_any ⟨1, 0, 1, 7⟩ 6 W7) fun W8 k8 => ?_
  intro w' hs
  refine ⟨?_, hs.on k8 (Nat.le_refl _) ⟨hb0, hb2, hb1, trivial⟩⟩
  simp [oneRes, XV.den, denL, ofConst, constL, inj0, inj1, tupME]
end Go.Proofs.Ytnldhkhnfodplaa

namespace Go.Proofs.Ytnldhkhnfodplaa
open Go Go.Vc Go.RowKit

theorem i64c (z : Int) (h : -9223372036854775808 ≤ z ∧ z ≤ 9223372036854775807) : IntKind.i64.wrap z = z := IntWalk.i64_in z (by omega)

theorem soon_val (m : Mem) (day : Int) (h : 0 ≤ m.un ∧ m.un ≤ 4194304 ∧ 0 ≤ day ∧ day ≤ 8388610) : soonS m day = if m.ph ≠ 1 ∨ m.un < day then 0 else m.un - day + 1 := by
  unfold soonS
  split
  · rfl
  · rw [i64c (m.un - day) (by omega), i64c _ (by omega)]; omega

theorem open_at (m : Mem) (day r : Int) (w : World) (h : (if soonS m day = 0 then (18 : Int) else 0) = r) : CallsX Try.prog 20 #[m.v, .int .i64 day] w fun v w' => v = .int .i64 r ∧ Below w.heap.size w w' := h ▸ open_any m day w

set_option maxRecDepth 100000 in
theorem phaseSoon_any (m : Mem) (day : Int) (w : World) :
    CallsX Try.prog 4 #[m.v, .int .i64 day] w fun v w' => v = .bool true ∧ Below w.heap.size w w' := by
  refine start [] Try.func4 rfl (by decide +kernel) rfl [.agg [.int .i64 m.id, .int .i64 m.cap, .int .i64 m.ph, .int .i64 m.un], .int .i64 day] rfl ⟨⟨trivial, trivial, trivial, trivial, trivial⟩, trivial, trivial⟩ ?_
  intro b0 ⟨hb0, _⟩
  repeat' (apply And.intro <;> intro h)
  case left.left.left.right =>
    simp only [decide_eq_false_iff_not] at *
    rename_i h1 h2 h3
    intro W1 hs1
    refine onCall hs1 (Below.refl _ w) (Nat.le_refl _) ⟨hb0, trivial⟩ (soon_any m day W1) fun W2 k2 => ?_
    clear hs1
    rw [soon_val m day (by omega)]
    by_cases hn : m.ph ≠ 1 ∨ m.un < day
    · rw [if_pos hn]
      apply And.intro <;> intro h
      · intro W3 hs3
        refine onCall hs3 k2 (Nat.le_refl _) ⟨hb0, trivial⟩ (open_at m _ 18 W3 (by rw [soon_val _ _ (by omega), if_pos hn]; rfl)) fun W4 k4 => ?_
        clear hs3 k2
        apply And.intro <;> intro h
        · intro W5 hs5
          refine onCall hs5 k4 (Nat.le_refl _) ⟨hb0, trivial⟩ (lives_any W5) fun W6 k6 => ?_
          intro w' hs
          exact ⟨rfl, hs.on k6 (Nat.le_refl _) ⟨hb0, trivial⟩⟩
        · exact absurd h (by decide)
      · exact absurd h (by decide)
    · rw [if_neg hn]
      apply And.intro <;> intro h
      · exact absurd h (by simp; omega)
      apply And.intro <;> intro h
      rotate_left
      · exact absurd h (by simp; omega)
      intro W3 hs3
      refine onCall hs3 k2 (Nat.le_refl _) ⟨hb0, trivial⟩ (open_at m _ 0 W3 (by rw [soon_val _ _ (by omega), if_neg hn]; omega)) fun W4 k4 => ?_
      clear hs3 k2
      apply And.intro <;> intro h
      rotate_left
      · exact absurd h (by decide)
      intro W5 hs5
      refine onCall hs5 k4 (Nat.le_refl _) ⟨hb0, trivial⟩ (open_at m _ 0 W5 ?_) fun W6 k6 => ?_
      · rw [i64c (day + (m.un - day + 1)) (by omega), i64c _ (by omega), soon_val _ _ (by omega), if_neg (by omega)]
      clear hs5 k4
      apply And.intro <;> intro h
      rotate_left
      · exact absurd h (by decide)
      intro W7 hs7
      refine onCall hs7 k6 (Nat.le_refl _) ⟨hb0, trivial⟩ (open_at m _ 18 W7 ?_) fun W8 k8 => ?_
      · rw [i64c (day + (m.un - day + 1)) (by omega), soon_val _ _ (by omega), if_pos (by omega)]
      clear hs7 k6
      apply And.intro <;> intro h
      rotate_left
      · exact absurd h (by decide)
      apply And.intro <;> intro h
      rotate_left
      · exact absurd h (by simp; omega)
      intro W9 hs9
      refine onCall hs9 k8 (Nat.le_refl _) ⟨hb0, trivial⟩ (lives_any W9) fun W10 k10 => ?_
      intro w' hs
      exact ⟨rfl, hs.on k10 (Nat.le_refl _) ⟨hb0, trivial⟩⟩
  all_goals
    intro W1 hs1
    refine onCall hs1 (Below.refl _ w) (Nat.le_refl _) ⟨hb0, trivial⟩ (lives_any W1) fun W2 k2 => ?_
    intro w' hs
    exact ⟨rfl, hs.on k2 (Nat.le_refl _) ⟨hb0, trivial⟩⟩
end Go.Proofs.Ytnldhkhnfodplaa

namespace Go.Proofs.Ytnldhkhnfodplaa
open Go Go.Vc Go.RowKit

set_option maxRecDepth 100000 in
theorem is_any (m : Mem) (w : World) :
    CallsX Try.prog 142 #[m.v] w fun v w' => v = .bool m.ok ∧ Below w.heap.size w w' := by
  refine start [] Try.func142 rfl (by decide +kernel) rfl [.agg [.int .i64 m.id, .int .i64 m.cap, .int .i64 m.ph, .int .i64 m.un]] rfl ⟨⟨trivial, trivial, trivial, trivial, trivial⟩, trivial⟩ ?_
  intro b0 ⟨hb0, _⟩
  repeat' (apply And.intro <;> intro h)
  all_goals
    intro w' hs
    refine ⟨?_, hs.on (Below.refl _ w) (Nat.le_refl _) ⟨hb0, trivial⟩⟩
    clear hs
    simp only [oneRes, XV.den, denL, ofConst, Mem.ok, memberIs, decide_eq_true_eq, decide_eq_false_iff_not, Value.bool.injEq] at *
    first
      | (symm; rw [decide_eq_true_eq]; omega)
      | (symm; rw [decide_eq_false_iff_not]; omega)
      | (rw [decide_eq_decide]; omega)
      | trace_state

set_option maxRecDepth 100000 in
theorem may_any (m : Mem) (day : Int) (w : World) :
    CallsX Try.prog 81 #[m.v, .int .i64 day] w fun v w' => v = .bool (m.ok && decide (0 ≤ day) && decide (day ≤ 1048576)) ∧ Below w.heap.size w w' := by
  refine start [] Try.func81 rfl (by decide +kernel) rfl [.agg [.int .i64 m.id, .int .i64 m.cap, .int .i64 m.ph, .int .i64 m.un], .int .i64 day] rfl ⟨⟨trivial, trivial, trivial, trivial, trivial⟩, trivial, trivial⟩ ?_
  intro b0 ⟨hb0, _⟩ W1 hs1
  refine onCall hs1 (Below.refl _ w) (Nat.le_refl _) ⟨hb0, trivial⟩ (is_any m W1) fun W2 k2 => ?_
  repeat' (apply And.intro <;> intro h)
  all_goals
    intro w' hs
    refine ⟨?_, hs.on k2 (Nat.le_refl _) ⟨hb0, trivial⟩⟩
    clear hs
    simp_all [oneRes, XV.den, denL, ofConst]
    try omega

set_option maxRecDepth 100000 in
theorem ropen_any (m : Mem) (day : Int) (w : World) :
    CallsX Try.prog 24 #[m.v, .int .i64 day] w fun v w' => v = .int .i64 (if m.ph = 1 ∧ day ≤ m.un then 0 else 18) ∧ Below w.heap.size w w' := by
  refine start [] Try.func24 rfl (by decide +kernel) rfl [.agg [.int .i64 m.id, .int .i64 m.cap, .int .i64 m.ph, .int .i64 m.un], .int .i64 day] rfl ⟨⟨trivial, trivial, trivial, trivial, trivial⟩, trivial, trivial⟩ ?_
  intro b0 ⟨hb0, _⟩
  repeat' (apply And.intro <;> intro h)
  all_goals
    intro w' hs
    refine ⟨?_, hs.on (Below.refl _ w) (Nat.le_refl _) ⟨hb0, trivial⟩⟩
    clear hs
    simp_all [oneRes, XV.den, denL, ofConst]
    try omega
end Go.Proofs.Ytnldhkhnfodplaa

namespace Go.Proofs.Ytnldhkhnfodplaa
open Go Go.Vc Go.RowKit

def mayS (m : Mem) (day : Int) : Bool := m.ok && decide (0 ≤ day) && decide (day ≤ 1048576)
theorem stepS_eq (m : Mem) (day fr : Int) : stepS m day fr = if mayS m day = true then if m.ph ≠ fr then (Mem.zero, 13) else (⟨m.id, m.cap, m.ph + 1, m.un⟩, 0) else (Mem.zero, 2) := by
  unfold stepS mayS
  cases hm : m.ok
  · simp
  · by_cases h1 : day < 0
    · rw [if_pos (by simp [h1])]
      rw [if_neg (by simp; omega)]
    · by_cases h2 : 1048576 < day
      · rw [if_pos (by simp [h2])]
        rw [if_neg (by simp; omega)]
      · rw [if_neg (by simp; omega)]
        have e : (true && decide (0 ≤ day) && decide (day ≤ 1048576)) = true := by simp; omega
        rw [if_pos e]
theorem may_m (m : Mem) (day : Int) (w : World) : CallsX Try.prog 81 #[m.v, .int .i64 day] w fun v w' => v = .bool (mayS m day) ∧ Below w.heap.size w w' := may_any m day w

set_option maxRecDepth 100000 in
theorem rclose_any (m : Mem) (day : Int) (w : World) :
    CallsX Try.prog 23 #[m.v, .int .i64 day] w fun v w' => v = tupME (stepS m day 2) ∧ Below w.heap.size w w' := by
  rw [stepS_eq]
  refine start [] Try.func23 rfl (by decide +kernel) rfl [.agg [.int .i64 m.id, .int .i64 m.cap, .int .i64 m.ph, .int .i64 m.un], .int .i64 day] rfl ⟨⟨trivial, trivial, trivial, trivial, trivial⟩, trivial, trivial⟩ ?_
  intro b0 ⟨hb0, _⟩ b1 ⟨hb1, _⟩ W1 hs1
  refine onCall hs1 (Below.refl _ w) (Nat.le_refl _) ⟨hb0, hb1, trivial⟩ (may_m m day W1) fun W2 k2 => ?_
  repeat' (apply And.intro <;> intro h)
  all_goals
    intro w' hs
    refine ⟨?_, hs.on k2 (Nat.le_refl _) ⟨hb0, hb1, trivial⟩⟩
    clear hs
    simp_all [oneRes, XV.den, denL, ofConst, constL, tupME, Mem.v, Mem.zero]

set_option maxRecDepth 100000 in
theorem rsell_any (m : Mem) (day : Int) (w : World) :
    CallsX Try.prog 22 #[m.v, .int .i64 day] w fun v w' => v = tupME (sellS m day) ∧ Below w.heap.size w w' := by
  unfold sellS
  rw [stepS_eq]
  refine start [] Try.func22 rfl (by decide +kernel) rfl [.agg [.int .i64 m.id, .int .i64 m.cap, .int .i64 m.ph, .int .i64 m.un], .int .i64 day] rfl ⟨⟨trivial, trivial, trivial, trivial, trivial⟩, trivial, trivial⟩ ?_
  intro b0 ⟨hb0, _⟩ b1 ⟨hb1, _⟩ W1 hs1
  refine onCall hs1 (Below.refl _ w) (Nat.le_refl _) ⟨hb0, hb1, trivial⟩ (may_m m day W1) fun W2 k2 => ?_
  repeat' (apply And.intro <;> intro h)
  all_goals
    intro w' hs
    refine ⟨?_, hs.on k2 (Nat.le_refl _) ⟨hb0, hb1, trivial⟩⟩
    clear hs
    simp_all [oneRes, XV.den, denL, ofConst, constL, tupME, Mem.v, Mem.zero]
  all_goals (rw [if_neg (by omega)]; simp_all)

set_option maxRecDepth 100000 in
theorem rfail_any (m : Mem) (day days : Int) (w : World) :
    CallsX Try.prog 21 #[m.v, .int .i64 day, .int .i64 days] w fun v w' => v = tupME (failS m day days) ∧ Below w.heap.size w w' := by
  unfold failS
  rw [stepS_eq]
  refine start [] Try.func21 rfl (by decide +kernel) rfl [.agg [.int .i64 m.id, .int .i64 m.cap, .int .i64 m.ph, .int .i64 m.un], .int .i64 day, .int .i64 days] rfl ⟨⟨trivial, trivial, trivial, trivial, trivial⟩, trivial, trivial, trivial⟩ ?_
  intro b0 ⟨hb0, _⟩ b1 ⟨hb1, _⟩ W1 hs1
  refine onCall hs1 (Below.refl _ w) (Nat.le_refl _) ⟨hb0, hb1, trivial⟩ (may_m m day W1) fun W2 k2 => ?_
  repeat' (apply And.intro <;> intro h)
  all_goals
    intro w' hs
    refine ⟨?_, hs.on k2 (Nat.le_refl _) ⟨hb0, hb1, trivial⟩⟩
    clear hs
    try simp only [decide_eq_true_eq, decide_eq_false_iff_not] at *
    first
      | (rw [if_pos (by omega)]; simp_all [oneRes, XV.den, denL, ofConst, constL, tupME, Mem.v, Mem.zero]; done)
      | (rw [if_neg (by omega)]; simp_all [oneRes, XV.den, denL, ofConst, constL, tupME, Mem.v, Mem.zero]; done)
      | (by_cases hd : days < 0 ∨ 16 < days
         · rw [if_pos hd]; simp_all [oneRes, XV.den, denL, ofConst, constL, tupME, Mem.v, Mem.zero]; done
         · rw [if_neg hd]; simp_all [oneRes, XV.den, denL, ofConst, constL, tupME, Mem.v, Mem.zero]; done)
      | trace_state
end Go.Proofs.Ytnldhkhnfodplaa

namespace Go.Proofs.Ytnldhkhnfodplaa
open Go Go.Vc Go.RowKit

theorem mixed : Try.prog.follows .mixedOrders = true := by kernel_rfl
theorem startD {f : FuncId} {fn : Func} {c : Code} {args : Array Value} {w : World} {R : Value → World → Prop} (A : Anns) (O : Ords)
    (hf : Try.prog.funcs[f]? = some fn) (hb : fn.body = some c) (hn : (fn.name == "runtime.NumGoroutine") = false) (hl : loopsOk A c = true) (xs : List XV) (hargs : args = (denL xs).toArray) (hw : wfL [] xs)
    (h : initK xs fn.ntmps fun ts => vc Try.prog tab A (drawX Try.prog tab O) c (retQ tab fn.results.toList R) ts [] w) : CallsX Try.prog f args w R :=
  callsX_of_vc tab_ok (drawX_ok tab_ok mixed O) hf hb hn hl xs hargs hw h

def ordSteps : Ords := [(7, [(0, true), (1, true), (2, true), (3, true), (4, true), (5, true), (6, true), (7, true), (8, true), (9, true), (10, true), (11, true), (12, true), (13, true), (14, true), (15, true), (16, true), (17, true), (18, true), (19, true), (20, true), (21, true), (22, true), (23, true), (24, true), (25, true), (26, true), (27, true), (28, true), (29, true), (30, true), (32, true), (33, true), (31, false), (34, false), (35, true), (36, true), (37, true), (38, false), (39, true), (40, true)])]

theorem open_eq (m : Mem) (day : Int) : (if soonS m day = 0 then (18 : Int) else 0) = if m.ph = 1 ∧ day ≤ m.un then 0 else 18 := by
  unfold soonS
  by_cases h : m.ph ≠ 1 ∨ m.un < day
  · rw [if_pos h, if_pos rfl, if_neg (by omega)]
  · rw [if_neg h, if_neg (by omega), if_pos (by omega)]

set_option maxRecDepth 100000 in
theorem phaseSteps_any (m : Mem) (day days : Int) (w : World) :
    CallsX Try.prog 5 #[m.v, .int .i64 day, .int .i64 days] w fun v w' => v = .bool true ∧ Below w.heap.size w w' := by
  refine startD [] ordSteps Try.func5 rfl (by decide +kernel) rfl [.agg [.int .i64 m.id, .int .i64 m.cap, .int .i64 m.ph, .int .i64 m.un], .int .i64 day, .int .i64 days] rfl ⟨⟨trivial, trivial, trivial, trivial, trivial⟩, trivial, trivial, trivial⟩ ?_
  intro b0 ⟨hb0, _⟩ W1 hs1
  refine onCall hs1 (Below.refl _ w) (Nat.le_refl _) ⟨hb0, trivial⟩ (fail_any m day days W1) fun W2 k2 => ?_
  intro b1 ⟨hb1, _⟩
  replace hb1 := Nat.le_trans k2.size hb1
  intro W3 hs3
  refine onCall hs3 k2 (Nat.le_refl _) ⟨hb0, hb1, trivial⟩ (rfail_any m day days W3) fun W4 k4 => ?_
  intro b2 ⟨hb2, _⟩
  replace hb2 := Nat.le_trans k4.size hb2
  intro W5 hs5
  refine onCall hs5 k4 (Nat.le_refl _) ⟨hb0, hb1, hb2, trivial⟩ (sell_any m day W5) fun W6 k6 => ?_
  intro b3 ⟨hb3, _⟩
  replace hb3 := Nat.le_trans k6.size hb3
  intro W7 hs7
  refine onCall hs7 k6 (Nat.le_refl _) ⟨hb0, hb1, hb2, hb3, trivial⟩ (rsell_any m day W7) fun W8 k8 => ?_
  intro b4 ⟨hb4, _⟩
  replace hb4 := Nat.le_trans k8.size hb4
  intro W9 hs9
  refine onCall hs9 k8 (Nat.le_refl _) ⟨hb0, hb1, hb2, hb3, hb4, trivial⟩ (close_any m day W9) fun W10 k10 => ?_
  intro b5 ⟨hb5, _⟩
  replace hb5 := Nat.le_trans k10.size hb5
  intro W11 hs11
  refine onCall hs11 k10 (Nat.le_refl _) ⟨hb0, hb1, hb2, hb3, hb4, hb5, trivial⟩ (rclose_any m day W11) fun W12 k12 => ?_
  intro b6 ⟨hb6, _⟩
  replace hb6 := Nat.le_trans k12.size hb6
  clear hs1 hs3 hs5 hs7 hs9 hs11
  refine ⟨by decide +kernel, ?_⟩
  apply And.intro <;> intro h0
  rotate_left
  · exact absurd h0 (by simp [notIf])
  apply And.intro <;> intro h1
  rotate_left
  · exact absurd h1 (by simp [notIf])
  apply And.intro <;> intro h2
  rotate_left
  · exact absurd h2 (by simp [notIf])
  apply And.intro <;> intro h3
  rotate_left
  · exact absurd h3 (by simp [notIf])
  apply And.intro <;> intro h4
  rotate_left
  · exact absurd h4 (by simp [notIf])
  apply And.intro <;> intro h5
  rotate_left
  · exact absurd h5 (by simp [notIf])
  intro W13 hs13
  refine onCallD hs13 (Ext.refl _ _) k12 (Nat.le_refl _) ⟨hb0, hb1, hb2, hb3, hb4, hb5, hb6, trivial⟩ (open_any m day W13) fun W14 k14 e14 => ?_
  refine ⟨e14, ?_⟩
  intro W15 hs15
  refine onCallD hs15 e14 k14 (Nat.le_refl _) ⟨hb0, hb1, hb2, hb3, hb4, hb5, hb6, trivial⟩ (ropen_any m day W15) fun W16 k16 e16 => ?_
  refine ⟨e16, ?_⟩
  apply And.intro <;> intro h6
  rotate_left
  · exact absurd h6 (by simp [open_eq])
  intro W17 hs17
  refine onCallD hs17 e16 k16 (Nat.le_refl _) ⟨hb0, hb1, hb2, hb3, hb4, hb5, hb6, trivial⟩ (lives_any W17) fun W18 k18 e18 => ?_
  refine ⟨e18, ?_⟩
  intro w' hs
  exact ⟨rfl, hs.on k18 (Nat.le_refl _) ⟨hb0, hb1, hb2, hb3, hb4, hb5, hb6, trivial⟩⟩
end Go.Proofs.Ytnldhkhnfodplaa

namespace Go.Proofs.Ytnldhkhnfodplaa
open Go Go.Vc Go.RowKit

theorem bytesOk : ElemOk Try.prog 41 5 1 1 := by
  have h : (Try.prog.info? 5).map (fun i => (i.zero, i.size, i.bytes)) = some (some (.int .u8 0), 1, 1) := by kernel_rfl
  obtain ⟨i, hi, h⟩ := Option.map_eq_some_iff.1 h
  simp only [Prod.mk.injEq] at h
  exact ⟨Try.underlying41, ⟨i, _, hi, h.1, h.2.1, h.2.2, rfl⟩, by decide⟩

/-! ### The plain law: a number's groups -/
def encU (u : Nat) : List Int := if h : u < 128 then [(u : Int)] else ((u % 128 + 128 : Nat) : Int) :: encU (u / 128)
termination_by u
decreasing_by omega
theorem encU_lt {u : Nat} (h : u < 128) : encU u = [(u : Int)] := by rw [encU, dif_pos h]
theorem encU_ge {u : Nat} (h : 128 ≤ u) : encU u = ((u % 128 + 128 : Nat) : Int) :: encU (u / 128) := by rw [encU, dif_neg (by omega)]
theorem encU_len : ∀ (k u : Nat), u < 128 ^ (k + 1) → (encU u).length ≤ k + 1
  | k, u, h => by
    rcases Nat.lt_or_ge u 128 with hu | hu
    · rw [encU_lt hu]; simp
    · rw [encU_ge hu]
      cases k with
      | zero => simp at h; omega
      | succ k =>
        have := encU_len k (u / 128) (by rw [Nat.pow_succ] at h; omega)
        simp; omega
theorem encU_len10 {u : Nat} (h : u < 18446744073709551616) : (encU u).length ≤ 10 := encU_len 9 u (by omega)

theorem u64c (z : Int) (h : 0 ≤ z ∧ z < 18446744073709551616) : IntKind.u64.wrap z = z := IntWalk.u64_in z (by omega)
theorem u8c (z : Int) (h : 0 ≤ z ∧ z < 256) : IntKind.u8.wrap z = z := IntWalk.u8_in z (by omega)
theorem tmodN (u : Nat) : (u : Int).tmod 128 = ((u % 128 : Nat) : Int) := by rw [Int.tmod_eq_emod_of_nonneg (by omega)]; omega
theorem tdivN (u : Nat) : (u : Int).tdiv 128 = ((u / 128 : Nat) : Int) := by rw [Int.tdiv_eq_ediv_of_nonneg (by omega)]; omega

def byV (l : List Int) : List Value := l.map (.int .u8)
theorem byV_app (a b : List Int) : byV (a ++ b) = byV a ++ byV b := by simp [byV]
theorem byV_one (l : List Int) : ∀ u ∈ byV l, u.oneCell' = true := by
  intro u hu
  simp only [byV, List.mem_map] at hu
  obtain ⟨x, _, rfl⟩ := hu
  rfl

/-- what a number folds to -/
def fold (n : Int) : Nat := if 0 ≤ n then 2 * n.toNat else 2 * (-(n + 1)).toNat + 1

theorem fold_lt (n : Int) (hn : -9223372036854775808 ≤ n ∧ n ≤ 9223372036854775807) : fold n < 18446744073709551616 := by unfold fold; split <;> omega

structure IS where
  u : Nat
  pre : List Int
  a : Option Addr
  c : Nat
def annI (w : World) (u0 : Nat) : Anns := [(6, [3, 4, 16, 17, 18, 19, 20, 21, 22, 23, 24, 25, 26],
  { X := IS, slots := [3, 4], vals := fun x => [.int .u64 x.u, .slc x.a x.pre.length x.c], boxes := [], cells := fun _ => [],
    inv := fun x w' => w'.ownsRow w.heap.size 5 1 (.slice x.a x.pre.length x.c) x.pre.length (byV x.pre) ∧ Below w.heap.size w w' ∧ x.u < 18446744073709551616 ∧ x.pre ++ encU x.u = encU u0, μ := fun x => x.u })]

set_option maxRecDepth 100000 in
theorem rInt_any (n : Int) (hn : -9223372036854775808 ≤ n ∧ n ≤ 9223372036854775807) (w : World) :
    CallsX Try.prog 85 #[.int .i64 n] w fun v w' => ∃ a c, v = .slice a (encU (fold n)).length c ∧ w'.ownsRow w.heap.size 5 1 (.slice a (encU (fold n)).length c) (encU (fold n)).length (byV (encU (fold n))) ∧ Below w.heap.size w w' := by
  refine start (annI w (fold n)) Try.func85 rfl (by decide +kernel) (by kernel_rfl) [.int .i64 n] rfl ⟨trivial, trivial⟩ ?_
  have hfold : XV.int .u64 (fold n : Int) = (if 0 ≤ n then XV.int .u64 (IntKind.u64.wrap (2 * IntKind.u64.wrap n)) else XV.int .u64 (IntKind.u64.wrap (IntKind.u64.wrap (2 * IntKind.u64.wrap (IntKind.i64.wrap (0 - IntKind.i64.wrap (n + 1)))) + 1))) := by
    unfold fold
    by_cases h0 : 0 ≤ n
    · rw [if_pos h0, if_pos h0, u64c n (by omega), u64c _ (by omega)]; congr 1; omega
    · rw [if_neg h0, if_neg h0, i64c (n + 1) (by omega), i64c _ (by omega), u64c (0 - (n + 1)) (by omega), u64c (2 * (0 - (n + 1))) (by omega), u64c _ (by omega)]; congr 1; omega
  apply And.intro <;> intro h0
  all_goals
    have h0' := h0
    simp only [decide_eq_true_eq, decide_eq_false_iff_not] at h0'
    first | rw [if_pos h0'] at hfold | rw [if_neg h0'] at hfold
    refine ⟨?_, ?_, ?_⟩
    · intro x; exact ⟨⟨trivial, trivial, trivial⟩, trivial⟩
    · intro w' hs
      exact ⟨⟨fold n, [], none, 0⟩, hfold.symm, rfl, World.ownsRow_nil _ _ _ _, hs.below (Nat.le_refl _) (by simp), fold_lt n hn, rfl⟩
    · rintro ⟨u, pre, a, c⟩ w0 ⟨ho, k0, hu, hp⟩
      dsimp only at ho hu hp
      apply And.intro <;> intro h
      · refine ⟨by decide, ?_⟩
        intro w1 hs1
        refine (runs_build1 bytesOk rfl).mono ?_
        rintro _ w2 ⟨rfl, rfl⟩
        refine ⟨fun b hb => by simp [blks] at hb, ?_⟩
        intro w3 hs3
        have ho1 := (owns_sync ho hs1 (by simp [notBox])).alloc (.cells #[.int .u8 (IntKind.u8.wrap (IntKind.u64.wrap ((u : Int).tmod 128 + 128)))] 5)
        have ho3 := owns_sync ho1 hs3 (by simp [notBox])
        have k1 := below_sync0 k0 (Nat.le_refl _) hs1
        have k3 := below_sync0 (k1.alloc k1.size (.cells #[.int .u8 (IntKind.u8.wrap (IntKind.u64.wrap ((u : Int).tmod 128 + 128)))] 5)) (Nat.le_refl _) hs3
        have hx : IntKind.u8.wrap (IntKind.u64.wrap ((u : Int).tmod 128 + 128)) = ((u % 128 + 128 : Nat) : Int) := by rw [tmodN, u64c _ (by omega), u8c _ (by omega)]; omega
        have hlen : (pre ++ encU u).length ≤ 10 := by rw [hp]; exact encU_len10 (fold_lt n hn)
        have hpl : pre.length ≤ 10 := by simp at hlen; omega
        refine (runs_append bytesOk (base := w.heap.size) (xs := byV pre) (m := 1) (news := byV [((u % 128 + 128 : Nat) : Int)]) ho3 rfl (by rw [← hx]; exact new1_cell hs3 trivial) (byV_one _) ?_ ?_ (Nat.le_trans k3.size (Nat.le_refl _))).mono ?_
        · simp only [maxLen]; omega
        · omega
        · rintro _ w4 ⟨a', c', rfl, ho', hg, _⟩
          refine ⟨fun b hb => by simp [blks] at hb, ?_⟩
          refine ⟨by decide, ?_⟩
          intro w5 hs5
          have hgb : ∀ k, (Value.slice a pre.length c).ownBlock = some k → w.heap.size ≤ k := fun k hk => (ho3.lt k hk).1
          have k4 := below_grown k3 hg (Nat.le_refl _) hgb
          have k5 := below_sync0 k4 (Nat.le_refl _) hs5
          have ho5 := owns_sync ho' hs5 (by simp [notBox])
          refine ⟨⟨u / 128, pre ++ [((u % 128 + 128 : Nat) : Int)], a', c'⟩, ?_, ?_, ⟨?_, k5, ?_, ?_⟩, ?_⟩
          · show XV.int .u64 (IntKind.u64.wrap ((u : Int).tdiv 128)) = .int .u64 ((u / 128 : Nat) : Int)
            rw [tdivN, u64c _ (by omega)]
          · simp
          · simpa [byV_app] using ho5
          · show u / 128 < _; omega
          · rw [← hp, encU_ge (u := u) (by have := (of_decide_eq_true h : (128 : Int) ≤ (u : Int)); omega)]; simp
          · have := (of_decide_eq_true h : (128 : Int) ≤ (u : Int))
            show u / 128 < u; omega
      · intro w1 hs1
        refine (runs_build1 bytesOk rfl).mono ?_
        rintro _ w2 ⟨rfl, rfl⟩
        refine ⟨fun b hb => by simp [blks] at hb, ?_⟩
        intro w3 hs3
        have hu128 : u < 128 := by have := (of_decide_eq_false h : ¬ (128 : Int) ≤ (u : Int)); omega
        have ho1 := (owns_sync ho hs1 (by simp [notBox])).alloc (.cells #[.int .u8 (IntKind.u8.wrap (u : Int))] 5)
        have ho3 := owns_sync ho1 hs3 (by simp [notBox])
        have k1 := below_sync0 k0 (Nat.le_refl _) hs1
        have k3 := below_sync0 (k1.alloc k1.size (.cells #[.int .u8 (IntKind.u8.wrap (u : Int))] 5)) (Nat.le_refl _) hs3
        have hx : IntKind.u8.wrap (u : Int) = (u : Int) := u8c _ (by omega)
        have hlen : (pre ++ encU u).length ≤ 10 := by rw [hp]; exact encU_len10 (fold_lt n hn)
        have hpl : pre.length ≤ 10 := by simp at hlen; omega
        have hfin : pre ++ [(u : Int)] = encU (fold n) := by rw [← hp, encU_lt hu128]
        refine (runs_append bytesOk (base := w.heap.size) (xs := byV pre) (m := 1) (news := byV [(u : Int)]) ho3 rfl (by rw [← hx]; exact new1_cell hs3 trivial) (byV_one _) ?_ ?_ (Nat.le_trans k3.size (Nat.le_refl _))).mono ?_
        · simp only [maxLen]; omega
        · omega
        · rintro _ w4 ⟨a', c', rfl, ho', hg, _⟩
          refine ⟨fun b hb => by simp [blks] at hb, ?_⟩
          intro w5 hs5
          have hgb : ∀ k, (Value.slice a pre.length c).ownBlock = some k → w.heap.size ≤ k := fun k hk => (ho3.lt k hk).1
          have k4 := below_grown k3 hg (Nat.le_refl _) hgb
          have k5 := below_sync0 k4 (Nat.le_refl _) hs5
          have ho5 := owns_sync ho' hs5 (by simp [notBox])
          rw [← byV_app] at ho5
          refine ⟨a', c', ?_, ?_, k5⟩
          · show Value.slice a' (pre.length + 1) c' = _
            rw [← hfin]; simp
          · rw [← hfin]; simpa using ho5
end Go.Proofs.Ytnldhkhnfodplaa

namespace Go.Proofs.Ytnldhkhnfodplaa
open Go Go.Vc Go.RowKit

def i64V (l : List Int) : List Value := l.map (.int .i64)
def encs (l : List Int) : List Int := l.flatMap fun n => encU (fold n)
theorem encU_pos (u : Nat) : 0 < (encU u).length := by
  rcases Nat.lt_or_ge u 128 with h | h
  · rw [encU_lt h]; simp
  · rw [encU_ge h]; simp
def Is64 (n : Int) : Prop := -9223372036854775808 ≤ n ∧ n ≤ 9223372036854775807

structure NS where
  i : Nat
  pre : List Int
  a : Option Addr
  c : Nat
def annNs (w : World) (zs : List Int) : Anns := [(3, [3, 4, 5, 6, 7, 8, 9, 10, 11, 12, 13, 14, 15, 16, 17],
  { X := NS, slots := [4, 3], vals := fun x => [.int .i64 x.i, .slc x.a x.pre.length x.c], boxes := [], cells := fun _ => [],
    inv := fun x w' => w'.ownsRow w.heap.size 5 1 (.slice x.a x.pre.length x.c) x.pre.length (byV x.pre) ∧ Below w.heap.size w w' ∧ x.i ≤ zs.length ∧ x.pre = encs (zs.take x.i) ∧ x.pre.length ≤ 10 * x.i, μ := fun x => zs.length - x.i })]

set_option maxRecDepth 100000 in
theorem rInts_any (a : Option Addr) (c : Nat) (zs : List Int) (w : World) (hr : RowV w.heap.size w a (i64V zs)) (hz : ∀ z ∈ zs, Is64 z) (hlen : zs.length ≤ 1000000) :
    CallsX Try.prog 28 #[.slice a zs.length c] w fun v w' => ∃ a' c', v = .slice a' (encs zs).length c' ∧ w'.ownsRow w.heap.size 5 1 (.slice a' (encs zs).length c') (encs zs).length (byV (encs zs)) ∧ Below w.heap.size w w' := by
  refine start (annNs w zs) Try.func28 rfl (by decide +kernel) (by kernel_rfl) [.slc a zs.length c] rfl ⟨trivial, trivial⟩ ?_
  refine ⟨?_, ?_, ?_⟩
  · intro x; exact ⟨⟨trivial, trivial, trivial⟩, trivial⟩
  · intro w' hs
    exact ⟨⟨0, [], none, 0⟩, rfl, rfl, World.ownsRow_nil _ _ _ _, hs.below (Nat.le_refl _) (by simp), Nat.zero_le _, by simp [encs], Nat.zero_le _⟩
  · rintro ⟨i, pre, b, d⟩ w0 ⟨ho, k0, hi, hp, hpl⟩
    dsimp only at ho hi hp hpl
    apply And.intro <;> intro h
    · have hin : (i : Int) < (zs.length : Int) := of_decide_eq_true h
      have hit : i < zs.length := by omega
      obtain ⟨x, hax, hxb, hx⟩ := (hr.below k0) i (.int .i64 zs[i]) (by simp [i64V, hit])
      refine ⟨x, hax, Int.natCast_nonneg _, hin, .int .i64 zs[i], by simpa using hx, trivial, ?_⟩
      intro w1 hs1
      have hzi := hz _ (List.getElem_mem hit)
      refine (rInt_any zs[i] hzi w1).mono ?_
      rintro _ w2 ⟨a2, c2, rfl, ho2, hb2⟩
      refine ⟨fun b hb => by simp [keptB, blks] at hb, ?_⟩
      have hm10 := encU_len10 (fold_lt zs[i] hzi)
      have k1 := hs1.on k0 (Nat.le_refl _) trivial
      have k2 := below_on k1 (Nat.le_refl _) hb2
      have ho' := owns_below (owns_sync ho hs1 (by simp [notBox])) hb2 (Nat.le_refl _)
      intro w3 hs3
      refine (runs_app bytesOk hs3 ho' (by simp [notBox]) k2 (Nat.le_refl _) trivial (owns_row ho2) (fun _ _ => trivial) (by simp [byV]) (encU_pos _) (byV_one _) ?_ ?_).mono ?_
      · simp only [maxLen]; omega
      · omega
      rintro _ w4 ⟨a', c', rfl, ho4, k4, kept, _⟩
      refine ⟨kept, ?_⟩
      intro w5 hs5
      refine ⟨⟨i + 1, pre ++ encU (fold zs[i]), a', c'⟩, ?_, ?_, ⟨?_, hs5.on k4 (Nat.le_refl _) trivial, hit, ?_, ?_⟩, ?_⟩
      · show XV.int .i64 (IntKind.i64.wrap ((i : Int) + 1)) = .int .i64 ((i + 1 : Nat) : Int)
        rw [i64c _ (by omega)]; rfl
      · simp
      · have := owns_sync ho4 hs5 (by simp [notBox])
        rw [← byV_app] at this
        simpa using this
      · rw [hp, List.take_succ_eq_append_getElem hit]; simp only [encs, List.flatMap_append, List.flatMap_cons, List.flatMap_nil, List.append_nil]
      · simp; omega
      · show zs.length - (i + 1) < zs.length - i; omega
    · have hin : ¬ (i : Int) < (zs.length : Int) := of_decide_eq_false h
      have hie : i = zs.length := by omega
      subst hie
      rw [List.take_length] at hp
      subst hp
      intro w5 hs5
      exact ⟨b, d, rfl, owns_sync ho hs5 (by simp [notBox]), hs5.on k0 (Nat.le_refl _) trivial⟩
end Go.Proofs.Ytnldhkhnfodplaa

namespace Go.Proofs.Ytnldhkhnfodplaa
open Go Go.Vc Go.RowKit

def encT (s : ByteArray) : List Int := encU (fold s.size) ++ sB s
def annT (w : World) (s : ByteArray) : Anns := [(3, [3, 4, 8, 9, 10, 11, 12, 13, 14, 15, 16, 17, 18, 19],
  { X := NS, slots := [4, 3], vals := fun x => [.int .i64 x.i, .slc x.a x.pre.length x.c], boxes := [], cells := fun _ => [],
    inv := fun x w' => w'.ownsRow w.heap.size 5 1 (.slice x.a x.pre.length x.c) x.pre.length (byV x.pre) ∧ Below w.heap.size w w' ∧ x.i ≤ (sB s).length ∧ x.pre = encU (fold s.size) ++ (sB s).take x.i, μ := fun x => (sB s).length - x.i })]

set_option maxRecDepth 100000 in
theorem rText_any (s : ByteArray) (w : World) (hlen : s.size ≤ 1000000) :
    CallsX Try.prog 31 #[.string s] w fun v w' => ∃ a' c', v = .slice a' (encT s).length c' ∧ w'.ownsRow w.heap.size 5 1 (.slice a' (encT s).length c') (encT s).length (byV (encT s)) ∧ Below w.heap.size w w' := by
  refine start (annT w s) Try.func31 rfl (by decide +kernel) (by kernel_rfl) [.str s] rfl ⟨trivial, trivial⟩ ?_
  intro w1 hs1
  have hsl := sB_length s
  have hz : Is64 (s.size : Int) := by unfold Is64; omega
  refine (rInt_any (s.size : Int) hz w1).mono ?_
  rintro _ w2 ⟨a2, c2, rfl, ho2, hb2⟩
  refine ⟨fun b hb => by simp [keptB, blks] at hb, ?_⟩
  have k1 := hs1.on (Below.refl _ w) (Nat.le_refl _) trivial
  have k2 := below_on k1 (Nat.le_refl _) hb2
  have ho2' := owns_base ho2 k1.size
  have hm10 := encU_len10 (fold_lt (s.size : Int) hz)
  refine ⟨?_, ?_, ?_⟩
  · intro x; exact ⟨⟨trivial, trivial, trivial⟩, trivial⟩
  · intro w' hs
    exact ⟨⟨0, encU (fold s.size), a2, c2⟩, rfl, rfl, owns_sync ho2' hs (by simp [notBox]), hs.on k2 (Nat.le_refl _) trivial, Nat.zero_le _, by simp⟩
  · rintro ⟨i, pre, b, d⟩ w0 ⟨ho, k0, hi, hp⟩
    dsimp only at ho hi hp
    have hpl : pre.length = (encU (fold s.size)).length + i := by rw [hp]; simp; omega
    apply And.intro <;> intro h
    · have hin : (i : Int) < (s.size : Int) := of_decide_eq_true h
      have hit : i < (sB s).length := by omega
      intro w1 hs1
      refine (runs_index Try.underlying9 hit).mono ?_
      rintro _ _ ⟨rfl, rfl⟩
      refine ⟨fun b hb => by simp [blks] at hb, ?_⟩
      intro w2 hs2
      refine (runs_build1 bytesOk rfl).mono ?_
      rintro _ _ ⟨rfl, rfl⟩
      refine ⟨fun b hb => by simp [blks] at hb, ?_⟩
      have ho1 := (owns_sync (owns_sync ho hs1 (by simp [notBox])) hs2 (by simp [notBox])).alloc (.cells #[.int .u8 (sB s)[i]] 5)
      have k1 := hs2.on (hs1.on k0 (Nat.le_refl _) trivial) (Nat.le_refl _) trivial
      have k1' := k1.alloc k1.size (.cells #[.int .u8 (sB s)[i]] 5)
      intro w3 hs3
      have hsrc : RowV (w2.heap.size + 1) (w2.alloc (.cells #[.int .u8 (sB s)[i]] 5)) (some ⟨w2.heap.size, 0, none⟩) (byV [(sB s)[i]]) := by
        intro j u hu
        exact ⟨_, rfl, Nat.lt_succ_self _, new1_cell (bx := []) ⟨rfl, rfl, rfl, Nat.le_refl _, fun _ _ _ => rfl, by simp⟩ trivial j u hu⟩
      refine (runs_app (m := 1) bytesOk hs3 ho1 (by simp [notBox]) k1' (Nat.le_refl _) trivial hsrc (fun _ _ => trivial) rfl (Nat.succ_pos _) (byV_one _) ?_ ?_).mono ?_
      · simp only [maxLen]; omega
      · omega
      rintro _ w4 ⟨a', c', rfl, ho4, k4, kept, _⟩
      refine ⟨kept, ?_⟩
      intro w5 hs5
      refine ⟨⟨i + 1, pre ++ [(sB s)[i]], a', c'⟩, ?_, ?_, ⟨?_, hs5.on k4 (Nat.le_refl _) trivial, hit, ?_⟩, ?_⟩
      · show XV.int .i64 (IntKind.i64.wrap ((i : Int) + 1)) = .int .i64 ((i + 1 : Nat) : Int)
        rw [i64c _ (by omega)]; rfl
      · simp
      · have := owns_sync ho4 hs5 (by simp [notBox])
        rw [← byV_app] at this
        simpa using this
      · rw [hp, List.take_succ_eq_append_getElem hit]; simp only [List.append_assoc]
      · show (sB s).length - (i + 1) < (sB s).length - i; omega
    · have hin : ¬ (i : Int) < (s.size : Int) := of_decide_eq_false h
      have hie : i = (sB s).length := by omega
      subst hie
      rw [List.take_length] at hp
      subst hp
      intro w5 hs5
      exact ⟨b, d, rfl, owns_sync ho hs5 (by simp [notBox]), hs5.on k0 (Nat.le_refl _) trivial⟩
end Go.Proofs.Ytnldhkhnfodplaa

namespace Go.Proofs.Ytnldhkhnfodplaa
open Go Go.Vc Go.RowKit

structure CS where
  i : Nat
def annS (w : World) (xs ys : List Int) : Anns := [(4, [4, 5, 11, 12, 13, 14, 15, 16, 17, 18, 19, 20, 21, 22, 23, 24, 25],
  { X := CS, slots := [5], vals := fun x => [.int .i64 x.i], boxes := [], cells := fun _ => [],
    inv := fun x w' => Below w.heap.size w w' ∧ x.i ≤ xs.length ∧ xs.take x.i = ys.take x.i, μ := fun x => xs.length - x.i })]
def ordSame : Ords := [(6, [(0, true), (1, true), (2, true), (3, true), (4, true), (5, true), (6, true), (7, true), (8, true)])]

set_option maxRecDepth 100000 in
theorem same_any (a b : Option Addr) (c d : Nat) (xs ys : List Int) (w : World) (hx : RowV w.heap.size w a (byV xs)) (hy : RowV w.heap.size w b (byV ys)) (hm : xs.length ≤ 1000000000000) :
    CallsX Try.prog 32 #[.slice a xs.length c, .slice b ys.length d] w fun v w' => v = .bool (decide (xs = ys)) ∧ Below w.heap.size w w' := by
  refine startD (annS w xs ys) ordSame Try.func32 rfl (by decide +kernel) (by kernel_rfl) [.slc a xs.length c, .slc b ys.length d] rfl ⟨trivial, trivial, trivial⟩ ?_
  apply And.intro <;> intro h
  · intro w' hs
    refine ⟨?_, hs.below (Nat.le_refl _) (by simp)⟩
    have hne : ¬ xs = ys := fun e => by rw [e] at h; simp at h
    simp [oneRes, XV.den, ofConst, hne]
  · have hl : xs.length = ys.length := by
      have : ((xs.length : Int) != (ys.length : Int)) = false := h
      simp at this; omega
    refine ⟨?_, ?_, ?_⟩
    · intro x; exact ⟨⟨trivial, trivial⟩, trivial⟩
    · intro w' hs
      exact ⟨⟨0⟩, rfl, hs.below (Nat.le_refl _) (by simp), Nat.zero_le _, rfl⟩
    · rintro ⟨i⟩ w0 ⟨k0, hi, ht⟩
      dsimp only at hi ht
      apply And.intro <;> intro h1
      · have hin : (i : Int) < (xs.length : Int) := of_decide_eq_true h1
        have hix : i < xs.length := by omega
        have hiy : i < ys.length := by omega
        obtain ⟨p, hap, hpb, hp⟩ := (hx.below k0) i (.int .u8 xs[i]) (by simp [byV, hix])
        obtain ⟨q, hbq, hqb, hq⟩ := (hy.below k0) i (.int .u8 ys[i]) (by simp [byV, hiy])
        refine ⟨by decide +kernel, ?_⟩
        refine ⟨p, hap, Int.natCast_nonneg _, hin, .int .u8 xs[i], by simpa using hp, trivial, ?_⟩
        refine ⟨q, hbq, Int.natCast_nonneg _, by show (i : Int) < (ys.length : Int); omega, .int .u8 ys[i], by simpa using hq, trivial, ?_⟩
        apply And.intro <;> intro h2
        · intro w' hs
          refine ⟨?_, hs.on k0 (Nat.le_refl _) trivial⟩
          have hne : ¬ xs = ys := fun e => by subst e; simp at h2
          simp [oneRes, XV.den, ofConst, hne]
        · have he : xs[i] = ys[i] := by simpa using h2
          intro w' hs
          refine ⟨⟨i + 1⟩, ?_, ⟨hs.on k0 (Nat.le_refl _) trivial, hix, ?_⟩, ?_⟩
          · show XV.int .i64 (IntKind.i64.wrap ((i : Int) + 1)) = .int .i64 ((i + 1 : Nat) : Int)
            rw [i64c _ (by omega)]; rfl
          · rw [List.take_succ_eq_append_getElem hix, List.take_succ_eq_append_getElem hiy, ht, he]
          · show xs.length - (i + 1) < xs.length - i; omega
      · have hin : ¬ (i : Int) < (xs.length : Int) := of_decide_eq_false h1
        have hie : i = xs.length := by omega
        have hxy : xs = ys := by
          rw [hie, List.take_length, hl, List.take_length] at ht; exact ht
        intro w' hs
        refine ⟨?_, hs.on k0 (Nat.le_refl _) trivial⟩
        simp [oneRes, XV.den, ofConst, hxy]
end Go.Proofs.Ytnldhkhnfodplaa

namespace Go.Proofs.Ytnldhkhnfodplaa
open Go Go.Vc Go.RowKit
theorem xor_ones (x : Nat) (h : x < 18446744073709551616) : x ^^^ 18446744073709551615 = 18446744073709551615 - x := by
  have h1 : (BitVec.ofNat 64 x ^^^ BitVec.allOnes 64).toNat = x ^^^ 18446744073709551615 := by
    rw [BitVec.toNat_xor, BitVec.toNat_ofNat, BitVec.toNat_allOnes, Nat.mod_eq_of_lt (by simpa using h)]
  have h2 : BitVec.ofNat 64 x ^^^ BitVec.allOnes 64 = ~~~ BitVec.ofNat 64 x := by rw [BitVec.xor_allOnes]
  rw [← h1, h2, BitVec.toNat_not, BitVec.toNat_ofNat, Nat.mod_eq_of_lt (by simpa using h)]
theorem fold_bits (n : Int) (hn : Is64 n) : bits BinOp.xor IntKind.u64 (IntKind.u64.wrap (IntKind.i64.wrap (n * 2 ^ min (Int.toNat 1) IntKind.i64.bits))) (IntKind.u64.wrap (n.fdiv (2 ^ min (Int.toNat 63) IntKind.i64.bits))) = (fold n : Int) := by
  have e1 : (2 : Int) ^ min (Int.toNat 1) IntKind.i64.bits = 2 := by decide +kernel
  have e2 : (2 : Int) ^ min (Int.toNat 63) IntKind.i64.bits = 9223372036854775808 := by decide +kernel
  unfold Is64 at hn
  rw [e1, e2, IntKind.wrap_i64, IntKind.wrap_u64, IntKind.wrap_u64, Int.fdiv_eq_ediv_of_nonneg _ (by omega)]
  unfold fold
  by_cases h : 0 ≤ n
  · rw [if_pos h]
    have a1 : n / 9223372036854775808 % 18446744073709551616 = ((0 : Nat) : Int) := by omega
    rw [a1, show ((n * 2 + 9223372036854775808) % 18446744073709551616 - 9223372036854775808) % 18446744073709551616 = ((2 * n.toNat : Nat) : Int) by omega, bits_xor_u64_nat _ _ (by omega) (by omega), Nat.xor_zero]
  · rw [if_neg h]
    have a1 : n / 9223372036854775808 % 18446744073709551616 = ((18446744073709551615 : Nat) : Int) := by omega
    rw [a1, show ((n * 2 + 9223372036854775808) % 18446744073709551616 - 9223372036854775808) % 18446744073709551616 = (((n * 2 + 18446744073709551616).toNat : Nat) : Int) by omega, bits_xor_u64_nat _ _ (by omega) (by omega), xor_ones _ (by omega)]
    omega
end Go.Proofs.Ytnldhkhnfodplaa

namespace Go.Proofs.Ytnldhkhnfodplaa
open Go Go.Vc Go.RowKit

/-- all but block g and the row q is as it was; the row is now q' -/
structure Mut (w w' : World) (g : Nat) (q q' : Option Nat) : Prop where
  os : w'.os = w.os
  tape : w'.tape = w.tape
  output : w'.output = w.output
  size : w.heap.size ≤ w'.heap.size
  block : ∀ k, k < w.heap.size → k ≠ g → some k ≠ q → w'.heap[k]? = w.heap[k]?
  own : q' = q ∨ ∀ k, q' = some k → w.heap.size ≤ k
theorem Mut.refl (w : World) (g : Nat) (q : Option Nat) : Mut w w g q q := ⟨rfl, rfl, rfl, Nat.le_refl _, fun _ _ _ _ => rfl, .inl rfl⟩
theorem Mut.trans {w w' w'' : World} {g : Nat} {q q' q'' : Option Nat} (h : Mut w w' g q q') (k : Mut w' w'' g q' q'') : Mut w w'' g q q'' :=
  ⟨k.os.trans h.os, k.tape.trans h.tape, k.output.trans h.output, Nat.le_trans h.size k.size, fun b hb hg hq => by
    have hq' : some b ≠ q' := by
      rcases h.own with e | e
      · rw [e]; exact hq
      · intro he; have := e b he.symm; omega
    rw [k.block b (Nat.lt_of_lt_of_le hb h.size) hg hq', h.block b hb hg hq], by
    rcases k.own with e | e
    · rw [e]; exact h.own
    · exact .inr fun b hb => Nat.le_trans h.size (e b hb)⟩
theorem Mut.below {w w' : World} {g B : Nat} {q : Option Nat} (hb : Below B w w') (hB : w.heap.size ≤ B) : Mut w w' g q q :=
  ⟨hb.os, hb.tape, hb.output, hb.size, fun k hk _ _ => hb.block k (Nat.lt_of_lt_of_le hk hB), .inl rfl⟩
theorem Mut.sync {w w' : World} {g : Nat} {q : Option Nat} (hs : Sync [] w w') : Mut w w' g q q :=
  ⟨hs.os, hs.tape, hs.output, hs.size, fun k hk _ _ => hs.same k hk (by simp [blks]), .inl rfl⟩
theorem Mut.alloc (w : World) (o : Obj) (g : Nat) (q : Option Nat) : Mut w (w.alloc o) g q q :=
  ⟨rfl, rfl, rfl, by simp, fun k hk _ _ => heap_alloc_old w o hk, .inl rfl⟩
theorem Mut.grown {w w' : World} {g : Nat} {q q' : Option Nat} (h : w.grownBy w' q) (hq : q' = q ∨ q' = some w.heap.size) : Mut w w' g q q' :=
  ⟨h.os, h.tape, h.output, h.size, fun k hk _ hk2 => h.block k hk hk2, hq.imp id fun e k hk => by rw [e] at hk; cases hk; exact Nat.le_refl _⟩
theorem Mut.set (w : World) (g o : Nat) (vs : List Value) (q : Option Nat) : Mut w (setCells w ⟨g, o, none⟩ 0 vs) g q q := by
  obtain ⟨h1, h2, h3, h4, _⟩ := setCells_rest ⟨g, o, none⟩ vs 0 w
  exact ⟨h1, h2, h3, Nat.le_of_eq h4.symm, fun k _ hk _ => setCells_ne _ k hk vs 0 w, .inl rfl⟩
theorem Mut.toBelow {w w' : World} {g B : Nat} {q q' : Option Nat} (h : Mut w w' g q q') (hB : B ≤ w.heap.size) (hg : B ≤ g) (hq : ∀ k, q = some k → B ≤ k) : Below B w w' :=
  ⟨h.os, h.tape, h.output, h.size, fun k hk => h.block k (by omega) (by omega) fun e => by have := hq k e.symm; omega⟩

/-- a writer: the object g holds the slice of a row of its own, which holds these bytes -/
structure WrAt (base : Nat) (w : World) (g : Nat) (a : Option Addr) (c : Nat) (bs : List Int) : Prop where
  low : base ≤ g
  obj : w.heap[g]? = some (.cells #[.bool true, .slice a bs.length c] 63 (0, 0))
  row : w.ownsRow base 5 1 (.slice a bs.length c) bs.length (byV bs)
  apart : (Value.slice a bs.length c).ownBlock ≠ some g
abbrev ownB (a : Option Addr) (n c : Nat) : Option Nat := (Value.slice a n c).ownBlock
def wrP (g : Nat) : Value := .pointer (some ⟨g, 0, none⟩)
theorem WrAt.lt {base g c : Nat} {w : World} {a : Option Addr} {bs : List Int} (h : WrAt base w g a c bs) : g < w.heap.size := (Array.getElem?_eq_some_iff.1 h.obj).1
theorem WrAt.keep {base g c : Nat} {w w' : World} {a : Option Addr} {bs : List Int} (h : WrAt base w g a c bs) (hk : ∀ k, k < w.heap.size → w'.heap[k]? = w.heap[k]?) : WrAt base w' g a c bs := by
  refine ⟨h.low, (hk g h.lt).trans h.obj, ⟨h.row.1, ?_⟩, h.apart⟩
  rcases h.row.2 with h2 | ⟨q, cap, cur, heq, hb, hg, rest⟩
  · exact .inl h2
  · exact .inr ⟨q, cap, cur, heq, hb, (hk q (Array.getElem?_eq_some_iff.1 hg).1).trans hg, rest⟩
theorem WrAt.sync {base g c : Nat} {w w' : World} {a : Option Addr} {bs : List Int} (h : WrAt base w g a c bs) (hs : Sync [] w w') : WrAt base w' g a c bs := h.keep fun k hk => hs.same k hk (by simp [blks])
theorem WrAt.below {base g c B : Nat} {w w' : World} {a : Option Addr} {bs : List Int} (h : WrAt base w g a c bs) (hs : Below B w w') (hB : w.heap.size ≤ B) : WrAt base w' g a c bs := h.keep fun k hk => hs.block k (Nat.lt_of_lt_of_le hk hB)
theorem WrAt.alloc {base g c : Nat} {w : World} {a : Option Addr} {bs : List Int} (h : WrAt base w g a c bs) (o : Obj) : WrAt base (w.alloc o) g a c bs := h.keep fun k hk => heap_alloc_old w o hk
theorem WrAt.cell1 {base g c : Nat} {w : World} {a : Option Addr} {bs : List Int} (h : WrAt base w g a c bs) : w.cell? ⟨g, 1, none⟩ = some (.slice a bs.length c) := by
  rw [cell_of_row w g 1 _ 63 (0, 0) h.obj]; rfl
theorem WrAt.cell0 {base g c : Nat} {w : World} {a : Option Addr} {bs : List Int} (h : WrAt base w g a c bs) : w.cell? ⟨g, 0, none⟩ = some (.bool true) := by
  rw [cell_of_row w g 0 _ 63 (0, 0) h.obj]; rfl
theorem WrAt.frozen {base g c : Nat} {w : World} {a : Option Addr} {bs : List Int} (h : WrAt base w g a c bs) (o : Nat) : w.frozen? ⟨g, o, none⟩ = false := frozen_of_block (xs := [.bool true, .slice a bs.length c]) h.obj o

/-- an append's answer stored -/
theorem WrAt.put {base g c c' n : Nat} {w w1 w2 : World} {a a' : Option Addr} {bs bs' : List Int} (h : WrAt base w g a c bs) (ho : w1.ownsRow base 5 1 (.slice a' n c') n (byV bs')) (hn : n = bs'.length)
    (hg : w.grownBy w1 (ownB a bs.length c)) (hat : ownB a' n c' = ownB a bs.length c ∨ ownB a' n c' = some w.heap.size) (hs : Sync [] w1 w2) :
    WrAt base (setCells w2 ⟨g, 1, none⟩ 0 [.slice a' n c']) g a' c' bs' := by
  subst hn
  have hap : ownB a' bs'.length c' ≠ some g := by
    rcases hat with e | e
    · rw [e]; exact h.apart
    · rw [e]; intro e; cases e; exact Nat.lt_irrefl _ h.lt
  have hobj : w2.heap[g]? = some (.cells [Value.bool true, .slice a bs.length c].toArray 63 (0, 0)) := by
    rw [hs.same g (Nat.lt_of_lt_of_le h.lt hg.size) (by simp [blks]), hg.block g h.lt (fun e => h.apart e.symm)]; exact h.obj
  refine ⟨h.low, ?_, ?_, hap⟩
  · rw [setCells_eq g 1 _ 0 _ _ hobj]; rfl
  · have ho2 := owns_sync ho hs (by simp [notBox])
    refine ⟨ho2.1, ?_⟩
    rcases ho2.2 with h2 | ⟨q, cap, cur, heq, hb, hgq, rest⟩
    · exact .inl h2
    · refine .inr ⟨q, cap, cur, heq, hb, ?_, rest⟩
      rw [setCells_ne ⟨g, 1, none⟩ q (fun e => hap (by rw [ownB, heq]; simp [Value.ownBlock, e]))]
      exact hgq
end Go.Proofs.Ytnldhkhnfodplaa

namespace Go.Proofs.Ytnldhkhnfodplaa
open Go Go.Vc Go.RowKit

set_option maxRecDepth 100000 in
theorem folded_any (n : Int) (hn : Is64 n) (w : World) :
    CallsX Try.prog 84 #[.int .i64 n] w fun v w' => v = .int .u64 (fold n) ∧ Below w.heap.size w w' := by
  refine start [] Try.func84 rfl (by decide +kernel) rfl [.int .i64 n] rfl ⟨trivial, trivial⟩ ?_
  refine ⟨by decide, ?_⟩
  refine ⟨by decide, ?_⟩
  intro w' hs
  refine ⟨?_, hs.below (Nat.le_refl _) (by simp)⟩
  show Value.int .u64 _ = _
  rw [fold_bits n hn]

theorem or128 (u : Nat) : bits BinOp.or IntKind.u8 (IntKind.u8.wrap (u : Int)) 128 = ((u % 128 + 128 : Nat) : Int) := by
  have h : ∀ n : Fin 256, bits BinOp.or IntKind.u8 ((n.val : Nat) : Int) 128 = ((n.val % 128 + 128 : Nat) : Int) := by decide +kernel
  have h1 := h ⟨u % 256, by omega⟩
  rw [IntKind.wrap_u8, show (u : Int) % 256 = ((u % 256 : Nat) : Int) by omega, h1]
  dsimp only
  omega
theorem shr7 (u : Nat) : (u : Int).fdiv (2 ^ min (Int.toNat 7) IntKind.u64.bits) = ((u / 128 : Nat) : Int) := by
  have e : (2 : Int) ^ min (Int.toNat 7) IntKind.u64.bits = 128 := by decide +kernel
  rw [e, Int.fdiv_eq_ediv_of_nonneg _ (by omega)]; omega

theorem syncR (w : World) : Sync [] w w := ⟨rfl, rfl, rfl, Nat.le_refl _, fun _ _ _ => rfl, by simp⟩
theorem WrAt.src {base g c : Nat} {w : World} {a : Option Addr} {bs : List Int} {ty : TypeId} {m c2 B : Nat} {a2 : Option Addr} {news : List Int} (h : WrAt base w g a c bs) (hbw : base ≤ w.heap.size) (hlen : bs.length + news.length ≤ 100000000)
    (hsrc : RowV B w a2 (byV news)) (hm : m = news.length) (hm0 : 0 < m) :
    RunsX Try.prog (Builtin.append_ #[41, 41] ty #[.slice a bs.length c, .slice a2 m c2]) w fun v w' => ∃ a' c', v = .slice a' (bs.length + m) c' ∧ w'.cell? ⟨g, 1, none⟩ = some (.slice a bs.length c) ∧ w'.frozen? ⟨g, 1, none⟩ = false ∧
      WrAt base (setCells w' ⟨g, 1, none⟩ 0 [.slice a' (bs.length + m) c']) g a' c' (bs ++ news) ∧ Mut w (setCells w' ⟨g, 1, none⟩ 0 [.slice a' (bs.length + m) c']) g (ownB a bs.length c) (ownB a' (bs.length + m) c') := by
  subst hm
  obtain ⟨b, rfl, _, hsrc1⟩ := hsrc.src (by simpa [byV] using hm0)
  refine (runs_append bytesOk (base := base) h.row (m := news.length) (by simp [byV]) hsrc1 (byV_one _) (by simp only [maxLen]; omega) (by omega) hbw).mono ?_
  rintro _ w' ⟨a', c', rfl, ho, hg, hat⟩
  rw [← byV_app] at ho
  have hob : w'.heap[g]? = some (.cells [Value.bool true, .slice a bs.length c].toArray 63 (0, 0)) := by
    rw [hg.block g h.lt (fun e => h.apart e.symm)]; exact h.obj
  refine ⟨a', c', rfl, ?_, frozen_of_block hob 1, ?_, (Mut.grown hg hat).trans (Mut.set w' g 1 _ _)⟩
  · rw [cell_of_row w' g 1 _ 63 (0, 0) hob]; rfl
  · exact h.put ho (by simp) hg hat (syncR w')
theorem lit1 {w1 w3 : World} {x : Int} (hs3 : Sync [] (w1.alloc (.cells #[.int .u8 x] 5)) w3) : RowV w3.heap.size w3 (some ⟨w1.heap.size, 0, none⟩) (byV [x]) := by
  intro j u hu
  refine ⟨_, rfl, ?_, new1_cell hs3 trivial j u hu⟩
  exact Nat.lt_of_lt_of_le (by simp) hs3.size

structure OS where
  u : Nat
  bs : List Int
  a : Option Addr
  c : Nat

def annO (w : World) (g : Nat) (a0 : Option Addr) (c0 : Nat) (bs0 : List Int) (u0 base : Nat) : Anns := [(0, [1, 4, 5, 6, 7, 8, 9, 10, 11, 12, 13, 14, 15, 16, 17, 18, 19],
  { X := OS, slots := [1], vals := fun x => [.int .u64 x.u], boxes := [], cells := fun _ => [],
    inv := fun x w' => WrAt base w' g x.a x.c x.bs ∧ Mut w w' g (ownB a0 bs0.length c0) (ownB x.a x.bs.length x.c) ∧ x.u < 18446744073709551616 ∧ x.bs ++ encU x.u = bs0 ++ encU u0, μ := fun x => x.u })]

set_option maxRecDepth 100000 in
theorem one_any (base g : Nat) (a0 : Option Addr) (c0 : Nat) (bs0 : List Int) (u0 : Nat) (hu : u0 < 18446744073709551616) (w : World) (h : WrAt base w g a0 c0 bs0) (hlen : bs0.length ≤ 1000000) (hbw : base ≤ w.heap.size) :
    CallsX Try.prog 83 #[wrP g, .int .u64 u0] w fun v w' => ∃ a' c', v = .tuple #[] ∧ WrAt base w' g a' c' (bs0 ++ encU u0) ∧ Mut w w' g (ownB a0 bs0.length c0) (ownB a' (bs0 ++ encU u0).length c') := by
  refine start (annO w g a0 c0 bs0 u0 base) Try.func83 rfl (by decide +kernel) (by kernel_rfl) [.ptr ⟨g, 0, none⟩, .int .u64 u0] rfl ⟨trivial, trivial, trivial⟩ ?_
  refine ⟨?_, ?_, ?_⟩
  · intro x; exact ⟨⟨trivial, trivial⟩, trivial⟩
  · intro w' hs
    exact ⟨⟨u0, bs0, a0, c0⟩, rfl, h.sync hs, Mut.sync hs, hu, rfl⟩
  · rintro ⟨u, bs, a, c⟩ w0 ⟨hw0, hm0, hu, hp⟩
    dsimp only at hw0 hm0 hu hp
    have hl1 : bs.length ≤ 1000010 := by
      have h1 : (bs ++ encU u).length = (bs0 ++ encU u0).length := by rw [hp]
      have h2 := encU_len10 (u := u0) (by assumption)
      simp at h1; omega
    apply And.intro <;> intro h1
    · have hu128 : 128 ≤ u := by have := (of_decide_eq_true h1 : (128 : Int) ≤ (u : Int)); omega
      refine ⟨_, hw0.cell1, trivial, ?_⟩
      intro w1 hs1
      refine (runs_build1 bytesOk rfl).mono ?_
      rintro _ _ ⟨rfl, rfl⟩
      refine ⟨fun b hb => by simp [blks] at hb, ?_⟩
      intro w3 hs3
      have hw3 := ((hw0.sync hs1).alloc (.cells #[.int .u8 (bits BinOp.or IntKind.u8 (IntKind.u8.wrap (u : Int)) 128)] 5)).sync hs3
      have hm3 := ((hm0.trans (Mut.sync hs1)).trans (Mut.alloc w1 (.cells #[.int .u8 (bits BinOp.or IntKind.u8 (IntKind.u8.wrap (u : Int)) 128)] 5) g _)).trans (Mut.sync hs3)
      refine (hw3.src (m := 1) (Nat.le_trans hbw hm3.size) (by simp; omega) (lit1 hs3) rfl (Nat.succ_pos _)).mono ?_
      rintro _ w4 ⟨a', c', rfl, hc4, hf4, hw4, hm4⟩
      refine ⟨fun b hb => by simp [blks] at hb, ?_⟩
      refine ⟨fun j hj => ?_, trivial, ?_⟩
      · have hj0 : j = 0 := by simpa using hj
        subst hj0
        exact ⟨by show (w4.cell? ⟨g, 1, none⟩).isSome = true; rw [hc4]; rfl, hf4⟩
      rw [or128] at hw4
      refine ⟨by decide, ?_⟩
      intro w5 hs5
      refine ⟨⟨u / 128, bs ++ [((u % 128 + 128 : Nat) : Int)], a', c'⟩, ?_, ⟨hw4.sync hs5, ?_, ?_, ?_⟩, ?_⟩
      · show XV.int .u64 ((u : Int).fdiv (2 ^ min (Int.toNat 7) IntKind.u64.bits)) = .int .u64 ((u / 128 : Nat) : Int)
        rw [shr7]
      · simpa using (hm3.trans hm4).trans (Mut.sync hs5)
      · show u / 128 < _; omega
      · rw [← hp, encU_ge (u := u) hu128]; simp
      · show u / 128 < u; omega
    · have hu128 : u < 128 := by have := (of_decide_eq_false h1 : ¬ (128 : Int) ≤ (u : Int)); omega
      refine ⟨_, hw0.cell1, trivial, ?_⟩
      intro w1 hs1
      refine (runs_build1 bytesOk rfl).mono ?_
      rintro _ _ ⟨rfl, rfl⟩
      refine ⟨fun b hb => by simp [blks] at hb, ?_⟩
      intro w3 hs3
      have hw3 := ((hw0.sync hs1).alloc (.cells #[.int .u8 (IntKind.u8.wrap (u : Int))] 5)).sync hs3
      have hm3 := ((hm0.trans (Mut.sync hs1)).trans (Mut.alloc w1 (.cells #[.int .u8 (IntKind.u8.wrap (u : Int))] 5) g _)).trans (Mut.sync hs3)
      refine (hw3.src (m := 1) (Nat.le_trans hbw hm3.size) (by simp; omega) (lit1 hs3) rfl (Nat.succ_pos _)).mono ?_
      rintro _ w4 ⟨a', c', rfl, hc4, hf4, hw4, hm4⟩
      refine ⟨fun b hb => by simp [blks] at hb, ?_⟩
      refine ⟨fun j hj => ?_, trivial, ?_⟩
      · have hj0 : j = 0 := by simpa using hj
        subst hj0
        exact ⟨by show (w4.cell? ⟨g, 1, none⟩).isSome = true; rw [hc4]; rfl, hf4⟩
      have hx : IntKind.u8.wrap (u : Int) = (u : Int) := u8c _ (by omega)
      rw [hx, ← encU_lt hu128, hp] at hw4
      intro w5 hs5
      refine ⟨a', c', rfl, hw4.sync hs5, ?_⟩
      have hl2 : (bs0 ++ encU u0).length = bs.length + 1 := by rw [← hp, encU_lt hu128]; simp
      rw [hl2]
      exact (hm3.trans hm4).trans (Mut.sync hs5)
end Go.Proofs.Ytnldhkhnfodplaa

namespace Go.Proofs.Ytnldhkhnfodplaa
open Go Go.Vc Go.RowKit

set_option maxRecDepth 100000 in
theorem new_any (w : World) : CallsX Try.prog 25 #[] w fun v w' => ∃ g, v = wrP g ∧ WrAt w.heap.size w' g none 0 [] ∧ Below w.heap.size w w' := by
  refine start [] Try.func25 rfl (by decide +kernel) rfl [] rfl trivial ?_
  intro b0 ⟨hb0, _⟩ w' hs
  refine ⟨b0, rfl, ⟨hb0, ?_, World.ownsRow_nil _ _ _ _, by simp [Value.ownBlock]⟩, hs.on (Below.refl _ w) (Nat.le_refl _) ⟨hb0, trivial⟩⟩
  exact hs.own _ (List.Mem.head _)

set_option maxRecDepth 100000 in
theorem wok_any {base g c : Nat} {a : Option Addr} {bs : List Int} (w : World) (h : WrAt base w g a c bs) :
    CallsX Try.prog 82 #[wrP g] w fun v w' => v = .bool true ∧ Below w.heap.size w w' := by
  refine start [] Try.func82 rfl (by decide +kernel) rfl [.ptr ⟨g, 0, none⟩] rfl ⟨trivial, trivial⟩ ?_
  refine ⟨_, h.cell0, trivial, ?_⟩
  intro w' hs
  exact ⟨rfl, hs.below (Nat.le_refl _) (by simp)⟩

/-- a writer that no call made -/
def NoWr (w : World) (p : Value) : Prop := p = .pointer none ∨ ∃ g, p = wrP g ∧ w.cell? ⟨g, 0, none⟩ = some (.bool false)

structure WS where
  i : Nat
  bs : List Int
  a : Option Addr
  c : Nat
def annW (w : World) (g : Nat) (a0 : Option Addr) (c0 : Nat) (bs0 : List Int) (zs : List Int) (base : Nat) : Anns := [(3, [6, 11, 12, 13, 14, 15, 16, 17, 18, 19],
  { X := WS, slots := [11], vals := fun x => [.int .i64 x.i], boxes := [], cells := fun _ => [],
    inv := fun x w' => WrAt base w' g x.a x.c x.bs ∧ Mut w w' g (ownB a0 bs0.length c0) (ownB x.a x.bs.length x.c) ∧ x.i ≤ zs.length ∧ x.bs = bs0 ++ encs (zs.take x.i), μ := fun x => zs.length - x.i })]

/-- the row is in blocks that the writer does not write -/
def RowOut (w : World) (g : Nat) (q : Option Nat) (a : Option Addr) : Prop := ∀ x, a = some x → x.block < w.heap.size ∧ x.block ≠ g ∧ some x.block ≠ q
theorem RowV.mut {B : Nat} {w w' : World} {g : Nat} {q q' : Option Nat} {a : Option Addr} {vs : List Value} (h : RowV B w a vs) (hm : Mut w w' g q q') (ho : RowOut w g q a) : RowV B w' a vs := fun j v hv => by
  obtain ⟨x, h1, h2, h3⟩ := h j v hv
  refine ⟨x, h1, h2, ?_⟩
  obtain ⟨o1, o2, o3⟩ := ho x h1
  have e : (x.add j).block = x.block := by unfold Addr.add; split <;> rfl
  rw [← h3]
  exact World.cell?_of_block (by rw [e]; exact hm.block _ o1 o2 o3)

theorem encs_len : ∀ (zs : List Int), (∀ z ∈ zs, Is64 z) → (encs zs).length ≤ 10 * zs.length
  | [], _ => by simp [encs]
  | z :: zs, h => by
    have h1 := encU_len10 (fold_lt z (h z (by simp)))
    have h2 := encs_len zs fun y hy => h y (by simp [hy])
    simp only [encs, List.flatMap_cons, List.length_append, List.length_cons] at h2 ⊢
    omega

set_option maxRecDepth 100000 in
theorem wInt_any (base g : Nat) (a0 : Option Addr) (c0 : Nat) (bs0 : List Int) (w : World) (h : WrAt base w g a0 c0 bs0) (hlen : bs0.length ≤ 900000) (hbw : base ≤ w.heap.size)
    (a : Option Addr) (c : Nat) (zs : List Int) (hr : RowV w.heap.size w a (i64V zs)) (hro : 0 < zs.length → RowOut w g (ownB a0 bs0.length c0) a) (hz : ∀ z ∈ zs, Is64 z) (hzl : zs.length ≤ 1000) :
    CallsX Try.prog 26 #[wrP g, .slice a zs.length c] w fun v w' => ∃ a' c', v = wrP g ∧ WrAt base w' g a' c' (bs0 ++ encs zs) ∧ Mut w w' g (ownB a0 bs0.length c0) (ownB a' (bs0 ++ encs zs).length c') := by
  refine start (annW w g a0 c0 bs0 zs base) Try.func26 rfl (by decide +kernel) (by kernel_rfl) [.ptr ⟨g, 0, none⟩, .slc a zs.length c] rfl ⟨trivial, trivial, trivial⟩ ?_
  intro w1 hs1
  refine (wok_any w1 (h.sync hs1)).mono ?_
  rintro _ w2 ⟨rfl, hb2⟩
  refine ⟨fun b hb => by simp [keptB, blks] at hb, ?_⟩
  have hw2 := (h.sync hs1).below hb2 (Nat.le_refl _)
  have hm2 := (Mut.sync (g := g) (q := ownB a0 bs0.length c0) hs1).trans (Mut.below hb2 (Nat.le_refl _))
  apply And.intro <;> intro hh
  rotate_left
  · exact absurd hh (by simp)
  refine ⟨?_, ?_, ?_⟩
  · intro x; exact ⟨⟨trivial, trivial⟩, trivial⟩
  · intro w' hs
    exact ⟨⟨0, bs0, a0, c0⟩, rfl, hw2.sync hs, hm2.trans (Mut.sync hs), Nat.zero_le _, by simp [encs]⟩
  · rintro ⟨i, bs, a1, c1⟩ w0 ⟨hw0, hm0, hi, hp⟩
    dsimp only at hw0 hm0 hi hp
    have hbl : bs.length ≤ 910000 := by
      have h1 := encs_len (zs.take i) fun z hz' => hz z (List.mem_of_mem_take hz')
      have h2 : bs.length = bs0.length + (encs (zs.take i)).length := by rw [hp]; simp
      have h3 : (zs.take i).length ≤ zs.length := by simp; omega
      omega
    apply And.intro <;> intro h1
    · have hin : (i : Int) < (zs.length : Int) := of_decide_eq_true h1
      have hit : i < zs.length := by omega
      obtain ⟨x, hax, hxb, hx⟩ := (RowV.mut hr hm0 (hro (by omega))) i (.int .i64 zs[i]) (by simp [i64V, hit])
      refine ⟨x, hax, Int.natCast_nonneg _, hin, .int .i64 zs[i], by simpa using hx, trivial, ?_⟩
      intro w3 hs3
      have hzi := hz _ (List.getElem_mem hit)
      refine (folded_any zs[i] hzi w3).mono ?_
      rintro _ w4 ⟨rfl, hb4⟩
      refine ⟨fun b hb => by simp [keptB, blks] at hb, ?_⟩
      intro w5 hs5
      have hw5 := ((hw0.sync hs3).below hb4 (Nat.le_refl _)).sync hs5
      have hm5 := ((hm0.trans (Mut.sync hs3)).trans (Mut.below hb4 (Nat.le_refl _))).trans (Mut.sync hs5)
      refine (one_any base g a1 c1 bs (fold zs[i]) (fold_lt _ hzi) w5 hw5 (by omega) (Nat.le_trans hbw hm5.size)).mono ?_
      rintro _ w6 ⟨a', c', rfl, hw6, hm6⟩
      refine ⟨fun b hb => by simp [keptB, blks] at hb, ?_⟩
      intro w7 hs7
      refine ⟨⟨i + 1, bs ++ encU (fold zs[i]), a', c'⟩, ?_, ⟨hw6.sync hs7, (hm5.trans hm6).trans (Mut.sync hs7), hit, ?_⟩, ?_⟩
      · show XV.int .i64 (IntKind.i64.wrap ((i : Int) + 1)) = .int .i64 ((i + 1 : Nat) : Int)
        rw [i64c _ (by omega)]; rfl
      · rw [hp, List.take_succ_eq_append_getElem hit]; simp only [encs, List.flatMap_append, List.flatMap_cons, List.flatMap_nil, List.append_nil, List.append_assoc]
      · show zs.length - (i + 1) < zs.length - i; omega
    · have hin : ¬ (i : Int) < (zs.length : Int) := of_decide_eq_false h1
      have hie : i = zs.length := by omega
      rw [hie, List.take_length] at hp
      subst hp
      intro w7 hs7
      exact ⟨a1, c1, rfl, hw0.sync hs7, hm0.trans (Mut.sync hs7)⟩
end Go.Proofs.Ytnldhkhnfodplaa

namespace Go.Proofs.Ytnldhkhnfodplaa
open Go Go.Vc Go.RowKit Go.Lib

theorem strV (s : ByteArray) : strCells s = byV (sB s) := by simp [strCells, byV, sB]

theorem byteInfo : ∃ i : TypeInfo, Try.prog.info? 5 = some i ∧ i.zero = some (.int .u8 0) ∧ i.size = 1 ∧ i.bytes = 1 := by
  have h : (Try.prog.info? 5).map (fun i => (i.zero, i.size, i.bytes)) = some (some (.int .u8 0), 1, 1) := by kernel_rfl
  obtain ⟨i, hi, h⟩ := Option.map_eq_some_iff.1 h
  simp only [Prod.mk.injEq] at h
  exact ⟨i, hi, h.1, h.2.1, h.2.2⟩

theorem runs_append_str {w : World} {ty : TypeId} {base n c : Nat} {a : Option Addr} {bs : List Int} {s : ByteArray} (hown : w.ownsRow base 5 1 (.slice a n c) n (byV bs)) (hlen : n + s.size ≤ 100000000) (hbase : base ≤ w.heap.size) :
    RunsX Try.prog (Builtin.append_ #[41, 9] ty #[.slice a n c, .string s]) w fun v w' => ∃ a' c', v = .slice a' (n + s.size) c' ∧ w'.ownsRow base 5 1 (.slice a' (n + s.size) c') (n + s.size) (byV (bs ++ sB s)) ∧ w.grownBy w' (ownB a n c) ∧ (ownB a' (n + s.size) c' = ownB a n c ∨ ownB a' (n + s.size) c' = some w.heap.size) := by
  obtain ⟨i, hi, hz, hs1, hby⟩ := byteInfo
  obtain ⟨v', w', hr, ho, hg, hnil⟩ := run_append_own_string (P := Try.prog) w base 41 9 ty 5 i Try.underlying41 Try.underlying9 hi hz hs1 hby (.slice a n c) n (byV bs) hown s (by simp only [maxLen]; omega) (by omega) hbase
  obtain ⟨a', c', rfl⟩ := ownsRow_slice ho
  rw [strV, ← byV_app] at ho
  refine ⟨⟨_, _, hr, a', c', rfl, ho, hg, ?_⟩⟩
  have det : ∀ v'' w'', (Builtin.append_ #[41, 9] ty #[.slice a n c, .string s]).run Try.prog w = .ok v'' w'' → Value.slice a' (n + s.size) c' = v'' := fun v'' w'' h => by
    rw [hr] at h; cases h; rfl
  rcases hown.2 with ⟨heq, hn⟩ | ⟨g, cap, cur, heq, hbg, hgc, hnc, hcm, hcs, htake⟩
  · cases heq
    by_cases hm : s.size = 0
    · have := hnil.2 ⟨rfl, hm⟩
      exact .inl (by show Value.ownBlock (.slice a' (0 + s.size) c') = _; rw [this])
    · have h := det _ _ (run_append_nil_string (P := Try.prog) w 41 9 ty 5 i (.int .u8 0) Try.underlying41 Try.underlying9 hi hz s (by omega) (by omega) (by rw [hby]; omega))
      exact .inr (by show Value.ownBlock (.slice a' (0 + s.size) c') = _; rw [h]; rfl)
  · cases heq
    by_cases hroom : n + s.size ≤ c
    · have h := det _ _ (run_append_room_string (P := Try.prog) w 41 9 ty 5 i Try.underlying41 Try.underlying9 hi hs1 g n c cur hgc s hroom (by rw [hcs]; omega))
      exact .inl (by show Value.ownBlock (.slice a' (n + s.size) c') = _; rw [h]; rfl)
    · have hxl : (byV bs).length = n := by simpa using hown.1
      have h := det _ _ (run_append_grow_string (P := Try.prog) w 41 9 ty 5 i (.int .u8 0) Try.underlying41 Try.underlying9 hi hz ⟨g, 0, none⟩ n c (byV bs) (by rw [hs1]; omega) (hown.cells (g := g) rfl) s (by omega) (by omega) (by rw [hby]; exact growslice_fits (by omega) (by omega)))
      exact .inr (by show Value.ownBlock (.slice a' (n + s.size) c') = _; rw [h]; rfl)

theorem WrAt.str {base g c : Nat} {w : World} {a : Option Addr} {bs : List Int} {ty : TypeId} {s : ByteArray} (h : WrAt base w g a c bs) (hbw : base ≤ w.heap.size) (hlen : bs.length + s.size ≤ 100000000) :
    RunsX Try.prog (Builtin.append_ #[41, 9] ty #[.slice a bs.length c, .string s]) w fun v w' => ∃ a' c', v = .slice a' (bs.length + s.size) c' ∧ w'.cell? ⟨g, 1, none⟩ = some (.slice a bs.length c) ∧ w'.frozen? ⟨g, 1, none⟩ = false ∧
      WrAt base (setCells w' ⟨g, 1, none⟩ 0 [.slice a' (bs.length + s.size) c']) g a' c' (bs ++ sB s) ∧ Mut w (setCells w' ⟨g, 1, none⟩ 0 [.slice a' (bs.length + s.size) c']) g (ownB a bs.length c) (ownB a' (bs.length + s.size) c') := by
  refine (runs_append_str h.row hlen hbw).mono ?_
  rintro _ w' ⟨a', c', rfl, ho, hg, hat⟩
  have hob : w'.heap[g]? = some (.cells [Value.bool true, .slice a bs.length c].toArray 63 (0, 0)) := by
    rw [hg.block g h.lt (fun e => h.apart e.symm)]; exact h.obj
  refine ⟨a', c', rfl, ?_, frozen_of_block hob 1, ?_, (Mut.grown hg hat).trans (Mut.set w' g 1 _ _)⟩
  · rw [cell_of_row w' g 1 _ 63 (0, 0) hob]; rfl
  · exact h.put ho (by simp [sB_length]) hg hat (syncR w')

set_option maxRecDepth 100000 in
theorem wText_any (base g : Nat) (a0 : Option Addr) (c0 : Nat) (bs0 : List Int) (w : World) (h : WrAt base w g a0 c0 bs0) (hlen : bs0.length ≤ 900000) (hbw : base ≤ w.heap.size) (s : ByteArray) (hsl : s.size ≤ 1000000) :
    CallsX Try.prog 29 #[wrP g, .string s] w fun v w' => ∃ a' c', v = wrP g ∧ WrAt base w' g a' c' (bs0 ++ encT s) ∧ Mut w w' g (ownB a0 bs0.length c0) (ownB a' (bs0 ++ encT s).length c') := by
  refine start [] Try.func29 rfl (by decide +kernel) rfl [.ptr ⟨g, 0, none⟩, .str s] rfl ⟨trivial, trivial, trivial⟩ ?_
  intro w1 hs1
  refine (wok_any w1 (h.sync hs1)).mono ?_
  rintro _ w2 ⟨rfl, hb2⟩
  refine ⟨fun b hb => by simp [keptB, blks] at hb, ?_⟩
  have hw2 := (h.sync hs1).below hb2 (Nat.le_refl _)
  have hm2 := (Mut.sync (g := g) (q := ownB a0 bs0.length c0) hs1).trans (Mut.below hb2 (Nat.le_refl _))
  apply And.intro <;> intro hh
  rotate_left
  · exact absurd hh (by simp)
  intro w3 hs3
  have hz : Is64 (s.size : Int) := by unfold Is64; omega
  refine (folded_any (s.size : Int) hz w3).mono ?_
  rintro _ w4 ⟨rfl, hb4⟩
  refine ⟨fun b hb => by simp [keptB, blks] at hb, ?_⟩
  intro w5 hs5
  have hw5 := ((hw2.sync hs3).below hb4 (Nat.le_refl _)).sync hs5
  have hm5 := ((hm2.trans (Mut.sync hs3)).trans (Mut.below hb4 (Nat.le_refl _))).trans (Mut.sync hs5)
  refine (one_any base g a0 c0 bs0 (fold s.size) (fold_lt _ hz) w5 hw5 (by omega) (Nat.le_trans hbw hm5.size)).mono ?_
  rintro _ w6 ⟨a', c', rfl, hw6, hm6⟩
  refine ⟨fun b hb => by simp [keptB, blks] at hb, ?_⟩
  have h10 := encU_len10 (fold_lt (s.size : Int) hz)
  refine ⟨_, hw6.cell1, trivial, ?_⟩
  intro w7 hs7
  have hw7 := hw6.sync hs7
  have hm7 := (hm5.trans hm6).trans (Mut.sync hs7)
  refine (hw7.str (s := s) (Nat.le_trans hbw hm7.size) (by simp; omega)).mono ?_
  rintro _ w8 ⟨a2, c2, rfl, hc8, hf8, hw8, hm8⟩
  refine ⟨fun b hb => by simp [blks] at hb, ?_⟩
  refine ⟨fun j hj => ?_, trivial, ?_⟩
  · have hj0 : j = 0 := by simpa using hj
    subst hj0
    exact ⟨by show (w8.cell? ⟨g, 1, none⟩).isSome = true; rw [hc8]; rfl, hf8⟩
  intro w9 hs9
  have hl : (bs0 ++ encU (fold s.size)).length + s.size = (bs0 ++ encT s).length := by simp [encT, sB_length]; omega
  refine ⟨a2, c2, rfl, ?_, ?_⟩
  · have := hw8.sync hs9
    simpa [encT, List.append_assoc] using this
  · rw [← hl]
    exact (hm7.trans hm8).trans (Mut.sync hs9)
end Go.Proofs.Ytnldhkhnfodplaa

namespace Go.Proofs.Ytnldhkhnfodplaa
open Go Go.Vc Go.RowKit Go.Lib

theorem runs_build0 {w : World} : RunsX Try.prog (Instr.buildSlice 41 0 #[]) w fun v w' => v = .slice (some ⟨w.heap.size, 0, none⟩) 0 0 ∧ w' = w.alloc (.cells #[] 5) := by
  obtain ⟨i, hi, hz, hs1, hby⟩ := byteInfo
  refine ⟨⟨_, _, ?_, rfl, rfl⟩⟩
  have e : (Array.map (fun _ => default) (Array.range 0) : Array Value) = #[] := by apply Array.ext' ; simp
  simp [Instr.buildSlice, run_underlying Try.underlying41, sizeOf, typeInfo, hi, Instr.fill, newRow, e]

set_option maxRecDepth 100000 in
theorem clone_any (a : Option Addr) (c : Nat) (xs : List Int) (w : World) (hr : RowV w.heap.size w a (byV xs)) (hlen : xs.length ≤ 10000000) :
    CallsX Try.prog 86 #[.slice a xs.length c] w fun v w' => ∃ a' c', v = .slice a' xs.length c' ∧ w'.ownsRow w.heap.size 5 1 (.slice a' xs.length c') xs.length (byV xs) ∧ Below w.heap.size w w' := by
  refine start [] Try.func86 rfl (by decide +kernel) rfl [.slc a xs.length c] rfl ⟨trivial, trivial⟩ ?_
  cases a with
  | none =>
    have hx : xs = [] := by
      cases xs with
      | nil => rfl
      | cons x xs => obtain ⟨_, h, _⟩ := hr 0 (.int .u8 x) (by simp [byV]); cases h
    subst hx
    apply And.intro <;> intro h
    · intro w' hs
      exact ⟨none, 0, rfl, World.ownsRow_nil _ _ _ _, hs.below (Nat.le_refl _) (by simp)⟩
    · exact absurd h (by simp [notIf])
  | some b =>
    apply And.intro <;> intro h
    · exact absurd h (by simp [notIf])
    intro w1 hs1
    refine runs_build0.mono ?_
    rintro _ _ ⟨rfl, rfl⟩
    refine ⟨fun b hb => by simp [blks] at hb, ?_⟩
    intro w3 hs3
    have k1 := hs1.on (Below.refl w.heap.size w) (Nat.le_refl _) trivial
    have k2 := k1.alloc k1.size (.cells #[] 5)
    have k3 := hs3.on k2 (Nat.le_refl _) trivial
    have ho := owns_sync (World.ownsRow_made (base := w.heap.size) (e := 5) (size := 1) w1 #[] 0 k1.size (Nat.zero_le _) rfl) hs3 (by simp [notBox])
    have hsrc : ∀ j u, (byV xs)[j]? = some u → w3.cell? (b.add j) = some u := fun j u hu => by
      obtain ⟨x, h1, _, h3⟩ := (hr.below k3) j u hu
      cases h1; exact h3
    refine (runs_append bytesOk (base := w.heap.size) (m := xs.length) (news := byV xs) ho (by simp [byV]) hsrc (byV_one _) (by simp only [maxLen]; omega) (by omega) k3.size).mono ?_
    rintro _ w4 ⟨a', c', rfl, ho4, hg, _⟩
    refine ⟨fun b hb => by simp [blks] at hb, ?_⟩
    intro w5 hs5
    have k4 := below_grown k3 hg (Nat.le_refl _) fun k hk => (ho.lt k hk).1
    refine ⟨a', c', ?_, ?_, hs5.on k4 (Nat.le_refl _) trivial⟩
    · show Value.slice a' (0 + xs.length) c' = _
      rw [Nat.zero_add]
    · have := owns_sync ho4 hs5 (by simp [notBox])
      simpa using this

theorem ownsRow_out {w : World} {base n c : Nat} {a : Option Addr} {xs : List Value} (h : w.ownsRow base 5 1 (.slice a n c) n xs) : RowV w.heap.size w a xs := owns_row h

set_option maxRecDepth 100000 in
theorem done_any {base g c : Nat} {a : Option Addr} {bs : List Int} (w : World) (h : WrAt base w g a c bs) (hlen : bs.length ≤ 10000000) :
    CallsX Try.prog 33 #[wrP g] w fun v w' => ∃ a' c', v = .slice a' bs.length c' ∧ w'.ownsRow w.heap.size 5 1 (.slice a' bs.length c') bs.length (byV bs) ∧ Below w.heap.size w w' := by
  refine start [] Try.func33 rfl (by decide +kernel) rfl [.ptr ⟨g, 0, none⟩] rfl ⟨trivial, trivial⟩ ?_
  intro w1 hs1
  refine (wok_any w1 (h.sync hs1)).mono ?_
  rintro _ w2 ⟨rfl, hb2⟩
  refine ⟨fun b hb => by simp [keptB, blks] at hb, ?_⟩
  have hw2 := (h.sync hs1).below hb2 (Nat.le_refl _)
  have k1 := hs1.on (Below.refl w.heap.size w) (Nat.le_refl _) trivial
  have k2 := below_on k1 (Nat.le_refl _) hb2
  apply And.intro <;> intro hh
  · exact absurd hh (by simp)
  refine ⟨_, hw2.cell1, trivial, ?_⟩
  intro w3 hs3
  have hw3 := hw2.sync hs3
  have k3 := hs3.on k2 (Nat.le_refl _) trivial
  refine (clone_any a c bs w3 (owns_row hw3.row) hlen).mono ?_
  rintro _ w4 ⟨a', c', rfl, ho4, hb4⟩
  refine ⟨fun b hb => by simp [keptB, blks] at hb, ?_⟩
  intro w5 hs5
  exact ⟨a', c', rfl, owns_base (owns_sync ho4 hs5 (by simp [notBox])) k3.size, hs5.on (below_on k3 (Nat.le_refl _) hb4) (Nat.le_refl _) trivial⟩
end Go.Proofs.Ytnldhkhnfodplaa

namespace Go.Proofs.Ytnldhkhnfodplaa
open Go Go.Vc Go.RowKit Go.Lib

set_option maxRecDepth 100000 in
theorem numbers_any (a : Option Addr) (c : Nat) (zs : List Int) (w : World) (hc : zs.length ≤ c) :
    CallsX Try.prog 27 #[.slice a zs.length c] w fun v w' => v = .slice a (zs.take 20).length c ∧ Below w.heap.size w w' := by
  refine start [] Try.func27 rfl (by decide +kernel) rfl [.slc a zs.length c] rfl ⟨trivial, trivial⟩ ?_
  apply And.intro <;> intro h
  · have h20 : (20 : Int) < (zs.length : Int) := of_decide_eq_true h
    refine ⟨by decide, by omega, ?_⟩
    intro w' hs
    refine ⟨?_, hs.below (Nat.le_refl _) (by simp)⟩
    show Value.slice a 20 c = _
    rw [List.length_take, Nat.min_eq_left (by omega)]
  · have h20 : ¬ (20 : Int) < (zs.length : Int) := of_decide_eq_false h
    intro w' hs
    refine ⟨?_, hs.below (Nat.le_refl _) (by simp)⟩
    show Value.slice a zs.length c = _
    rw [List.take_of_length_le (by omega)]

theorem sB_extract (s : ByteArray) (i j : Nat) (h : i ≤ j) : sB (s.extract i j) = ((sB s).take j).drop i := by
  simp only [sB, ByteArray.data_extract, Array.toList_extract, List.extract_eq_take_drop, List.map_drop, List.map_take]
  rw [List.drop_take]
set_option maxRecDepth 100000 in
theorem short_any (s : ByteArray) (w : World) :
    CallsX Try.prog 30 #[.string s] w fun v w' => ∃ s', v = .string s' ∧ sB s' = (sB s).take 300 ∧ Below w.heap.size w w' := by
  refine start [] Try.func30 rfl (by decide +kernel) rfl [.str s] rfl ⟨trivial, trivial⟩ ?_
  apply And.intro <;> intro h
  · have h20 : (300 : Int) < (s.size : Int) := of_decide_eq_true h
    refine ⟨by decide, by omega, ?_⟩
    intro w' hs
    exact ⟨s.extract 0 300, rfl, sB_extract s 0 300 (by decide), hs.below (Nat.le_refl _) (by simp)⟩
  · have h20 : ¬ (300 : Int) < (s.size : Int) := of_decide_eq_false h
    intro w' hs
    refine ⟨s, rfl, ?_, hs.below (Nat.le_refl _) (by simp)⟩
    rw [List.take_of_length_le (by rw [sB_length]; omega)]
end Go.Proofs.Ytnldhkhnfodplaa

namespace Go.Proofs.Ytnldhkhnfodplaa
open Go Go.Vc Go.RowKit Go.Lib
variable {rb : List Nat}

def oblkA : Option Addr → List Nat
  | none => []
  | some x => [x.block]
/-- a reader: the object g holds the rest, which lies elsewhere, and its error -/
structure RdAt (rb : List Nat) (w : World) (g : Nat) (a : Option Addr) (c : Nat) (bs : List Int) (e : Int) : Prop where
  obj : w.heap[g]? = some (.cells #[.bool true, .slice a bs.length c, .int .i64 e] 65 (0, 0))
  row : RowV w.heap.size w a (byV bs)
  own : ∀ x, a = some x → x.block ∈ rb
  ne : (g :: rb).Nodup
  live : ∀ b ∈ rb, b < w.heap.size
  cap : bs.length ≤ c
  bytes : ∀ b ∈ bs, 0 ≤ b ∧ b < 256
theorem RdAt.apart {g c : Nat} {w : World} {a : Option Addr} {bs : List Int} {e : Int} (h : RdAt rb w g a c bs e) : ∀ x, a = some x → x.block ≠ g := fun x hx e => (List.nodup_cons.1 h.ne).1 (e ▸ h.own x hx)
theorem RdAt.lt {g c : Nat} {w : World} {a : Option Addr} {bs : List Int} {e : Int} (h : RdAt rb w g a c bs e) : g < w.heap.size := (Array.getElem?_eq_some_iff.1 h.obj).1
theorem RdAt.keep {g c : Nat} {w w' : World} {a : Option Addr} {bs : List Int} {e : Int} (h : RdAt rb w g a c bs e) (hs : w.heap.size ≤ w'.heap.size) (hk : ∀ k, k < w.heap.size → w'.heap[k]? = w.heap[k]?) : RdAt rb w' g a c bs e := by
  refine ⟨(hk g h.lt).trans h.obj, fun j v hv => ?_, h.own, h.ne, fun b hb => Nat.lt_of_lt_of_le (h.live b hb) hs, h.cap, h.bytes⟩
  obtain ⟨x, h1, h2, h3⟩ := h.row j v hv
  exact ⟨x, h1, Nat.lt_of_lt_of_le h2 hs, by rw [← h3]; exact World.cell?_of_block (hk _ (addLt x j _ h2))⟩
theorem RdAt.sync {g c : Nat} {w w' : World} {a : Option Addr} {bs : List Int} {e : Int} (h : RdAt rb w g a c bs e) (hs : Sync [] w w') : RdAt rb w' g a c bs e := h.keep hs.size fun k hk => hs.same k hk (by simp [blks])
theorem RdAt.below {g c B : Nat} {w w' : World} {a : Option Addr} {bs : List Int} {e : Int} (h : RdAt rb w g a c bs e) (hs : Below B w w') (hB : w.heap.size ≤ B) : RdAt rb w' g a c bs e := h.keep hs.size fun k hk => hs.block k (Nat.lt_of_lt_of_le hk hB)
theorem RdAt.cell0 {g c : Nat} {w : World} {a : Option Addr} {bs : List Int} {e : Int} (h : RdAt rb w g a c bs e) : w.cell? ⟨g, 0, none⟩ = some (.bool true) := by rw [cell_of_row w g 0 _ 65 (0, 0) h.obj]; rfl
theorem RdAt.cell1 {g c : Nat} {w : World} {a : Option Addr} {bs : List Int} {e : Int} (h : RdAt rb w g a c bs e) : w.cell? ⟨g, 1, none⟩ = some (.slice a bs.length c) := by rw [cell_of_row w g 1 _ 65 (0, 0) h.obj]; rfl
theorem RdAt.cell2 {g c : Nat} {w : World} {a : Option Addr} {bs : List Int} {e : Int} (h : RdAt rb w g a c bs e) : w.cell? ⟨g, 2, none⟩ = some (.int .i64 e) := by rw [cell_of_row w g 2 _ 65 (0, 0) h.obj]; rfl
theorem RdAt.frozen {g c : Nat} {w : World} {a : Option Addr} {bs : List Int} {e : Int} (h : RdAt rb w g a c bs e) (o : Nat) : w.frozen? ⟨g, o, none⟩ = false := frozen_of_block (xs := [.bool true, .slice a bs.length c, .int .i64 e]) h.obj o
/-- another rest -/
theorem RdAt.set1 {g c c' : Nat} {w : World} {a a' : Option Addr} {bs bs' : List Int} {e : Int} (h : RdAt rb w g a c bs e) (hr : RowV w.heap.size w a' (byV bs')) (ha : ∀ x, a' = some x → x.block ∈ rb) (hc : bs'.length ≤ c') (hb : ∀ b ∈ bs', 0 ≤ b ∧ b < 256) :
    RdAt rb (setCells w ⟨g, 1, none⟩ 0 [.slice a' bs'.length c']) g a' c' bs' e := by
  refine ⟨?_, fun j v hv => ?_, ha, h.ne, fun b hb => by rw [(setCells_rest ⟨g, 1, none⟩ [.slice a' bs'.length c'] 0 w).2.2.2.1]; exact h.live b hb, hc, hb⟩
  · rw [setCells_eq g 1 _ 0 w [.bool true, .slice a bs.length c, .int .i64 e] h.obj]; rfl
  · obtain ⟨x, h1, h2, h3⟩ := hr j v hv
    have hsz := (setCells_rest ⟨g, 1, none⟩ [.slice a' bs'.length c'] 0 w).2.2.2.1
    refine ⟨x, h1, by rw [hsz]; exact h2, ?_⟩
    rw [← h3]
    refine World.cell?_of_block (setCells_ne ⟨g, 1, none⟩ _ ?_ _ 0 w)
    have e : (x.add j).block = x.block := by unfold Addr.add; split <;> rfl
    rw [e]; exact fun e => (List.nodup_cons.1 h.ne).1 (by have := ha x h1; rw [e] at this; exact this)
/-- another error -/
theorem RdAt.set2 {g c : Nat} {w : World} {a : Option Addr} {bs : List Int} {e e' : Int} (h : RdAt rb w g a c bs e) :
    RdAt rb (setCells w ⟨g, 2, none⟩ 0 [.int .i64 e']) g a c bs e' := by
  refine ⟨?_, fun j v hv => ?_, h.own, h.ne, fun b hb => by rw [(setCells_rest ⟨g, 2, none⟩ [.int .i64 e'] 0 w).2.2.2.1]; exact h.live b hb, h.cap, h.bytes⟩
  · rw [setCells_eq g 2 _ 0 w [.bool true, .slice a bs.length c, .int .i64 e] h.obj]; rfl
  · obtain ⟨x, h1, h2, h3⟩ := h.row j v hv
    have hsz := (setCells_rest ⟨g, 2, none⟩ [.int .i64 e'] 0 w).2.2.2.1
    refine ⟨x, h1, by rw [hsz]; exact h2, ?_⟩
    rw [← h3]
    refine World.cell?_of_block (setCells_ne ⟨g, 2, none⟩ _ ?_ _ 0 w)
    have e : (x.add j).block = x.block := by unfold Addr.add; split <;> rfl
    rw [e]; exact h.apart x h1

set_option maxRecDepth 100000 in
theorem good_any {g c : Nat} {a : Option Addr} {bs : List Int} {e : Int} (w : World) (h : RdAt rb w g a c bs e) :
    CallsX Try.prog 87 #[wrP g] w fun v w' => v = .bool (decide (e = 0)) ∧ Below w.heap.size w w' := by
  refine start [] Try.func87 rfl (by decide +kernel) rfl [.ptr ⟨g, 0, none⟩] rfl ⟨trivial, trivial⟩ ?_
  refine ⟨_, h.cell0, trivial, ?_⟩
  apply And.intro <;> intro hh
  rotate_left
  · exact absurd hh (by simp)
  refine ⟨_, h.cell2, trivial, ?_⟩
  intro w' hs
  refine ⟨?_, hs.below (Nat.le_refl _) (by simp)⟩
  show Value.bool (e == 0) = _
  congr 1

set_option maxRecDepth 100000 in
theorem rdErr_any {g c : Nat} {a : Option Addr} {bs : List Int} {e : Int} (w : World) (h : RdAt rb w g a c bs e) :
    CallsX Try.prog 41 #[wrP g] w fun v w' => v = .int .i64 e ∧ Below w.heap.size w w' := by
  refine start [] Try.func41 rfl (by decide +kernel) rfl [.ptr ⟨g, 0, none⟩] rfl ⟨trivial, trivial⟩ ?_
  refine ⟨_, h.cell0, trivial, ?_⟩
  apply And.intro <;> intro hh
  · exact absurd hh (by simp)
  refine ⟨_, h.cell2, trivial, ?_⟩
  intro w' hs
  exact ⟨rfl, hs.below (Nat.le_refl _) (by simp)⟩

set_option maxRecDepth 100000 in
theorem fail_rd {g c : Nat} {a : Option Addr} {bs : List Int} {e : Int} (w : World) (h : RdAt rb w g a c bs e) (e' : Int) :
    CallsX Try.prog 90 #[wrP g, .int .i64 e'] w fun v w' => v = .tuple #[] ∧ RdAt rb w' g none 0 [] e' ∧ Mut w w' g none none := by
  refine start [] Try.func90 rfl (by decide +kernel) rfl [.ptr ⟨g, 0, none⟩, .int .i64 e'] rfl ⟨trivial, trivial, trivial⟩ ?_
  refine ⟨fun j hj => ?_, trivial, ?_⟩
  · have hj0 : j = 0 := by simpa using hj
    subst hj0
    exact ⟨by show (w.cell? ⟨g, 2, none⟩).isSome = true; rw [h.cell2]; rfl, h.frozen 2⟩
  have h2 := h.set2 (e' := e')
  refine ⟨fun j hj => ?_, trivial, ?_⟩
  · have hj0 : j = 0 := by simpa using hj
    subst hj0
    refine ⟨?_, h2.frozen 1⟩
    show ((setCells w ⟨g, 2, none⟩ 0 [.int .i64 e']).cell? ⟨g, 1, none⟩).isSome = true
    rw [h2.cell1]; rfl
  have h3 := h2.set1 (a' := none) (c' := 0) (bs' := []) (fun j v hv => by simp [byV] at hv) (fun x hx => by cases hx) (Nat.le_refl _) (by simp)
  intro w' hs
  exact ⟨rfl, h3.sync hs, ((Mut.set w g 2 _ none).trans (Mut.set _ g 1 _ none)).trans (Mut.sync hs)⟩

set_option maxRecDepth 100000 in
theorem open_any' (a : Option Addr) (c : Nat) (xs : List Int) (w : World) (hr : RowV w.heap.size w a (byV xs)) (hlen : xs.length ≤ 10000000) (hx : ∀ b ∈ xs, 0 ≤ b ∧ b < 256) :
    CallsX Try.prog 36 #[.slice a xs.length c] w fun v w' => ∃ rb g a' c', v = wrP g ∧ w.heap.size ≤ g ∧ (∀ b ∈ rb, w.heap.size ≤ b) ∧ RdAt rb w' g a' c' xs 0 ∧ Below w.heap.size w w' := by
  refine start [] Try.func36 rfl (by decide +kernel) rfl [.slc a xs.length c] rfl ⟨trivial, trivial⟩ ?_
  intro w1 hs1
  have k1 := hs1.on (Below.refl w.heap.size w) (Nat.le_refl _) trivial
  refine (clone_any a c xs w1 ((hr.below k1).mono k1.size) hlen).mono ?_
  rintro _ w2 ⟨a', c', rfl, ho2, hb2⟩
  refine ⟨fun b hb => by simp [keptB, blks] at hb, ?_⟩
  have k2 := below_on k1 (Nat.le_refl _) hb2
  intro b0 ⟨hb0, _⟩ w3 hs3
  have hrow := owns_row ho2
  have hcap : xs.length ≤ c' := by
    rcases ho2.2 with ⟨heq, _⟩ | ⟨_, _, _, heq, _, _, hn, _⟩
    · simp only [Value.slice.injEq] at heq; omega
    · simp only [Value.slice.injEq] at heq; omega
  have hlo : ∀ b ∈ oblkA a', w.heap.size ≤ b ∧ b < w2.heap.size := by
    intro b hb
    rcases ho2.2 with ⟨heq, _⟩ | ⟨q, _, _, heq, hq0, hq, _⟩
    · simp only [Value.slice.injEq] at heq; rw [heq.1] at hb; cases hb
    · simp only [Value.slice.injEq] at heq
      rw [heq.1] at hb; simp only [oblkA, List.mem_singleton] at hb; subst hb
      exact ⟨Nat.le_trans k1.size hq0, (Array.getElem?_eq_some_iff.1 hq).1⟩
  refine ⟨oblkA a', b0, a', c', rfl, Nat.le_trans k2.size hb0, fun b hb => (hlo b hb).1, ⟨hs3.own _ (List.Mem.head _), ?_, ?_, ?_, ?_, hcap, hx⟩, hs3.on k2 (Nat.le_refl _) ⟨Nat.le_trans k2.size hb0, trivial⟩⟩
  · exact (row_sync hrow hs3 ⟨hb0, trivial⟩).mono hs3.size
  · rintro x rfl; simp [oblkA]
  · refine List.nodup_cons.2 ⟨fun h => ?_, by cases a' <;> simp [oblkA]⟩
    have := (hlo b0 h).2; omega
  · intro b hb; have := (hlo b hb).2; exact Nat.lt_of_lt_of_le this hs3.size
end Go.Proofs.Ytnldhkhnfodplaa

namespace Go.Proofs.Ytnldhkhnfodplaa
open Go Go.Vc Go.RowKit Go.Lib
variable {rb : List Nat}

def uNext (sh u : Nat) (b : Int) : Nat := u ||| (b.toNat % 128 * 2 ^ sh % 18446744073709551616)
theorem uNext_lt {sh u : Nat} {b : Int} (hu : u < 18446744073709551616) : uNext sh u b < 18446744073709551616 := by
  have h1 : b.toNat % 128 * 2 ^ sh % 18446744073709551616 < 2 ^ 64 := by omega
  have := Nat.or_lt_two_pow (show u < 2 ^ 64 by omega) h1
  unfold uNext; omega
theorem uNext_bits {sh u : Nat} {b : Int} (hu : u < 18446744073709551616) (hs : sh ≤ 63) (hb : 0 ≤ b ∧ b < 256) :
    bits BinOp.or IntKind.u64 (u : Int) (IntKind.u64.wrap (IntKind.u64.wrap (bits BinOp.and IntKind.u8 b 127) * 2 ^ min (Int.toNat (sh : Int)) IntKind.u64.bits)) = (uNext sh u b : Int) := by
  have h : ∀ n : Fin 256, bits BinOp.and IntKind.u8 ((n.val : Nat) : Int) 127 = ((n.val % 128 : Nat) : Int) := by decide +kernel
  have h1 := h ⟨b.toNat, by omega⟩
  have hbn : ((b.toNat : Nat) : Int) = b := by omega
  dsimp only at h1
  rw [hbn] at h1
  have hm : min (Int.toNat (sh : Int)) IntKind.u64.bits = sh := by
    have : IntKind.u64.bits = 64 := by decide +kernel
    rw [this, Int.toNat_natCast]
    exact Nat.min_eq_left (by omega)
  rw [h1, hm, u64c ((b.toNat % 128 : Nat) : Int) (by omega), IntKind.wrap_u64]
  have e : (((b.toNat % 128 : Nat) : Int) * 2 ^ sh % 18446744073709551616) = ((b.toNat % 128 * 2 ^ sh % 18446744073709551616 : Nat) : Int) := by
    have e0 : ((2 ^ sh : Nat) : Int) = (2 : Int) ^ sh := by rw [Int.natCast_pow]; rfl
    rw [← e0, ← Int.natCast_mul]; omega
  rw [e, bits_or_u64_nat _ _ hu (by omega)]
  rfl

/-- a number's groups -/
def numS : Nat → Nat → List Int → Option Nat × List Int × Int
  | _, _, [] => (none, [], 4)
  | sh, u, b :: r => if 63 < sh ∨ (sh = 63 ∧ 1 < b) ∨ (b = 0 ∧ 0 < sh) then (none, [], 3) else if b < 128 then (some (uNext sh u b), r, 0) else numS (sh + 7) (uNext sh u b) r

structure MS where
  sh : Nat
  u : Nat
  bs : List Int
  a : Option Addr
  c : Nat
def annN (w : World) (g : Nat) (bs0 : List Int) : Anns := [(4, [2, 3, 4, 5, 6, 7, 8, 9, 10, 11, 12, 13, 14, 15, 16, 17, 18, 19, 20, 21, 22, 23, 24, 25, 26, 27, 28, 29, 30, 31, 32, 33, 34, 35, 36, 37, 38, 39, 40, 41, 42, 43, 44, 45, 46, 47, 48, 49, 50, 51, 52, 53, 54, 55, 56, 57, 58, 59, 60],
  { X := MS, slots := [5, 4], vals := fun x => [.int .i64 x.sh, .int .u64 x.u], boxes := [], cells := fun _ => [],
    inv := fun x w' => RdAt rb w' g x.a x.c x.bs 0 ∧ Mut w w' g none none ∧ x.sh ≤ 70 ∧ x.u < 18446744073709551616 ∧ numS x.sh x.u x.bs = numS 0 0 bs0, μ := fun x => x.bs.length })]

set_option maxRecDepth 100000 in
theorem number_any {g c0 : Nat} {a0 : Option Addr} {bs0 : List Int} (w : World) (h : RdAt rb w g a0 c0 bs0 0) :
    CallsX Try.prog 88 #[wrP g] w fun v w' => ∃ a' c', v = .tuple #[.int .u64 ((numS 0 0 bs0).1.getD 0 : Nat), .bool (numS 0 0 bs0).1.isSome] ∧ RdAt rb w' g a' c' (numS 0 0 bs0).2.1 (numS 0 0 bs0).2.2 ∧ Mut w w' g none none := by
  refine start (annN (rb := rb) w g bs0) Try.func88 rfl (by decide +kernel) (by kernel_rfl) [.ptr ⟨g, 0, none⟩] rfl ⟨trivial, trivial⟩ ?_
  refine ⟨?_, ?_, ?_⟩
  · intro x; exact ⟨⟨trivial, trivial, trivial⟩, trivial⟩
  · intro w' hs
    exact ⟨⟨0, 0, bs0, a0, c0⟩, rfl, rfl, h.sync hs, Mut.sync hs, Nat.zero_le _, show 0 < _ by decide, rfl⟩
  · rintro ⟨sh, u, bs, a, c⟩ w0 ⟨hr, hm, hsh, hu, hp⟩
    dsimp only at hr hm hsh hu hp
    rw [← hp]
    refine ⟨_, hr.cell1, trivial, ?_⟩
    apply And.intro <;> intro h1
    · have hb0 : bs = [] := by
        have : ((bs.length : Int) == 0) = true := h1
        simp at this; exact this
      subst hb0
      intro w1 hs1
      refine (fail_rd w1 (hr.sync hs1) 4).mono ?_
      rintro _ w2 ⟨rfl, hr2, hm2⟩
      refine ⟨fun b hb => by simp [keptB, blks] at hb, ?_⟩
      intro w3 hs3
      exact ⟨_, _, rfl, hr2.sync hs3, ((hm.trans (Mut.sync hs1)).trans hm2).trans (Mut.sync hs3)⟩
    · obtain ⟨b, r, rfl⟩ : ∃ b r, bs = b :: r := by
        cases bs with
        | nil => exact absurd h1 (by simp)
        | cons b r => exact ⟨b, r, rfl⟩
      have hbb := hr.bytes b (by simp)
      obtain ⟨x, hax, hxb, hx⟩ := hr.row 0 (.int .u8 b) (by simp [byV])
      subst hax
      refine ⟨_, hr.cell1, trivial, ?_⟩
      refine ⟨x, rfl, by decide, by simp, .int .u8 b, by simpa using hx, trivial, ?_⟩
      refine ⟨_, hr.cell1, trivial, ?_⟩
      refine ⟨by decide, by simp; omega, ?_⟩
      refine ⟨fun j hj => ?_, trivial, ?_⟩
      · have hj0 : j = 0 := by simpa using hj
        subst hj0
        exact ⟨by show (w0.cell? ⟨g, 1, none⟩).isSome = true; rw [hr.cell1]; rfl, hr.frozen 1⟩
      have hcap := hr.cap
      have hrl : (b :: r).length = r.length + 1 := rfl
      have hr2 := hr.set1 (a' := if c = 1 then some x else (some x).map (·.add (1 * 1))) (c' := c - 1) (bs' := r) (by
        intro j v hv
        have hj : j < r.length := by
          have := (List.getElem?_eq_some_iff.1 hv).1
          simpa [byV] using this
        rw [if_neg (by omega)]
        obtain ⟨y, hy1, hy2, hy3⟩ := hr.row (j + 1) v (by simpa [byV] using hv)
        cases hy1
        refine ⟨_, rfl, addLt x _ _ hy2, ?_⟩
        rw [Addr.add_add, show 1 * 1 + j = j + 1 by omega]; exact hy3) (by
        intro y hy
        have hxg := hr.own x rfl
        split at hy
        · cases hy; exact hxg
        · cases hy
          have e : (x.add (1 * 1)).block = x.block := by unfold Addr.add; split <;> rfl
          rw [e]; exact hxg) (by omega) (fun y hy => hr.bytes y (by simp [hy]))
      have hm2 := hm.trans (Mut.set w0 g 1 [Value.slice (if c = 1 then some x else (some x).map (·.add (1 * 1))) r.length (c - 1)] none)
      repeat' (apply And.intro <;> intro _)
      all_goals first
        | (refine ⟨Int.natCast_nonneg _, ?_⟩
           have hcond : ¬ (63 < sh ∨ (sh = 63 ∧ 1 < b) ∨ (b = 0 ∧ 0 < sh)) := by
             simp only [decide_eq_true_eq, decide_eq_false_iff_not, beq_iff_eq, beq_eq_false_iff_ne, ne_eq] at *
             omega
           have hsh63 : sh ≤ 63 := by omega
           have hub := uNext_bits (b := b) hu hsh63 hbb
           rw [numS, if_neg hcond] at hp ⊢
           apply And.intro <;> intro t
           · have tb : b < 128 := of_decide_eq_true t
             intro w' hs
             rw [if_pos tb]
             refine ⟨_, _, ?_, hr2.sync hs, hm2.trans (Mut.sync hs)⟩
             show Value.tuple #[.int .u64 _, .bool true] = Value.tuple #[.int .u64 (uNext sh u b : Int), .bool true]
             rw [hub]
           · have tb : ¬ b < 128 := of_decide_eq_false t
             rw [if_neg tb] at hp ⊢
             intro w' hs
             refine ⟨⟨sh + 7, uNext sh u b, r, _, _⟩, ?_, ?_, ⟨hr2.sync hs, hm2.trans (Mut.sync hs), by show sh + 7 ≤ 70; omega, uNext_lt hu, rfl⟩, Nat.lt_succ_self _⟩
             · show XV.int .i64 (IntKind.i64.wrap ((sh : Int) + 7)) = .int .i64 ((sh + 7 : Nat) : Int)
               rw [i64c _ (by omega)]; rfl
             · show XV.int .u64 _ = XV.int .u64 (uNext sh u b : Int)
               rw [hub])
        | (intro w1 hs1
           have hcond : 63 < sh ∨ (sh = 63 ∧ 1 < b) ∨ (b = 0 ∧ 0 < sh) := by
             simp only [decide_eq_true_eq, decide_eq_false_iff_not, beq_iff_eq, beq_eq_false_iff_ne, ne_eq] at *
             omega
           rw [numS, if_pos hcond]
           refine (fail_rd w1 (hr2.sync hs1) 3).mono ?_
           rintro _ w2 ⟨rfl, hr3, hm3⟩
           refine ⟨fun b hb => by simp [keptB, blks] at hb, ?_⟩
           intro w3 hs3
           exact ⟨_, _, rfl, hr3.sync hs3, ((hm2.trans (Mut.sync hs1)).trans hm3).trans (Mut.sync hs3)⟩)
end Go.Proofs.Ytnldhkhnfodplaa

namespace Go.Proofs.Ytnldhkhnfodplaa
open Go Go.Vc Go.RowKit Go.Lib
variable {rb : List Nat}
def unf (u : Nat) : Int := if u % 2 = 0 then ((u / 2 : Nat) : Int) else -((u / 2 : Nat) : Int) - 1
theorem xor_i64_0 (a : Nat) (h : a < 9223372036854775808) : bits .xor .i64 (a : Int) 0 = (a : Int) := by
  have h1 : (BitVec.ofInt 64 (a : Int)).toNat = a := by
    rw [BitVec.ofInt_natCast, BitVec.toNat_ofNat]; exact Nat.mod_eq_of_lt (by omega)
  show IntKind.i64.wrap ((BitVec.ofInt 64 (a : Int) ^^^ BitVec.ofInt 64 0).toNat : Int) = _
  have h2 : BitVec.ofInt 64 0 = 0#64 := by decide
  rw [h2, BitVec.xor_zero, h1, i64c _ (by omega)]
theorem xor_i64_1 (a : Nat) (h : a < 9223372036854775808) : bits .xor .i64 (a : Int) (-1) = -(a : Int) - 1 := by
  have h1 : (BitVec.ofInt 64 (a : Int)).toNat = a := by
    rw [BitVec.ofInt_natCast, BitVec.toNat_ofNat]; exact Nat.mod_eq_of_lt (by omega)
  show IntKind.i64.wrap ((BitVec.ofInt 64 (a : Int) ^^^ BitVec.ofInt 64 (-1)).toNat : Int) = _
  have h2 : BitVec.ofInt 64 (-1) = BitVec.allOnes 64 := by decide
  rw [h2, BitVec.xor_allOnes, BitVec.toNat_not, h1, IntKind.wrap_i64]
  omega
theorem unf_bits (u : Nat) (hu : u < 18446744073709551616) : bits BinOp.xor IntKind.i64 (IntKind.i64.wrap ((u : Int).fdiv (2 ^ min (Int.toNat 1) IntKind.u64.bits))) (IntKind.i64.wrap (0 - IntKind.i64.wrap (bits BinOp.and IntKind.u64 (u : Int) 1))) = unf u := by
  have e : (2 : Int) ^ min (Int.toNat 1) IntKind.u64.bits = 2 := by decide +kernel
  have e1 : bits BinOp.and IntKind.u64 (u : Int) 1 = ((u % 2 : Nat) : Int) := by
    have := bits_and_u64_nat u 1 hu (by decide)
    rw [Nat.and_one_is_mod] at this
    exact this
  rw [e, e1, Int.fdiv_eq_ediv_of_nonneg _ (by omega), show (u : Int) / 2 = ((u / 2 : Nat) : Int) by omega, i64c ((u / 2 : Nat) : Int) (by omega), i64c ((u % 2 : Nat) : Int) (by omega), i64c _ (by omega)]
  unfold unf
  by_cases h : u % 2 = 0
  · rw [if_pos h, h]; exact xor_i64_0 _ (by omega)
  · have h1 : u % 2 = 1 := by omega
    rw [if_neg h, h1]; exact xor_i64_1 _ (by omega)
set_option maxRecDepth 100000 in
theorem unfolded_any (u : Nat) (hu : u < 18446744073709551616) (w : World) :
    CallsX Try.prog 89 #[.int .u64 u] w fun v w' => v = .int .i64 (unf u) ∧ Below w.heap.size w w' := by
  refine start [] Try.func89 rfl (by decide +kernel) rfl [.int .u64 u] rfl ⟨trivial, trivial⟩ ?_
  refine ⟨by decide, ?_⟩
  intro w' hs
  refine ⟨?_, hs.below (Nat.le_refl _) (by simp)⟩
  show Value.int .i64 _ = _
  rw [unf_bits u hu]

/-- what a reading of a number answers, and what is left, and the error -/
def rdInt (bs : List Int) (e lo hi : Int) : Int × List Int × Int :=
  if e ≠ 0 then (0, bs, e) else
  match numS 0 0 bs with
  | (none, r, e') => (0, r, e')
  | (some u, r, e') => if unf u < lo ∨ hi < unf u then (0, [], 7) else (unf u, r, e')
theorem numS_lt : ∀ (bs : List Int) (sh u : Nat), u < 18446744073709551616 → ∀ x, (numS sh u bs).1 = some x → x < 18446744073709551616
  | [], sh, u, hu, x, h => by simp [numS] at h
  | b :: r, sh, u, hu, x, h => by
    unfold numS at h
    split at h
    · simp at h
    · split at h
      · simp at h; rw [← h]; exact uNext_lt hu
      · exact numS_lt r _ _ (uNext_lt hu) x h

set_option maxRecDepth 100000 in
theorem rInt_rd {g c0 : Nat} {a0 : Option Addr} {bs0 : List Int} {e lo hi : Int} (w : World) (h : RdAt rb w g a0 c0 bs0 e) :
    CallsX Try.prog 37 #[wrP g, .int .i64 lo, .int .i64 hi] w fun v w' => ∃ a' c', v = .int .i64 (rdInt bs0 e lo hi).1 ∧ RdAt rb w' g a' c' (rdInt bs0 e lo hi).2.1 (rdInt bs0 e lo hi).2.2 ∧ Mut w w' g none none := by
  refine start [] Try.func37 rfl (by decide +kernel) rfl [.ptr ⟨g, 0, none⟩, .int .i64 lo, .int .i64 hi] rfl ⟨trivial, trivial, trivial, trivial⟩ ?_
  intro w1 hs1
  refine (good_any w1 (h.sync hs1)).mono ?_
  rintro _ w2 ⟨rfl, hb2⟩
  refine ⟨fun b hb => by simp [keptB, blks] at hb, ?_⟩
  have hr2 := (h.sync hs1).below hb2 (Nat.le_refl _)
  have hm2 := (Mut.sync (g := g) (q := none) hs1).trans (Mut.below hb2 (Nat.le_refl _))
  unfold rdInt
  apply And.intro <;> intro hh
  · have he : e ≠ 0 := by simpa using hh
    rw [if_pos he]
    intro w3 hs3
    exact ⟨_, _, rfl, hr2.sync hs3, hm2.trans (Mut.sync hs3)⟩
  · have he : e = 0 := by simpa using hh
    subst he
    rw [if_neg (by simp)]
    intro w3 hs3
    refine (number_any w3 (hr2.sync hs3)).mono ?_
    rintro _ w4 ⟨a', c', rfl, hr4, hm4⟩
    refine ⟨fun b hb => by simp [keptB, blks] at hb, ?_⟩
    have hlt := numS_lt bs0 0 0 (by decide)
    have hm5 := (hm2.trans (Mut.sync hs3)).trans hm4
    rcases hN : numS 0 0 bs0 with ⟨_ | u, r, e'⟩
    · rw [hN] at hr4
      intro w5 hs5
      refine (unfolded_any 0 (by decide) w5).mono ?_
      rintro _ w6 ⟨rfl, hb6⟩
      refine ⟨fun b hb => by simp [keptB, blks] at hb, ?_⟩
      apply And.intro <;> intro h6
      rotate_left
      · exact absurd h6 (by simp [hN])
      intro w7 hs7
      exact ⟨_, _, rfl, ((hr4.sync hs5).below hb6 (Nat.le_refl _)).sync hs7, ((hm5.trans (Mut.sync hs5)).trans (Mut.below hb6 (Nat.le_refl _))).trans (Mut.sync hs7)⟩
    · rw [hN] at hr4 hlt
      have hu := hlt u rfl
      intro w5 hs5
      refine (unfolded_any u hu w5).mono ?_
      rintro _ w6 ⟨rfl, hb6⟩
      refine ⟨fun b hb => by simp [keptB, blks] at hb, ?_⟩
      have hr6 := (hr4.sync hs5).below hb6 (Nat.le_refl _)
      have hm6 := (hm5.trans (Mut.sync hs5)).trans (Mut.below hb6 (Nat.le_refl _))
      apply And.intro <;> intro h6
      · exact absurd h6 (by simp)
      dsimp only
      by_cases hc : unf u < lo ∨ hi < unf u
      · rw [if_pos hc]
        repeat' (apply And.intro <;> intro _)
        all_goals first
          | (exfalso; simp only [decide_eq_true_eq, decide_eq_false_iff_not] at *; omega)
          | (intro w7 hs7
             refine (fail_rd w7 (hr6.sync hs7) 7).mono ?_
             rintro _ w8 ⟨rfl, hr8, hm8⟩
             refine ⟨fun b hb => by simp [keptB, blks] at hb, ?_⟩
             intro w9 hs9
             exact ⟨_, _, rfl, hr8.sync hs9, ((hm6.trans (Mut.sync hs7)).trans hm8).trans (Mut.sync hs9)⟩)
      · rw [if_neg hc]
        repeat' (apply And.intro <;> intro _)
        all_goals first
          | (exfalso; simp only [decide_eq_true_eq, decide_eq_false_iff_not] at *; omega)
          | (intro w7 hs7
             exact ⟨_, _, rfl, hr6.sync hs7, hm6.trans (Mut.sync hs7)⟩)
end Go.Proofs.Ytnldhkhnfodplaa

namespace Go.Proofs.Ytnldhkhnfodplaa
open Go Go.Vc Go.RowKit Go.Lib
variable {rb : List Nat}

set_option maxRecDepth 100000 in
theorem end_any {g c : Nat} {a : Option Addr} {bs : List Int} {e : Int} (w : World) (h : RdAt rb w g a c bs e) :
    CallsX Try.prog 39 #[wrP g] w fun v w' => v = .int .i64 (if e ≠ 0 then e else if bs = [] then 0 else 5) ∧ Below w.heap.size w w' := by
  refine start [] Try.func39 rfl (by decide +kernel) rfl [.ptr ⟨g, 0, none⟩] rfl ⟨trivial, trivial⟩ ?_
  intro w1 hs1
  refine (rdErr_any w1 (h.sync hs1)).mono ?_
  rintro _ w2 ⟨rfl, hb2⟩
  refine ⟨fun b hb => by simp [keptB, blks] at hb, ?_⟩
  have k1 := hs1.on (Below.refl w.heap.size w) (Nat.le_refl _) trivial
  have k2 := below_on k1 (Nat.le_refl _) hb2
  have hr2 := (h.sync hs1).below hb2 (Nat.le_refl _)
  apply And.intro <;> intro hh
  · have he : e ≠ 0 := by simpa using hh
    rw [if_pos he]
    intro w' hs
    exact ⟨rfl, hs.on k2 (Nat.le_refl _) trivial⟩
  · have he : e = 0 := by simpa using hh
    subst he
    rw [if_neg (by simp)]
    refine ⟨_, hr2.cell1, trivial, ?_⟩
    apply And.intro <;> intro h3
    · have h3' : (0 : Int) < (bs.length : Int) := of_decide_eq_true h3
      intro w' hs
      refine ⟨?_, hs.on k2 (Nat.le_refl _) trivial⟩
      rw [if_neg (by intro e; subst e; simp at h3')]
      rfl
    · have h3' : ¬ (0 : Int) < (bs.length : Int) := of_decide_eq_false h3
      intro w' hs
      refine ⟨?_, hs.on k2 (Nat.le_refl _) trivial⟩
      rw [if_pos (List.eq_nil_of_length_eq_zero (by omega))]
      rfl

set_option maxRecDepth 100000 in
theorem left_any {g c : Nat} {a : Option Addr} {bs : List Int} {e : Int} (w : World) (h : RdAt rb w g a c bs e) :
    CallsX Try.prog 40 #[wrP g] w fun v w' => v = .int .i64 (if e ≠ 0 then 0 else (bs.length : Int)) ∧ Below w.heap.size w w' := by
  refine start [] Try.func40 rfl (by decide +kernel) rfl [.ptr ⟨g, 0, none⟩] rfl ⟨trivial, trivial⟩ ?_
  intro w1 hs1
  refine (good_any w1 (h.sync hs1)).mono ?_
  rintro _ w2 ⟨rfl, hb2⟩
  refine ⟨fun b hb => by simp [keptB, blks] at hb, ?_⟩
  have k1 := hs1.on (Below.refl w.heap.size w) (Nat.le_refl _) trivial
  have k2 := below_on k1 (Nat.le_refl _) hb2
  have hr2 := (h.sync hs1).below hb2 (Nat.le_refl _)
  apply And.intro <;> intro hh
  · have he : e ≠ 0 := by simpa using hh
    rw [if_pos he]
    intro w' hs
    exact ⟨rfl, hs.on k2 (Nat.le_refl _) trivial⟩
  · have he : e = 0 := by simpa using hh
    subst he
    rw [if_neg (by simp)]
    refine ⟨_, hr2.cell1, trivial, ?_⟩
    intro w' hs
    exact ⟨rfl, hs.on k2 (Nat.le_refl _) trivial⟩
end Go.Proofs.Ytnldhkhnfodplaa

namespace Go.Proofs.Ytnldhkhnfodplaa
open Go Go.Vc Go.RowKit Go.Lib
variable {rb : List Nat}

def toStr (ns : List Int) : ByteArray := ns.foldl (fun r n => r.push (UInt8.ofNat n.toNat)) ByteArray.empty
theorem sB_push (s : ByteArray) (b : UInt8) : sB (s.push b) = sB s ++ [(b.toNat : Int)] := by simp [sB]
theorem sB_foldl : ∀ (ns : List Int) (s : ByteArray), (∀ b ∈ ns, 0 ≤ b ∧ b < 256) → sB (ns.foldl (fun r n => r.push (UInt8.ofNat n.toNat)) s) = sB s ++ ns
  | [], s, _ => by simp
  | n :: ns, s, h => by
    have hn := h n (by simp)
    rw [List.foldl_cons, sB_foldl ns _ fun b hb => h b (by simp [hb]), sB_push]
    have : ((UInt8.ofNat n.toNat).toNat : Int) = n := by
      rw [UInt8.toNat_ofNat']; omega
    rw [this]; simp
theorem sB_toStr (ns : List Int) (h : ∀ b ∈ ns, 0 ≤ b ∧ b < 256) : sB (toStr ns) = ns := by
  unfold toStr
  rw [sB_foldl ns _ h]; simp [sB]

theorem runs_bytes_str {w : World} {B : Nat} {a : Option Addr} {c : Nat} {xs : List Int} (hr : RowV B w a (byV xs)) (hb : ∀ b ∈ xs, 0 ≤ b ∧ b < 256) :
    RunsX Try.prog (convert 41 9 (.slice a xs.length c)) w fun v w' => v = .string (toStr xs) ∧ w' = w := by
  refine ⟨⟨_, w, ?_, rfl, rfl⟩⟩
  rw [run_convert_bytes_string (P := Try.prog) w 41 9 5 a xs.length c Try.underlying41 Try.underlying5 Try.underlying9]
  cases a with
  | none =>
    have hx : xs = [] := by
      cases xs with
      | nil => rfl
      | cons x xs => obtain ⟨_, h, _⟩ := hr 0 (.int .u8 x) (by simp [byV]); cases h
    subst hx
    simp [Conv.bytesToString, toStr]
  | some x =>
    have hc : ∀ j v, (byV xs)[j]? = some v → w.cell? (x.add j) = some v := fun j v hv => by
      obtain ⟨y, h1, _, h3⟩ := hr j v hv; cases h1; exact h3
    have h := run_loadCells_list (P := Try.prog) w x (byV xs) hc
    rw [show (byV xs).length = xs.length by simp [byV]] at h
    exact run_bytesToString (P := Try.prog) w x xs.length c xs h

def rdText (bs : List Int) (e most : Int) : List Int × List Int × Int :=
  if (rdInt bs e 0 most).2.2 ≠ 0 then ([], (rdInt bs e 0 most).2.1, (rdInt bs e 0 most).2.2) else
  if ((rdInt bs e 0 most).2.1.length : Int) < (rdInt bs e 0 most).1 then ([], [], 4) else
  ((rdInt bs e 0 most).2.1.take (rdInt bs e 0 most).1.toNat, (rdInt bs e 0 most).2.1.drop (rdInt bs e 0 most).1.toNat, 0)
theorem rdInt_nonneg (bs : List Int) (e most : Int) : 0 ≤ (rdInt bs e 0 most).1 := by
  unfold rdInt
  split
  · simp
  · split
    · simp
    · split
      · simp
      · simp only; omega

theorem RowV.drop' {B : Nat} {w : World} {a : Option Addr} {c : Nat} {xs : List Int} (hr : RowV B w a (byV xs)) (n : Nat) (hc : xs.length ≤ c) (hn : n ≤ xs.length) : RowV B w (if c = n then a else a.map (·.add (n * 1))) (byV (xs.drop n)) := by
  intro j v hv
  have hj : j < xs.length - n := by
    have := (List.getElem?_eq_some_iff.1 hv).1
    simpa [byV] using this
  rw [if_neg (by omega)]
  obtain ⟨y, hy1, hy2, hy3⟩ := hr (n + j) v (by simpa [byV, List.getElem?_drop] using hv)
  subst hy1
  refine ⟨_, rfl, addLt y _ _ hy2, ?_⟩
  rw [Addr.add_add, show n * 1 + j = n + j by omega]; exact hy3

set_option maxRecDepth 100000 in
theorem rText_rd {g c0 : Nat} {a0 : Option Addr} {bs0 : List Int} {e most : Int} (w : World) (h : RdAt rb w g a0 c0 bs0 e) :
    CallsX Try.prog 38 #[wrP g, .int .i64 most] w fun v w' => ∃ a' c' s, v = .string s ∧ sB s = (rdText bs0 e most).1 ∧ RdAt rb w' g a' c' (rdText bs0 e most).2.1 (rdText bs0 e most).2.2 ∧ Mut w w' g none none := by
  refine start [] Try.func38 rfl (by decide +kernel) rfl [.ptr ⟨g, 0, none⟩, .int .i64 most] rfl ⟨trivial, trivial, trivial⟩ ?_
  intro w1 hs1
  refine (rInt_rd w1 (h.sync hs1)).mono ?_
  rintro _ w2 ⟨a2, c2, rfl, hr2, hm2⟩
  refine ⟨fun b hb => by simp [keptB, blks] at hb, ?_⟩
  intro w3 hs3
  refine (good_any w3 (hr2.sync hs3)).mono ?_
  rintro _ w4 ⟨rfl, hb4⟩
  refine ⟨fun b hb => by simp [keptB, blks] at hb, ?_⟩
  have hr4 := (hr2.sync hs3).below hb4 (Nat.le_refl _)
  have hm4 := (((Mut.sync (g := g) (q := none) hs1).trans hm2).trans (Mut.sync hs3)).trans (Mut.below hb4 (Nat.le_refl _))
  have hn0 := rdInt_nonneg bs0 e most
  unfold rdText
  apply And.intro <;> intro hh
  · have he : (rdInt bs0 e 0 most).2.2 ≠ 0 := by simpa using hh
    rw [if_pos he]
    intro w5 hs5
    exact ⟨_, _, ByteArray.empty, rfl, by simp [sB], hr4.sync hs5, hm4.trans (Mut.sync hs5)⟩
  · have he : (rdInt bs0 e 0 most).2.2 = 0 := by simpa using hh
    rw [if_neg (by rw [he]; simp)]
    refine ⟨_, hr4.cell1, trivial, ?_⟩
    generalize hN : (rdInt bs0 e 0 most).1 = n at *
    generalize hR : (rdInt bs0 e 0 most).2.1 = r at *
    rw [he] at hr4
    apply And.intro <;> intro h5
    · have h5' : (r.length : Int) < n := of_decide_eq_true h5
      rw [if_pos h5']
      intro w5 hs5
      refine (fail_rd w5 (hr4.sync hs5) 4).mono ?_
      rintro _ w6 ⟨rfl, hr6, hm6⟩
      refine ⟨fun b hb => by simp [keptB, blks] at hb, ?_⟩
      intro w7 hs7
      exact ⟨_, _, ByteArray.empty, rfl, by simp [sB], hr6.sync hs7, ((hm4.trans (Mut.sync hs5)).trans hm6).trans (Mut.sync hs7)⟩
    · have h5' : ¬ (r.length : Int) < n := of_decide_eq_false h5
      rw [if_neg h5']
      have hcap := hr4.cap
      refine ⟨_, hr4.cell1, trivial, ?_⟩
      refine ⟨hn0, by omega, ?_⟩
      intro w5 hs5
      have hr5 := hr4.sync hs5
      have htl : (r.take n.toNat).length = n.toNat := by rw [List.length_take]; omega
      have hrow5 : RowV w5.heap.size w5 a2 (byV (r.take n.toNat)) := by
        have := hr5.row.take n.toNat
        simpa [byV, List.map_take] using this
      have hrun := runs_bytes_str (c := c2) hrow5 fun b hb => hr5.bytes b (List.mem_of_mem_take hb)
      rw [htl] at hrun
      refine hrun.mono ?_
      rintro _ _ ⟨rfl, rfl⟩
      refine ⟨fun b hb => by simp [blks] at hb, ?_⟩
      refine ⟨_, hr5.cell1, trivial, ?_⟩
      refine ⟨hn0, by omega, ?_⟩
      refine ⟨fun j hj => ?_, trivial, ?_⟩
      · have hj0 : j = 0 := by simpa using hj
        subst hj0
        exact ⟨by show (World.cell? _ ⟨g, 1, none⟩).isSome = true; rw [hr5.cell1]; rfl, hr5.frozen 1⟩
      have hr6 := hr5.set1 (a' := if c2 = n.toNat then a2 else a2.map (·.add (n.toNat * 1))) (c' := c2 - n.toNat) (bs' := r.drop n.toNat) (RowV.drop' hr5.row n.toNat hcap (by omega)) (by
        intro y hy
        split at hy
        · exact hr5.own y hy
        · obtain ⟨x, hx, rfl⟩ := Option.map_eq_some_iff.1 hy
          have e : (x.add (n.toNat * 1)).block = x.block := by unfold Addr.add; split <;> rfl
          rw [e]; exact hr5.own x hx) (by simp; omega) (fun y hy => hr5.bytes y (List.mem_of_mem_drop hy))
      rw [List.length_drop] at hr6
      intro w6 hs6
      refine ⟨_, _, toStr (r.take n.toNat), rfl, sB_toStr _ fun b hb => hr5.bytes b (List.mem_of_mem_take hb), hr6.sync hs6, ?_⟩
      exact ((hm4.trans (Mut.sync hs5)).trans (Mut.set _ g 1 _ none)).trans (Mut.sync hs6)
end Go.Proofs.Ytnldhkhnfodplaa

namespace Go.Proofs.Ytnldhkhnfodplaa
open Go Go.Vc Go.RowKit Go.Lib

theorem i64Info : ∃ i : TypeInfo, Try.prog.info? 2 = some i ∧ i.zero = some (.int .i64 0) ∧ i.size = 1 ∧ i.bytes = 8 := by
  have h : (Try.prog.info? 2).map (fun i => (i.zero, i.size, i.bytes)) = some (some (.int .i64 0), 1, 8) := by kernel_rfl
  obtain ⟨i, hi, h⟩ := Option.map_eq_some_iff.1 h
  simp only [Prod.mk.injEq] at h
  exact ⟨i, hi, h.1, h.2.1, h.2.2⟩
theorem build_ab {w : World} : RunsX Try.prog (Instr.buildSlice 42 2 #[(0, .int .i64 64), (1, .int .i64 (-1))]) w fun v w' => v = .slice (some ⟨w.heap.size, 0, none⟩) 2 2 ∧ w' = w.alloc (.cells #[.int .i64 64, .int .i64 (-1)] 2) := by
  obtain ⟨i, hi, hz, hs, _⟩ := i64Info
  refine ⟨⟨_, _, run_buildSlice w 42 2 2 _ #[.int .i64 64, .int .i64 (-1)] i _ Try.underlying42 hi hz (by rw [hs]; decide) (by rw [hs]; decide) ?_, rfl, rfl⟩⟩
  rw [hs]; kernel_rfl
theorem build_six {w : World} : RunsX Try.prog (Instr.buildSlice 41 6 #[(0, .int .u8 128), (1, .int .u8 1), (2, .int .u8 1), (3, .int .u8 4), (4, .int .u8 97), (5, .int .u8 98)]) w fun v w' => v = .slice (some ⟨w.heap.size, 0, none⟩) 6 6 ∧ w' = w.alloc (.cells #[.int .u8 128, .int .u8 1, .int .u8 1, .int .u8 4, .int .u8 97, .int .u8 98] 5) := by
  obtain ⟨i, hi, hz, hs, _⟩ := byteInfo
  refine ⟨⟨_, _, run_buildSlice w 41 5 6 _ #[.int .u8 128, .int .u8 1, .int .u8 1, .int .u8 4, .int .u8 97, .int .u8 98] i _ Try.underlying41 hi hz (by rw [hs]; decide) (by rw [hs]; decide) ?_, rfl, rfl⟩⟩
  rw [hs]; kernel_rfl

def abS : ByteArray := { data := #[97, 98] }
theorem lives_bytes : ([] ++ encs [64, -1]) ++ encT abS = [128, 1, 1, 4, 97, 98] := by
  have h1 : fold 64 = 128 := by decide
  have h2 : fold (-1) = 1 := by decide
  have h3 : fold (abS.size : Int) = 4 := by decide
  have h4 : sB abS = [97, 98] := by decide
  have e1 : encU 128 = [128, 1] := by rw [encU_ge (by decide), encU_lt (by decide)]; rfl
  have e2 : encU 1 = [1] := by rw [encU_lt (by decide)]; rfl
  have e4 : encU 4 = [4] := by rw [encU_lt (by decide)]; rfl
  simp [encs, encT, h1, h2, h3, h4, e1, e2, e4]
theorem below_on' {B : Nat} {V w w' : World} {g : Nat} {q : Option Nat} (h : Below B V w) (hm : Mut w w' g none q) (hg : B ≤ g) (hB : B ≤ V.heap.size) : Below B V w' :=
  ⟨hm.os.trans h.os, hm.tape.trans h.tape, hm.output.trans h.output, Nat.le_trans h.size hm.size, fun k hk => by
    rcases Nat.lt_or_ge k w.heap.size with hlt | hge
    · rw [hm.block k hlt (by omega) (by simp), h.block k hk]
    · have := h.size; omega⟩
theorem r1 : rdInt [128, 1, 1, 4, 97, 98] 0 0 64 = (64, [1, 4, 97, 98], 0) := by decide +kernel
theorem r2 : rdInt [1, 4, 97, 98] 0 (-1) 0 = (-1, [4, 97, 98], 0) := by decide +kernel
theorem r3 : rdText [4, 97, 98] 0 2 = ([97, 98], [], 0) := by decide +kernel
theorem sB_inj {s t : ByteArray} (h : sB s = sB t) : s = t := by
  have h1 : s.data.toList = t.data.toList := by
    unfold sB at h
    refine (List.map_inj_right (fun a b hab => ?_)).1 h
    have : a.toNat = b.toNat := by omega
    exact UInt8.toNat_inj.1 this
  cases s; cases t
  simp only [ByteArray.mk.injEq]
  exact Array.ext' h1
/-- a new literal's row -/
theorem lit_row {bx : List Box} {w1 w3 : World} {xs : List Value} {e : TypeId} (hs : Sync bx (w1.alloc (.cells xs.toArray e)) w3) (hn : notBox bx w1.heap.size) : RowV w3.heap.size w3 (some ⟨w1.heap.size, 0, none⟩) xs := by
  intro j v hv
  have h0 : w3.heap[w1.heap.size]? = some (.cells xs.toArray e) := by
    rw [hs.same _ (by simp) (notBox_iff.1 hn)]
    exact heap_alloc_new w1 _
  refine ⟨_, rfl, (Array.getElem?_eq_some_iff.1 h0).1, ?_⟩
  have hadd : (⟨w1.heap.size, 0, none⟩ : Addr).add j = ⟨w1.heap.size, j, none⟩ := by unfold Addr.add; split <;> simp_all
  rw [hadd, cell_of_row w3 w1.heap.size j _ e (0, 0) h0]
  simpa using hv

set_option maxRecDepth 100000 in
theorem plives_any (w : World) : CallsX Try.prog 34 #[] w fun v w' => v = .bool true ∧ Below w.heap.size w w' := by
  refine start [] Try.func34 rfl (by decide +kernel) rfl [] rfl trivial ?_
  intro w1 hs1
  have k1 := hs1.on (Below.refl w.heap.size w) (Nat.le_refl _) trivial
  refine (new_any w1).mono ?_
  rintro _ w2 ⟨g, rfl, hw2, hb2⟩
  refine ⟨fun b hb => by simp [keptB, blks] at hb, ?_⟩
  have k2 := below_on k1 (Nat.le_refl _) hb2
  intro w3 hs3
  refine build_ab.mono ?_
  rintro _ _ ⟨rfl, rfl⟩
  refine ⟨fun b hb => by simp [blks] at hb, ?_⟩
  intro w4 hs4
  have hw4 := ((hw2.sync hs3).alloc (.cells #[.int .i64 64, .int .i64 (-1)] 2)).sync hs4
  have k3 := hs3.on k2 (Nat.le_refl _) trivial
  have k4 := hs4.on (k3.alloc k3.size (.cells #[.int .i64 64, .int .i64 (-1)] 2)) (Nat.le_refl _) trivial
  have hrow : RowV w4.heap.size w4 (some ⟨w3.heap.size, 0, none⟩) (i64V [64, -1]) := lit_row (xs := i64V [64, -1]) hs4 trivial
  refine (wInt_any w1.heap.size g none 0 [] w4 hw4 (by decide) (Nat.le_trans (by have := hs3.size; have := hb2.size; have := hs4.size; simp at this; omega) (Nat.le_refl _)) (some ⟨w3.heap.size, 0, none⟩) 2 [64, -1] hrow ?_ (by unfold Is64; decide) (by decide)).mono ?_
  · rintro _ x ⟨rfl⟩
    refine ⟨?_, ?_, by simp [Value.ownBlock]⟩
    · have := hs4.size; simp at this; exact this
    · have := (hw2.sync hs3).lt
      show w3.heap.size ≠ g
      omega
  rintro _ w5 ⟨a5, c5, rfl, hw5, hm5⟩
  refine ⟨fun b hb => by simp [keptB, blks] at hb, ?_⟩
  intro w6 hs6
  have hbw : ∀ w', Below w.heap.size w w' → w1.heap.size ≤ w6.heap.size := fun _ _ => by
    have e1 := hb2.size; have e2 := hs3.size; have e3 := hs4.size; have e4 := hm5.size; have e5 := hs6.size
    simp at e3; omega
  have hbw6 := hbw _ k4
  have hl5 : ([] ++ encs [64, -1]).length ≤ 900000 := by
    have := encs_len [64, -1] (by unfold Is64; decide)
    simp at this ⊢; omega
  refine (wText_any w1.heap.size g a5 c5 ([] ++ encs [64, -1]) w6 (hw5.sync hs6) hl5 hbw6 abS (by decide)).mono ?_
  rintro _ w7 ⟨a7, c7, rfl, hw7, hm7⟩
  refine ⟨fun b hb => by simp [keptB, blks] at hb, ?_⟩
  rw [lives_bytes] at hw7 hm7
  have hm47 := (hm5.trans (Mut.sync hs6)).trans hm7
  have k7 : Below w.heap.size w w7 := below_on' k4 hm47 (Nat.le_trans k1.size hw4.low) (Nat.le_refl _)
  intro w8 hs8
  have k8 := hs8.on k7 (Nat.le_refl _) trivial
  refine (done_any w8 (hw7.sync hs8) (by decide)).mono ?_
  rintro _ w9 ⟨a9, c9, rfl, ho9, hb9⟩
  refine ⟨fun b hb => by simp [keptB, blks] at hb, ?_⟩
  have k9 := below_on k8 (Nat.le_refl _) hb9
  intro w10 hs10
  have k10 := hs10.on k9 (Nat.le_refl _) trivial
  have hr10 := owns_row (owns_sync ho9 hs10 (by simp [notBox]))
  refine (open_any' a9 c9 [128, 1, 1, 4, 97, 98] w10 hr10 (by decide) (by decide)).mono ?_
  rintro _ w11 ⟨rb, q, a11, c11, rfl, hq, _, hrd, hb11⟩
  refine ⟨fun b hb => by simp [keptB, blks] at hb, ?_⟩
  have k11 := below_on k10 (Nat.le_refl _) hb11
  intro w12 hs12
  have k12 := hs12.on k11 (Nat.le_refl _) trivial
  refine build_six.mono ?_
  rintro _ _ ⟨rfl, rfl⟩
  refine ⟨fun b hb => by simp [blks] at hb, ?_⟩
  intro w13 hs13
  have k13 := hs13.on (k12.alloc k12.size (.cells #[.int .u8 128, .int .u8 1, .int .u8 1, .int .u8 4, .int .u8 97, .int .u8 98] 5)) (Nat.le_refl _) trivial
  have hrow13 : RowV w13.heap.size w13 (some ⟨w12.heap.size, 0, none⟩) (byV [128, 1, 1, 4, 97, 98]) := lit_row (xs := byV [128, 1, 1, 4, 97, 98]) hs13 trivial
  have j11 := hs12.on hb11 (Nat.le_refl _) trivial
  have j13 := hs13.on (j11.alloc j11.size (.cells #[.int .u8 128, .int .u8 1, .int .u8 1, .int .u8 4, .int .u8 97, .int .u8 98] 5)) (Nat.le_refl _) trivial
  refine (same_any a9 (some ⟨w12.heap.size, 0, none⟩) c9 6 [128, 1, 1, 4, 97, 98] [128, 1, 1, 4, 97, 98] w13 ((hr10.below j13).mono j13.size) hrow13 (by decide)).mono ?_
  rintro _ w14 ⟨rfl, hb14⟩
  refine ⟨fun b hb => by simp [keptB, blks] at hb, ?_⟩
  have k14 := below_on k13 (Nat.le_refl _) hb14
  have hrd12 := (hrd.sync hs12).keep (w' := w12.alloc (.cells #[.int .u8 128, .int .u8 1, .int .u8 1, .int .u8 4, .int .u8 97, .int .u8 98] 5)) (by simp) fun k hk => heap_alloc_old w12 _ hk
  have hrd14 := (hrd12.sync hs13).below hb14 (Nat.le_refl _)
  have hwq : w.heap.size ≤ q := Nat.le_trans k10.size hq
  apply And.intro <;> intro t1
  rotate_left
  · exact absurd t1 (by simp)
  intro w15 hs15
  have c15 := rInt_rd (lo := 0) (hi := 64) w15 (hrd14.sync hs15)
  rw [r1] at c15
  refine c15.mono ?_
  rintro _ w16 ⟨a16, c16, rfl, hrd16, hm16⟩
  refine ⟨fun b hb => by simp [keptB, blks] at hb, ?_⟩
  have k16 := below_on' (hs15.on k14 (Nat.le_refl _) trivial) hm16 hwq (Nat.le_refl _)
  apply And.intro <;> intro t2
  rotate_left
  · exact absurd t2 (by simp)
  intro w17 hs17
  have c17 := rInt_rd (lo := -1) (hi := 0) w17 (hrd16.sync hs17)
  rw [r2] at c17
  refine c17.mono ?_
  rintro _ w18 ⟨a18, c18, rfl, hrd18, hm18⟩
  refine ⟨fun b hb => by simp [keptB, blks] at hb, ?_⟩
  have k18 := below_on' (hs17.on k16 (Nat.le_refl _) trivial) hm18 hwq (Nat.le_refl _)
  apply And.intro <;> intro t3
  rotate_left
  · exact absurd t3 (by simp)
  intro w19 hs19
  have c19 := rText_rd (most := 2) w19 (hrd18.sync hs19)
  rw [r3] at c19
  refine c19.mono ?_
  rintro _ w20 ⟨a20, c20, s, rfl, hsb, hrd20, hm20⟩
  refine ⟨fun b hb => by simp [keptB, blks] at hb, ?_⟩
  have k20 := below_on' (hs19.on k18 (Nat.le_refl _) trivial) hm20 hwq (Nat.le_refl _)
  have hsa : s = abS := sB_inj (hsb.trans (by decide))
  subst hsa
  apply And.intro <;> intro t4
  rotate_left
  · exact absurd t4 (by rw [show abS = { data := #[97, 98] } from rfl]; simp [notIf])
  intro w21 hs21
  refine (end_any w21 (hrd20.sync hs21)).mono ?_
  rintro _ w22 ⟨rfl, hb22⟩
  refine ⟨fun b hb => by simp [keptB, blks] at hb, ?_⟩
  have k22 := below_on (hs21.on k20 (Nat.le_refl _) trivial) (Nat.le_refl _) hb22
  intro w' hs
  exact ⟨rfl, hs.on k22 (Nat.le_refl _) trivial⟩
end Go.Proofs.Ytnldhkhnfodplaa

namespace Go.Proofs.Ytnldhkhnfodplaa
open Go Go.Vc Go.RowKit

theorem ct_start {f : FuncId} {fn : Func} {c : Code} {ars : List R} {q : R} (O : Ords)
    (hf : Try.prog.funcs[f]? = some fn) (hb : fn.body = some c) (hn : (fn.name == "runtime.NumGoroutine") = false) (hl : loopsOk [] c = true)
    (h : getL ars fun vs G => ∀ U w, Ctx w U [] [] [] G w → initK (injL1 vs) fn.ntmps fun ts => vc Try.prog tab [] (drawX Try.prog tab O) c (retQ tab fn.results.toList (Post0 w U [] (isR q))) ts [] w) : Ct Try.prog f ars q :=
  fn_start tab_ok (drawX_ok tab_ok mixed O) hf hb hn hl h

/-- a writer of one's own -/
def Own.wr (g : Nat) (a : Option Addr) (c : Nat) (bs : List Int) : Own where
  bl := g :: oblk a
  h _ w := WrAt 0 w g a c bs
  mono := by
    intro U U' w w' h l hk
    refine ⟨h.low, (hk g (by simp)).trans h.obj, owns_same h.row fun x hx => hk _ (by subst hx; simp [oblk]), h.apart⟩
  lt := by
    intro U w h b hb
    rcases List.mem_cons.1 hb with rfl | hb
    · exact h.lt
    · cases a with
      | none => simp [oblk] at hb
      | some x => simp only [oblk, List.mem_singleton] at hb; subst hb; exact (h.row.lt x.block rfl).2
theorem wr_nodup {U : Nat → Prop} {w : World} {g c : Nat} {a : Option Addr} {bs : List Int} (h : (Own.wr g a c bs).h U w) : (Own.wr g a c bs).bl.Nodup := by
  have h : WrAt 0 w g a c bs := h
  cases a with
  | none => simp [Own.wr, oblk]
  | some x => have := h.apart; simp only [Value.ownBlock, ne_eq, Option.some.injEq] at this; simp [Own.wr, oblk]; exact fun e => this e.symm

theorem wr_post {U : Nat → Prop} {w w' : World} {g c0 c' : Nat} {a0 a' : Option Addr} {bs0 bs' : List Int} {G : List (Value × R)} (H : Ctx w U (ownBl [Own.wr g a0 c0 bs0]) [] [Own.wr g a0 c0 bs0] G w) (hw : WrAt 0 w' g a' c' bs') (hm : Mut w w' g (ownB a0 bs0.length c0) (ownB a' bs'.length c')) :
    Ctx w U (ownBl [Own.wr g a0 c0 bs0]) [] [Own.wr g a' c' bs'] [] w' := by
  have ob : ∀ (a : Option Addr) (n c : Nat) (b : Nat), b ∈ oblk a ↔ ownB a n c = some b := by intro a n c b; cases a <;> simp [oblk, ownB, Value.ownBlock, eq_comm]
  refine ⟨hm.os, hm.tape, hm.output, hm.size, fun b hb hn => hm.block b hb (fun e => hn ?_) (fun e => hn ?_), by simp, fun b hb => ?_, H.u0, ?_, fun o ho => ?_, by intro p hp; cases hp⟩
  · subst e; simp [ownBl, Own.wr]
  · simp only [ownBl, Own.wr, List.append_nil, List.mem_cons]; exact .inr ((ob _ _ _ _).2 e.symm)
  · simp only [ownBl, Own.wr, List.append_nil, List.mem_cons] at hb ⊢
    rcases hb with rfl | hb
    · exact .inr (.inl rfl)
    · have h1 := (ob _ bs'.length c' _).1 hb
      rcases hm.own with e | e
      · rw [e] at h1; exact .inr (.inr ((ob _ _ _ _).2 h1))
      · exact .inl (e b h1)
  · simpa [ownBl] using wr_nodup (U := U) (show (Own.wr g a' c' bs').h U w' from hw)
  · simp only [List.mem_singleton] at ho; subst ho; exact hw

abbrev QWr (g : Nat) (x : Value) (bs : List Int) : Value → List Own → List (Value × R) → Prop := fun v os G => ∃ a c, v = x ∧ os = [Own.wr g a c bs] ∧ G = []

theorem new_ct : CtG Try.prog 25 [] [] [] (fun v os G => ∃ g, v = wrP g ∧ os = [Own.wr g none 0 []] ∧ G = []) := by
  intro U w H
  refine (new_any w).mono ?_
  rintro v w' ⟨g, rfl, hw, hb⟩
  have hlow := hw.low
  have hw0 : WrAt 0 w' g none 0 [] := ⟨Nat.zero_le _, hw.obj, World.ownsRow_nil _ _ _ _, hw.apart⟩
  refine ⟨_, _, ⟨g, rfl, rfl, rfl⟩, hb.os, hb.tape, hb.output, hb.size, fun b h _ => hb.block b h, by simp, fun b hb => ?_, H.u0, by simp [ownBl, Own.wr, oblk], fun o ho => ?_, by intro p hp; cases hp⟩
  · simp [ownBl, Own.wr, oblk] at hb; subst hb; exact .inl hlow
  · simp only [List.mem_singleton] at ho; subst ho; exact hw0

theorem wInt_ct (g : Nat) (a0 : Option Addr) (c0 : Nat) (bs0 : List Int) (hl : bs0.length ≤ 900000) (a : Option Addr) (n c : Nat) (zs : List Int) (hz : ∀ z ∈ zs, ok64 z) (hzl : zs.length ≤ 1000) :
    CtG Try.prog 26 [wrP g, .slice a n c] [Own.wr g a0 c0 bs0] [(.slice a n c, rIs zs)] (QWr g (wrP g) (bs0 ++ encs zs)) := by
  intro U w H
  have hw : WrAt 0 w g a0 c0 bs0 := H.own _ (List.Mem.head _)
  have hf := H.facts _ (List.Mem.head _)
  have hrow := rowV_of (f := fun n => Value.int .i64 n) hf
  have hn : n = zs.length := by have := (H.len (List.Mem.head _)).1; simpa using this
  subst hn
  refine (wInt_any 0 g a0 c0 bs0 w hw hl (Nat.zero_le _) a c zs hrow ?_ (fun z h => (hz z h).is) hzl).mono ?_
  · intro h0
    obtain ⟨x, rfl, hx, hxl⟩ := rowV_out hf (by decide) h0
    rintro y ⟨rfl⟩
    refine ⟨hxl, fun e => hx (.inr (.inr (by simp [ownBl, Own.wr, e]))), fun e => hx (.inr (.inr ?_))⟩
    cases a0 with
    | none => simp [ownB, Value.ownBlock] at e
    | some y => simp only [ownB, Value.ownBlock, Option.some.injEq] at e; simp [ownBl, Own.wr, oblk, e]
  · rintro v w' ⟨a', c', rfl, hw', hm⟩
    exact ⟨_, _, ⟨a', c', rfl, rfl, rfl⟩, wr_post H hw' hm⟩
theorem wText_ct (g : Nat) (a0 : Option Addr) (c0 : Nat) (bs0 : List Int) (hl : bs0.length ≤ 900000) (s : ByteArray) (hs : s.size ≤ 1000000) :
    CtG Try.prog 29 [wrP g, .string s] [Own.wr g a0 c0 bs0] [] (QWr g (wrP g) (bs0 ++ encT s)) := by
  intro U w H
  have hw : WrAt 0 w g a0 c0 bs0 := H.own _ (List.Mem.head _)
  refine (wText_any 0 g a0 c0 bs0 w hw hl (Nat.zero_le _) s hs).mono ?_
  rintro v w' ⟨a', c', rfl, hw', hm⟩
  exact ⟨_, _, ⟨a', c', rfl, rfl, rfl⟩, wr_post H hw' hm⟩
/-- the writer is read, and stays -/
theorem wDone_ct (g : Nat) (a0 : Option Addr) (c0 : Nat) (bs0 : List Int) (hl : bs0.length ≤ 10000000) :
    CtG Try.prog 33 [wrP g] [Own.wr g a0 c0 bs0] [] (fun v os G => ∃ a c, v = .slice a bs0.length c ∧ os = [Own.wr g a0 c0 bs0] ∧ G = [(.slice a bs0.length c, rBs bs0)]) := by
  intro U w H
  have hw : WrAt 0 w g a0 c0 bs0 := H.own _ (List.Mem.head _)
  refine (done_any w hw hl).mono ?_
  rintro v w' ⟨a', c', rfl, ho, hb⟩
  have hw' := hw.below hb (Nat.le_refl _)
  refine ⟨_, _, ⟨a', c', rfl, rfl, rfl⟩, hb.os, hb.tape, hb.output, hb.size, fun b h _ => hb.block b h, by simp, H.lowo, H.u0, by simpa using H.nd, fun o hoo => ?_, ?_⟩
  · simp only [List.mem_singleton] at hoo; subst hoo; exact hw'
  · intro p hp
    rcases List.mem_cons.1 hp with rfl | hp
    · refine sl_of_owns (f := fun n => Value.int .u8 n) ho (fun b hb => ?_) fun _ => rfl
      rcases hb with hb | hb | hb
      · exact H.u0 b hb
      · simp at hb
      · exact H.ltOwn hb
    · cases hp

/-! ### The reference's writers; bytes compared; parts -/
theorem rInts_ct (l : List Int) (hl : ∀ z ∈ l, ok64 z) (hn : l.length ≤ 1000000) : Ct Try.prog 28 [rIs l] (rBs (encs l)) := by
  intro a n c h0 h1 h2
  refine ctG_row (e := 5) (fun _ => rfl) fun U w hU hG => ?_
  have hf := hG _ (List.Mem.head _)
  simp only [List.length_map] at h0; subst h0
  exact rInts_any a c l w (rowV_of (f := fun n => Value.int .i64 n) hf) (fun z h => (hl z h).is) hn
theorem rText_ct (s : ByteArray) (hs : s.size ≤ 1000000) : Ct Try.prog 31 [rS s] (rBs (encT s)) :=
  ctG_row (e := 5) (fun _ => rfl) fun U w _ _ => rText_any s w hs
theorem same_ct (xs ys : List Int) (h : xs.length ≤ 1000000000000) : Ct Try.prog 32 [rBs xs, rBs ys] (rB (decide (xs = ys))) := by
  intro a n c h0 h1 h2 b m d h3 h4 h5
  refine ctG_val fun U w hU hG => ?_
  have hx := hG _ (List.Mem.head _)
  have hy := hG _ (List.Mem.tail _ (List.Mem.head _))
  simp only [List.length_map] at h0 h3; subst h0 h3
  exact same_any a b c d xs ys w (rowV_of (f := fun n => Value.int .u8 n) hx) (rowV_of (f := fun n => Value.int .u8 n) hy) h
theorem plives_ct : Ct Try.prog 34 [] (rB true) := ctG_val fun U w _ _ => plives_any w

set_option maxRecDepth 100000 in
theorem numbers_ct (l : List Int) : Ct Try.prog 27 [rIs l] (rIs (l.take 20)) := by
  refine ct_start [] Try.func27 rfl (by decide +kernel) rfl ?_
  intro a n c h0 h1 h2 U w H
  simp only [List.length_map] at h0; subst h0
  apply And.intro <;> intro h
  · have h20 : (20 : Int) < (l.length : Int) := of_decide_eq_true h
    refine ⟨by decide, by omega, ?_⟩
    intro w' hs
    have H := H.pre (List.Mem.head _) 20 (by omega)
    rw [← List.map_take] at H
    exact H.ret hs (List.Mem.head _)
  · have h20 : ¬ (20 : Int) < (l.length : Int) := of_decide_eq_false h
    rw [List.take_of_length_le (by omega)]
    intro w' hs
    exact H.ret hs (List.Mem.head _)
/-- a text of 300 bytes at most -/
def cut300 (s : ByteArray) : ByteArray := if 300 < s.size then s.extract 0 300 else s
theorem cut300_size (s : ByteArray) : (cut300 s).size ≤ 300 := by
  unfold cut300; split
  · simp; omega
  · omega
set_option maxRecDepth 100000 in
theorem short_ct (s : ByteArray) : Ct Try.prog 30 [rS s] (rS (cut300 s)) := by
  refine ct_start [] Try.func30 rfl (by decide +kernel) rfl ?_
  intro U w H
  unfold cut300
  apply And.intro <;> intro h
  · have h20 : (300 : Int) < (s.size : Int) := of_decide_eq_true h
    rw [if_pos (by omega)]
    refine ⟨by decide, by omega, ?_⟩
    intro w' hs
    exact H.ret hs rfl
  · have h20 : ¬ (300 : Int) < (s.size : Int) := of_decide_eq_false h
    rw [if_neg (by omega)]
    intro w' hs
    exact H.ret hs rfl
end Go.Proofs.Ytnldhkhnfodplaa

namespace Go.Proofs.Ytnldhkhnfodplaa
open Go Go.Vc Go.RowKit

theorem ct_startS {f : FuncId} {fn : Func} {c : Code} {ars : List R} {q : R} (O : Ords)
    (hf : Try.prog.funcs[f]? = some fn) (hb : fn.body = some c) (hn : (fn.name == "runtime.NumGoroutine") = false) (hl : loopsOk [] c = true)
    (h : getL ars fun vs G => ∀ U w, Ctx w U [] [] [] G w → initK (injL1 vs) fn.ntmps fun ts => vc Try.prog tab [] (drawS Try.prog tab O) c (retQ tab fn.results.toList (Post0 w U [] (isR q))) ts [] w) : Ct Try.prog f ars q :=
  fn_start tab_ok (drawS_ok tab_ok mixed O) hf hb hn hl h

theorem ct_startT {f : FuncId} {fn : Func} {c : Code} {ars : List R} {q : R} (A : Anns) (O : Trees)
    (hf : Try.prog.funcs[f]? = some fn) (hb : fn.body = some c) (hn : (fn.name == "runtime.NumGoroutine") = false) (hl : loopsOk A c = true)
    (h : getL ars fun vs G => ∀ U w, Ctx w U [] [] [] G w → initK (injL1 vs) fn.ntmps fun ts => vc Try.prog tab A (drawT Try.prog tab O) c (retQ tab fn.results.toList (Post0 w U [] (isR q))) ts [] w) : Ct Try.prog f ars q :=
  fn_startA tab_ok (drawT_ok tab_ok mixed O) hf hb hn hl h
theorem ctG_startT {f : FuncId} {fn : Func} {c : Code} {vs : List Value} {os : List Own} {G : List (Value × R)} {Q : Value → List Own → List (Value × R) → Prop} (A : Anns) (O : Trees)
    (hf : Try.prog.funcs[f]? = some fn) (hb : fn.body = some c) (hn : (fn.name == "runtime.NumGoroutine") = false) (hl : loopsOk A c = true)
    (h : ∀ U w, Ctx w U (ownBl os) [] os G w → initK (injL1 vs) fn.ntmps fun ts => vc Try.prog tab A (drawT Try.prog tab O) c (retQ tab fn.results.toList (Post0 w U (ownBl os) Q)) ts [] w) : CtG Try.prog f vs os G Q :=
  fnG_startA tab_ok (drawT_ok tab_ok mixed O) hf hb hn hl h

/-- a reader of one's own -/
def Own.rd (rb : List Nat) (g : Nat) (a : Option Addr) (c : Nat) (bs : List Int) (e : Int) : Own where
  bl := g :: rb
  h _ w := RdAt rb w g a c bs e
  mono := by
    intro U U' w w' h l hk
    refine ⟨(hk g (by simp)).trans h.obj, fun j v hv => ?_, h.own, h.ne, fun b hb => Nat.lt_of_lt_of_le (h.live b hb) l.size, h.cap, h.bytes⟩
    obtain ⟨x, h1, h2, h3⟩ := h.row j v hv
    refine ⟨x, h1, Nat.lt_of_lt_of_le h2 l.size, ?_⟩
    rw [← h3]
    exact World.cell?_of_block (by rw [add_block]; exact hk _ (List.mem_cons.2 (.inr (h.own x h1))))
  lt := by
    intro U w h b hb
    rcases List.mem_cons.1 hb with rfl | hb
    · exact h.lt
    · exact h.live b hb
theorem rd_post {U : Nat → Prop} {w w' : World} {rb : List Nat} {g c0 c' : Nat} {a0 a' : Option Addr} {bs0 bs' : List Int} {e0 e' : Int} {G : List (Value × R)} (H : Ctx w U (ownBl [Own.rd rb g a0 c0 bs0 e0]) [] [Own.rd rb g a0 c0 bs0 e0] G w) (hw : RdAt rb w' g a' c' bs' e') (hm : Mut w w' g none none) :
    Ctx w U (ownBl [Own.rd rb g a0 c0 bs0 e0]) [] [Own.rd rb g a' c' bs' e'] [] w' := by
  refine ⟨hm.os, hm.tape, hm.output, hm.size, fun b hb hn => hm.block b hb (fun e => hn ?_) (by simp), by simp, fun b hb => .inr hb, H.u0, ?_, fun o ho => ?_, by intro p hp; cases hp⟩
  · subst e; simp [ownBl, Own.rd]
  · simpa [ownBl, Own.rd] using hw.ne
  · simp only [List.mem_singleton] at ho; subst ho; exact hw
abbrev QRd (rb : List Nat) (g : Nat) (x : Value) (bs : List Int) (e : Int) : Value → List Own → List (Value × R) → Prop := fun v os G => ∃ a c, v = x ∧ os = [Own.rd rb g a c bs e] ∧ G = []

theorem open_ct (a : Option Addr) (n c : Nat) (xs : List Int) (hl : xs.length ≤ 10000000) (hx : ∀ b ∈ xs, 0 ≤ b ∧ b < 256) :
    CtG Try.prog 36 [.slice a n c] [] [(.slice a n c, rBs xs)] (fun v os G => ∃ rb g a c, v = wrP g ∧ os = [Own.rd rb g a c xs 0] ∧ G = []) := by
  intro U w H
  have hf := H.facts _ (List.Mem.head _)
  have hrow := rowV_of (f := fun n => Value.int .u8 n) hf
  have hn : n = xs.length := by have := (H.len (List.Mem.head _)).1; simpa using this
  subst hn
  refine (open_any' a c xs w hrow hl hx).mono ?_
  rintro v w' ⟨rb, g, a', c', rfl, hg, hrb, hr, hb⟩
  refine ⟨_, _, ⟨rb, g, a', c', rfl, rfl, rfl⟩, hb.os, hb.tape, hb.output, hb.size, fun b h _ => hb.block b h, by simp, fun b hb => ?_, H.u0, by simpa [ownBl, Own.rd] using hr.ne, fun o ho => ?_, by intro p hp; cases hp⟩
  · simp only [ownBl, Own.rd, List.append_nil, List.mem_cons] at hb
    rcases hb with rfl | hb
    · exact .inl hg
    · exact .inl (hrb b hb)
  · simp only [List.mem_singleton] at ho; subst ho; exact hr
theorem rdInt_ct (rb : List Nat) (g : Nat) (a : Option Addr) (c : Nat) (bs : List Int) (e lo hi : Int) :
    CtG Try.prog 37 [wrP g, .int .i64 lo, .int .i64 hi] [Own.rd rb g a c bs e] [] (QRd rb g (.int .i64 (rdInt bs e lo hi).1) (rdInt bs e lo hi).2.1 (rdInt bs e lo hi).2.2) := by
  intro U w H
  refine (rInt_rd w (H.own _ (List.Mem.head _))).mono ?_
  rintro v w' ⟨a', c', rfl, hr, hm⟩
  exact ⟨_, _, ⟨a', c', rfl, rfl, rfl⟩, rd_post H hr hm⟩
theorem rdText_ct (rb : List Nat) (g : Nat) (a : Option Addr) (c : Nat) (bs : List Int) (e most : Int) :
    CtG Try.prog 38 [wrP g, .int .i64 most] [Own.rd rb g a c bs e] [] (fun v os G => ∃ a' c' s, v = .string s ∧ sB s = (rdText bs e most).1 ∧ os = [Own.rd rb g a' c' (rdText bs e most).2.1 (rdText bs e most).2.2] ∧ G = []) := by
  intro U w H
  refine (rText_rd w (H.own _ (List.Mem.head _))).mono ?_
  rintro v w' ⟨a', c', s, rfl, hs, hr, hm⟩
  exact ⟨_, _, ⟨a', c', s, rfl, hs, rfl, rfl⟩, rd_post H hr hm⟩
theorem rd_read {P : Program} {f : FuncId} {vs : List Value} {rb : List Nat} {g : Nat} {a : Option Addr} {c : Nat} {bs : List Int} {e : Int} {x : Value} (h : ∀ w, RdAt rb w g a c bs e → CallsX P f vs.toArray w fun v w' => v = x ∧ Below w.heap.size w w') :
    CtG P f vs [Own.rd rb g a c bs e] [] (fun v os G => v = x ∧ os = [Own.rd rb g a c bs e] ∧ G = []) := by
  intro U w H
  have hr : RdAt rb w g a c bs e := H.own _ (List.Mem.head _)
  refine (h w hr).mono ?_
  rintro v w' ⟨rfl, hb⟩
  exact ⟨_, _, ⟨rfl, rfl, rfl⟩, rd_post H (hr.below hb (Nat.le_refl _)) (Mut.below hb (Nat.le_refl _))⟩
theorem rdEnd_ct (rb : List Nat) (g : Nat) (a : Option Addr) (c : Nat) (bs : List Int) (e : Int) :
    CtG Try.prog 39 [wrP g] [Own.rd rb g a c bs e] [] (fun v os G => v = .int .i64 (if e ≠ 0 then e else if bs = [] then 0 else 5) ∧ os = [Own.rd rb g a c bs e] ∧ G = []) := rd_read fun w h => end_any w h
theorem rdLeft_ct (rb : List Nat) (g : Nat) (a : Option Addr) (c : Nat) (bs : List Int) (e : Int) :
    CtG Try.prog 40 [wrP g] [Own.rd rb g a c bs e] [] (fun v os G => v = .int .i64 (if e ≠ 0 then 0 else (bs.length : Int)) ∧ os = [Own.rd rb g a c bs e] ∧ G = []) := rd_read fun w h => left_any w h
theorem rdErr_ct (rb : List Nat) (g : Nat) (a : Option Addr) (c : Nat) (bs : List Int) (e : Int) :
    CtG Try.prog 41 [wrP g] [Own.rd rb g a c bs e] [] (fun v os G => v = .int .i64 e ∧ os = [Own.rd rb g a c bs e] ∧ G = []) := rd_read fun w h => rdErr_any w h
end Go.Proofs.Ytnldhkhnfodplaa
