import Derived.Test.YtllkmncnmlmefaaGreatB2
import Derived.Test.YtllkmncnmlmefaaGreatRows
import Derived.Shelf.SlSortCmp.NoneTotal
import Derived.Lib.AppendZeros
namespace Go.Proofs.YtllkmncnmlmefaaGreat
open Go.Vc
abbrev tO:TI:=⟨false,.other,0,0,false,[],none⟩
def tab:List TI:=[
 tO,
 tO,
 ⟨true,.int .i64,1,8,false,[.int .i64 0],some [.int .i64]⟩,
 ⟨true,.int .i64,1,8,false,[.int .i64 0],some [.int .i64]⟩,
 ⟨true,.bool,1,1,false,[.bool false],some [.bool]⟩,
 ⟨true,.int .u8,1,1,false,[.int .u8 0],some [.int .u8]⟩,
 tO,
 tO,
 tO,
 ⟨true,.string,1,16,false,[.string .empty],some [.str]⟩,
 tO,
 tO,
 ⟨true,.int .u64,1,8,false,[.int .u64 0],some [.int .u64]⟩,
 tO,
 tO,
 tO,
 tO,
 tO,
 tO,
 tO,
 tO,
 ⟨true,.int .i32,1,4,false,[.int .i32 0],some [.int .i32]⟩,
 ⟨true,.slice 118,1,24,false,[.slice none 0 0],none⟩,
 ⟨true,.slice 124,1,24,false,[.slice none 0 0],none⟩,
 ⟨true,.slice 120,1,24,false,[.slice none 0 0],none⟩,
 ⟨true,.slice 60,1,24,false,[.slice none 0 0],none⟩,
 ⟨true,.slice 140,1,24,false,[.slice none 0 0],none⟩,
 ⟨true,.slice 126,1,24,false,[.slice none 0 0],none⟩,
 ⟨true,.slice 128,1,24,false,[.slice none 0 0],none⟩,
 ⟨true,.slice 50,1,24,false,[.slice none 0 0],none⟩,
 ⟨true,.slice 143,1,24,false,[.slice none 0 0],none⟩,
 ⟨true,.slice 55,1,24,false,[.slice none 0 0],none⟩,
 ⟨true,.struct [(0,3,1),(1,22,1),(2,23,1),(3,24,1),(4,25,1),(5,26,1),(6,27,1),(7,28,1),(8,29,1),(9,29,1),(10,30,1),(11,31,1)],12,272,true,[.int .i64 0,.slice none 0 0,.slice none 0 0,.slice none 0 0,.slice none 0 0,.slice none 0 0,.slice none 0 0,.slice none 0 0,.slice none 0 0,.slice none 0 0,.slice none 0 0,.slice none 0 0],none⟩,
 ⟨true,.struct [(0,3,1),(1,22,1),(2,23,1),(3,24,1),(4,25,1),(5,26,1),(6,27,1),(7,28,1),(8,29,1),(9,29,1),(10,30,1),(11,31,1)],12,272,true,[.int .i64 0,.slice none 0 0,.slice none 0 0,.slice none 0 0,.slice none 0 0,.slice none 0 0,.slice none 0 0,.slice none 0 0,.slice none 0 0,.slice none 0 0,.slice none 0 0,.slice none 0 0],none⟩,
 tO,
 tO,
 ⟨true,.slice 5,1,24,false,[.slice none 0 0],none⟩,
 tO,
 tO,
 tO,
 tO,
 ⟨true,.int .i64,1,8,false,[.int .i64 0],some [.int .i64]⟩,
 tO,
 tO,
 tO,
 tO,
 ⟨true,.struct [(0,3,1),(1,3,1)],2,16,true,[.int .i64 0,.int .i64 0],some [.int .i64,.int .i64]⟩,
 ⟨true,.struct [(0,3,1),(1,3,1)],2,16,true,[.int .i64 0,.int .i64 0],some [.int .i64,.int .i64]⟩,
 ⟨true,.slice 52,1,24,false,[.slice none 0 0],none⟩,
 ⟨true,.struct [(0,47,2),(2,48,1)],3,40,true,[.int .i64 0,.int .i64 0,.slice none 0 0],none⟩,
 ⟨true,.struct [(0,47,2),(2,48,1)],3,40,true,[.int .i64 0,.int .i64 0,.slice none 0 0],none⟩,
 ⟨true,.struct [(0,3,1),(1,2,1)],2,16,true,[.int .i64 0,.int .i64 0],some [.int .i64,.int .i64]⟩,
 ⟨true,.struct [(0,3,1),(1,2,1)],2,16,true,[.int .i64 0,.int .i64 0],some [.int .i64,.int .i64]⟩,
 ⟨true,.slice 57,1,24,false,[.slice none 0 0],none⟩,
 ⟨true,.struct [(0,47,2),(2,53,1)],3,40,true,[.int .i64 0,.int .i64 0,.slice none 0 0],none⟩,
 ⟨true,.struct [(0,47,2),(2,53,1)],3,40,true,[.int .i64 0,.int .i64 0,.slice none 0 0],none⟩,
 ⟨true,.struct [(0,3,1),(1,3,1),(2,2,1)],3,24,true,[.int .i64 0,.int .i64 0,.int .i64 0],some [.int .i64,.int .i64,.int .i64]⟩,
 ⟨true,.struct [(0,3,1),(1,3,1),(2,2,1)],3,24,true,[.int .i64 0,.int .i64 0,.int .i64 0],some [.int .i64,.int .i64,.int .i64]⟩,
 ⟨true,.slice 3,1,24,false,[.slice none 0 0],none⟩,
 ⟨true,.struct [(0,3,1),(1,3,1),(2,3,1),(3,58,1)],4,48,true,[.int .i64 0,.int .i64 0,.int .i64 0,.slice none 0 0],none⟩,
 ⟨true,.struct [(0,3,1),(1,3,1),(2,3,1),(3,58,1)],4,48,true,[.int .i64 0,.int .i64 0,.int .i64 0,.slice none 0 0],none⟩,
 tO,
 tO,
 tO,
 tO,
 tO,
 tO,
 tO,
 tO,
 tO,
 tO,
 ⟨true,.struct [(0,4,1),(1,36,1)],2,32,true,[.bool false,.slice none 0 0],none⟩,
 ⟨true,.struct [(0,4,1),(1,36,1)],2,32,true,[.bool false,.slice none 0 0],none⟩,
 tO,
 tO,
 tO,
 tO,
 tO,
 tO,
 tO,
 tO,
 tO,
 tO,
 tO,
 tO,
 tO,
 tO,
 tO,
 tO,
 tO,
 tO,
 tO,
 tO,
 tO,
 tO,
 ⟨true,.slice 107,1,24,false,[.slice none 0 0],none⟩,
 tO,
 tO,
 tO,
 tO,
 tO,
 tO,
 tO,
 tO,
 tO,
 tO,
 ⟨true,.struct [(0,47,2),(2,47,2),(4,2,1)],5,40,true,[.int .i64 0,.int .i64 0,.int .i64 0,.int .i64 0,.int .i64 0],some [.int .i64,.int .i64,.int .i64,.int .i64,.int .i64]⟩,
 ⟨true,.struct [(0,47,2),(2,47,2),(4,2,1)],5,40,true,[.int .i64 0,.int .i64 0,.int .i64 0,.int .i64 0,.int .i64 0],some [.int .i64,.int .i64,.int .i64,.int .i64,.int .i64]⟩,
 ⟨true,.slice 47,1,24,false,[.slice none 0 0],none⟩,
 tO,
 tO,
 tO,
 tO,
 tO,
 tO,
 tO,
 tO,
 ⟨true,.struct [(0,3,1),(1,2,1),(2,3,1),(3,3,1)],4,32,true,[.int .i64 0,.int .i64 0,.int .i64 0,.int .i64 0],some [.int .i64,.int .i64,.int .i64,.int .i64]⟩,
 ⟨true,.struct [(0,3,1),(1,2,1),(2,3,1),(3,3,1)],4,32,true,[.int .i64 0,.int .i64 0,.int .i64 0,.int .i64 0],some [.int .i64,.int .i64,.int .i64,.int .i64]⟩,
 ⟨true,.struct [(0,3,1),(1,2,1),(2,2,1)],3,24,true,[.int .i64 0,.int .i64 0,.int .i64 0],some [.int .i64,.int .i64,.int .i64]⟩,
 ⟨true,.struct [(0,3,1),(1,2,1),(2,2,1)],3,24,true,[.int .i64 0,.int .i64 0,.int .i64 0],some [.int .i64,.int .i64,.int .i64]⟩,
 tO,
 ⟨true,.slice 2,1,24,false,[.slice none 0 0],none⟩,
 ⟨true,.struct [(0,3,1),(1,2,1),(2,2,1),(3,2,1),(4,122,1)],5,56,true,[.int .i64 0,.int .i64 0,.int .i64 0,.int .i64 0,.slice none 0 0],none⟩,
 ⟨true,.struct [(0,3,1),(1,2,1),(2,2,1),(3,2,1),(4,122,1)],5,56,true,[.int .i64 0,.int .i64 0,.int .i64 0,.int .i64 0,.slice none 0 0],none⟩,
 ⟨true,.struct [(0,3,1),(1,47,2),(3,3,1),(4,2,1),(5,2,1)],6,48,true,[.int .i64 0,.int .i64 0,.int .i64 0,.int .i64 0,.int .i64 0,.int .i64 0],some [.int .i64,.int .i64,.int .i64,.int .i64,.int .i64,.int .i64]⟩,
 ⟨true,.struct [(0,3,1),(1,47,2),(3,3,1),(4,2,1),(5,2,1)],6,48,true,[.int .i64 0,.int .i64 0,.int .i64 0,.int .i64 0,.int .i64 0,.int .i64 0],some [.int .i64,.int .i64,.int .i64,.int .i64,.int .i64,.int .i64]⟩,
 ⟨true,.struct [(0,3,1),(1,47,2),(3,47,2),(5,52,2),(7,2,1),(8,3,1),(9,3,1),(10,3,1)],11,88,true,[.int .i64 0,.int .i64 0,.int .i64 0,.int .i64 0,.int .i64 0,.int .i64 0,.int .i64 0,.int .i64 0,.int .i64 0,.int .i64 0,.int .i64 0],some [.int .i64,.int .i64,.int .i64,.int .i64,.int .i64,.int .i64,.int .i64,.int .i64,.int .i64,.int .i64,.int .i64]⟩,
 ⟨true,.struct [(0,3,1),(1,47,2),(3,47,2),(5,52,2),(7,2,1),(8,3,1),(9,3,1),(10,3,1)],11,88,true,[.int .i64 0,.int .i64 0,.int .i64 0,.int .i64 0,.int .i64 0,.int .i64 0,.int .i64 0,.int .i64 0,.int .i64 0,.int .i64 0,.int .i64 0],some [.int .i64,.int .i64,.int .i64,.int .i64,.int .i64,.int .i64,.int .i64,.int .i64,.int .i64,.int .i64,.int .i64]⟩,
 ⟨true,.ptr 255,1,8,false,[.pointer none],none⟩,
 tO,
 ⟨true,.struct [(0,129,1)],1,8,true,[.pointer none],none⟩,
 ⟨true,.struct [(0,129,1)],1,8,true,[.pointer none],none⟩,
 tO,
 tO,
 tO,
 tO,
 tO,
 tO,
 ⟨true,.struct [(0,47,2),(2,47,2),(4,4,1)],5,40,true,[.int .i64 0,.int .i64 0,.int .i64 0,.int .i64 0,.bool false],some [.int .i64,.int .i64,.int .i64,.int .i64,.bool]⟩,
 ⟨true,.struct [(0,47,2),(2,47,2),(4,4,1)],5,40,true,[.int .i64 0,.int .i64 0,.int .i64 0,.int .i64 0,.bool false],some [.int .i64,.int .i64,.int .i64,.int .i64,.bool]⟩,
 tO,
 ⟨true,.struct [(0,47,2),(2,2,1)],3,24,true,[.int .i64 0,.int .i64 0,.int .i64 0],some [.int .i64,.int .i64,.int .i64]⟩,
 ⟨true,.struct [(0,47,2),(2,2,1)],3,24,true,[.int .i64 0,.int .i64 0,.int .i64 0],some [.int .i64,.int .i64,.int .i64]⟩,
 tO,
 ⟨true,.ptr 262,1,8,false,[.pointer none],none⟩,
 tO,
 ⟨true,.struct [(0,145,1)],1,8,true,[.pointer none],none⟩,
 ⟨true,.struct [(0,145,1)],1,8,true,[.pointer none],none⟩,
 tO,
 tO,
 ⟨true,.ptr 33,1,8,false,[.pointer none],none⟩,
 tO,
 tO,
 tO,
 tO,
 tO,
 tO,
 tO,
 tO,
 tO,
 tO,
 tO,
 tO,
 tO,
 tO,
 tO,
 tO,
 tO,
 tO,
 tO,
 tO,
 tO,
 tO,
 tO,
 tO,
 tO,
 tO,
 tO,
 tO,
 tO,
 tO,
 tO,
 tO,
 tO,
 tO,
 tO,
 tO,
 tO,
 tO,
 tO,
 tO,
 tO,
 tO,
 tO,
 tO,
 tO,
 tO,
 tO,
 tO,
 tO,
 tO,
 tO,
 tO,
 tO,
 tO,
 tO,
 tO,
 tO,
 tO,
 tO,
 tO,
 tO,
 tO,
 tO,
 tO,
 tO,
 tO,
 tO,
 tO,
 tO,
 tO,
 tO,
 tO,
 tO,
 tO,
 tO,
 tO,
 tO,
 tO,
 tO,
 tO,
 tO,
 tO,
 tO,
 tO,
 tO,
 tO,
 tO,
 tO,
 tO,
 ⟨true,.ptr 243,1,8,false,[.pointer none],none⟩,
 ⟨true,.struct [(0,33,12),(12,95,1),(13,41,1)],14,304,true,[.int .i64 0,.slice none 0 0,.slice none 0 0,.slice none 0 0,.slice none 0 0,.slice none 0 0,.slice none 0 0,.slice none 0 0,.slice none 0 0,.slice none 0 0,.slice none 0 0,.slice none 0 0,.slice none 0 0,.int .i64 0],none⟩,
 ⟨true,.struct [(0,33,12),(12,95,1),(13,41,1)],14,304,true,[.int .i64 0,.slice none 0 0,.slice none 0 0,.slice none 0 0,.slice none 0 0,.slice none 0 0,.slice none 0 0,.slice none 0 0,.slice none 0 0,.slice none 0 0,.slice none 0 0,.slice none 0 0,.slice none 0 0,.int .i64 0],none⟩,
 tO,
 tO,
 tO,
 tO,
 tO,
 tO,
 tO,
 ⟨true,.int .u64,1,8,false,[.int .u64 0],some [.int .u64]⟩,
 tO,
 tO,
 ⟨true,.struct [(0,4,1),(1,36,1)],2,32,true,[.bool false,.slice none 0 0],none⟩,
 ⟨true,.struct [(0,4,1),(1,36,1)],2,32,true,[.bool false,.slice none 0 0],none⟩,
 tO,
 tO,
 tO,
 tO,
 tO,
 ⟨true,.struct [(0,4,1),(1,36,1),(2,41,1)],3,40,true,[.bool false,.slice none 0 0,.int .i64 0],none⟩,
 ⟨true,.struct [(0,4,1),(1,36,1),(2,41,1)],3,40,true,[.bool false,.slice none 0 0,.int .i64 0],none⟩,
 tO,
 tO,
 tO,
 tO,
 tO,
 tO,
 tO,
 tO,
 tO,
 tO,
 tO,
 tO,
 tO,
 tO,
 tO,
 tO,
 tO,
 tO,
 tO,
 tO,
 tO,
 ⟨true,.map 47 4,1,8,false,[.map none],none⟩,
 ⟨true,.struct [(0,33,12),(12,284,1)],13,280,true,[.int .i64 0,.slice none 0 0,.slice none 0 0,.slice none 0 0,.slice none 0 0,.slice none 0 0,.slice none 0 0,.slice none 0 0,.slice none 0 0,.slice none 0 0,.slice none 0 0,.slice none 0 0,.map none],none⟩,
 ⟨true,.struct [(0,33,12),(12,284,1)],13,280,true,[.int .i64 0,.slice none 0 0,.slice none 0 0,.slice none 0 0,.slice none 0 0,.slice none 0 0,.slice none 0 0,.slice none 0 0,.slice none 0 0,.slice none 0 0,.slice none 0 0,.slice none 0 0,.map none],none⟩,
 tO,
 tO,
 tO,
 tO,
 tO,
 tO,
 tO,
 tO,
 tO,
 tO,
 tO,
 tO,
 tO,
 tO,
 tO,
 tO,
 tO,
 tO,
 tO,
 tO,
 tO,
 tO,
 ⟨true,.slice 48,1,24,false,[.slice none 0 0],none⟩,
 tO,
 tO,
 tO,
 tO,
 tO,
 tO,
 ⟨true,.struct [(0,2,1),(1,251,1)],2,16,true,[.int .i64 0,.int .u64 0],some [.int .i64,.int .u64]⟩,
 ⟨true,.struct [(0,2,1),(1,251,1)],2,16,true,[.int .i64 0,.int .u64 0],some [.int .i64,.int .u64]⟩,
 tO,
 tO,
 tO,
 tO,
 tO,
 tO,
 tO,
 tO,
 tO,
 tO,
 tO,
 tO,
 tO,
 tO,
 tO,
 tO,
 tO,
 tO,
 tO,
 tO,
 tO,
 tO,
 tO,
 tO,
 tO,
 tO,
 ⟨true,.slice 317,1,24,false,[.slice none 0 0],none⟩,
 tO,
 tO,
 tO,
 tO,
 tO,
 tO,
 tO,
 ⟨true,.slice 41,1,24,false,[.slice none 0 0],none⟩,
 tO,
 tO,
 tO,
 tO,
 tO,
 tO,
 tO,
 tO,
 tO,
 tO,
 tO,
 tO,
 tO,
 tO,
 tO,
 tO,
 tO,
 tO,
 tO,
 tO,
 tO,
 tO,
 tO,
 ⟨true,.slice 72,1,24,false,[.slice none 0 0],none⟩,
 tO,
 tO,
 tO,
 ⟨true,.struct [(0,251,1),(1,251,1)],2,16,true,[.int .u64 0,.int .u64 0],some [.int .u64,.int .u64]⟩,
 ⟨true,.struct [(0,251,1),(1,251,1)],2,16,true,[.int .u64 0,.int .u64 0],some [.int .u64,.int .u64]⟩,
 tO,
 tO,
 tO,
 tO,
 tO,
 tO,
 tO,
 tO,
 tO,
 tO,
 tO,
 tO,
 tO,
 tO,
 tO,
 tO,
 tO,
 tO,
 tO,
 tO,
 tO,
 ⟨true,.int .u64,1,8,false,[.int .u64 0],some [.int .u64]⟩,
 ⟨true,.struct [(0,2,1),(1,317,2)],3,24,true,[.int .i64 0,.int .i64 0,.int .u64 0],some [.int .i64,.int .i64,.int .u64]⟩,
 ⟨true,.struct [(0,2,1),(1,317,2)],3,24,true,[.int .i64 0,.int .i64 0,.int .u64 0],some [.int .i64,.int .i64,.int .u64]⟩,
 tO,
 tO,
 tO,
 tO,
 tO,
 tO,
 tO,
 tO,
 tO,
 tO,
 tO,
 tO,
 tO,
 tO,
 tO,
 tO,
 tO,
 tO,
 tO,
 ⟨true,.slice 30,1,24,false,[.slice none 0 0],none⟩,
 tO,
 tO,
 tO,
 tO,
 tO,
 tO,
 ⟨true,.ptr 405,1,8,false,[.pointer none],none⟩,
 tO,
 tO,
 tO,
 tO,
 tO,
 tO,
 tO,
 tO,
 tO,
 tO,
 ⟨true,.slice 251,1,24,false,[.slice none 0 0],none⟩,
 tO,
 tO,
 tO,
 tO,
 tO,
 tO,
 tO,
 tO,
 tO,
 ⟨true,.slice 457,1,24,false,[.slice none 0 0],none⟩,
 tO,
 tO,
 ⟨true,.struct [(0,3,1),(1,2,1),(2,2,1)],3,24,true,[.int .i64 0,.int .i64 0,.int .i64 0],some [.int .i64,.int .i64,.int .i64]⟩,
 ⟨true,.struct [(0,3,1),(1,2,1),(2,2,1)],3,24,true,[.int .i64 0,.int .i64 0,.int .i64 0],some [.int .i64,.int .i64,.int .i64]⟩,
 tO,
 tO,
 tO,
 tO,
 ⟨true,.int .i64,1,8,false,[.int .i64 0],some [.int .i64]⟩,
 tO,
 tO,
 tO,
 tO,
 tO,
 tO,
 ⟨true,.int .u32,1,4,false,[.int .u32 0],some [.int .u32]⟩,
 tO,
 tO,
 tO,
 tO,
 tO,
 tO,
 tO,
 tO,
 ⟨true,.int .u64,1,8,false,[.int .u64 0],some [.int .u64]⟩,
 tO,
 tO,
 tO,
 ⟨true,.ptr 3,1,8,false,[.pointer none],none⟩,
 tO,
 tO,
 tO,
 tO,
 tO,
 tO,
 ⟨true,.ptr 478,1,8,false,[.pointer none],none⟩,
 tO,
 tO,
 tO,
 tO,
 tO,
 tO,
 ⟨true,.ptr 512,1,8,false,[.pointer none],none⟩,
 tO,
 tO,
 tO,
 tO,
 tO,
 tO,
 tO,
 tO,
 tO,
 ⟨true,.ptr 5,1,8,false,[.pointer none],none⟩,
 tO,
 tO,
 tO,
 tO,
 ⟨true,.struct [(0,9,1)],1,16,true,[.string .empty],some [.str]⟩,
 ⟨true,.struct [(0,9,1)],1,16,true,[.string .empty],some [.str]⟩,
 tO]
theorem tab_ok:zba Tryz.prog tab:=tableOk_of (by kernel_rfl)
end Go.Proofs.YtllkmncnmlmefaaGreat
namespace Go.Proofs.YtllkmncnmlmefaaGreat
open Go Go.Vc Go.RowKit Go.Sort Go.Proofs Go.Shelf
theorem zso : Tryz.prog.follows .mixedOrders = true := by decide +kernel
theorem CtQ.ofG {P : Program} {f : FuncId} {ars : List R} {e k : Nat} {els : List (List R)} (h : getL ars fun vs G => CtG P f vs [] G fun v os _ => ∃ a c, v = .slice a els.length c ∧ os = [Own.row e k a c els]) : CtQ P f ars (.own e k els) := by
  intro U w vs hU hvs
  obtain ⟨G, hc, hG⟩ := zfk ars hvs h
  have HC : Ctx w U (ownBl []) [] [] G w := ⟨rfl, rfl, rfl, Nat.le_refl _, fun _ _ _ => rfl, by simp, by simp [ownBl], hU, by simp [ownBl], by simp, hG.mono ⟨fun _ _ _ => rfl, Nat.le_refl _, fun b _ h => by rcases h with h | h | h <;> simp_all [ownBl]⟩⟩
  refine (hc U w HC).mono fun v w' ⟨os', G', ⟨a, c, h1, h2⟩, h3⟩ => ?_
  exact ⟨os', by simp only [QR.h]; exact ⟨a, c, h1, h2⟩, h3.weak (List.Sublist.refl _) (List.Sublist.refl _) (by intro p hp; cases hp)⟩
theorem ztl {f : FuncId} {fn : Func} {c : Code} {vs : List Value} {os : List Own} {G : List (Value × R)} {Q : Value → List Own → List (Value × R) → Prop}
    (hf : Tryz.prog.funcs[f]? = some fn) (hb : fn.body = some c) (hn : (fn.name == "runtime.NumGoroutine") = false) (hl : zcx [] c = true)
    (h : ∀ U w, Ctx w U (ownBl os) [] os G w → initK (injL1 vs) fn.ntmps fun ts => vc Tryz.prog tab [] (drawT Tryz.prog tab []) c (retQ tab fn.results.toList (Post0 w U (ownBl os) Q)) ts [] w) : CtG Tryz.prog f vs os G Q :=
  fnG_startA tab_ok (yeb tab_ok zso []) hf hb hn hl h
abbrev FlD := (Int × Int) × Int
def flR (x : FlD) : List R := [.val (.int .i64 x.1.1), .val (.int .i64 x.1.2), .val (.int .i64 x.2)]
def addU (ks : List (Int × Int)) (x : Int × Int) : List (Int × Int) := if x ∈ ks then ks else ks ++ [x]
def uniqU (l : List (Int × Int)) : List (Int × Int) := l.foldl addU []
def srtU (l : List (Int × Int)) : List (Int × Int) := l.mergeSort fun x y => !(ltOf cmpU) y x
theorem yju (l : List (Int × Int)) : (uniqU l).length ≤ l.length := by
  have : ∀ (l ks : List (Int × Int)), (l.foldl addU ks).length ≤ ks.length + l.length := by
    intro l
    induction l with
    | nil => intro ks; simp
    | cons x l ih =>
      intro ks
      simp only [List.foldl_cons, List.length_cons]
      refine Nat.le_trans (ih _) ?_
      unfold addU; split <;> simp <;> omega
  simpa [uniqU] using this l []
theorem uniq_step (l : List (Int × Int)) (x : Int × Int) : uniqU (l ++ [x]) = addU (uniqU l) x := by simp [uniqU]
theorem addU_val {ks : List (Int × Int)} {x : Int × Int} {ks' : List Value} (h : (uV x ∈ ks.map uV ∧ ks' = ks.map uV) ∨ (uV x ∉ ks.map uV ∧ ks' = ks.map uV ++ [uV x])) : ks' = (addU ks x).map uV := by
  have hm : uV x ∈ ks.map uV ↔ x ∈ ks := by
    rw [List.mem_map]
    exact ⟨fun ⟨y, hy, he⟩ => uV_inj he ▸ hy, fun h => ⟨x, h, rfl⟩⟩
  unfold addU
  rcases h with ⟨h1, h2⟩ | ⟨h1, h2⟩
  · rw [if_pos (hm.1 h1), h2]
  · rw [if_neg (fun h => h1 (hm.2 h)), h2]; simp
theorem yhg : ElemOk Tryz.prog 108 47 2 16 := zyi (by kernel_rfl) (by kernel_rfl) (by decide)
theorem encs_app (l : List (Int × Int)) (x : Int × Int) : encs encU (l ++ [x]) = encs encU l ++ [[.val (.int .i64 x.1), .val (.int .i64 x.2)]] := by simp [encs, encU]
theorem ltU (x y : Int × Int) : ltOf cmpU x y = lessU x y := by
  unfold ltOf cmpU
  cases h : lessU x y
  · cases lessU y x <;> simp
  · simp
theorem zxn (x y : Int × Int) : lessU x y = true ↔ x.1 < y.1 ∨ (x.1 = y.1 ∧ x.2 < y.2) := by
  unfold lessU
  split
  · rename_i h; simp [h]
  · rename_i h; simp [h]
theorem zst (x y : Int × Int) : lessU x y = false ↔ y.1 < x.1 ∨ (x.1 = y.1 ∧ y.2 ≤ x.2) := by
  rw [← Bool.not_eq_true, zxn]; omega
theorem swoU : SWO (ltOf cmpU) where
  irrefl x := by rw [ltU, zst]; omega
  trans x y z h1 h2 := by rw [ltU, zxn] at *; omega
  ntrans x y z h1 h2 := by rw [ltU, zst] at *; omega
theorem totU (x y : Int × Int) (h1 : ltOf cmpU x y = false) (h2 : ltOf cmpU y x = false) : x = y := by
  rw [ltU, zst] at *
  exact Prod.ext (by omega) (by omega)
theorem yhw (l : List (Int × Int)) : (srtU l).length = l.length := List.length_mergeSort l
theorem zsa (l : List (Int × Int)) : (srtU l).Pairwise fun a b => (!(ltOf cmpU) b a) = true :=
  List.pairwise_mergeSort (fun a b c h1 h2 => by
    rw [ltU, Bool.not_eq_true', zst] at *; omega) (fun a b => by
    rw [ltU, ltU]
    cases h : lessU b a
    · simp
    · rw [zxn] at h
      have : lessU a b = false := by rw [zst]; omega
      simp [this]) l
theorem yjy {l m : List (Int × Int)} (h : l.Perm m) : srtU l = srtU m :=
  List.Perm.eq_of_pairwise (le := fun a b => (!(ltOf cmpU) b a) = true) (fun a b _ _ h1 h2 => totU a b (by simpa using h2) (by simpa using h1)) (zsa l) (zsa m)
    (((List.mergeSort_perm l _).trans h).trans (List.mergeSort_perm m _).symm)
theorem encU1 (x : Int × Int) : ∀ v ∈ encU x, v.oneCell' = true := by
  intro v hv; simp [encU] at hv; rcases hv with rfl | rfl <;> rfl
theorem hasBody162 : zku Tryz.prog 402 := ⟨_, Tryz.func402, by decide +kernel, rfl⟩
theorem none162 (p : Option Addr) (cap : Nat) (w : World) : Calls Tryz.prog 402 #[.slice p 0 cap, .func (.func 403) #[] #[]] w fun e w' => e = .returned (.tuple #[]) ∧ w' = w :=
  AnyF.slices_SortFunc_none Tryz.sortU p cap _ w
theorem call162 (blk off cap : Nat) (d : Array (Int × Int)) (w : World) (hH : HoldsK encU 2 w blk off d) (hblk : blk < w.heap.size) (hsz : d.size < 4611686018427387904) :
    Calls Tryz.prog 402 #[.slice (some ⟨blk, off, none⟩) d.size cap, .func (.func 403) #[] #[]] w fun e w' => e = .returned (.tuple #[]) ∧ ∃ n os, w' = sortWorldK encU 2 w blk off n (srtU d.toList).toArray os :=
  AnyQ.slices_SortFunc_total Tryz.sortU 2 (fun w => by kernel_rfl) (fun w => by kernel_rfl) encU (fun _ => rfl) encU1 cmpU swoU 403 #[] blk off cap d w (enters_of Tryz.func403 (by kernel_rfl) rfl) (fun _ _ _ _ x y => order_w x y _) hH hblk hsz totU
def unU : Value → Int × Int
  | .agg cs => match cs.toList with
    | [Value.int _ a, Value.int _ c] => (a, c)
    | _ => (0, 0)
  | _ => (0, 0)
set_option maxRecDepth 100000 in
theorem named_ct (l : List FlD) (hl : (l.length + 1) * 16 ≤ 140737488355328) : CtQ Tryz.prog 361 [.sl 3 (l.map flR)] (.own 47 2 (encs encU (srtU (uniqU (l.map (·.1)))))) := by
  refine CtQ.ofG ?_
  intro a1 n2 c3 h4 h4l h4c
  refine ztl Tryz.func361 rfl (by decide +kernel) rfl ?_
  intro U w H
  simp only [List.length_map] at h4
  intro w' t
  refine H.setNew (K := isU) map243 t ?_
  intro b w2 H
  refine ⟨[5, 11, 12, 13, 14, 15, 16, 17, 18],
    { X := (Nat) × (List (Int × Int)), slots := [11], vals := fun (i, ks) => [.int .i64 ((i : Int))], boxes := [], cells := fun (i, ks) => [],
      inv := fun (i, ks) w' => Ctx w U [] [] [Own.set isU b (ks.map uV)] [(.slice a1 n2 c3, .sl 3 (l.map flR))] w' ∧ (i ≤ l.length ∧ ks = uniqU ((l.take i).map (·.1))), μ := fun (i, ks) => l.length - i }, by kernel_rfl, ?_, ?_, ?_⟩
  · rintro ⟨i, ks⟩; exact ⟨⟨trivial, trivial⟩, trivial⟩
  · intro w' t
    refine ⟨⟨0, []⟩, rfl, H.fin t 0 _, ?_⟩
    exact ⟨by omega, rfl⟩
  · rintro ⟨i, ks⟩ w' ⟨H, hI⟩
    obtain ⟨hi1, hks⟩ := hI
    apply And.intro <;> intro q5
    · have q5' := of_decide_eq_true q5
      have hin : i < l.length := by omega
      refine H.at (a := a1) (n := n2) (c := c3) (els := l.map flR) (i := ((i : Int)).toNat) (cs := flR (l[i]'hin)) (by simp [hin]) (Nat.succ_pos _) ?_
      intro ad7 hn8e hn8 H hat13l hat13
      refine ⟨ad7, hn8e, Int.natCast_nonneg _, by omega, ?_⟩
      refine ⟨[.int .i64 ((l[i]'hin).1.1), .int .i64 ((l[i]'hin).1.2), .int .i64 ((l[i]'hin).2)], rfl, List.cons_ne_nil _ _, hat13, Us.box (Us.ad hn8), ?_⟩
      intro b5 hb5
      have H := H.box hb5
      intro w' t
      refine H.setPut (key := uV ((l[i]'hin).1)) keyU map243 t ⟨_, rfl⟩ ?_
      intro ks' w2 hk H
      rw [addU_val hk] at H
      intro w' t
      refine ⟨⟨i + 1, addU ks (l[i]'hin).1⟩, xInc (by rw [zax]; omega), ⟨H.fin t 0 _, ?_⟩, ?_⟩
      · refine ⟨by omega, ?_⟩
        rw [hks, List.take_succ_eq_append_getElem hin, List.map_append]
        exact (uniq_step _ _).symm
      · show l.length - (i + 1) < l.length - i; omega
    · have q5' := of_decide_eq_false q5
      rw [List.take_of_length_le (by omega)] at hks
      subst hks
      have hlen := yju (l.map (·.1))
      rw [List.length_map] at hlen
      generalize uniqU (l.map (·.1)) = ks at H hlen ⊢
      intro w' t
      refine H.setRange map243 t ?_
      intro r w2 H
      refine ⟨[6, 7, 21, 22, 23, 24, 25, 26, 27, 28],
        { X := (List (Int × Int)) × (Option Addr) × (Nat), slots := [6], vals := fun (dn, ra, rc) => [.slc ra dn.length rc], boxes := [], cells := fun (dn, ra, rc) => [],
          inv := fun (dn, ra, rc) w' => Ctx w U [] [] [Own.row 47 2 ra rc (encs encU dn), Own.walk isU b r (ks.map uV) (dn.map uV)] [(.slice a1 n2 c3, .sl 3 (l.map flR))] w' ∧ (dn.length ≤ ks.length), μ := fun (dn, ra, rc) => ks.length - dn.length }, by kernel_rfl, ?_, ?_, ?_⟩
      · rintro ⟨dn, ra, rc⟩; exact ⟨⟨trivial, trivial⟩, trivial⟩
      · intro w' t
        have H := H.newRow 47 2
        refine ⟨⟨[], none, 0⟩, rfl, H.fin t 0 _, ?_⟩
        exact Nat.zero_le _
      · rintro ⟨dn, ra, rc⟩ w' ⟨H, hI⟩
        have H := H.front 1
        intro w' t
        refine H.setNext t ?_ ?_
        · intro w2 hp H
          have hp : dn.Perm ks := by
            have := hp.map unU
            rw [List.map_map, List.map_map] at this
            have e : (unU ∘ uV) = id := funext fun x => rfl
            rwa [e, List.map_id, List.map_id] at this
          have H := H.front 1
          intro w' t
          have hl2 : dn.length = ks.length := hp.length_eq
          refine (Ctx.sortRow (enc := encU) (k := 2) (fun _ => rfl) encU1 (srt := srtU) yhw hasBody162 none162 call162 (ids := []) (Kn := fun v w' => v = .tuple #[] ∧ Ctx w U [] [] [Own.row 47 2 ra rc (encs encU (srtU dn)), Own.walk isU b r (ks.map uV) (dn.map uV)] [(.slice a1 n2 c3, .sl 3 (l.map flR))] w') H t (by omega) fun w' H => ⟨rfl, H⟩).mono ?_
          rintro v w3 ⟨_, rfl, H⟩
          refine ⟨.tup [], [], w3, rfl, trivial, ⟨[], rfl⟩, List.nodup_nil, by simp, ⟨rfl, rfl, rfl, Nat.le_refl _, fun _ _ _ => rfl, by simp⟩, ?_⟩
          intro w' t
          refine H.retG (os' := [Own.row 47 2 ra rc (encs encU (srtU dn))]) t (List.Sublist.cons_cons _ (List.nil_sublist _)) ?_
          refine ⟨ra, rc, ?_, by rw [yjy hp]⟩
          rw [← yjy hp, show (encs encU (srtU dn)).length = dn.length by simp [encs, yhw]]
          rfl
        · intro key w2 hk1 hk2 hlt hK H
          obtain ⟨x, rfl⟩ := hK
          intro w' t
          refine H.setEntry t ?_
          intro w2 H
          intro b5 hb5
          have H := H.box hb5
          intro w' t
          refine Ctx.lit yhg H t (els := [[.val (.int .i64 x.1), .val (.int .i64 x.2)]]) [uV x] rfl (⟨rfl, ⟨⟨rfl, rfl, trivial⟩, rfl⟩, trivial⟩) rfl (by decide) (by decide) ?_
          intro lb w2 H
          have H := H.front 1
          intro w' t
          refine H.ap (a2 := (some ⟨lb, 0, none⟩)) (m := 1) (c2 := 1) (news := [[.val (.int .i64 x.1), .val (.int .i64 x.2)]]) t yhg (by simp [encs]) (by rw [zax]; simp; simp at hlt; omega) (by simp; simp at hlt; omega) ?_
          intro a' c' w2 H hlq
          rw [← encs_app] at H
          intro w' t
          refine ⟨⟨dn ++ [x], a', c'⟩, (by first | rfl | simp), ⟨?_, ?_⟩, ?_⟩
          · have := H.fin t 0 [(.slice a1 n2 c3, .sl 3 (l.map flR))]
            show Ctx w U [] [] [Own.row 47 2 a' c' (encs encU (dn ++ [x])), Own.walk isU b r (ks.map uV) ((dn ++ [x]).map uV)] [(.slice a1 n2 c3, .sl 3 (l.map flR))] w'
            rw [List.map_append]
            exact this
          · simp at hlt ⊢; omega
          · show ks.length - (dn ++ [x]).length < ks.length - dn.length
            simp at hlt ⊢; omega
end Go.Proofs.YtllkmncnmlmefaaGreat
namespace Go.Vc
open Go Go.RowKit
theorem Ctx.growZ {P : Program} {t tn ty e : TypeId} {k bytes : Nat} {kn kq : IntKind} (he : ElemOk P t e k bytes) (htn : P.underlying tn = some (.int kn)) {V W w : World} {U0 : Nat → Prop} {L bs : List Nat} {os : List Own} {G : List (Value × R)} {bx : List Box} {K : Value → World → Prop} {m : Int}
    (H : Ctx V U0 L bs os G W) (hs : Sync bx W w) (n : Nat) (hm : m = n) (h0 : 0 < n) (hbytes : n * bytes ≤ 140737488355328) (h63 : n ≤ maxLen)
    (g : ∀ a c w2, n ≤ c → Ctx V U0 L bs (Own.row e k a c [] :: os) G w2 → K (.slice a n c) w2) (hb : blks bx = bs := by rfl) :
    RunsX P (Builtin.append_ #[t, tn] ty #[.slice none 0 0, .int kq m]) w fun v w' => Kept (blks bx) w w' ∧ K v w' := by
  obtain ⟨i, z, hi, hz, hs1, hby, hzs⟩ := he.info
  have hlt := hs.blt hb
  have H := H.sync (w := w.drew) ⟨hs.os, hs.tape, hs.output, hs.size, hs.same, hs.own⟩ hb
  subst hm hb
  have hrun := Lib.run_append_nil_zeros (P := P) w t tn ty e i z kq kn he.under htn hi hz n h0 (by rw [hs1]; exact he.pos) (by rw [zax] at h63; omega) (by rw [hby]; omega)
  have hcap := grownCap_ge w n 0 e
  have HC := H.newRoom (e := e) (k := k) (c := grownCap w n 0 e) (cur := Builtin.zeroCells z.cells n ++ Builtin.zeroCells z.cells (grownCap w n 0 e - n)) hlt (by
    rw [Array.size_append, size_zeroCells, size_zeroCells, hzs, ← Nat.add_mul]; congr 1; omega) (grownCap_le_maxLen w n 0 e h63)
  exact ⟨_, _, hrun, fun b hm => Below.heap_alloc _ _ _ (hlt b hm), g _ _ _ hcap HC⟩
end Go.Vc
namespace Go.Proofs.YtllkmncnmlmefaaGreat
open Go Go.Vc Go.RowKit
theorem ylu : ElemOk Tryz.prog 30 143 3 24 := zyi (by kernel_rfl) (by kernel_rfl) (by decide)
theorem und3 : Tryz.prog.underlying 3 = some (.int .i64) := by kernel_rfl
set_option maxRecDepth 100000 in
theorem growF (n : Nat) (hn : n * 24 ≤ 140737488355328) : CtG Tryz.prog 401 [.slice none 0 0, .int .i64 n] [] [] fun v os _ => ∃ a c, v = .slice a 0 c ∧ os = [Own.row 143 3 a c []] := by
  refine ztl Tryz.func401 rfl (by decide +kernel) rfl ?_
  intro U w H
  apply And.intro <;> intro q
  · exfalso
    have := of_decide_eq_true q
    omega
  · have e1 : IntKind.i64.wrap ((n : Int) - IntKind.i64.wrap ((0 : Nat) - (0 : Nat))) = n := by
      have e0 : IntKind.i64.wrap (((0 : Nat) : Int) - ((0 : Nat) : Int)) = 0 := by decide
      rw [e0, IntKind.wrap_i64]; omega
    apply And.intro <;> intro q2
    · have q2 := of_decide_eq_true q2
      have hn0 : 0 < n := by
        have : (0 : Int) < IntKind.i64.wrap ((n : Int) - IntKind.i64.wrap ((0 : Nat) - (0 : Nat))) := q2
        rw [e1] at this; omega
      refine ⟨by decide, by decide, ?_⟩
      intro w' t
      refine H.growZ (e := 143) (k := 3) ylu und3 t n e1 hn0 hn (by rw [zax]; omega) ?_
      intro a c w2 hc H
      refine ⟨by decide, by simp, ?_⟩
      intro w' t
      exact H.retG (os' := [Own.row 143 3 a c []]) t (List.Sublist.refl _) ⟨a, c, rfl, rfl⟩
    · have H := H.newRow 143 3
      intro w' t
      exact H.retG (os' := [Own.row 143 3 none 0 []]) t (List.Sublist.refl _) ⟨none, 0, rfl, rfl⟩
theorem aft0 {dst : Option Tmp} {ts : List XV} {K : KT} {v : Value} {w' : World} (h : retX dst (inject v) ts [] w' K) : aftK dst ts [] K v w' :=
  ⟨inject v, [], w', (zns v).symm, zpi _ v, ⟨[], rfl⟩, List.nodup_nil, by simp, ⟨rfl, rfl, rfl, Nat.le_refl _, fun _ _ _ => rfl, by simp⟩, h⟩
def sumF (ll : List (List FlD)) : Nat := (ll.map List.length).foldl (· + ·) 0
theorem sumF_step (ll : List (List FlD)) (l : List FlD) : sumF (ll ++ [l]) = sumF ll + l.length := by simp [sumF]
theorem yfa (ll : List (List FlD)) (i : Nat) : sumF (ll.take i) ≤ sumF ll := by
  have h : sumF ll = sumF (ll.take i) + sumF (ll.drop i) := by
    have e : ∀ a b : List (List FlD), sumF (a ++ b) = sumF a + sumF b := by
      intro a b
      have : ∀ (l : List Nat) (n : Nat), l.foldl (· + ·) n = n + l.foldl (· + ·) 0 := by
        intro l
        induction l with
        | nil => simp
        | cons x l ih => intro n; simp only [List.foldl_cons]; rw [ih, ih (0 + x)]; omega
      simp only [sumF, List.map_append, List.foldl_append]
      rw [this]
    rw [← e, List.take_append_drop]
  omega
theorem yfb (ll : List (List FlD)) : ll.flatten.length = sumF ll := by
  have : ∀ (l : List Nat) (n : Nat), l.foldl (· + ·) n = n + l.foldl (· + ·) 0 := by
    intro l
    induction l with
    | nil => simp
    | cons x l ih => intro n; simp only [List.foldl_cons]; rw [ih, ih (0 + x)]; omega
  induction ll with
  | nil => rfl
  | cons l ll ih => simp only [List.flatten_cons, List.length_append, ih, sumF, List.map_cons, List.foldl_cons]; rw [this _ (0 + _)]; omega
theorem flat_step (ll : List (List FlD)) (l : List FlD) : (ll ++ [l]).flatten = ll.flatten ++ l := by simp
set_option maxRecDepth 100000 in
theorem concatF_ct (ll : List (List FlD)) (hs : sumF ll * 24 ≤ 140737488355328) : CtQ Tryz.prog 360 [.sl 1 (ll.map fun l => [.sl 3 (l.map flR)])] (.own 143 3 (ll.flatten.map flR)) := by
  refine CtQ.ofG ?_
  intro a1 n2 c3 h4 h4l h4c
  refine ztl Tryz.func360 rfl (by decide +kernel) rfl ?_
  intro U w H
  simp only [List.length_map] at h4
  have hmx : c3 ≤ 9223372036854775807 := by rw [zax] at h4c; exact h4c
  refine ⟨[3, 5, 11, 12, 13, 14, 15, 16, 17, 18, 19, 20, 21, 22],
    { X := (Nat) × (Nat), slots := [3, 11], vals := fun (i, s) => [.int .i64 ((s : Int)), .int .i64 ((i : Int))], boxes := [], cells := fun (i, s) => [],
      inv := fun (i, s) w' => Ctx w U [] [] [] [(.slice a1 n2 c3, .sl 1 (ll.map fun l => [.sl 3 (l.map flR)]))] w' ∧ (i ≤ ll.length ∧ s = sumF (ll.take i)), μ := fun (i, s) => ll.length - i }, by kernel_rfl, ?_, ?_, ?_⟩
  · rintro ⟨i, s⟩; exact ⟨⟨trivial, trivial, trivial⟩, trivial⟩
  · intro w' t
    refine ⟨⟨0, 0⟩, rfl, rfl, H.fin t 0 _, ?_⟩
    exact ⟨by omega, rfl⟩
  · rintro ⟨i, s⟩ w' ⟨H, hI⟩
    obtain ⟨hi1, hss⟩ := hI
    apply And.intro <;> intro q5
    · have q5' := of_decide_eq_true q5
      have hin : i < ll.length := by omega
      refine H.at (a := a1) (n := n2) (c := c3) (els := ll.map fun l => [.sl 3 (l.map flR)]) (i := ((i : Int)).toNat) (cs := [.sl 3 ((ll[i]'hin).map flR)]) (by simp [hin]) (Nat.succ_pos _) ?_
      intro ad7 hn8e hn8 a9 n10 c11 h12 h12l h12c H hat13l hat13
      simp only [List.length_map] at h12
      refine ⟨ad7, hn8e, Int.natCast_nonneg _, by omega, ?_⟩
      refine ⟨.slice a9 n10 c11, hat13.1, Us.box (Us.ad hn8), ?_⟩
      have hstep : sumF (ll.take (i + 1)) = s + n10 := by
        rw [List.take_succ_eq_append_getElem hin, sumF_step, ← hss, h12]
      have hle := yfa ll (i + 1)
      rw [hstep] at hle
      have e1 : IntKind.i64.wrap ((s : Int) + (n10 : Int)) = ((s + n10 : Nat) : Int) := by rw [IntKind.wrap_i64]; omega
      apply And.intro <;> intro q6
      · exfalso
        have q6 := of_decide_eq_true q6
        have : IntKind.i64.wrap ((s : Int) + (n10 : Int)) < 0 := q6
        rw [e1] at this; omega
      · intro w' t
        refine ⟨⟨i + 1, s + n10⟩, ?_, xInc (by rw [zax]; omega), ⟨H.fin t 0 _, ?_⟩, ?_⟩
        · show XV.int .i64 (IntKind.i64.wrap ((s : Int) + (n10 : Int))) = XV.int .i64 (((s + n10 : Nat)) : Int)
          rw [e1]
        · exact ⟨by omega, hstep.symm⟩
        · show ll.length - (i + 1) < ll.length - i; omega
    · have q5' := of_decide_eq_false q5
      rw [List.take_of_length_le (by omega)] at hss
      subst hss
      intro w' t
      refine (H.cg (os1 := []) (os2 := []) (Gc := []) (ids := []) (K := fun v w' => ∃ a c, v = .slice a 0 c ∧ Ctx w U [] [] [Own.row 143 3 a c []] [(.slice a1 n2 c3, .sl 1 (ll.map fun l => [.sl 3 (l.map flR)]))] w') t (growF (sumF ll) hs) ?_).mono ?_
      · rintro v os' G' w2 ⟨a, c, rfl, rfl⟩ H
        exact ⟨a, c, rfl, Ctx.keep (os := [Own.row 143 3 a c []]) H [(Value.slice a1 n2 c3, R.sl 1 (ll.map fun l => [R.sl 3 (l.map flR)]))] ⟨by rw [yjm]; simp, trivial⟩⟩
      rintro v w3 ⟨_, a, c, rfl, H⟩
      refine aft0 ?_
      refine ⟨[6, 8, 27, 28, 29, 30, 31, 32, 33, 34],
        { X := (Nat) × (List FlD) × (Option Addr) × (Nat), slots := [6, 27], vals := fun (i, xs, ra, rc) => [.slc ra xs.length rc, .int .i64 ((i : Int))], boxes := [], cells := fun (i, xs, ra, rc) => [],
          inv := fun (i, xs, ra, rc) w' => Ctx w U [] [] [Own.row 143 3 ra rc (xs.map flR)] [(.slice a1 n2 c3, .sl 1 (ll.map fun l => [.sl 3 (l.map flR)]))] w' ∧ (i ≤ ll.length ∧ xs = (ll.take i).flatten), μ := fun (i, xs, ra, rc) => ll.length - i }, by kernel_rfl, ?_, ?_, ?_⟩
      · rintro ⟨i, xs, ra, rc⟩; exact ⟨⟨trivial, trivial, trivial⟩, trivial⟩
      · intro w' t
        refine ⟨⟨0, [], a, c⟩, rfl, rfl, H.fin t 0 _, ?_⟩
        exact ⟨by omega, rfl⟩
      · rintro ⟨i, xs, ra, rc⟩ w' ⟨H, hI⟩
        obtain ⟨hi1, hxs⟩ := hI
        apply And.intro <;> intro q5
        · have q5' := of_decide_eq_true q5
          have hin : i < ll.length := by omega
          refine H.at (a := a1) (n := n2) (c := c3) (els := ll.map fun l => [.sl 3 (l.map flR)]) (i := ((i : Int)).toNat) (cs := [.sl 3 ((ll[i]'hin).map flR)]) (by simp [hin]) (Nat.succ_pos _) ?_
          intro ad7 hn8e hn8 a9 n10 c11 h12 h12l h12c H hat13l hat13
          simp only [List.length_map] at h12
          refine ⟨ad7, hn8e, Int.natCast_nonneg _, by omega, ?_⟩
          refine ⟨.slice a9 n10 c11, hat13.1, Us.box (Us.ad hn8), ?_⟩
          have hstep : (ll.take (i + 1)).flatten = xs ++ ll[i] := by
            rw [List.take_succ_eq_append_getElem hin, flat_step, ← hxs]
          have hle := yfa ll (i + 1)
          rw [← yfb, hstep, List.length_append] at hle
          intro w' t
          refine H.ap (a2 := a9) (m := n10) (c2 := c11) (news := (ll[i]'hin).map flR) t ylu (by simp) (by rw [zax]; simp; omega) (by simp; omega) ?_
          intro a' c' w2 H hlq
          have hlq2 : xs.length + n10 = (xs ++ ll[i]).length := by simp [h12]
          have H := H.rowEq ((xs ++ ll[i]).map flR) (by simp)
          intro w' t
          refine ⟨⟨i + 1, xs ++ ll[i], a', c'⟩, ?_, xInc (by rw [zax]; omega), ⟨H.fin t 0 _, ?_⟩, ?_⟩
          · show XV.slc a' (xs.length + n10) c' = XV.slc a' (xs ++ ll[i]).length c'
            rw [hlq2]
          · exact ⟨by omega, hstep.symm⟩
          · show ll.length - (i + 1) < ll.length - i; omega
        · have q5' := of_decide_eq_false q5
          rw [List.take_of_length_le (by omega)] at hxs
          subst hxs
          intro w' t
          exact H.retG (os' := [Own.row 143 3 ra rc (ll.flatten.map flR)]) t (List.Sublist.refl _) ⟨ra, rc, by rw [List.length_map]; rfl, rfl⟩
end Go.Proofs.YtllkmncnmlmefaaGreat

namespace Go.Vc
open Go Go.RowKit
structure LB where
  ty : TypeId
  cells : List QR
inductive LA where
  | r (q : R)
  | ptr (i : Nat)
  | fn (g : FuncId) (is : List Nat)
  | row (e k : Nat) (els : List (List R))
inductive LQ where
  | q (q : QR)
  | ptr (i : Nat)
  | obj (B : LB)
def objs : List Nat → List LB → List (List Value) → List Own
  | b :: bl, B :: Bs, us :: uss => Own.obj b B.ty us :: objs bl Bs uss
  | _, _, _ => []
def lbH (U : Nat → Prop) (w : World) : List LB → List (List Value) → List (List Own) → Prop
  | [], uss, oss => uss = [] ∧ oss = []
  | B :: Bs, uss, oss => ∃ us uss' os oss', uss = us :: uss' ∧ oss = os :: oss' ∧ QRsH U w B.cells us os ∧ lbH U w Bs uss' oss'
def ptrsH (bl : List Nat) : List Nat → List Value → Prop
  | [], vs => vs = []
  | i :: is, vs => ∃ b vs', bl[i]? = some b ∧ vs = .pointer (some ⟨b, 0, none⟩) :: vs' ∧ ptrsH bl is vs'
def laH (U : Nat → Prop) (w : World) (bl : List Nat) : List LA → List Value → List Own → Prop
  | [], vs, ars => vs = [] ∧ ars = []
  | .r q :: las, vs, ars => ∃ v vs', vs = v :: vs' ∧ q.h U w v ∧ laH U w bl las vs' ars
  | .ptr i :: las, vs, ars => ∃ b vs', bl[i]? = some b ∧ vs = .pointer (some ⟨b, 0, none⟩) :: vs' ∧ laH U w bl las vs' ars
  | .fn g is :: las, vs, ars => ∃ cs vs', ptrsH bl is cs ∧ vs = .func (.func g) #[] cs.toArray :: vs' ∧ laH U w bl las vs' ars
  | .row e k els :: las, vs, ars => ∃ v vs' o ars', vs = v :: vs' ∧ ars = o ++ ars' ∧ (QR.own e k els).h U w v o ∧ laH U w bl las vs' ars'
def lqH (U : Nat → Prop) (w : World) (bl : List Nat) : LQ → Value → List Own → Prop
  | .q q, v, os => q.h U w v os
  | .ptr i, v, os => os = [] ∧ ∃ b, bl[i]? = some b ∧ v = .pointer (some ⟨b, 0, none⟩)
  | .obj B, v, os => ∃ b us os', v = .pointer (some ⟨b, 0, none⟩) ∧ os = Own.obj b B.ty us :: os' ∧ QRsH U w B.cells us os'
def CtL (P : Program) (f : FuncId) (las : List LA) (Bs : List LB) (lq : LQ) (Bs' : List LB) : Prop :=
  ∀ (U : Nat → Prop) (w : World) (vs : List Value) (bl : List Nat) (uss : List (List Value)) (oss : List (List Own)) (ars : List Own), bl.length = Bs.length →
    Ctx w U (bl ++ ownBl (oss.flatten ++ ars)) [] (objs bl Bs uss ++ (oss.flatten ++ ars)) [] w → (∀ b ∈ bl ++ ownBl (oss.flatten ++ ars), ¬ U b) →
    lbH (Us U [] (objs bl Bs uss ++ (oss.flatten ++ ars))) w Bs uss oss → laH (Us U [] (objs bl Bs uss ++ (oss.flatten ++ ars))) w bl las vs ars →
    CallsX P f vs.toArray w fun v w' => ∃ uss' oss' os, Ctx w U (bl ++ ownBl (oss.flatten ++ ars)) [] (objs bl Bs' uss' ++ (os ++ oss'.flatten)) [] w' ∧
      lbH (Us U [] (objs bl Bs' uss' ++ (os ++ oss'.flatten))) w' Bs' uss' oss' ∧ lqH (Us U [] (objs bl Bs' uss' ++ (os ++ oss'.flatten))) w' bl lq v os
def lbK : List LB → PBs → List RS → (PBs → List RS → Prop) → Prop
  | [], pb, rw, K => K pb rw
  | B :: Bs, pb, rw, K => q0LK B.cells rw fun ps rw => pushK pb (some ⟨B.ty, ps⟩) fun pb => lbK Bs pb rw K
def laK : List LA → List RS → (List PV → List RS → Prop) → Prop
  | [], rw, K => K [] rw
  | .r q :: las, rw, K => r1pK q fun p => laK las rw fun ps rw => K (p :: ps) rw
  | .ptr i :: las, rw, K => laK las rw fun ps rw => K (.own i 0 :: ps) rw
  | .fn g is :: las, rw, K => laK las rw fun ps rw => K (.fn g (is.map fun i => .own i 0) :: ps) rw
  | .row e k els :: las, rw, K => q0K (.own e k els) rw fun p rw => laK las rw fun ps rw => K (p :: ps) rw
def lendK : List LB → Nat → PBs → (List PV → Prop) → Prop
  | [], _, _, K => K []
  | B :: Bs, n, pb, K => pbK pb n fun x => x.ty = B.ty ∧ lendK Bs (n + 1) pb fun ps => K (.agg x.cells :: ps)
def aggQ : List LB → List QR
  | [] => []
  | B :: Bs => .agg B.cells :: aggQ Bs
def endL (lq : LQ) (Bs : List LB) (p : PV) (ts : List PV) (pb : PBs) (rw : List RS) : Prop :=
  lendK Bs 0 pb fun ps => match lq with
    | .q q => endP 0 (.tup (q :: aggQ Bs)) (.tup (p :: ps)) ts pb rw
    | .ptr i => p = .own i 0 ∧ i < Bs.length ∧ endP 0 (.tup (aggQ Bs)) (.tup ps) ts pb rw
    | .obj B => match p with
      | .own i o => o = 0 ∧ Bs.length ≤ i ∧ pbK pb i fun x => x.ty = B.ty ∧ endP 0 (.tup (.agg B.cells :: aggQ Bs)) (.tup (.agg x.cells :: ps)) ts pb rw
      | _ => False
def retPL (T : List TI) (rs : List ResultVar) (lq : LQ) (Bs : List LB) : PQ := fun e ts pb rw =>
  match e with
  | .normal => resP T rs ts pb rw fun xs => endL lq Bs (oneP' xs) ts pb rw
  | .ret => resP T rs ts pb rw fun xs => endL lq Bs (oneP' xs) ts pb rw
  | _ => False
def zca : List Nat → List LB → List (List Value) → List Box
  | b :: bl, B :: Bs, us :: uss => ⟨b, B.ty, injL us⟩ :: zca bl Bs uss
  | _, _, _ => []
theorem yio {U : Nat → Prop} {w : World} : ∀ {Bs : List LB} {uss : List (List Value)} {oss : List (List Own)}, lbH U w Bs uss oss → uss.length = Bs.length ∧ oss.length = Bs.length
  | [], uss, oss, h => by obtain ⟨rfl, rfl⟩ := h; exact ⟨rfl, rfl⟩
  | B :: Bs, uss, oss, h => by
    obtain ⟨us, uss', os, oss', rfl, rfl, _, h⟩ := h
    obtain ⟨h1, h2⟩ := yio h
    exact ⟨by simp [h1], by simp [h2]⟩
theorem zxe : ∀ {bl : List Nat} {Bs : List LB} {uss : List (List Value)}, bl.length = Bs.length → uss.length = Bs.length → ownBl (objs bl Bs uss) = bl
  | [], [], [], _, _ => rfl
  | b :: bl, B :: Bs, us :: uss, h, h' => by
    simp only [objs, ownBl, Own.obj, List.singleton_append]
    rw [zxe (by simpa using h) (by simpa using h')]
  | [], _ :: _, _, h, _ => by simp at h
  | _ :: _, [], _, h, _ => by simp at h
  | _ :: _, _ :: _, [], _, h => by simp at h
  | [], [], _ :: _, _, h => by simp at h
theorem zuf : ∀ {bl : List Nat} {Bs : List LB} {uss : List (List Value)}, bl.length = Bs.length → uss.length = Bs.length → blks (zca bl Bs uss) = bl
  | [], [], [], _, _ => rfl
  | b :: bl, B :: Bs, us :: uss, h, h' => by
    have := zuf (bl := bl) (Bs := Bs) (uss := uss) (by simpa using h) (by simpa using h')
    simp only [zca, blks, List.map_cons] at *
    rw [this]
  | [], _ :: _, _, h, _ => by simp at h
  | _ :: _, [], _, h, _ => by simp at h
  | _ :: _, _ :: _, [], _, h => by simp at h
  | [], [], _ :: _, _, h => by simp at h
theorem zyp {U : Nat → Prop} {w : World} : ∀ {bl : List Nat} {Bs : List LB} {uss : List (List Value)}, (∀ o ∈ objs bl Bs uss, o.h U w) → ∀ x ∈ zca bl Bs uss, w.heap[x.blk]? = some (.cells (denL x.cells).toArray x.ty (0, 0))
  | b :: bl, B :: Bs, us :: uss, h, x, hx => by
    rcases List.mem_cons.1 hx with rfl | hx
    · have := h (Own.obj b B.ty us) (by simp [objs])
      simpa [Own.obj, zhy] using this
    · exact zyp (fun o ho => h o (by simp [objs, ho])) x hx
  | [], _, _, h, x, hx => by simp [zca] at hx
  | _ :: _, [], _, h, x, hx => by simp [zca] at hx
  | _ :: _, _ :: _, [], h, x, hx => by simp [zca] at hx
theorem ylk {nl : Nat} {V W : World} {U0 : Nat → Prop} {L : List Nat} {bx : List Box} {U : Nat → Prop} {π : Nat → Option Nat} {goal : Prop} {o2 : List Own} : ∀ {Bs : List LB} {uss : List (List Value)} {oss : List (List Own)} {pb : PBs} {rw : List RS} {A : Asg} {K : PBs → List RS → Prop},
    lbK Bs pb rw K → (∀ B ∈ Bs, ∀ q ∈ B.cells, cellQ q) → lbH U W Bs uss oss → Tk nl V U0 L bx W U (oss.flatten ++ o2) rw A →
    (∀ l rw' A', K (pb ++ l) rw' → l.length = Bs.length → Tk nl V U0 L bx W U o2 rw' A' → More rw A rw' A' → (∀ (i : Nat) (p : Option PBox), l[i]? = some p → ∃ x B us, p = some x ∧ Bs[i]? = some B ∧ uss[i]? = some us ∧ x.ty = B.ty ∧ PVsH U W (blks bx) π rw' A' x.cells (injL us)) → goal) → goal
  | [], uss, oss, pb, rw, A, K, h, _, hb, H, m => by
    obtain ⟨rfl, rfl⟩ := hb
    exact m [] rw A (by simpa [lbK] using h) rfl (by simpa using H) (More.refl _ _) (by simp)
  | B :: Bs, uss, oss, pb, rw, A, K, h, hc, hb, H, m => by
    obtain ⟨us, uss', os, oss', rfl, rfl, hq, hb⟩ := hb
    simp only [lbK] at h
    refine zuw (π := π) h (hc B (by simp)) hq (o2 := oss'.flatten ++ o2) (by simpa using H) fun ps rw1 A1 h H1 m1 hps => ?_
    rw [zbn] at h
    refine ylk (π := π) h (fun B hB => hc B (by simp [hB])) hb H1 fun l rw2 A2 h hl H2 m2 hall => ?_
    refine m (some ⟨B.ty, ps⟩ :: l) rw2 A2 (by simpa using h) (by simp [hl]) H2 (m1.trans m2) fun i p hp => ?_
    cases i with
    | zero => simp at hp; subst hp; exact ⟨_, B, us, rfl, rfl, rfl, rfl, zbr m2.sub hps⟩
    | succ i =>
      obtain ⟨x, B', us', h1, h2, h3, h4, h5⟩ := hall i p (by simpa using hp)
      exact ⟨x, B', us', h1, by simpa using h2, by simpa using h3, h4, h5⟩
def flatLA : List LA → Prop
  | [] => True
  | .r q :: las => flatR q ∧ flatLA las
  | .ptr _ :: las => flatLA las
  | .fn _ _ :: las => flatLA las
  | .row _ _ _ :: las => flatLA las
theorem yfq {U : Nat → Prop} {W : World} {bx : List Box} {bl : List Nat} {π : Nat → Option Nat} {rw : List RS} {A : Asg} (hbl : blks bx = bl) (hπ : ∀ (i b : Nat), bl[i]? = some b → π i = some i) : ∀ {is : List Nat} {cs : List Value}, ptrsH bl is cs →
    ∃ ys, denL ys = cs ∧ wfL (blks bx) ys ∧ PVsH U W (blks bx) π rw A (is.map fun i => .own i 0) ys
  | [], cs, h => by simp only [ptrsH] at h; subst h; exact ⟨[], rfl, trivial, by simp [PVsH]⟩
  | i :: is, cs, h => by
    obtain ⟨b, vs', hb, rfl, h⟩ := h
    obtain ⟨ys, h1, h2, h3⟩ := yfq (U := U) (W := W) (rw := rw) (A := A) hbl hπ h
    refine ⟨.own i b 0 :: ys, by simp [denL, XV.den, h1], ⟨by simp only [XV.wf]; rw [hbl]; exact hb, h2⟩, ?_⟩
    simp only [List.map_cons, PVsH]
    exact ⟨_, _, rfl, (by simp only [PV.h]; exact ⟨i, b, hπ i b hb, by rw [hbl]; exact hb, rfl⟩), h3⟩
theorem zqu {nl : Nat} {V : World} {U0 : Nat → Prop} {L : List Nat} {U : Nat → Prop} {W : World} {bx : List Box} {bl : List Nat} {π : Nat → Option Nat} {o2 : List Own} (hbl : blks bx = bl) (hπ : ∀ (i b : Nat), bl[i]? = some b → π i = some i) : ∀ {las : List LA} {vs : List Value} {ars : List Own} {rw : List RS} {A : Asg} {K : List PV → List RS → Prop} {G : Prop}, laK las rw K → flatLA las → laH U W bl las vs ars → Tk nl V U0 L bx W U (ars ++ o2) rw A →
    (∀ ps zs rw' A', K ps rw' → denL zs = vs → wfL (blks bx) zs → Tk nl V U0 L bx W U o2 rw' A' → More rw A rw' A' → PVsH U W (blks bx) π rw' A' ps zs → G) → G
  | [], vs, ars, rw, A, K, G, h, _, hv, H, m => by
    obtain ⟨rfl, rfl⟩ := hv
    exact m [] [] rw A h rfl (by simp [wfL]) (by simpa using H) (More.refl _ _) (by simp [PVsH])
  | .r q :: las, vs, ars, rw, A, K, G, h, hf, hv, H, m => by
    obtain ⟨v, vs', rfl, h1, hv⟩ := hv
    refine ycn (bs := blks bx) (π := π) (rw := rw) (A := A) h h1 (hf.1.one h1) fun p h hp => zqu hbl hπ h hf.2 hv H fun ps zs rw1 A1 h hz hw H1 m1 hps => m (p :: ps) (inj1 v :: zs) rw1 A1 h (by simp [denL, zvq, hz]) ⟨zoj _ v, hw⟩ H1 m1 (by simp only [PVsH]; exact ⟨_, _, rfl, PV.h_mono m1.sub hp, hps⟩)
  | .ptr i :: las, vs, ars, rw, A, K, G, h, hf, hv, H, m => by
    obtain ⟨b, vs', hb, rfl, hv⟩ := hv
    simp only [laK] at h
    simp only [flatLA] at hf
    refine zqu (las := las) hbl hπ h hf hv H fun ps zs rw1 A1 h hz hw H1 m1 hps => m (.own i 0 :: ps) (.own i b 0 :: zs) rw1 A1 h (by simp [denL, XV.den, hz]) ⟨by simp only [XV.wf]; rw [hbl]; exact hb, hw⟩ H1 m1 (by
      simp only [PVsH]
      exact ⟨_, _, rfl, (by simp only [PV.h]; exact ⟨i, b, hπ i b hb, by rw [hbl]; exact hb, rfl⟩), hps⟩)
  | .fn g is :: las, vs, ars, rw, A, K, G, h, hf, hv, H, m => by
    obtain ⟨cs, vs', hcs, rfl, hv⟩ := hv
    simp only [laK] at h
    simp only [flatLA] at hf
    refine zqu (las := las) hbl hπ h hf hv H fun ps zs rw1 A1 h hz hw H1 m1 hps => ?_
    obtain ⟨ys, h1, h2, h3⟩ := yfq (U := U) (W := W) (rw := rw1) (A := A1) hbl hπ hcs
    exact m (.fn g (is.map fun i => .own i 0) :: ps) (.fn g ys :: zs) rw1 A1 h (by simp [denL, XV.den, hz, h1]) ⟨by simp only [XV.wf]; exact h2, hw⟩ H1 m1 (by
      simp only [PVsH]
      exact ⟨_, _, rfl, (by simp only [PV.h]; exact ⟨ys, rfl, h3⟩), hps⟩)
  | .row e k els :: las, vs, ars, rw, A, K, G, h, hf, hv, H, m => by
    obtain ⟨v, vs', o, ars', rfl, rfl, hq, hv⟩ := hv
    simp only [laK] at h
    simp only [flatLA] at hf
    refine ycp (π := π) (q := .own e k els) h trivial hq (o2 := ars' ++ o2) (by simpa using H) fun p rw1 A1 h H1 m1 hp => ?_
    refine zqu (las := las) hbl hπ h hf hv H1 fun ps zs rw2 A2 h hz hw H2 m2 hps => m (p :: ps) (inj0 v :: zs) rw2 A2 h (by simp [denL, zrh, hz]) ⟨zkx _ v, hw⟩ H2 (m1.trans m2) (by simp only [PVsH]; exact ⟨_, _, rfl, PV.h_mono m2.sub hp, hps⟩)
theorem PVsH_two {U : Nat → Prop} {W : World} {bs : List Nat} {π : Nat → Option Nat} {rw : List RS} {A : Asg} {p : PV} {z : XV} (h : p.h U W bs π rw A z) : PVsH U W bs π rw A [p] [z] := by
  simp only [PVsH]; exact ⟨_, _, rfl, h, rfl⟩
theorem endP_L {bx0 : List Box} {p0 : Nat → Option Nat} {V W w : World} {U0 : Nat → Prop} {L : List Nat} {rw : List RS} {ts : List PV} {pb : PBs} {xs : List XV} {bx : List Box} {π : Nat → Option Nat} {A : Asg} {q : QR} {p : PV} {z : XV}
    (H : StB 0 bx0 p0 V U0 L rw ts pb xs bx W π A) (hs : Sync bx W w) (hp : p.h (UU U0 bx rw A) W (blks bx) π rw A z) (h : endP 0 q p ts pb rw) : ∃ os, q.h (Us U0 (blks bx) os) w z.den os ∧ Ctx V U0 L (blks bx) os [] w := by
  refine zdw (zvh h) H (ps := [p]) (zs := [z]) (PVsH_two hp) fun ts pb rw ps ⟨h, hl⟩ H hps => ?_
  match ps, h, hps with
  | [p], h, hps =>
    have hps := H.syncPV hs hps
    simp only [PVsH] at hps
    obtain ⟨_, _, he, hp, rfl⟩ := hps
    simp only [List.cons.injEq] at he
    obtain ⟨rfl, _⟩ := he
    have H := H.sync hs
    obtain ⟨os, rw2, _, _, h3, h4, hsub⟩ := yco (acc := []) q h (RSub.refl _) hp (by simpa using H.rep.c)
    rw [List.nil_append] at h3
    refine ⟨os, QR.mono ⟨fun _ _ _ => rfl, Nat.le_refl _, fun b _ hb => ?_⟩ q h4, h3.weak (List.Sublist.refl _) (List.sublist_append_left _ _) fun _ h => h⟩
    rcases hb with hb | hb | hb
    · exact .inl hb
    · exact .inr (.inl hb)
    · exact .inr (.inr (hsub b hb).mem)
  | [], h, _ => exact h.elim
  | _ :: _ :: _, h, _ => exact h.elim
theorem yah {V W : World} {U0 : Nat → Prop} {L : List Nat} {rw : List RS} {ts : List PV} {pb : PBs} {xs : List XV} {bx : List Box} {π : Nat → Option Nat} {A : Asg} {goal : Prop} (H : Rep V U0 L rw ts pb xs bx W π A) (hπ : ∀ (i q : Nat), π i = some q → π i = some q) :
    ∀ {Bs : List LB} {n : Nat} {K : List PV → Prop}, lendK Bs n pb K → (∀ i, i < n + Bs.length → π i = some i) →
      (∀ (ps : List PV) (uss : List (List XV)), K ps → uss.length = Bs.length → (∀ (i : Nat) (us : List XV), uss[i]? = some us → ∃ x B, bx[n + i]? = some x ∧ Bs[i]? = some B ∧ x.ty = B.ty ∧ x.cells = us) →
        PVsH (UU U0 bx rw A) W (blks bx) π rw A ps (uss.map .agg) → goal) → goal
  | [], n, K, h, _, m => m [] [] h rfl (by simp) (by simp [PVsH])
  | B :: Bs, n, K, h, hi, m => by
    obtain ⟨x, hx, hty, h⟩ := zgn h
    obtain ⟨q, y, h1, h2, h3, h4⟩ := H.pb.at_ n x hx
    rw [hi n (by simp)] at h1; cases h1
    refine yah (Bs := Bs) H hπ h (fun i h' => hi i (by simp; omega)) fun ps uss h hl hall hps => m (.agg x.cells :: ps) (y.cells :: uss) h (by simp [hl]) (fun i us hus => ?_) (by
      simp only [List.map_cons, PVsH]; exact ⟨_, _, rfl, (by simp only [PV.h]; exact ⟨_, rfl, h4⟩), hps⟩)
    cases i with
    | zero => simp at hus; subst hus; exact ⟨y, B, by simpa using h2, rfl, h3.trans hty, rfl⟩
    | succ i =>
      obtain ⟨x', B', g1, g2, g3, g4⟩ := hall i us (by simpa using hus)
      exact ⟨x', B', by rw [← g1]; congr 1; omega, by simpa using g2, g3, g4⟩
theorem zyq : ∀ {bl : List Nat} {Bs : List LB} {uss : List (List Value)} {i b : Nat} {B : LB} {us : List Value}, bl[i]? = some b → Bs[i]? = some B → uss[i]? = some us → (zca bl Bs uss)[i]? = some ⟨b, B.ty, injL us⟩
  | b :: bl, B :: Bs, us :: uss, 0, _, _, _, h1, h2, h3 => by simp at h1 h2 h3; subst h1; subst h2; subst h3; rfl
  | b :: bl, B :: Bs, us :: uss, i + 1, _, _, _, h1, h2, h3 => by simpa [zca] using zyq (i := i) (by simpa using h1) (by simpa using h2) (by simpa using h3)
  | [], _, _, i, _, _, _, h1, _, _ => by simp at h1
  | _ :: _, [], _, i, _, _, _, _, h2, _ => by simp at h2
  | _ :: _, _ :: _, [], i, _, _, _, _, _, h3 => by simp at h3
theorem yay : ∀ {bl : List Nat} {Bs : List LB} {uss : List (List Value)} {bs : List Nat}, ∀ x ∈ zca bl Bs uss, wfL bs x.cells
  | b :: bl, B :: Bs, us :: uss, bs, x, hx => by
    rcases List.mem_cons.1 hx with rfl | hx
    · exact ybi _ _
    · exact yay x hx
  | [], _, _, _, x, hx => by simp [zca] at hx
  | _ :: _, [], _, _, x, hx => by simp [zca] at hx
  | _ :: _, _ :: _, [], _, x, hx => by simp [zca] at hx
theorem aggQ_h {U : Nat → Prop} {w : World} : ∀ {Bs : List LB} {uss : List (List XV)} {os : List Own}, QRsH U w (aggQ Bs) (denL (uss.map .agg)) os → ∃ oss : List (List Own), os = oss.flatten ∧ lbH U w Bs (uss.map denL) oss
  | [], uss, os, h => by
    simp only [aggQ, QRsH] at h
    obtain ⟨h1, rfl⟩ := h
    cases uss with
    | nil => exact ⟨[], rfl, rfl, rfl⟩
    | cons _ _ => simp [denL] at h1
  | B :: Bs, uss, os, h => by
    simp only [aggQ, QRsH] at h
    obtain ⟨u, us', o1, o2, h1, rfl, h2, h3⟩ := h
    cases uss with
    | nil => simp [denL] at h1
    | cons us uss =>
      simp only [List.map_cons, denL, List.cons.injEq] at h1
      obtain ⟨rfl, rfl⟩ := h1
      simp only [QR.h, XV.den, Value.agg.injEq] at h2
      obtain ⟨vs, hvs, h2⟩ := h2
      obtain ⟨oss, rfl, h4⟩ := aggQ_h h3
      refine ⟨o1 :: oss, rfl, denL us, uss.map denL, o1, oss, rfl, rfl, ?_, h4⟩
      rw [← hvs] at h2
      simpa using h2
theorem ylb {U : Nat → Prop} {w : World} : ∀ {bl : List Nat} {Bs : List LB} {uss : List (List XV)}, bl.length = Bs.length → uss.length = Bs.length → (∀ (i : Nat) (us : List XV) (b : Nat) (B : LB), uss[i]? = some us → bl[i]? = some b → Bs[i]? = some B → w.heap[b]? = some (.cells (denL us).toArray B.ty (0, 0))) →
    ∀ o ∈ objs bl Bs (uss.map denL), o.h U w
  | [], [], [], _, _, _, o, ho => by simp [objs] at ho
  | b :: bl, B :: Bs, us :: uss, h1, h2, h, o, ho => by
    simp only [List.map_cons, objs] at ho
    rcases List.mem_cons.1 ho with rfl | ho
    · exact h 0 us b B rfl rfl rfl
    · exact ylb (by simpa using h1) (by simpa using h2) (fun i us b B g1 g2 g3 => h (i + 1) us b B (by simpa using g1) (by simpa using g2) (by simpa using g3)) o ho
  | [], _ :: _, _, h, _, _, _, _ => by simp at h
  | _ :: _, [], _, h, _, _, _, _ => by simp at h
  | _ :: _, _ :: _, [], _, h, _, _, _ => by simp at h
  | [], [], _ :: _, _, h, _, _, _ => by simp at h
theorem znd {U U' : Nat → Prop} {w w' : World} (l : Later U U' w w') : ∀ {Bs : List LB} {uss : List (List Value)} {oss : List (List Own)}, lbH U w Bs uss oss → lbH U' w' Bs uss oss
  | [], uss, oss, h => h
  | B :: Bs, uss, oss, h => by
    obtain ⟨us, uss', os, oss', rfl, rfl, h1, h2⟩ := h
    exact ⟨us, uss', os, oss', rfl, rfl, zid l _ h1, znd l h2⟩
theorem zqv {U U' : Nat → Prop} {w w' : World} {bl : List Nat} (l : Later U U' w w') : ∀ {las : List LA} {vs : List Value} {ars : List Own}, laH U w bl las vs ars → laH U' w' bl las vs ars
  | [], vs, _, h => h
  | .r q :: las, vs, _, h => by
    obtain ⟨v, vs', rfl, h1, h2⟩ := h
    exact ⟨v, vs', rfl, R.mono l _ h1, zqv l h2⟩
  | .ptr i :: las, vs, _, h => by
    obtain ⟨b, vs', h0, rfl, h2⟩ := h
    exact ⟨b, vs', h0, rfl, zqv l h2⟩
  | .fn g is :: las, vs, _, h => by
    obtain ⟨cs, vs', h0, rfl, h2⟩ := h
    exact ⟨cs, vs', h0, rfl, zqv l h2⟩
  | .row e k els :: las, vs, _, h => by
    obtain ⟨v, vs', o, ars', rfl, rfl, h1, h2⟩ := h
    exact ⟨v, vs', o, ars', rfl, rfl, QR.mono l _ h1, zqv l h2⟩
theorem ctl_start {P : Program} {T : List TI} {LK : List (Nat × List Nat)} {C : Specs} {O : Trees} (cs : List Nat) (hT : zba P T) (hC : zds P C) (hm : P.follows .mixedOrders = true) {f : FuncId} {fn : Func} {c : Code} {las : List LA} {Bs Bs' : List LB} {lq : LQ}
    (hf : P.funcs[f]? = some fn) (hb : fn.body = some c) (hn : (fn.name == "runtime.NumGoroutine") = false) (hl : zcx (cuts cs) c = true) (hfl : flatLA las) (hcq : ∀ B ∈ Bs, ∀ q ∈ B.cells, cellQ q) (hlen : Bs'.length = Bs.length)
    (h : lbK Bs [] [] fun pb rw => laK las rw fun ps rw => initP ps fn.ntmps fun ts => pv T LK C O cs 0 c (retPL T fn.results.toList lq Bs') ts pb rw) : CtL P f las Bs lq Bs' := by
  intro U w vs bl uss oss ars hbl HC hnU hlb hla
  obtain ⟨hul, hol⟩ := yio hlb
  obtain ⟨o0, ho0⟩ : ∃ o0, o0 = oss.flatten ++ ars := ⟨_, rfl⟩
  rw [← ho0] at HC hnU hlb hla ⊢
  have hblk : blks (zca bl Bs uss) = bl := zuf hbl hul
  have hob : ownBl (objs bl Bs uss) = bl := zxe hbl hul
  have eU : Us U [] (objs bl Bs uss ++ o0) = Us U (blks (zca bl Bs uss)) (o0 ++ ownsOf [] 0 fun _ => (none, 0)) := by
    funext b; simp [Us, zac, hob, hblk, ownsOf]
  have HC1 : Ctx w U (bl ++ ownBl o0) bl o0 [] w := HC.reown (by rw [zac, hob]; simp) (fun b hb => .inr (List.mem_append.2 (.inl hb))) (fun b hb => .inr (List.mem_append.2 (.inr hb))) fun U' l o ho => o.mono (HC.own o (List.mem_append.2 (.inr ho))) l fun _ _ => rfl
  have hTk : Tk 0 w U (bl ++ ownBl o0) (zca bl Bs uss) w (Us U (blks (zca bl Bs uss)) (o0 ++ ownsOf [] 0 fun _ => (none, 0))) o0 [] (fun _ => (none, 0)) :=
    ⟨by rw [hblk]; simpa [ownsOf] using HC1, rfl, by intro j e k els _ h; simp at h, fun b hb => hnU b (List.mem_append.2 (.inr hb))⟩
  rw [eU] at hlb hla
  let π : Nat → Option Nat := fun i => if i < bl.length then some i else none
  have hπ : ∀ (i b : Nat), bl[i]? = some b → π i = some i := fun i b hb => by simp only [π]; rw [if_pos (List.getElem?_eq_some_iff.1 hb).1]
  have hπ' : ∀ i q, π i = some q → i = q ∧ q < bl.length := fun i q hq => by simp only [π] at hq; split at hq <;> simp_all
  refine ylk (π := π) (o2 := ars) h hcq hlb (by rw [← ho0]; exact hTk) fun l rw0 A0 h hl0 hT1 _ hall0 => ?_
  refine zqu (π := π) (o2 := []) hblk hπ h hfl hla (by rw [List.append_nil]; exact hT1) fun ps zs rw A h hz hwz hT2 m2 hps => ?_
  have hall : ∀ (i : Nat) (p : Option PBox), l[i]? = some p → ∃ x B us, p = some x ∧ Bs[i]? = some B ∧ uss[i]? = some us ∧ x.ty = B.ty ∧ PVsH (Us U (blks (zca bl Bs uss)) (o0 ++ ownsOf [] 0 fun _ => (none, 0))) w (blks (zca bl Bs uss)) π rw A x.cells (injL us) := fun i p hp => by
    obtain ⟨x, B, us, h1, h2, h3, h4, h5⟩ := hall0 i p hp
    exact ⟨x, B, us, h1, h2, h3, h4, zbr m2.sub h5⟩
  have eU2 : UU U (zca bl Bs uss) rw A = Us U (blks (zca bl Bs uss)) (o0 ++ ownsOf [] 0 fun _ => (none, 0)) := by have := hT2.u; rwa [List.nil_append] at this
  rw [← eU2] at hps hall
  have hnd : (blks (zca bl Bs uss)).Nodup := by rw [hblk]; exact (List.nodup_append.1 HC1.nd).1
  refine yeg (D := drawT P T O) (A := cuts cs) (W := w) (bx := zca bl Bs uss) hT (yeb hT hm O) hf hb hn hl zs (by rw [hz]) hwz (fun x hx => yay x hx) hnd
    ⟨rfl, rfl, rfl, Nat.le_refl _, fun _ _ _ => rfl, zyp fun o ho => HC.own o (List.mem_append.2 (.inl ho))⟩ ?_
  refine zsy h hps fun ts xs h hts => ?_
  have hll : l.length = bl.length := by rw [hl0, hbl]
  have HR : Rep w U (bl ++ ownBl o0) rw ts ([] ++ l) xs (zca bl Bs uss) w π A := by
    refine ⟨by simpa using hT2.c, hts, ⟨fun i p hp => ?_, fun i j q hi hj => ?_, fun i q hi => ?_, fun q x hx => ?_⟩⟩
    · rw [List.nil_append] at hp
      obtain ⟨x, B, us, h1, h2, h3, h4, h5⟩ := hall i _ hp
      simp only [Option.some.injEq] at h1; subst h1
      have hi : i < bl.length := by rw [← hll]; exact (List.getElem?_eq_some_iff.1 hp).1
      exact ⟨i, _, hπ i _ (List.getElem?_eq_getElem hi), zyq (List.getElem?_eq_getElem hi) h2 h3, h4.symm, h5⟩
    · obtain ⟨h1, _⟩ := hπ' i q hi; obtain ⟨h2, _⟩ := hπ' j q hj; omega
    · obtain ⟨rfl, h1⟩ := hπ' i q hi
      have hi : i < l.length := by rw [hll]; exact h1
      obtain ⟨x, B, us, h1, _⟩ := hall i _ (List.getElem?_eq_getElem hi)
      exact ⟨x, by rw [List.nil_append, List.getElem?_eq_getElem hi, h1]⟩
    · have : q < bl.length := by
        have h1 := (List.getElem?_eq_some_iff.1 hx).1
        have h2 := congrArg List.length hblk
        simp only [blks, List.length_map] at h2; omega
      exact ⟨q, hπ q _ (List.getElem?_eq_getElem this)⟩
  have HS : StB 0 (zca bl Bs uss) π w U (bl ++ ownBl o0) rw ts ([] ++ l) xs (zca bl Bs uss) w π A :=
    StB.mk' HR hT2.low (fun i q hi => by obtain ⟨rfl, h1⟩ := hπ' i q hi; simp; omega) (fun _ _ h => h) (fun i x hx => ⟨x, hx, rfl, rfl⟩) ⟨[], by simp⟩
  have fin : ∀ {rw2 : List RS} {ts2 : List PV} {pb2 : PBs} {xs2 : List XV} {bx2 : List Box} {W2 : World} {π2 : Nat → Option Nat} {A2 : Asg} {ps2 : List PV} {zs2 : List XV}, StB 0 (zca bl Bs uss) π w U (bl ++ ownBl o0) rw2 ts2 pb2 xs2 bx2 W2 π2 A2 →
      PVsH (UU U bx2 rw2 A2) W2 (blks bx2) π2 rw2 A2 ps2 zs2 → endL lq Bs' (oneP' ps2) ts2 pb2 rw2 → ∀ w2, Sync bx2 W2 w2 → ∃ uss' oss' os, Ctx w U (bl ++ ownBl o0) [] (objs bl Bs' uss' ++ (os ++ oss'.flatten)) [] w2 ∧
        lbH (Us U [] (objs bl Bs' uss' ++ (os ++ oss'.flatten))) w2 Bs' uss' oss' ∧ lqH (Us U [] (objs bl Bs' uss' ++ (os ++ oss'.flatten))) w2 bl lq (oneRes zs2).den os := by
    intro rw2 ts2 pb2 xs2 bx2 W2 π2 A2 ps2 zs2 H2 hps2 he w2 hs2
    obtain ⟨l2, hl2, _⟩ := H2.pre
    rw [hblk] at hl2
    unfold endL at he
    refine yah H2.rep (fun _ _ h => h) he (fun i hi => H2.px i i (hπ i _ (List.getElem?_eq_getElem (by rw [hbl, ← hlen]; omega)))) fun pcs usx he hux hux2 hpcs => ?_
    have hobj : ∀ o ∈ objs bl Bs' (usx.map denL), ∀ U', o.h U' w2 := by
      intro o ho U'
      refine ylb (by rw [hbl, hlen]) hux (fun i us b B g1 g2 g3 => ?_) o ho
      obtain ⟨x, B', k1, k2, k3, k4⟩ := hux2 i us g1
      rw [Nat.zero_add] at k1
      rw [g3] at k2; simp only [Option.some.injEq] at k2; subst k2
      have hxb : x.blk = b := by
        have h1 : (blks bx2)[i]? = some x.blk := by simp [blks, k1]
        rw [hl2, List.getElem?_append_left (List.getElem?_eq_some_iff.1 g2).1, g2] at h1
        simpa using h1.symm
      have := hs2.own x (List.mem_of_getElem? k1)
      rw [hxb, k4, k3] at this; exact this
    have key : ∀ {q : QR} {p : PV} {z : XV} (xo : List Own), (∀ o ∈ xo, ∀ U', o.h U' w2) → (bl ++ ownBl xo).Sublist (blks bx2) → p.h (UU U bx2 rw2 A2) W2 (blks bx2) π2 rw2 A2 z → endP 0 q p ts2 pb2 rw2 →
        ∃ os, q.h (Us U (blks bx2) os) w2 z.den os ∧ Ctx w U (bl ++ ownBl o0) [] (objs bl Bs' (usx.map denL) ++ (xo ++ os)) [] w2 ∧ Later (Us U (blks bx2) os) (Us U [] (objs bl Bs' (usx.map denL) ++ (xo ++ os))) w2 w2 := by
      intro q p z xo hxo hsl hp he
      obtain ⟨os, h1, h2⟩ := endP_L H2 hs2 hp he
      have hob' : ownBl (objs bl Bs' (usx.map denL)) = bl := zxe (by rw [hbl, hlen]) (by simpa using hux)
      have hbs : Ctx w U (bl ++ ownBl o0) (bl ++ ownBl xo) os [] w2 := h2.weak hsl (List.Sublist.refl _) fun _ h => h
      refine ⟨os, h1, hbs.reown (by rw [zac, zac, hob']; simp) (by simp) (fun b hb => ?_) fun U' lt o ho => ?_, ⟨fun _ _ _ => rfl, Nat.le_refl _, fun b _ hb => ?_⟩⟩
      · rw [zac, zac, hob', ← List.append_assoc] at hb
        rcases List.mem_append.1 hb with hb | hb
        · exact hbs.low b hb
        · exact hbs.lowo b hb
      · rcases List.mem_append.1 ho with ho | ho
        · exact hobj o ho U'
        · rcases List.mem_append.1 ho with ho | ho
          · exact hxo o ho U'
          · exact o.mono (hbs.own o ho) lt fun _ _ => rfl
      · rcases hb with hb | hb | hb
        · exact .inl hb
        · simp at hb
        · rw [zac, zac, hob', ← List.append_assoc] at hb
          rcases List.mem_append.1 hb with hb | hb
          · exact .inr (.inl (hsl.subset hb))
          · exact .inr (.inr hb)
    have hsl0 : (bl ++ ownBl []).Sublist (blks bx2) := by simp only [ownBl, List.append_nil]; rw [hl2]; exact List.sublist_append_left _ _
    cases lq with
    | q q =>
      simp only at he
      obtain ⟨os, h1, h2, lt⟩ := key (z := .tup (oneRes zs2 :: usx.map .agg)) [] (by simp) hsl0 (by simp only [PV.h]; exact ⟨_, rfl, by simp only [PVsH]; exact ⟨_, _, rfl, zqm hps2, hpcs⟩⟩) he
      simp only [QR.h, XV.den, Value.tuple.injEq] at h1
      obtain ⟨vs', hvs, h1⟩ := h1
      rw [← hvs] at h1
      simp only [denL, QRsH] at h1
      obtain ⟨u, us', o1, o2, he1, rfl, h3, h4⟩ := h1
      simp only [List.cons.injEq] at he1
      obtain ⟨rfl, rfl⟩ := he1
      obtain ⟨oss', rfl, h5⟩ := aggQ_h h4
      exact ⟨usx.map denL, oss', o1, h2, znd lt h5, QR.mono lt q h3⟩
    | ptr i =>
      simp only at he
      obtain ⟨hpi, hi, he⟩ := he
      obtain ⟨os, h1, h2, lt⟩ := key (z := .tup (usx.map .agg)) [] (by simp) hsl0 (by simp only [PV.h]; exact ⟨_, rfl, hpcs⟩) he
      simp only [QR.h, XV.den, Value.tuple.injEq] at h1
      obtain ⟨vs', hvs, h1⟩ := h1
      rw [← hvs] at h1
      obtain ⟨oss', rfl, h5⟩ := aggQ_h (by simpa using h1)
      refine ⟨usx.map denL, oss', [], by simpa using h2, by simpa using znd lt h5, rfl, ?_⟩
      have h6 := zqm hps2
      rw [hpi] at h6
      simp only [PV.h] at h6
      obtain ⟨q, b, hq, hb, hz2⟩ := h6
      have hib : i < bl.length := by rw [hbl, ← hlen]; exact hi
      have := H2.px i i (hπ i _ (List.getElem?_eq_getElem hib))
      rw [this] at hq; cases hq
      rw [hl2, List.getElem?_append_left hib] at hb
      exact ⟨b, hb, by rw [hz2]; rfl⟩
    | obj B =>
      simp only at he
      have h6 := zqm hps2
      cases hp : oneP' ps2 with
      | own i o =>
        rw [hp] at he h6
        simp only at he
        obtain ⟨rfl, hi, he⟩ := he
        obtain ⟨x, hx, hty, he⟩ := zgn he
        obtain ⟨q, y, g1, g2, g3, g4⟩ := H2.rep.pb.at_ i x hx
        simp only [PV.h] at h6
        obtain ⟨q', b, hq, hb, hz2⟩ := h6
        rw [g1] at hq; cases hq
        have hyb : y.blk = b := by have h1 : (blks bx2)[q]? = some y.blk := by simp [blks, g2]
                                   rw [hb] at h1; simpa using h1.symm
        have hqn : bl.length ≤ q := by
          rcases Nat.lt_or_ge q bl.length with h' | h'
          · have := H2.px q q (hπ q _ (List.getElem?_eq_getElem h'))
            have := H2.rep.pb.inj i q q g1 this
            subst this
            rw [hlen, ← hbl] at hi; omega
          · exact h'
        have hsl : (bl ++ ownBl [Own.obj b B.ty (denL y.cells)]).Sublist (blks bx2) := by
          rw [hl2]
          refine List.Sublist.append (List.Sublist.refl _) ?_
          simp only [ownBl, Own.obj, List.append_nil, List.singleton_sublist]
          rw [hl2, List.getElem?_append_right hqn] at hb
          exact List.mem_of_getElem? hb
        have hob2 : ∀ o ∈ [Own.obj b B.ty (denL y.cells)], ∀ U', o.h U' w2 := by
          intro o ho U'
          simp only [List.mem_singleton] at ho; subst ho
          have := hs2.own y (List.mem_of_getElem? g2)
          show w2.heap[b]? = some (.cells (denL y.cells).toArray B.ty (0, 0))
          rw [← hyb, ← hty, ← g3]; exact this
        obtain ⟨os, h1, h2, lt⟩ := key (z := .tup (.agg y.cells :: usx.map .agg)) _ hob2 hsl (by simp only [PV.h]; exact ⟨_, rfl, by simp only [PVsH]; exact ⟨_, _, rfl, (by simp only [PV.h]; exact ⟨_, rfl, g4⟩), hpcs⟩⟩) he
        simp only [QR.h, XV.den, Value.tuple.injEq] at h1
        obtain ⟨vs', hvs, h1⟩ := h1
        rw [← hvs] at h1
        simp only [denL, QRsH] at h1
        obtain ⟨u, us', o1, o2, he1, rfl, h3, h4⟩ := h1
        simp only [List.cons.injEq] at he1
        obtain ⟨rfl, rfl⟩ := he1
        obtain ⟨oss', rfl, h5⟩ := aggQ_h h4
        simp only [QR.h, XV.den, Value.agg.injEq] at h3
        obtain ⟨us2, hus2, h3⟩ := h3
        have hus2 : denL y.cells = us2.toList := by rw [← hus2]
        rw [← hus2] at h3
        have ea : [Own.obj b B.ty (denL y.cells)] ++ (o1 ++ oss'.flatten) = ([Own.obj b B.ty (denL y.cells)] ++ o1) ++ oss'.flatten := (List.append_assoc _ _ _).symm
        rw [ea] at h2 lt
        exact ⟨usx.map denL, oss', [Own.obj b B.ty (denL y.cells)] ++ o1, h2, znd lt h5, b, denL y.cells, o1, by rw [hz2]; rfl, rfl, zid lt _ h3⟩
      | _ => rw [hp] at he; exact he.elim
  refine pv_then hT hC c (fun e ts2 pb2 rw2 xs2 bx2 W2 π2 A2 h2 H2 => ?_) h HS
  cases e <;> simp only [retPL] at h2
  case normal => exact zhk H2 h2 fun ps3 zs3 h3 hps3 w3 hs3 => fin H2 hps3 h3 w3 hs3
  case ret => exact zhk H2 h2 fun ps3 zs3 h3 hps3 w3 hs3 => fin H2 hps3 h3 w3 hs3
end Go.Vc
namespace Go.Vc
open Go Go.RowKit
def ptrsOk(ids:List Nat):List PV→List Nat→Prop
 |[],is=>match is with|[]=>True|_=>False
 |p::ps,is=>match is with
  |k::is=>(match p with | .own i o=>o=0∧ids[k]?=some i|_=>False)∧ptrsOk ids ps is
  |[]=>False
def laOk(ids:List Nat):List PV→List LA→Prop
 |[],las=>match las with|[]=>True|_=>False
 |p::ps,las=>match las with
  | .r q::las=>argOk p q∧laOk ids ps las
  | .ptr k::las=>(match p with | .own i o=>o=0∧ids[k]?=some i|_=>False)∧laOk ids ps las
  | .fn g is::las=>(match p with | .fn g' cs=>g'=g∧ptrsOk ids cs is|_=>False)∧laOk ids ps las
  | .row _ _ _::las=>laOk ids ps las
  |[]=>False
def rowQs:List LA→List QR
 |[]=>[]
 | .row e k els::las=>.own e k els::rowQs las
 |_::las=>rowQs las
def rowPs:List LA→List PV→List PV
 |[],_=>[]
 | .row _ _ _::las,ps=>match ps with|p::ps=>p::rowPs las ps|[]=>[]
 |_::las,ps=>match ps with|_::ps=>rowPs las ps|[]=>[]
def rowXs:List LA→List XV→List XV
 |[],_=>[]
 | .row _ _ _::las,ps=>match ps with|p::ps=>p::rowXs las ps|[]=>[]
 |_::las,ps=>match ps with|_::ps=>rowXs las ps|[]=>[]
def lgetK:List LB→List Nat→PBs→(List PV→Prop)→Prop
 |[],ids,_,K=>match ids with|[]=>K []|_=>False
 |B::Bs,ids,pb,K=>match ids with
  |i::ids=>pbK pb i fun x=>x.ty=B.ty∧lgetK Bs ids pb fun ps=>K (.agg x.cells::ps)
  |[]=>False
def fill1(p:PV)(q:QR)(rw:List RS)(K:PV→List RS→Prop):Prop:=
 match q with
 | .r q=>r2pK q fun p'=>K p' rw
 | .own e k els=>match p with
  | .row j=>rw[j]?=some .dead∧setRS rw j (.own e k els) fun rw=>K (.row j) rw
  |_=>pushK rw (.own e k els) fun rw'=>litK rw.length fun n=>K (.row n) rw'
 |_=>False
def fillQ:List QR→List PV→List RS→(List PV→List RS→Prop)→Prop
 |[],ps,rw,K=>match ps with|[]=>K [] rw|_=>False
 |q::qs,ps,rw,K=>match ps with
  |p::ps=>fill1 p q rw fun p' rw=>fillQ qs ps rw fun ps' rw=>K (p'::ps') rw
  |[]=>False
def fillB:List LB→List Nat→List PV→PBs→List RS→(PBs→List RS→Prop)→Prop
 |[],_,_,pb,rw,K=>K pb rw
 |B::Bs,ids,olds,pb,rw,K=>match ids,olds with
  |i::ids,.agg cs::olds=>fillQ B.cells cs rw fun cs' rw=>pbK pb i fun x=>setPBK pb i (some ⟨x.ty,cs'⟩) fun pb=>fillB Bs ids olds pb rw K
  |_,_=>False
def qFill(ps:List PV)(q:QR)(rw:List RS)(K:PV→List RS→Prop):Prop:=
 match ps with
 |p::_=>match p with
  | .row j=>match q with | .own e k els=>fill1 (.row j) (.own e k els) rw K|q=>qK q rw K
  |_=>qK q rw K
 |[]=>qK q rw K
def lentS(X:Type)(las:X→List LA)(Bs:X→List LB)(pre:X→Prop)(lq:X→LQ)(Bs':X→List LB):Spec:=fun nl args pb rw K=>
 nl=0∧∃(x:X) (ids:List Nat),ids.Nodup∧(∀i∈ids,PV.own i 0∈zaz args)∧laOk ids args (las x)∧pre x∧lgetK (Bs x) ids pb fun olds=>qOkL (aggQ (Bs x)) olds rw fun rw0=>qOkL (rowQs (las x)) (rowPs (las x) args) rw0 fun rw1=>
  subBK (lentF (lentR pb (zaz args))) pb fun pb1=>fillB (Bs' x) ids olds pb1 rw1 fun pb2 rw2=>match lq x with
   | .q q=>qFill (rowPs (las x) args) q rw2 fun p rw3=>K p pb2 rw3
   | .ptr k=>∃i,ids[k]?=some i∧K (.own i 0) pb2 rw2
   | .obj B=>q0LK B.cells rw2 fun ps rw3=>pushK pb2 (some ⟨B.ty,ps⟩) fun pb3=>litK pb2.length fun n=>K (.own n 0) pb3 rw3
theorem zxb:∀{rw:List RS} {j:Nat} (n:Nat) (A:Asg) (v:Option Addr×Nat) (e k:Nat) (els:List (List R)),rw[j]?=some .dead→
  ∃P Q,ownsOf rw n A=P++Q∧ownsOf (rw.set j (.own e k els)) n (upd A (n+j) v)=P++Own.row e k v.1 v.2 els::Q
 |[],j,n,A,v,e,k,els,h=>by simp at h
 |r::rs,0,n,A,v,e,k,els,h=>by
  simp at h; subst h
  refine⟨[],ownsOf rs (n+1) A,rfl,?_⟩
  simp only[List.set_cons_zero,ownsOf,Nat.add_zero,upd_eq,List.nil_append]
  rw[zfj (n:=n+1) (A:=upd A n v) (A':=A) fun i hi=>upd_ne A v (by omega)]
 |r::rs,j+1,n,A,v,e,k,els,h=>by
  obtain⟨P,Q,h1,h2⟩:=zxb (rw:=rs) (j:=j) (n+1) A v e k els (by simpa using h)
  rw[show n+1+j=n+(j+1) by omega]at h2
  cases r with
  |own e0 k0 els0=>
   refine⟨Own.row e0 k0 (A n).1 (A n).2 els0::P,Q,by simp only[ownsOf,h1,List.cons_append],?_⟩
   simp only[List.set_cons_succ,ownsOf,h2,List.cons_append]
   rw[upd_ne A v (by omega:n≠n+(j+1))]
  |ob o=>
   refine⟨Own.ob (A n).1 o::P,Q,by simp only[ownsOf,h1,List.cons_append],?_⟩
   simp only[List.set_cons_succ,ownsOf,h2,List.cons_append]
   rw[upd_ne A v (by omega:n≠n+(j+1))]
  |dead=>exact⟨P,Q,by simp only[ownsOf,h1],by simp only[List.set_cons_succ,ownsOf,h2]⟩
section
variable {nl:Nat} {V W w:World} {U0:Nat→Prop} {L:List Nat} {rw:List RS} {bx:List Box} {π:Nat→Option Nat} {A:Asg}
theorem Tk.fill{U:Nat→Prop}{os:List Own}{e k c j:Nat}{a:Option Addr}{els:List (List R)}(H:Tk nl V U0 L bx W U (Own.row e k a c els::os) rw A)(hj:rw[j]?=some .dead):
  Tk nl V U0 L bx W U os (rw.set j (.own e k els)) (upd A j (a,c))∧More rw A (rw.set j (.own e k els)) (upd A j (a,c)):=by
 obtain⟨P,Q,h1,h2⟩:=zxb 0 A (a,c) e k els hj
 rw[Nat.zero_add]at h2
 have hperm:List.Perm (Own.row e k a c els::os++ownsOf rw 0 A) (os++ownsOf (rw.set j (.own e k els)) 0 (upd A j (a,c))):=by
  rw[h1,h2,List.cons_append]
  refine List.Perm.trans ?_ (List.Perm.append_left os (List.perm_middle (a:=Own.row e k a c els) (l₁:=P) (l₂:=Q)).symm)
  exact(List.perm_middle (a:=Own.row e k a c els) (l₁:=os) (l₂:=P++Q)).symm
 refine⟨⟨H.c.perm hperm,?_,fun i e' k' els' hi hr=>?_,fun b hb=>H.new b (by simp only[ownBl]; exact List.mem_append.2 (.inr hb))⟩,⟨fun i e' k' els' hi=>?_,fun i o hi=>?_⟩⟩
 ·rw[←H.u]
  funext b
  have:=(zsn hperm).mem_iff (a:=b)
  simp only[Us]
  rw[this]
 ·by_cases hij:i=j
  ·subst hij; rw[upd_eq]; exact fun b hb=>H.new b (by simp only[ownBl,Own.row]; exact List.mem_append.2 (.inl hb))
  ·rw[List.getElem?_set_ne (Ne.symm hij)]at hr; rw[upd_ne _ _ hij]; exact H.low i e' k' els' hi hr
 ·have hij:i≠j:=fun he=>by subst he; rw[hj]at hi; cases hi
  exact⟨by rw[List.getElem?_set_ne (Ne.symm hij)]; exact hi,upd_ne _ _ hij⟩
 ·have hij:i≠j:=fun he=>by subst he; rw[hj]at hi; cases hi
  exact⟨⟨o,by rw[List.getElem?_set_ne (Ne.symm hij)]; exact hi⟩,upd_ne _ _ hij⟩
theorem yas{U:Nat→Prop}{p:PV}{q:QR}{u:Value}{o1 o2:List Own}{K:PV→List RS→Prop}{goal:Prop}(h:fill1 p q rw K)(hq:cellQ q)(hu:q.h U W u o1)(H:Tk nl V U0 L bx W U (o1++o2) rw A)
  (m:∀p rw' A',K p rw'→Tk nl V U0 L bx W U o2 rw' A'→More rw A rw' A'→p.h U W (blks bx) π rw' A' (inj0 u)→goal):goal:=by
 cases q with
 |r q=>exact ycp (π:=π) (q:=.r q) h hq hu H m
 |own e k els=>
  simp only[fill1]at h
  split at h
  ·rename_i j
   obtain⟨hd,h⟩:=h
   rw[zbv]at h
   simp only[QR.h]at hu
   obtain⟨a,c,rfl,rfl⟩:=hu
   obtain⟨H',hm⟩:=Tk.fill (os:=o2) (by simpa using H) hd
   exact m _ _ _ h H' hm (by simp only[PV.h]; exact⟨e,k,els,by simp[(List.getElem?_eq_some_iff.1 hd).1],by rw[upd_eq]; rfl⟩)
  ·exact ycp (π:=π) (q:=.own e k els) h hq hu H m
 |_=>exact hq.elim
theorem yao{U:Nat→Prop}:∀{qs:List QR} {ps:List PV} {us:List Value} {rw:List RS} {A:Asg} {o1 o2:List Own} {K:List PV→List RS→Prop} {goal:Prop},fillQ qs ps rw K→(∀q∈qs,cellQ q)→QRsH U W qs us o1→Tk nl V U0 L bx W U (o1++o2) rw A→
  (∀ps rw' A',K ps rw'→Tk nl V U0 L bx W U o2 rw' A'→More rw A rw' A'→PVsH U W (blks bx) π rw' A' ps (injL us)→goal)→goal
 |[],ps,us,rw,A,o1,o2,K,goal,h,_,hu,H,m=>by
  simp only[QRsH]at hu; obtain⟨rfl,rfl⟩:=hu
  simp only[fillQ]at h
  cases ps with
  |nil=>exact m [] rw A h (by simpa using H) (More.refl _ _) (by simp[PVsH,injL])
  |cons _ _=>exact h.elim
 |q::qs,ps,us,rw,A,o1,o2,K,goal,h,hq,hu,H,m=>by
  simp only[QRsH]at hu
  obtain⟨u,us',a1,a2,rfl,rfl,h1,h2⟩:=hu
  simp only[fillQ]at h
  cases ps with
  |nil=>exact h.elim
  |cons p ps=>
   refine yas (π:=π) h (hq q (by simp)) h1 (o2:=a2++o2) (by simpa using H) fun p rw1 A1 h H1 m1 hp=>?_
   refine yao h (fun q hq'=>hq q (by simp[hq'])) h2 H1 fun ps rw2 A2 h H2 m2 hps=>?_
   exact m (p::ps) rw2 A2 h H2 (m1.trans m2) (by simp only[PVsH,injL]; exact⟨_,_,rfl,PV.h_mono m2.sub hp,hps⟩)
def lkH(bx0:List Box)(w:World)(π:Nat→Option Nat):List LB→List Nat→List (List Value)→Prop
 |[],_,_=>True
 |B::Bs,ids,uss=>match ids,uss with
  |i::ids,us::uss=>(∃q x,π i=some q∧bx0[q]?=some x∧x.ty=B.ty∧w.heap[x.blk]?=some (.cells us.toArray B.ty (0,0)))∧lkH bx0 w π Bs ids uss
  |_,_=>False
structure SameB(bx bx':List Box):Prop where
 at_:∀(q:Nat) (x':Box),bx'[q]?=some x'→∃x:Box,bx[q]?=some x∧x'.blk=x.blk∧x'.ty=x.ty
 to:∀(q:Nat) (x:Box),bx[q]?=some x→∃x':Box,bx'[q]?=some x'∧x'.blk=x.blk∧x'.ty=x.ty
 blk:blks bx'=blks bx
theorem SameB.refl(bx:List Box):SameB bx bx:=⟨fun _ x h=>⟨x,h,rfl,rfl⟩,fun _ x h=>⟨x,h,rfl,rfl⟩,rfl⟩
theorem SameB.set{bx bx':List Box}(h:SameB bx bx')(q:Nat)(cs:List XV):SameB bx (setBox bx' q cs):=by
 refine⟨fun i x' hi=>?_,fun i x hi=>?_,by rw[zgc,h.blk]⟩
 ·rw[getElem?_setBox]at hi
  split at hi
  ·rename_i hiq; subst hiq
   cases hx:bx'[i]? with
   |none=>rw[hx]at hi; cases hi
   |some y=>rw[hx]at hi; simp at hi; subst hi; exact h.at_ i y hx
  ·exact h.at_ i x' hi
 ·obtain⟨x',h1,h2,h3⟩:=h.to i x hi
  rw[getElem?_setBox]
  split
  ·rename_i hiq; subst hiq; exact⟨{ x' with cells:=cs },by rw[h1]; rfl,h2,h3⟩
  ·exact⟨x',h1,h2,h3⟩
theorem yar{U:Nat→Prop}{o2:List Own}{goal:Prop}:∀{Bs:List LB} {ids:List Nat} {olds:List PV} {pb:PBs} {rw:List RS} {A:Asg} {K:PBs→List RS→Prop} {uss:List (List Value)} {oss:List (List Own)} {bx':List Box},
  fillB Bs ids olds pb rw K→(∀B∈Bs,∀q∈B.cells,cellQ q)→lbH U W Bs uss oss→Tk nl V U0 L bx W U (oss.flatten++o2) rw A→PBsH U W (blks bx) π rw A pb bx'→SameB bx bx'→lkH bx W π Bs ids uss→
  (∀(q:Nat) (x:Box),bx'[q]?=some x→(∃(k i:Nat),k<Bs.length∧ids[k]?=some i∧π i=some q)∨W.heap[x.blk]?=some (.cells (denL x.cells).toArray x.ty (0,0)))→
  (∀(pb':PBs) (rw':List RS) (A':Asg) (bx'':List Box),K pb' rw'→Tk nl V U0 L bx W U o2 rw' A'→More rw A rw' A'→PBsH U W (blks bx) π rw' A' pb' bx''→SameB bx bx''→pb'.length=pb.length→
   (∀(q:Nat) (x:Box),bx''[q]?=some x→W.heap[x.blk]?=some (.cells (denL x.cells).toArray x.ty (0,0)))→(∀(q:Nat),(∀(k i:Nat),k<Bs.length→ids[k]?=some i→π i≠some q)→bx''[q]?=bx'[q]?)→goal)→goal
 |[],ids,olds,pb,rw,A,K,uss,oss,bx',h,_,hl,H,hpb,hsb,_,hs,m=>by
  obtain⟨rfl,rfl⟩:=hl
  exact m pb rw A bx' h (by simpa using H) (More.refl _ _) hpb hsb rfl (fun q x hx=>(hs q x hx).elim (fun ⟨k,_,hk,_⟩=>by simp at hk) id) fun _ _=>rfl
 |B::Bs,ids,olds,pb,rw,A,K,uss,oss,bx',h,hc,hl,H,hpb,hsb,hk,hs,m=>by
  obtain⟨us,uss',os,oss',rfl,rfl,hq,hl⟩:=hl
  simp only[fillB]at h
  cases ids with
  |nil=>exact h.elim
  |cons i ids=>
   match olds,h with
   | .agg cs::olds,h=>
    simp only[lkH]at hk
    obtain⟨⟨q,x,hqi,hx,hty,hheap⟩,hk⟩:=hk
    refine yao (π:=π) h (hc B (by simp)) hq (o2:=oss'.flatten++o2) (by simpa using H) fun ps' rw1 A1 h H1 m1 hps=>?_
    obtain⟨y,hy,h⟩:=zgn h
    rw[zeg]at h
    have hpb1:PBsH U W (blks bx) π rw1 A1 pb bx':=zdp m1.sub (fun _ _ h=>h) hpb
    have hpb2:=ymd hpb1 hy hqi hps
    obtain⟨x',hx',hxb,hxt⟩:=hsb.to q x hx
    refine yar h (fun B hB=>hc B (by simp[hB])) hl H1 hpb2 (hsb.set q _) hk (fun q' z hz=>?_) fun pb3 rw3 A3 bx3 h H3 m3 hpb3 hsb3 hlen hs3 hkeep=>m pb3 rw3 A3 bx3 h H3 (m1.trans m3) hpb3 hsb3 (by rw[hlen,List.length_set]) hs3 fun q' hq'=>?_
    ·rw[getElem?_setBox]at hz
     split at hz
     ·rename_i hqq; subst hqq
      rw[hx']at hz; simp at hz; subst hz
      right
      simp only[zhy]
      rw[hxb,hxt,hty]; exact hheap
     ·rename_i hqq
      rcases hs q' z hz with ⟨k,i',hk1,hk2,hk3⟩|h'
      ·cases k with
       |zero=>simp at hk2; subst hk2; rw[hqi]at hk3; cases hk3; exact(hqq rfl).elim
       |succ k=>exact .inl ⟨k,i',by simpa using hk1,by simpa using hk2,hk3⟩
      ·exact .inr h'
    ·rw[hkeep q' fun k i' hk1 hk2=>hq' (k+1) i' (by simpa using hk1) (by simpa using hk2),getElem?_setBox,if_neg]
     rintro rfl
     exact hq' 0 i (by simp) rfl hqi
theorem zwo:∀{rw:List RS} {j:Nat} {K K':Nat→Nat→List (List R)→Prop},rsK rw j K→(∀e k els,K e k els→K' e k els)→rsK rw j K'
 |[],j,K,K',h,m=>h.elim
 |r::rw,0,K,K',h,m=>by cases r with
  |own e k els=>exact m _ _ _ h
  |ob o=>exact h.elim
  |dead=>exact h.elim
 |r::rw,j+1,K,K',h,m=>zwo (rw:=rw) (j:=j) h m
mutual
theorem PV.rows_acc:(p:PV)→(acc:List Nat)→p.rows acc=p.rows []++acc
 | .row j,acc=>rfl
 | .fn _ cs,acc=>by simp only[PV.rows]; exact zfh cs acc
 | .agg cs,acc=>by simp only[PV.rows]; exact zfh cs acc
 | .tup cs,acc=>by simp only[PV.rows]; exact zfh cs acc
 | .x _,acc=>rfl
 | .sl _ _,acc=>rfl
 | .el _ _,acc=>rfl
 | .re _ _ _,acc=>rfl
 | .rt _ _,acc=>rfl
 | .ob _,acc=>rfl
 | .own _ _,acc=>rfl
 | .junk,acc=>rfl
theorem zfh:(ps:List PV)→(acc:List Nat)→rowsL ps acc=rowsL ps []++acc
 |[],acc=>rfl
 |p::ps,acc=>by simp only[rowsL]; rw[PV.rows_acc p,zfh ps acc,PV.rows_acc p (rowsL ps [])]; simp
end
mutual
theorem qOk_keep:(q:QR)→{p:PV}→{rw:List RS}→{K:List RS→Prop}→qOk q p rw K→qOk q p rw fun rw1=>K rw1∧∀i,i∉p.rows []→rw1[i]?=rw[i]?
 | .r q,p,rw,K,h=>⟨h.1,h.2,fun _ _=>rfl⟩
 | .own e k els,p,rw,K,h=>by
  cases p with
  |row j=>
   refine zwo h fun e' k' els' ⟨h1,h2,h3,h4⟩=>⟨h1,h2,h3,?_⟩
   rw[zbv]at h4 ⊢
   exact⟨h4,fun i hi=>by rw[List.getElem?_set_ne]; intro he; subst he; exact hi (by simp[PV.rows])⟩
  |x y=>exact⟨h.1,h.2.1,h.2.2,fun _ _=>rfl⟩
  |_=>exact h.elim
 | .agg qs,p,rw,K,h=>by
  cases p with
  |agg ps=>exact zle qs h
  |_=>exact h.elim
 | .tup qs,p,rw,K,h=>by
  cases p with
  |tup ps=>exact zle qs h
  |_=>exact h.elim
theorem zle:(qs:List QR)→{ps:List PV}→{rw:List RS}→{K:List RS→Prop}→qOkL qs ps rw K→qOkL qs ps rw fun rw1=>K rw1∧∀i,i∉rowsL ps []→rw1[i]?=rw[i]?
 |[],ps,rw,K,h=>by
  cases ps with
  |nil=>exact⟨h,fun _ _=>rfl⟩
  |cons _ _=>exact h.elim
 |q::qs,ps,rw,K,h=>by
  cases ps with
  |nil=>exact h.elim
  |cons p ps=>
   simp only[qOkL]at h ⊢
   refine ykw q (qOk_keep q h) fun rw1 ⟨h1,h2⟩=>zqg qs (zle qs h1) fun rw2 ⟨h3,h4⟩=>⟨h3,fun i hi=>?_⟩
   simp only[rowsL]at hi
   rw[PV.rows_acc]at hi
   simp only[List.mem_append,not_or]at hi
   rw[h4 i hi.2,h2 i hi.1]
theorem ykw:(q:QR)→{p:PV}→{rw:List RS}→{K K':List RS→Prop}→qOk q p rw K→(∀rw,K rw→K' rw)→qOk q p rw K'
 | .r q,p,rw,K,K',h,m=>⟨h.1,m _ h.2⟩
 | .own e k els,p,rw,K,K',h,m=>by
  cases p with
  |row j=>
   refine zwo h fun e' k' els' ⟨h1,h2,h3,h4⟩=>⟨h1,h2,h3,?_⟩
   rw[zbv]at h4 ⊢
   exact m _ h4
  |x y=>exact⟨h.1,h.2.1,m _ h.2.2⟩
  |_=>exact h.elim
 | .agg qs,p,rw,K,K',h,m=>by
  cases p with
  |agg ps=>exact zqg qs h m
  |_=>exact h.elim
 | .tup qs,p,rw,K,K',h,m=>by
  cases p with
  |tup ps=>exact zqg qs h m
  |_=>exact h.elim
theorem zqg:(qs:List QR)→{ps:List PV}→{rw:List RS}→{K K':List RS→Prop}→qOkL qs ps rw K→(∀rw,K rw→K' rw)→qOkL qs ps rw K'
 |[],ps,rw,K,K',h,m=>by
  cases ps with
  |nil=>exact m _ h
  |cons _ _=>exact h.elim
 |q::qs,ps,rw,K,K',h,m=>by
  cases ps with
  |nil=>exact h.elim
  |cons p ps=>exact ykw q h fun rw h=>zqg qs h m
end
end
end Go.Vc

namespace Go.Vc
open Go Go.RowKit
def lkB(bx:List Box)(π:Nat→Option Nat):List Nat→List LB→List Nat→List (List XV)→Prop
 |[],Bs,bl,xss=>Bs=[]∧bl=[]∧xss=[]
 |i::ids,Bs,bl,xss=>∃B Bs' b bl' xs xss' q x,Bs=B::Bs'∧bl=b::bl'∧xss=xs::xss'∧π i=some q∧bx[q]?=some x∧x.ty=B.ty∧x.blk=b∧x.cells=xs∧lkB bx π ids Bs' bl' xss'
theorem lkB_len{bx:List Box}{π:Nat→Option Nat}:∀{ids:List Nat} {Bs:List LB} {bl:List Nat} {xss:List (List XV)},lkB bx π ids Bs bl xss→Bs.length=ids.length∧bl.length=ids.length∧xss.length=ids.length
 |[],Bs,bl,xss,h=>by obtain⟨rfl,rfl,rfl⟩:=h; exact⟨rfl,rfl,rfl⟩
 |i::ids,Bs,bl,xss,h=>by
  obtain⟨B,Bs',b,bl',xs,xss',q,x,rfl,rfl,rfl,_,_,_,_,_,h⟩:=h
  obtain⟨h1,h2,h3⟩:=lkB_len h
  exact⟨by simp[h1],by simp[h2],by simp[h3]⟩
theorem ydm{bx:List Box}{π:Nat→Option Nat}:∀{ids:List Nat} {Bs:List LB} {bl:List Nat} {xss:List (List XV)},lkB bx π ids Bs bl xss→∀b∈bl,∃i q x,i∈ids∧π i=some q∧bx[q]?=some x∧x.blk=b
 |[],Bs,bl,xss,h,b,hb=>by obtain⟨rfl,rfl,rfl⟩:=h; cases hb
 |i::ids,Bs,bl,xss,h,b,hb=>by
  obtain⟨B,Bs',b',bl',xs,xss',q,x,rfl,rfl,rfl,h1,h2,_,h4,_,h⟩:=h
  rcases List.mem_cons.1 hb with rfl|hb
  ·exact⟨i,q,x,by simp,h1,h2,h4⟩
  ·obtain⟨i',q',x',g1,g2,g3,g4⟩:=ydm h b hb
   exact⟨i',q',x',by simp[g1],g2,g3,g4⟩
theorem ydn{bx:List Box}{π:Nat→Option Nat}:∀{ids:List Nat} {Bs:List LB} {bl:List Nat} {xss:List (List XV)},lkB bx π ids Bs bl xss→∀(k i:Nat),ids[k]?=some i→∃b q x,bl[k]?=some b∧π i=some q∧bx[q]?=some x∧x.blk=b
 |[],Bs,bl,xss,h,k,i,hk=>by simp at hk
 |i0::ids,Bs,bl,xss,h,k,i,hk=>by
  obtain⟨B,Bs',b',bl',xs,xss',q,x,rfl,rfl,rfl,h1,h2,_,h4,_,h⟩:=h
  cases k with
  |zero=>simp at hk; subst hk; exact⟨b',q,x,rfl,h1,h2,h4⟩
  |succ k=>simpa using ydn h k i (by simpa using hk)
theorem ygb{bx:List Box}{π:Nat→Option Nat}(hinj:∀i j q,π i=some q→π j=some q→i=j)(hnd:(blks bx).Nodup):∀{ids:List Nat} {Bs:List LB} {bl:List Nat} {xss:List (List XV)},lkB bx π ids Bs bl xss→ids.Nodup→bl.Nodup
 |[],Bs,bl,xss,h,_=>by obtain⟨rfl,rfl,rfl⟩:=h; exact List.nodup_nil
 |i::ids,Bs,bl,xss,h,hi=>by
  obtain⟨B,Bs',b,bl',xs,xss',q,x,rfl,rfl,rfl,h1,h2,_,h4,_,h⟩:=h
  have hi:=List.nodup_cons.1 hi
  refine List.nodup_cons.2 ⟨fun hm=>?_,ygb hinj hnd h hi.2⟩
  obtain⟨i',q',x',g1,g2,g3,g4⟩:=ydm h b hm
  have e1:(blks bx)[q]?=some b:=by simp[blks,h2,h4]
  have e2:(blks bx)[q']?=some b:=by simp[blks,g3,g4]
  have hq:=(List.getElem?_eq_some_iff.1 e1)
  have hq':=(List.getElem?_eq_some_iff.1 e2)
  have:q=q':=(List.getElem_inj hnd).1 (hq.2.trans hq'.2.symm)
  subst this
  have:=hinj _ _ _ h1 g2
  subst this
  exact hi.1 g1
theorem ylh{bx:List Box}{π:Nat→Option Nat}{U:Nat→Prop}{w:World}(hs:∀x∈bx,w.heap[x.blk]?=some (.cells (denL x.cells).toArray x.ty (0,0))):∀{ids:List Nat} {Bs:List LB} {bl:List Nat} {xss:List (List XV)},lkB bx π ids Bs bl xss→∀o∈objs bl Bs (xss.map denL),o.h U w
 |[],Bs,bl,xss,h,o,ho=>by obtain⟨rfl,rfl,rfl⟩:=h; simp[objs]at ho
 |i::ids,Bs,bl,xss,h,o,ho=>by
  obtain⟨B,Bs',b,bl',xs,xss',q,x,rfl,rfl,rfl,h1,h2,h3,h4,h5,h⟩:=h
  simp only[List.map_cons,objs]at ho
  rcases List.mem_cons.1 ho with rfl|ho
  ·have:=hs x (List.mem_of_getElem? h2)
   show w.heap[b]?=some (.cells (denL xs).toArray B.ty (0,0))
   rw[←h4,←h5,←h3]; exact this
  ·exact ylh hs h o ho
theorem lkB_lkH{bx:List Box}{π:Nat→Option Nat}{U:Nat→Prop}{w:World}:∀{ids:List Nat} {Bs Bs':List LB} {bl:List Nat} {xss:List (List XV)} {uss:List (List Value)},lkB bx π ids Bs bl xss→Bs'.map (·.ty)=Bs.map (·.ty)→uss.length=Bs'.length→(∀o∈objs bl Bs' uss,o.h U w)→lkH bx w π Bs' ids uss
 |[],Bs,Bs',bl,xss,uss,h,ht,hu,ho=>by
  obtain⟨rfl,rfl,rfl⟩:=h
  cases Bs' with
  |nil=>trivial
  |cons _ _=>simp at ht
 |i::ids,Bs,Bs',bl,xss,uss,h,ht,hu,ho=>by
  obtain⟨B,Bs1,b,bl',xs,xss',q,x,rfl,rfl,rfl,h1,h2,h3,h4,h5,h⟩:=h
  cases Bs' with
  |nil=>simp at ht
  |cons B' Bs'=>
   cases uss with
   |nil=>simp at hu
   |cons us uss=>
    simp only[List.map_cons,List.cons.injEq]at ht
    refine⟨⟨q,x,h1,h2,h3.trans ht.1.symm,?_⟩,lkB_lkH (U:=U) h ht.2 (by simpa using hu) fun o h'=>ho o (by simp[objs,h'])⟩
    have:=ho (Own.obj b B'.ty us) (by simp[objs])
    rw[h4]; exact this
section
variable {nl:Nat} {al:Nat→Bool} {I:List Nat} {bx0:List Box} {p0:Nat→Option Nat} {V W w:World} {U0:Nat→Prop} {L:List Nat} {rw:List RS} {ts:List PV} {pb:PBs} {xs:List XV} {bx:List Box} {π:Nat→Option Nat} {A:Asg}
theorem ygd(H:Rep V U0 L rw ts pb xs bx W π A):∀{Bs:List LB} {ids:List Nat} {K:List PV→Prop},lgetK Bs ids pb K→
  ∃olds bl xss,K olds∧lkB bx π ids Bs bl xss∧PVsH (UU U0 bx rw A) W (blks bx) π rw A olds (xss.map .agg)∧∀j∈rowsL olds [],∃i∈ids,j∈rowsL (zkp pb i) []
 |[],ids,K,h=>by
  simp only[lgetK]at h
  cases ids with
  |nil=>exact⟨[],[],[],h,⟨rfl,rfl,rfl⟩,by simp[PVsH],by simp[rowsL]⟩
  |cons _ _=>exact h.elim
 |B::Bs,ids,K,h=>by
  simp only[lgetK]at h
  cases ids with
  |nil=>exact h.elim
  |cons i ids=>
   obtain⟨p,hp,hty,h⟩:=zgn h
   obtain⟨q,x,h1,h2,h3,h4⟩:=H.pb.at_ i p hp
   obtain⟨olds,bl,xss,g1,g2,g3,g4⟩:=ygd H h
   refine⟨.agg p.cells::olds,x.blk::bl,x.cells::xss,g1,⟨B,Bs,_,_,_,_,q,x,rfl,rfl,rfl,h1,h2,h3.trans hty,rfl,rfl,g2⟩,by simp only[List.map_cons,PVsH]; exact⟨_,_,rfl,(by simp only[PV.h]; exact⟨_,rfl,h4⟩),g3⟩,fun j hj=>?_⟩
   have hbc:∀{pb:PBs} {i:Nat} {p:PBox},pb[i]?=some (some p)→zkp pb i=p.cells:=by
    intro pb
    induction pb with
    |nil=>intro i p h; simp at h
    |cons o pb ih=>intro i p h; cases i with
     |zero=>simp at h; subst h; rfl
     |succ i=>exact ih (by simpa using h)
   simp only[rowsL,PV.rows]at hj
   rw[zfh]at hj
   rcases List.mem_append.1 hj with hj|hj
   ·exact⟨i,by simp,by rw[hbc hp]; exact hj⟩
   ·obtain⟨i',hi',hj'⟩:=g4 j hj
    exact⟨i',by simp[hi'],hj'⟩
theorem zxo{pb:PBs}{i o j:Nat}:∀{args:List PV},PV.own i o∈args→j∈rowsL (zkp pb i) []→j∈lentR pb args
 |[],h,_=>by cases h
 |p::ps,h,hj=>by
  rcases List.mem_cons.1 h with rfl|h
  ·simp only[lentR]; rw[zfh]; exact List.mem_append.2 (.inl hj)
  ·have:=zxo h hj
   cases p<;>simp only[lentR]<;>first|(rw[zfh]; exact List.mem_append.2 (.inr this))|(rw[PV.rows_acc]; exact List.mem_append.2 (.inr this))
theorem zpa{p:PV}{j:Nat}:∀{args:List PV},p∈args→j∈p.rows []→∃p'∈zaz args,j∈p'.rows []
 |[],h,_=>by cases h
 |q::ps,h,hj=>by
  have up:∀{p':PV},p'∈zaz ps→p'∈zaz (q::ps):=fun h'=>by
   simp only[zaz]; split
   ·exact List.mem_append.2 (.inr h')
   ·exact List.mem_cons_of_mem _ h'
  rcases List.mem_cons.1 h with rfl|h
  ·cases p with
   |fn g cs=>
    simp only[PV.rows]at hj
    have:∀{cs:List PV},j∈rowsL cs []→∃p'∈cs,j∈p'.rows []:=by
     intro cs
     induction cs with
     |nil=>intro h; simp[rowsL]at h
     |cons c cs ih=>
      intro h
      simp only[rowsL]at h
      rw[PV.rows_acc]at h
      rcases List.mem_append.1 h with h|h
      ·exact⟨c,by simp,h⟩
      ·obtain⟨p',h1,h2⟩:=ih h; exact⟨p',by simp[h1],h2⟩
    obtain⟨p',h1,h2⟩:=this hj
    exact⟨p',by simp only[zaz]; exact List.mem_append.2 (.inl h1),h2⟩
   |_=>exact⟨_,by simp[zaz],hj⟩
  ·obtain⟨p',h1,h2⟩:=zpa h hj
   exact⟨p',up h1,h2⟩
theorem zsu{pb:PBs}{p:PV}{j:Nat}:∀{args:List PV},p∈args→j∈p.rows []→j∈lentR pb args
 |[],h,_=>by cases h
 |q::ps,h,hj=>by
  rcases List.mem_cons.1 h with rfl|h
  ·cases p<;>first|(simp only[PV.rows]at hj; cases hj; done)|(simp only[lentR]; rw[PV.rows_acc]; exact List.mem_append.2 (.inl hj))
  ·have:=zsu (pb:=pb) h hj
   cases q<;>simp only[lentR]<;>first|(rw[zfh]; exact List.mem_append.2 (.inr this))|(rw[PV.rows_acc]; exact List.mem_append.2 (.inr this))
theorem zwq{j:Nat}:∀{las:List LA} {args:List PV},j∈rowsL (rowPs las args) []→∃p∈args,j∈p.rows []
 |[],args,h=>by simp[rowPs,rowsL]at h
 |la::las,args,h=>by
  cases args with
  |nil=>cases la<;>simp[rowPs,rowsL]at h
  |cons p ps=>
   have later:j∈rowsL (rowPs las ps) []→∃p'∈p::ps,j∈p'.rows []:=fun h=>by
    obtain⟨p',h1,h2⟩:=zwq h; exact⟨p',by simp[h1],h2⟩
   cases la with
   |row e k els=>
    simp only[rowPs,rowsL]at h
    rw[PV.rows_acc]at h
    rcases List.mem_append.1 h with h|h
    ·exact⟨p,by simp,h⟩
    ·exact later h
   |_=>exact later (by simpa only[rowPs]using h)
theorem yhz{U:Nat→Prop}{W:World}{bs:List Nat}{π:Nat→Option Nat}{rw:List RS}{A:Asg}:∀{las:List LA} {ps:List PV} {zs:List XV},PVsH U W bs π rw A ps zs→PVsH U W bs π rw A (rowPs las ps) (rowXs las zs)
 |[],ps,zs,h=>by simp[rowPs,rowXs,PVsH]
 |la::las,ps,zs,h=>by
  cases ps with
  |nil=>simp only[PVsH]at h; subst h; cases la<;>simp[rowPs,rowXs,PVsH]
  |cons p ps=>
   simp only[PVsH]at h
   obtain⟨z,zs',rfl,h1,h2⟩:=h
   cases la with
   |row e k els=>simp only[rowPs,rowXs,PVsH]; exact⟨_,_,rfl,h1,yhz h2⟩
   |_=>simp only[rowPs,rowXs]; exact yhz h2
theorem yaa{i o:Nat}:∀{args:List PV},ownsOk al args=true→PV.own i o∈args→al i=true
 |[],_,h=>by cases h
 |p::ps,hk,h=>by
  rcases List.mem_cons.1 h with rfl|h
  ·simp only[ownsOk,Bool.and_eq_true]at hk; exact hk.1
  ·refine yaa (args:=ps) ?_ h
   cases p<;>simp only[ownsOk,Bool.and_eq_true]at hk<;>first|exact hk|exact hk.2
theorem zwx{U:Nat→Prop}{bl ids:List Nat}{Bs:List LB}{xss:List (List XV)}(hk:lkB bx π ids Bs bl xss):∀{ps:List PV} {is:List Nat} {ys:List XV},ptrsOk ids ps is→PVsH U W (blks bx) π rw A ps ys→ptrsH bl is (denL ys)
 |[],is,ys,h,hp=>by
  simp only[PVsH]at hp; subst hp
  cases is with
  |nil=>simp[ptrsH,denL]
  |cons _ _=>exact h.elim
 |p::ps,is,ys,h,hp=>by
  simp only[PVsH]at hp
  obtain⟨z,zs',rfl,h1,h2⟩:=hp
  cases is with
  |nil=>exact h.elim
  |cons k is=>
   obtain⟨h3,h4⟩:=h
   cases p with
   |own i o=>
    obtain⟨rfl,hi⟩:=h3
    simp only[PV.h]at h1
    obtain⟨q,b,hq,hb,rfl⟩:=h1
    obtain⟨b',q',x,g1,g2,g3,g4⟩:=ydn hk k i hi
    rw[hq]at g2; cases g2
    have:b'=b:=by rw[←g4]; have:=hb; simp[blks,g3]at this; exact this
    subst this
    exact⟨b',_,g1,rfl,zwx hk h4 h2⟩
   |_=>exact h3.elim
theorem zlr{U:Nat→Prop}{bl ids:List Nat}{Bs:List LB}{xss:List (List XV)}(hk:lkB bx π ids Bs bl xss):∀{ps:List PV} {las:List LA} {zs:List XV} {ars:List Own},laOk ids ps las→PVsH U W (blks bx) π rw A ps zs→QRsH U W (rowQs las) (denL (rowXs las zs)) ars→laH U W bl las (denL zs) ars
 |[],las,zs,ars,h,hp,hr=>by
  simp only[PVsH]at hp; subst hp
  cases las with
  |nil=>simp only[rowQs,QRsH]at hr; exact⟨rfl,hr.2⟩
  |cons _ _=>exact h.elim
 |p::ps,las,zs,ars,h,hp,hr=>by
  simp only[PVsH]at hp
  obtain⟨z,zs',rfl,h1,h2⟩:=hp
  simp only[laOk]at h
  match las,h with
  | .r q::las,h=>exact⟨_,_,rfl,(yaz p h.1 h1).1,zlr hk h.2 h2 hr⟩
  | .ptr k::las,h=>
   obtain⟨h3,h4⟩:=h
   cases p with
   |own i o=>
    obtain⟨rfl,hi⟩:=h3
    simp only[PV.h]at h1
    obtain⟨q,b,hq,hb,rfl⟩:=h1
    obtain⟨b',q',x,g1,g2,g3,g4⟩:=ydn hk k i hi
    rw[hq]at g2; cases g2
    have:b'=b:=by rw[←g4]; have:=hb; simp[blks,g3]at this; exact this
    subst this
    exact⟨b',_,g1,rfl,zlr hk h4 h2 hr⟩
   |_=>exact h3.elim
  | .fn g is::las,h=>
   obtain⟨h3,h4⟩:=h
   cases p with
   |fn g' cs=>
    obtain⟨rfl,h3⟩:=h3
    simp only[PV.h]at h1
    obtain⟨ys,rfl,h1⟩:=h1
    exact⟨denL ys,_,zwx hk h3 h1,rfl,zlr hk h4 h2 hr⟩
   |_=>exact h3.elim
  | .row e k els::las,h=>
   simp only[rowQs,rowXs,denL,QRsH]at hr
   obtain⟨u,us',o1,o2,he,rfl,h3,h4⟩:=hr
   simp only[List.cons.injEq]at he
   obtain⟨rfl,rfl⟩:=he
   exact⟨_,_,o1,o2,rfl,rfl,h3,zlr hk h h2 h4⟩
theorem zog:∀{rw:List RS} {n:Nat} {A:Asg} {o:Own},o∈ownsOf rw n A→(∃(j e k:Nat) (els:List (List R)),rw[j]?=some (.own e k els)∧o=Own.row e k (A (n+j)).1 (A (n+j)).2 els)∨∃(j:Nat) (x:Obj),rw[j]?=some (.ob x)∧o=Own.ob (A (n+j)).1 x
 |[],n,A,o,h=>by simp[ownsOf]at h
 |r::rs,n,A,o,h=>by
  have later:o∈ownsOf rs (n+1) A→(∃(j e k:Nat) (els:List (List R)),(r::rs)[j]?=some (.own e k els)∧o=Own.row e k (A (n+j)).1 (A (n+j)).2 els)∨∃(j:Nat) (x:Obj),(r::rs)[j]?=some (.ob x)∧o=Own.ob (A (n+j)).1 x:=by
   intro h
   rcases zog h with ⟨j,e',k',els',h1,h2⟩|⟨j,x,h1,h2⟩
   ·exact .inl ⟨j+1,e',k',els',by simpa using h1,by rw[h2,show n+1+j=n+(j+1) by omega]⟩
   ·exact .inr ⟨j+1,x,by simpa using h1,by rw[h2,show n+1+j=n+(j+1) by omega]⟩
  cases r with
  |own e k els=>
   simp only[ownsOf]at h
   rcases List.mem_cons.1 h with rfl|h
   ·exact .inl ⟨0,e,k,els,rfl,rfl⟩
   ·exact later h
  |ob x=>
   simp only[ownsOf]at h
   rcases List.mem_cons.1 h with rfl|h
   ·exact .inr ⟨0,x,rfl,rfl⟩
   ·exact later h
  |dead=>exact later h
theorem yil{rw:List RS}{j:Nat}{o:Obj}(n:Nat)(A:Asg)(h:rw[j]?=some (.ob o)):Own.ob (A (n+j)).1 o∈ownsOf rw n A:=by
 obtain⟨P,Q,h1,_⟩:=zjm n A h
 rw[h1]; simp
theorem Ctx.lendL{bs:List Nat}{os1 os2:List Own}(H:Ctx V U0 L bs (os1++os2) [] w)(hb:∀b∈bs,b<w.heap.size):Ctx w (fun b=>Us U0 bs os2 b∧b∉ownBl os1) (ownBl os1) [] os1 [] w:=by
 have hnd:=(List.nodup_append.1 H.nd).2.1
 rw[zac]at hnd
 refine⟨rfl,rfl,rfl,Nat.le_refl _,fun _ _ _=>rfl,by simp,fun b hb=>.inr hb,fun b hu=>?_,by simpa using(List.nodup_append.1 hnd).1,fun o ho=>o.mono (H.own o (List.mem_append.2 (.inl ho))) ⟨fun _ _ _=>rfl,Nat.le_refl _,fun b _ h=>?_⟩ fun _ _=>rfl,by intro p hp; cases hp⟩
 ·rcases hu.1 with hu|hu|hu
  ·exact Nat.lt_of_lt_of_le (H.u0 b hu) H.size
  ·exact hb b hu
  ·exact H.ltOwn (by rw[zac]; exact List.mem_append.2 (.inr hu))
 ·rcases h with h|h|h
  ·rcases h.1 with h|h|h
   ·exact .inl h
   ·exact .inr (.inl h)
   ·exact .inr (.inr (by rw[zac]; exact List.mem_append.2 (.inr h)))
  ·simp at h
  ·exact .inr (.inr (by rw[zac]; exact List.mem_append.2 (.inl h)))
theorem Ctx.calledL{bs:List Nat}{os1 os2 os':List Own}{w':World}(H:Ctx V U0 L bs (os1++os2) [] w)(hb:∀b∈bs,b<w.heap.size)(h:Ctx w (fun b=>Us U0 bs os2 b∧b∉ownBl os1) (ownBl os1) [] os' [] w')(h0:∀b,U0 b→b∈ownBl os1→b∈ownBl os'):
  Ctx V U0 L bs (os'++os2) [] w'∧∀b,Us U0 bs (os'++os2) b→Us (fun b=>Us U0 bs os2 b∧b∉ownBl os1) [] os' b:=by
 have hnd0:=List.nodup_append.1 H.nd
 have hnd1:=hnd0.2.1
 rw[zac]at hnd1
 have hnd1:=List.nodup_append.1 hnd1
 have d12:∀b,b∈ownBl os1→b∉ownBl os2:=fun b h1 h2=>hnd1.2.2 b h1 b h2 rfl
 have d1b:∀b,b∈ownBl os1→b∉bs:=fun b h1 h2=>hnd0.2.2 b h2 b (by rw[zac]; exact List.mem_append.2 (.inl h1)) rfl
 have d2b:∀b,b∈ownBl os2→b∉bs:=fun b h1 h2=>hnd0.2.2 b h2 b (by rw[zac]; exact List.mem_append.2 (.inr h1)) rfl
 have lt2:∀b,b∈ownBl os2→b<w.heap.size:=fun b h1=>H.ltOwn (by rw[zac]; exact List.mem_append.2 (.inr h1))
 have new:∀b,b∈ownBl os'→w.heap.size≤b∨b∈ownBl os1:=fun b h1=>h.lowo b h1
 have hincl:∀b,Us U0 bs (os'++os2) b→Us (fun b=>Us U0 bs os2 b∧b∉ownBl os1) [] os' b:=by
  intro b hb
  rcases hb with hb|hb|hb
  ·by_cases hm:b∈ownBl os1
   ·exact .inr (.inr (h0 b hb hm))
   ·exact .inl ⟨.inl hb,hm⟩
  ·exact .inl ⟨.inr (.inl hb),fun hm=>d1b b hm hb⟩
  ·rw[zac]at hb
   rcases List.mem_append.1 hb with hb|hb
   ·exact .inr (.inr hb)
   ·exact .inl ⟨.inr (.inr hb),fun hm=>d12 b hm hb⟩
 refine⟨⟨h.os_.trans H.os_,h.tape.trans H.tape,h.output.trans H.output,Nat.le_trans H.size h.size,fun b hb1 hL=>?_,H.low,fun b hb1=>?_,H.u0,?_,fun o ho=>?_,by intro p hp; cases hp⟩,hincl⟩
 ·rw[h.same b (Nat.lt_of_lt_of_le hb1 H.size) fun hm=>?_,H.same b hb1 hL]
  rcases H.lowo b (by rw[zac]; exact List.mem_append.2 (.inl hm)) with h'|h'
  ·omega
  ·exact hL h'
 ·rw[zac]at hb1
  rcases List.mem_append.1 hb1 with hb1|hb1
  ·rcases new b hb1 with h'|h'
   ·exact .inl (Nat.le_trans H.size h')
   ·exact H.lowo b (by rw[zac]; exact List.mem_append.2 (.inl h'))
  ·exact H.lowo b (by rw[zac]; exact List.mem_append.2 (.inr hb1))
 ·have hnd':=h.nd
  rw[List.nil_append]at hnd'
  rw[zac]
  refine List.nodup_append.2 ⟨hnd0.1,List.nodup_append.2 ⟨hnd',hnd1.2.1,fun a ha b hb2 he=>?_⟩,fun a ha b hb2 he=>?_⟩
  ·subst he
   rcases new a ha with h'|h'
   ·have:=lt2 a hb2; omega
   ·exact d12 a h' hb2
  ·subst he
   rcases List.mem_append.1 hb2 with hb2|hb2
   ·rcases new a hb2 with h'|h'
    ·have:=hb a ha; omega
    ·exact d1b a h' ha
   ·exact d2b a hb2 ha
 ·rcases List.mem_append.1 ho with ho|ho
  ·exact o.mono (h.own o ho) ⟨fun _ _ _=>rfl,Nat.le_refl _,fun b _ hb1=>hincl b hb1⟩ fun _ _=>rfl
  ·refine o.mono (H.own o (List.mem_append.2 (.inr ho))) ⟨fun b hb1 hu=>h.same b hb1 fun hm=>hu (.inr (.inr (by rw[zac]; exact List.mem_append.2 (.inl hm)))),h.size,fun b hb1 hu=>?_⟩ fun b hb1=>?_
   ·rcases hu with hu|hu|hu
    ·exact .inl hu
    ·exact .inr (.inl hu)
    ·rw[zac]at hu
     rcases List.mem_append.1 hu with hu|hu
     ·rcases new b hu with h'|h'
      ·omega
      ·exact .inr (.inr (by rw[zac]; exact List.mem_append.2 (.inl h')))
     ·exact .inr (.inr (by rw[zac]; exact List.mem_append.2 (.inr hu)))
   ·have:b∈ownBl os2:=zcp.2 ⟨o,ho,hb1⟩
    exact h.same b (lt2 b this) fun hm=>d12 b hm this
end
end Go.Vc

namespace Go.Vc
open Go Go.RowKit
theorem yjg{bs bl:List Nat}(hb:bs.Nodup)(hl:bl.Nodup)(hs:∀b∈bl,b∈bs):List.Perm bs (bl++bs.filter fun b=>!(bl.contains b)):=by
 refine(List.perm_ext_iff_of_nodup hb ?_).2 fun b=>?_
 ·refine List.nodup_append.2 ⟨hl,hb.sublist List.filter_sublist,fun a ha b hb2 he=>?_⟩
  subst he
  simp at hb2
  exact hb2.2 ha
 ·simp only[List.mem_append,List.mem_filter,Bool.not_eq_true',List.contains_eq_mem,decide_eq_false_iff_not]
  constructor
  ·intro h
   by_cases hm:b∈bl
   ·exact .inl hm
   ·exact .inr ⟨h,hm⟩
  ·rintro(h|h)
   ·exact hs b h
   ·exact h.1
section
variable {nl:Nat} {al:Nat→Bool} {I:List Nat} {bx0:List Box} {p0:Nat→Option Nat} {V W w:World} {U0:Nat→Prop} {L:List Nat} {rw:List RS} {ts:List PV} {pb:PBs} {xs:List XV} {bx:List Box} {π:Nat→Option Nat} {A:Asg}
theorem St.bornC{i b:Nat}{x:PBox}{cs:List XV}(HC:Ctx V U0 L (blks bx++[b]) (ownsOf rw 0 A) [] W)(hT:PVsH (Us U0 (blks bx++[b]) (ownsOf rw 0 A)) W (blks bx) π rw A ts xs)(h4:PBsH (Us U0 (blks bx++[b]) (ownsOf rw 0 A)) W (blks bx) π rw A pb bx)
  (hC:PVsH (Us U0 (blks bx++[b]) (ownsOf rw 0 A)) W (blks bx++[b]) π rw A x.cells cs)
  (hlow:∀j e k els,nl≤j→rw[j]?=some (.own e k els)→∀b∈oblk (A j).1,¬U0 b) (hkp:∀i x,bx0[i]?=some x→i∉I→bx[i]?=some x) (hpre:∃l,blks bx=blks bx0++l∧∀b∈l,V.heap.size≤b∨b∈L)
  (hhal:∀i q,al i=true→π i=some q→q∈I∨bx0.length≤q) (hpx:∀i q,p0 i=some q→π i=some q) (hbt:∀(i:Nat) (x:Box),bx0[i]?=some x→∃y:Box,bx[i]?=some y∧y.blk=x.blk∧y.ty=x.ty)
  (hb:V.heap.size≤b∨b∈L) (hi:π i=none) {pb':PBs} (hpb:∀j,pb'[j]?=if j=i then some (some x) else pb[j]?):
  St nl al I bx0 p0 V U0 L rw ts pb' xs (bx++[⟨b,x.ty,cs⟩]) W (upd π i (some bx.length)) A∧PV.h (UU U0 (bx++[⟨b,x.ty,cs⟩]) rw A) W (blks (bx++[⟨b,x.ty,cs⟩])) (upd π i (some bx.length)) rw A (.own i 0) (.own bx.length b 0):=by
 have hbs:blks (bx++[⟨b,x.ty,cs⟩])=blks bx++[b]:=by simp[blks]
 have s:Sub noF (Us U0 (blks bx++[b]) (ownsOf rw 0 A)) (Us U0 (blks bx++[b]) (ownsOf rw 0 A)) W W (blks bx) (blks bx++[b]) π (upd π i (some bx.length)) rw rw A A:=
  ⟨⟨fun _ _ _=>rfl,Nat.le_refl _,fun _ _ h=>h⟩,⟨[b],rfl⟩,fun j q hq=>(by rw[upd_ne]; exact hq; rintro rfl; rw[hi]at hq; cases hq),fun _ _ _ _ _ h=>⟨h,rfl⟩,fun _ _ _ h=>⟨⟨_,h⟩,rfl⟩,by intro i p e k els h; cases h⟩
 have s2:Sub noF (Us U0 (blks bx++[b]) (ownsOf rw 0 A)) (Us U0 (blks bx++[b]) (ownsOf rw 0 A)) W W (blks bx++[b]) (blks bx++[b]) π (upd π i (some bx.length)) rw rw A A:=
  ⟨⟨fun _ _ _=>rfl,Nat.le_refl _,fun _ _ h=>h⟩,⟨[],by simp⟩,fun j q hq=>(by rw[upd_ne]; exact hq; rintro rfl; rw[hi]at hq; cases hq),fun _ _ _ _ _ h=>⟨h,rfl⟩,fun _ _ _ h=>⟨⟨_,h⟩,rfl⟩,by intro i p e k els h; cases h⟩
 have h5:=zbr s hT
 have h6:=zbr s2 hC
 have hpl:∀j q,π j=some q→j≠i:=by rintro j q hq rfl; rw[hi]at hq; cases hq
 have hqlt:∀j q,π j=some q→q<bx.length:=fun j q hq=>by
  obtain⟨p,hp⟩:=h4.born j q hq
  obtain⟨q',y,h1,h2,_⟩:=h4.at_ j p hp
  rw[hq]at h1; cases h1
  exact(List.getElem?_eq_some_iff.1 h2).1
 unfold UU
 rw[hbs]
 have hPB:PBsH (Us U0 (blks bx++[b]) (ownsOf rw 0 A)) W (blks bx++[b]) (upd π i (some bx.length)) rw A pb' (bx++[⟨b,x.ty,cs⟩]):=by
  refine⟨fun j p hp=>?_,fun j j' q hj hj'=>?_,fun j q hj=>?_,fun q y hy=>?_⟩
  ·rw[hpb]at hp
   split at hp
   ·rename_i hji; subst hji
    simp only[Option.some.injEq]at hp; subst hp
    exact⟨bx.length,⟨b,x.ty,cs⟩,upd_eq _ _ _,by simp,rfl,h6⟩
   ·rename_i hji
    obtain⟨q,y,h1,h2,h7,h8⟩:=h4.at_ j p hp
    refine⟨q,y,by rw[upd_ne _ _ hji]; exact h1,?_,h7,zbr s h8⟩
    rw[List.getElem?_append_left (List.getElem?_eq_some_iff.1 h2).1]; exact h2
  ·by_cases h1:j=i<;>by_cases h2:j'=i
   ·rw[h1,h2]
   ·subst h1; rw[upd_eq]at hj; rw[upd_ne _ _ h2]at hj'; cases hj; exact absurd (hqlt _ _ hj') (by omega)
   ·subst h2; rw[upd_eq]at hj'; rw[upd_ne _ _ h1]at hj; cases hj'; exact absurd (hqlt _ _ hj) (by omega)
   ·rw[upd_ne _ _ h1]at hj; rw[upd_ne _ _ h2]at hj'; exact h4.inj j j' q hj hj'
  ·by_cases h1:j=i
   ·subst h1; exact⟨x,by rw[hpb,if_pos rfl]⟩
   ·rw[upd_ne _ _ h1]at hj; obtain⟨p,hp⟩:=h4.born j q hj; exact⟨p,by rw[hpb,if_neg h1]; exact hp⟩
  ·rcases Nat.lt_or_ge q bx.length with h'|h'
   ·rw[List.getElem?_append_left h']at hy
    obtain⟨j,hj⟩:=h4.cov q y hy
    exact⟨j,by rw[upd_ne _ _ (hpl j q hj)]; exact hj⟩
   ·have:q=bx.length:=by have:=(List.getElem?_eq_some_iff.1 hy).1; simp at this; omega
    exact⟨i,by rw[upd_eq,this]⟩
 refine⟨⟨⟨by rw[hbs]; exact HC,by rw[hbs]; exact h5,by rw[hbs]; exact hPB⟩,hlow,fun n y hy hn=>?_,?_,fun j q hj hq=>?_,fun j q hq=>?_,fun j q hq=>?_,fun n y hy=>?_⟩,?_⟩
 ·rw[List.getElem?_append_left (List.getElem?_eq_some_iff.1 (hkp n y hy hn)).1]; exact hkp n y hy hn
 ·obtain⟨l,h1,h2⟩:=hpre
  refine⟨l++[b],by rw[hbs,h1,List.append_assoc],fun c hc=>?_⟩
  rcases List.mem_append.1 hc with hc|hc
  ·exact h2 c hc
  ·simp at hc; subst hc; exact hb
 ·by_cases h1:j=i
  ·subst h1; rw[upd_eq]at hq; cases hq
   obtain⟨l,h2,_⟩:=hpre
   have:=congrArg List.length h2
   simp[blks]at this
   exact .inr (by omega)
  ·rw[upd_ne _ _ h1]at hq; exact hhal j q hj hq
 ·by_cases h1:j=i
  ·subst h1
   have:=hpb j; rw[if_pos rfl]at this
   exact(List.getElem?_eq_some_iff.1 this).1
  ·rw[upd_ne _ _ h1]at hq
   obtain⟨p,hp⟩:=h4.born j q hq
   have:=hpb j; rw[if_neg h1,hp]at this
   exact(List.getElem?_eq_some_iff.1 this).1
 ·rw[upd_ne]; exact hpx j q hq; rintro rfl; have:=hpx j q hq; rw[hi]at this; cases this
 ·obtain⟨y',h1,h2,h3⟩:=hbt n y hy
  exact⟨y',by rw[List.getElem?_append_left (List.getElem?_eq_some_iff.1 h1).1]; exact h1,h2,h3⟩
 ·simp only[PV.h]
  refine⟨bx.length,b,upd_eq _ _ _,?_,rfl⟩
  rw[List.getElem?_append_right (by simp[blks])]; simp[blks]
end
set_option maxHeartbeats 2000000 in
theorem yli{P:Program}{g:FuncId}{X:Type}{las:X→List LA}{Bs:X→List LB}{pre:X→Prop}{lq:X→LQ}{Bs':X→List LB}(h:∀x,pre x→CtL P g (las x) (Bs x) (lq x) (Bs' x))(hty:∀x,(Bs' x).map (·.ty)=(Bs x).map (·.ty))
  (hc:∀x,∀B∈Bs' x,∀q∈B.cells,cellQ q) (hf:∀x q,lq x=.q q→flatQs q) (ho:∀x B,lq x=.obj B→∀q∈B.cells,cellQ q):SpecOk P g (lentS X las Bs pre lq Bs'):=by
 intro nl args pb rw K ⟨hnl,x,ids,hndi,hmem,hla,hpre,hk⟩ al I bx0 p0 V U0 L ts xs bx W π A zs w H hz hs hal hts
 subst hnl
 have hz':=H.syncPV hs hz
 have H:=H.sync hs
 obtain⟨olds,bl,xss,hkq,hlk,hold,hrows⟩:=ygd H.rep hk
 obtain⟨hl1,hl2,hl3⟩:=lkB_len hlk
 have hndb:(blks bx).Nodup:=(List.nodup_append.1 H.rep.c.nd).1
 have hnbl:bl.Nodup:=ygb H.rep.pb.inj hndb hlk hndi
 have hblm:∀b∈bl,b∈blks bx:=fun b hb=>by
  obtain⟨i,q,y,_,_,h2,h3⟩:=ydm hlk b hb
  rw[←h3]; exact List.mem_map.2 ⟨y,List.mem_of_getElem? h2,rfl⟩
 have hblt:∀b∈blks bx,b<w.heap.size:=fun b hb=>zgd hs b hb
 have HC0:Ctx V U0 L (blks bx) ([Own.pv (blks bx) π rw A ts xs pb bx]++ownsOf rw 0 A) [] w:=H.rep.ctx.perm List.perm_append_comm
 obtain⟨os,rwm,⟨hkr,hkeep1⟩,hsub1,HCm,hQ,hosb1⟩:=zld (acc:=[Own.pv (blks bx) π rw A ts xs pb bx]) _ (zle _ hkq) (RSub.refl _) hold HC0
 obtain⟨ars,rw1,⟨hK,hkeep2⟩,hsub,HC1,hQr,hosb2⟩:=zld (acc:=[Own.pv (blks bx) π rw A ts xs pb bx]++os) _ (zle _ hkr) hsub1 (yhz (las:=las x) hz') HCm
 obtain⟨oss,rfl,hlb⟩:=aggQ_h hQ
 rw[List.append_assoc [Own.pv (blks bx) π rw A ts xs pb bx]]at HC1
 obtain⟨o0,ho0⟩:∃o0,o0=oss.flatten++ars:=⟨_,rfl⟩
 rw[←ho0]at HC1
 have hosb:∀b∈ownBl o0,RowBl rw A b:=fun b hb=>by
  rw[ho0,zac]at hb
  rcases List.mem_append.1 hb with hb|hb
  ·exact hosb1 b hb
  ·exact hosb2 b hb
 have hkeep:∀i,i∉rowsL olds []→i∉rowsL (rowPs (las x) args) []→rw1[i]?=rw[i]?:=fun i h1 h2=>(hkeep2 i h2).trans (hkeep1 i h1)
 have hbb:bl.length=(Bs x).length:=by rw[hl1,hl2]
 have hxx:(xss.map denL).length=(Bs x).length:=by simp[hl1,hl3]
 have hob:ownBl (objs bl (Bs x) (xss.map denL))=bl:=zxe hbb hxx
 have hpvb:(Own.pv (blks bx) π rw A ts xs pb bx).bl=[]:=rfl
 let bsm:=(blks bx).filter fun b=>!(bl.contains b)
 have hbsm:∀b∈bsm,b∈blks bx:=fun b hb=>(List.mem_filter.1 hb).1
 have hpm:List.Perm (blks bx) (bl++bsm):=yjg hndb hnbl hblm
 have HC2:Ctx V U0 L bsm ((objs bl (Bs x) (xss.map denL)++o0)++(Own.pv (blks bx) π rw A ts xs pb bx::ownsOf rw1 0 A)) [] w:=by
  refine HC1.reown ?_ (fun b hb=>H.rep.c.low b (hbsm b hb)) (fun b hb=>?_) fun U' lt o ho=>?_
  ·simp only[zac,ownBl,hpvb,List.nil_append,List.append_nil,hob]
   refine(List.Perm.append_right _ hpm).trans ?_
   rw[List.append_assoc,List.append_assoc]
   exact(List.perm_append_comm_assoc bl bsm _)
  ·simp only[zac,ownBl,hpvb,List.nil_append,hob,List.mem_append]at hb
   rcases hb with (hb|hb)|hb
   ·exact H.rep.c.low b (hblm b hb)
   ·exact HC1.lowo b (by simp only[zac,List.mem_append]; exact .inl (.inr hb))
   ·exact HC1.lowo b (by simp only[zac,List.mem_append]; exact .inr hb)
  ·simp only[List.mem_append,List.mem_cons]at ho
   rcases ho with (ho|ho)|rfl|ho
   ·exact ylh hs.own hlk o ho
   ·exact o.mono (HC1.own o (by simp only[List.mem_append]; exact .inl (.inr ho))) lt fun _ _=>rfl
   ·exact Own.mono _ (HC1.own _ (by simp)) lt fun _ _=>rfl
   ·exact o.mono (HC1.own o (by simp only[List.mem_append]; exact .inr ho)) lt fun _ _=>rfl
 have hbs2:∀b∈bsm,b<w.heap.size:=fun b hb=>hblt b (hbsm b hb)
 have hlend:=HC2.lendL hbs2
 have eob:ownBl (objs bl (Bs x) (xss.map denL)++o0)=bl++ownBl o0:=by rw[zac,hob]
 rw[eob]at hlend
 have lt1:Later (UU U0 bx rw A) (Us (fun b=>Us U0 bsm (Own.pv (blks bx) π rw A ts xs pb bx::ownsOf rw1 0 A) b∧b∉bl++ownBl o0) [] (objs bl (Bs x) (xss.map denL)++o0)) w w:=by
  refine⟨fun _ _ _=>rfl,Nat.le_refl _,fun b _ hb=>?_⟩
  rcases hb with hb|hb|hb
  ·rcases hb.1 with hb|hb|hb
   ·exact .inl hb
   ·exact .inr (.inl (hbsm b hb))
   ·simp only[ownBl,hpvb,List.nil_append]at hb
    obtain⟨o,ho,hb⟩:=zcp.1 hb
    rcases zog ho with ⟨j,e,k,els,h1,rfl⟩|⟨j,o,h1,rfl⟩
    ·exact .inr (.inr (zcp.2 ⟨_,zmy 0 A (hsub.own h1),hb⟩))
    ·exact .inr (.inr (zcp.2 ⟨_,yil 0 A (hsub.ob h1),hb⟩))
  ·simp at hb
  ·rw[eob]at hb
   rcases List.mem_append.1 hb with hb|hb
   ·exact .inr (.inl (hblm b hb))
   ·exact .inr (.inr (hosb b hb).mem)
 have hrowU:∀b∈ownBl o0,¬U0 b:=fun b hb=>by
  obtain⟨j,e,k,els,h1,hb⟩:=hosb b hb
  exact H.low j e k els (Nat.zero_le _) h1 b hb
 have hcall:=fun U=>h x hpre U w (denL zs) bl (xss.map denL) oss ars hbb
 simp only[←ho0]at hcall
 refine(hcall _ hlend (fun b hb hu=>hu.2 hb) (znd lt1 hlb) (zqv lt1 (zlr hlk hla hz' hQr))).mono fun v w' ⟨uss',oss',osr,HC3,hlb',hlq⟩=>?_
 have hbb':bl.length=(Bs' x).length:=by have:=congrArg List.length (hty x); simp at this; rw[this]; exact hbb
 have huu':uss'.length=(Bs' x).length:=(yio hlb').1
 have hob':ownBl (objs bl (Bs' x) uss')=bl:=zxe hbb' huu'
 obtain⟨HC4,hincl⟩:=HC2.calledL hbs2 (by rw[eob]; exact HC3) (fun b hu hb=>by
  rw[eob]at hb
  rcases List.mem_append.1 hb with hb|hb
  ·rw[zac,hob']; exact List.mem_append.2 (.inl hb)
  ·exact(hrowU b hb hu).elim)
 rw[eob]at hincl
 have HC5:Ctx V U0 L (blks bx) (((oss'.flatten++osr)++ownsOf rw1 0 A)++[Own.pv (blks bx) π rw A ts xs pb bx]) [] w':=by
  refine HC4.reown ?_ H.rep.c.low (fun b hb=>?_) fun U' lt o ho=>?_
  ·simp only[zac,ownBl,hpvb,List.nil_append,List.append_nil,hob']
   refine List.Perm.trans ?_ (List.Perm.append_right _ hpm.symm)
   simp only[List.append_assoc]
   exact(List.perm_append_comm_assoc bsm bl _).trans (List.Perm.append_left _ (List.Perm.append_left _ (List.perm_append_comm_assoc _ _ _)))
  ·refine HC4.lowo b ?_
   simp only[zac,ownBl,hpvb,List.nil_append,List.append_nil,hob',List.mem_append]at hb ⊢
   rcases hb with (hb|hb)|hb
   ·exact .inl (.inr (.inr hb))
   ·exact .inl (.inr (.inl hb))
   ·exact .inr hb
  ·refine o.mono (HC4.own o ?_) lt fun _ _=>rfl
   simp only[List.mem_append,List.mem_cons]at ho ⊢
   rcases ho with ((ho|ho)|ho)|ho
   ·exact .inl (.inr (.inr ho))
   ·exact .inl (.inr (.inl ho))
   ·exact .inr (.inr ho)
   ·exact .inr (.inl (ho.elim id fun h=>by cases h))
 obtain⟨HC6,hpv1,hpv2⟩:=HC5.less rfl
 have lt2:Later (Us (fun b=>Us U0 bsm (Own.pv (blks bx) π rw A ts xs pb bx::ownsOf rw1 0 A) b∧b∉bl++ownBl o0) [] (objs bl (Bs' x) uss'++(osr++oss'.flatten))) (Us U0 (blks bx) ((oss'.flatten++osr)++ownsOf rw1 0 A)) w' w':=by
  refine⟨fun _ _ _=>rfl,Nat.le_refl _,fun b _ hb=>hincl b ?_⟩
  rcases hb with hb|hb|hb
  ·exact .inl hb
  ·rcases List.mem_append.1 (hpm.mem_iff.1 hb) with hb|hb
   ·refine .inr (.inr ?_)
    simp only[zac,hob',List.mem_append]; exact .inl (.inl hb)
   ·exact .inr (.inl hb)
  ·refine .inr (.inr ?_)
   simp only[zac,ownBl,hpvb,List.nil_append,List.mem_append]at hb ⊢
   rcases hb with (hb|hb)|hb
   ·exact .inl (.inr (.inr hb))
   ·exact .inl (.inr (.inl hb))
   ·exact .inr hb
 have hTk:Tk 0 V U0 L bx w' (Us U0 (blks bx) ((oss'.flatten++osr)++ownsOf rw1 0 A)) (oss'.flatten++osr) rw1 A:=by
  refine⟨HC6.weak (List.Sublist.refl _) (List.Sublist.refl _) (by intro p hp; cases hp),rfl,fun j e k els hj hr=>H.low j e k els hj (hsub.own hr),fun b hb hu=>?_⟩
  have hbo:b∈ownBl (objs bl (Bs' x) uss'++(osr++oss'.flatten)):=by
   simp only[zac,List.mem_append]at hb ⊢
   rcases hb with hb|hb
   ·exact .inr (.inr hb)
   ·exact .inr (.inl hb)
  rcases HC3.lowo b hbo with h'|h'
  ·have h1:=H.rep.c.u0 b hu
   have h2:=H.rep.c.size
   omega
  ·rcases List.mem_append.1 h' with h'|h'
   ·have hnd:=HC3.nd
    rw[List.nil_append,zac,hob']at hnd
    refine(List.nodup_append.1 hnd).2.2 b h' b ?_ rfl
    simp only[zac,List.mem_append]at hb ⊢
    exact hb.symm
   ·exact hrowU b h' hu
 have sb:Sub (lentF (lentR pb (zaz args))) (Us U0 (blks bx) ((oss'.flatten++osr)++ownsOf rw1 0 A)) (Us U0 (blks bx) ((oss'.flatten++osr)++ownsOf rw1 0 A)) w' w' (blks bx) (blks bx) π π rw rw1 A A:=by
  refine⟨⟨fun _ _ _=>rfl,Nat.le_refl _,fun _ _ h=>h⟩,⟨[],by simp⟩,fun _ _ h=>h,fun i e k els hi hr=>⟨?_,rfl⟩,fun i o hi hr=>⟨⟨o,?_⟩,rfl⟩,fun i p e k els hp hi=>?_⟩
  ·rw[hkeep i (fun hm=>?_) fun hm=>?_]; exact hr
   ·obtain⟨i',hi',hj⟩:=hrows i hm
    have:=zxo (hmem i' hi') hj
    unfold lentF at hi
    rw[zcc.2 this]at hi; cases hi
   ·obtain⟨p',hp',hj⟩:=zwq hm
    obtain⟨p2,hp2,hj2⟩:=zpa hp' hj
    have:=zsu (pb:=pb) hp2 hj2
    unfold lentF at hi
    rw[zcc.2 this]at hi; cases hi
  ·rw[hkeep i (fun hm=>?_) fun hm=>?_]; exact hr
   ·obtain⟨i',hi',hj⟩:=hrows i hm
    have:=zxo (hmem i' hi') hj
    unfold lentF at hi
    rw[zcc.2 this]at hi; cases hi
   ·obtain⟨p',hp',hj⟩:=zwq hm
    obtain⟨p2,hp2,hj2⟩:=zpa hp' hj
    have:=zsu (pb:=pb) hp2 hj2
    unfold lentF at hi
    rw[zcc.2 this]at hi; cases hi
  ·rw[zsv hp]; simp[PV.h,XV.wf]
 have hts2:=zer sb _ hpv1
 rw[hts]at hts2
 have hpb2:=zrs sb (fun _ _ h=>h) hpv2
 rw[zdl]at hK
 refine yar (π:=π) hK (hc x) (znd lt2 hlb') hTk hpb2 (SameB.refl bx) (lkB_lkH (U:=fun _=>True) hlk (hty x) huu' fun o ho=>?_) (fun q y hy=>?_) fun pb3 rw3 A3 bx3 hK3 hTk3 hm3 hpb3 hsb3 hlen3 hs3 hkeep3=>?_
 ·-- the objects' cells
  have:=HC3.own o (List.mem_append.2 (.inl ho))
  have key:∀{bl:List Nat} {Bs:List LB} {uss:List (List Value)},∀o∈objs bl Bs uss,∀{U U':Nat→Prop},o.h U w'→o.h U' w':=by
   intro bl
   induction bl with
   |nil=>intro Bs uss o ho; simp[objs]at ho
   |cons b bl ih=>
    intro Bs uss o ho U U' hh
    cases Bs with
    |nil=>simp[objs]at ho
    |cons B Bs=>
     cases uss with
     |nil=>simp[objs]at ho
     |cons us uss=>
      simp only[objs]at ho
      rcases List.mem_cons.1 ho with rfl|ho
      ·exact hh
      ·exact ih o ho hh
  exact key o ho this
 ·by_cases hm:y.blk∈bl
  ·left
   obtain⟨i,q',y',g1,g2,g3,g4⟩:=ydm hlk _ hm
   have e1:(blks bx)[q]?=some y.blk:=by simp[blks,hy]
   have e2:(blks bx)[q']?=some y.blk:=by simp[blks,g3,g4]
   have hq:=(List.getElem?_eq_some_iff.1 e1)
   have hq':=(List.getElem?_eq_some_iff.1 e2)
   have:q=q':=(List.getElem_inj hndb).1 (hq.2.trans hq'.2.symm)
   subst this
   obtain⟨k,hk1,hk2⟩:=List.mem_iff_getElem.1 g1
   exact⟨k,i,by rw[←hbb',hl2]; exact hk1,by rw[List.getElem?_eq_getElem hk1,hk2],g2⟩
  ·right
   have hyb:y.blk∈blks bx:=List.mem_map.2 ⟨y,List.mem_of_getElem? hy,rfl⟩
   rw[HC3.same y.blk (hblt _ hyb) fun hm'=>?_]
   ·exact hs.own y (List.mem_of_getElem? hy)
   ·rcases List.mem_append.1 hm' with hm'|hm'
    ·exact hm hm'
    ·refine(List.nodup_append.1 H.rep.c.nd).2.2 _ hyb _ (hosb _ hm').mem rfl
 ·have hkp:∀i y,bx0[i]?=some y→i∉I→bx3[i]?=some y:=fun i y hi hn=>by
   rw[hkeep3 i fun k i' hk1 hk2 hk3=>?_]
   ·exact H.kp i y hi hn
   ·have hi':i'∈ids:=List.mem_of_getElem? hk2
    rcases H.hal i' i (yaa hal (hmem i' hi')) hk3 with h'|h'
    ·exact hn h'
    ·have:=(List.getElem?_eq_some_iff.1 hi).1; omega
  have hpl:∀i q,π i=some q→i<pb3.length:=fun i q hq=>by
   rw[hlen3]
   have:=H.pl i q hq
   have e:(subB' (lentF (lentR pb (zaz args))) pb).length=pb.length:=by
    have:∀(f:Nat→Option PV) (l:PBs),(subB' f l).length=l.length:=by
     intro f l
     induction l with
     |nil=>rfl
     |cons o l ih=>cases o with
      |none=>simp[subB',ih]
      |some b=>cases b; simp[subB',ih]
    exact this _ _
   rw[e]; exact this
  have hbt:∀(i:Nat) (y:Box),bx0[i]?=some y→∃z:Box,bx3[i]?=some z∧z.blk=y.blk∧z.ty=y.ty:=fun i y hi=>by
   obtain⟨z,g1,g2,g3⟩:=H.bt i y hi
   obtain⟨z',g4,g5,g6⟩:=hsb3.to i z g1
   exact⟨z',g4,g5.trans g2,g6.trans g3⟩
  have hsync:Sync bx3 w' w':=⟨rfl,rfl,rfl,Nat.le_refl _,fun _ _ _=>rfl,fun y hy=>by obtain⟨q,hq⟩:=List.mem_iff_getElem?.1 hy; exact hs3 q y hq⟩
  have hpre3:∃l,blks bx3=blks bx0++l∧∀b∈l,V.heap.size≤b∨b∈L:=by rw[hsb3.blk]; exact H.pre
  cases hlqx:lq x with
  |q q=>
   rw[hlqx]at hK3 hlq
   have byq:qK q rw3 (fun p rw3=>K p pb3 rw3)→∃r pb' rw' π' A' bx' W' z,K r pb' rw'∧v=z.den∧St 0 al I bx0 p0 V U0 L rw' ts pb' xs bx' W' π' A'∧Sync bx' W' w'∧(∃l,blks bx'=blks bx++l)∧r.h (UU U0 bx' rw' A') W' (blks bx') π' rw' A' z:=fun hK3=>by
    refine qK_then (π:=π) (goal:=∃r pb' rw' π' A' bx' W' z,_) hK3 (hf x q hlqx) (QR.mono lt2 q hlq) (by simpa using hTk3) fun p rw4 A4 hK4 hT4 hm4 hp4=>?_
    have eu:UU U0 bx3 rw4 A4=Us U0 (blks bx) ((oss'.flatten++osr)++ownsOf rw1 0 A):=by have:=hT4.u; rw[List.nil_append]at this; show Us U0 (blks bx3) _=_; rw[hsb3.blk]; exact this
    refine⟨p,pb3,rw4,π,A4,bx3,w',inject v,hK4,(zns v).symm,⟨⟨?_,?_,?_⟩,hT4.low,hkp,hpre3,H.hal,hpl,H.px,hbt⟩,hsync,⟨[],by rw[hsb3.blk]; simp⟩,?_⟩
    ·rw[hsb3.blk]; simpa using hT4.c
    ·show PVsH (UU U0 bx3 rw4 A4) _ _ _ _ _ _ _
     rw[eu,hsb3.blk]; exact zbr (hm3.trans hm4).sub hts2
    ·show PBsH (UU U0 bx3 rw4 A4) _ _ _ _ _ _ _
     rw[eu,hsb3.blk]; exact zdp hm4.sub (fun _ _ h=>h) hpb3
    ·rw[eu,hsb3.blk]; exact hp4
   have hK3:qFill (rowPs (las x) args) q rw3 (fun p rw3=>K p pb3 rw3):=hK3
   by_cases hc':∃j rest e k els,rowPs (las x) args=.row j::rest∧q=.own e k els
   ·obtain⟨j,rest,e,k,els,h1,rfl⟩:=hc'
    rw[h1]at hK3
    have hK3:fill1 (.row j) (.own e k els) rw3 (fun p rw3=>K p pb3 rw3):=hK3
    refine yas (π:=π) (q:=.own e k els) (o1:=osr) (o2:=[]) (goal:=∃r pb' rw' π' A' bx' W' z,_) hK3 trivial (QR.mono lt2 _ hlq) (by simpa using hTk3) fun p rw4 A4 hK4 hT4 hm4 hp4=>?_
    have eu:UU U0 bx3 rw4 A4=Us U0 (blks bx) ((oss'.flatten++osr)++ownsOf rw1 0 A):=by have:=hT4.u; rw[List.nil_append]at this; show Us U0 (blks bx3) _=_; rw[hsb3.blk]; exact this
    refine⟨p,pb3,rw4,π,A4,bx3,w',inj0 v,hK4,(zrh v).symm,⟨⟨?_,?_,?_⟩,hT4.low,hkp,hpre3,H.hal,hpl,H.px,hbt⟩,hsync,⟨[],by rw[hsb3.blk]; simp⟩,?_⟩
    ·rw[hsb3.blk]; simpa using hT4.c
    ·show PVsH (UU U0 bx3 rw4 A4) _ _ _ _ _ _ _
     rw[eu,hsb3.blk]; exact zbr (hm3.trans hm4).sub hts2
    ·show PBsH (UU U0 bx3 rw4 A4) _ _ _ _ _ _ _
     rw[eu,hsb3.blk]; exact zdp hm4.sub (fun _ _ h=>h) hpb3
    ·rw[eu,hsb3.blk]; exact hp4
   ·refine byq ?_
    unfold qFill at hK3
    split at hK3
    ·split at hK3
     ·split at hK3
      ·exact(hc' ⟨_,_,_,_,_,by assumption,rfl⟩).elim
      ·exact hK3
     ·exact hK3
    ·exact hK3
  |ptr k=>
   rw[hlqx]at hK3 hlq
   simp only at hK3
   obtain⟨i,hi,hK3⟩:=hK3
   obtain⟨rfl,b,hb,rfl⟩:=hlq
   have hT4:Tk 0 V U0 L bx w' _ [] rw3 A3:=hTk3
   have eu:UU U0 bx3 rw3 A3=Us U0 (blks bx) ((oss'.flatten++[])++ownsOf rw1 0 A):=by have:=hT4.u; rw[List.nil_append]at this; show Us U0 (blks bx3) _=_; rw[hsb3.blk]; exact this
   obtain⟨b',q,y,g1,g2,g3,g4⟩:=ydn hlk k i hi
   rw[hb]at g1; simp only[Option.some.injEq]at g1; subst g1
   have hqb:(blks bx)[q]?=some b:=by simp[blks,g3,g4]
   refine⟨.own i 0,pb3,rw3,π,A3,bx3,w',.own q b 0,hK3,rfl,⟨⟨?_,?_,?_⟩,hT4.low,hkp,hpre3,H.hal,hpl,H.px,hbt⟩,hsync,⟨[],by rw[hsb3.blk]; simp⟩,?_⟩
   ·rw[hsb3.blk]; simpa using hT4.c
   ·show PVsH (UU U0 bx3 rw3 A3) _ _ _ _ _ _ _
    rw[eu,hsb3.blk]; exact zbr hm3.sub hts2
   ·show PBsH (UU U0 bx3 rw3 A3) _ _ _ _ _ _ _
    rw[eu,hsb3.blk]; exact hpb3
   ·rw[hsb3.blk]; simp only[PV.h]; exact⟨q,b,g2,hqb,rfl⟩
  |obj B=>
   rw[hlqx]at hK3 hlq
   simp only at hK3
   obtain⟨b,us,os',rfl,rfl,hq⟩:=hlq
   have hq:=zid lt2 B.cells hq
   have hbox:w'.heap[b]?=some (.cells us.toArray B.ty (0,0)):=HC3.own (Own.obj b B.ty us) (by simp)
   have hbV:V.heap.size≤b∨b∈L:=hTk3.c.lowo b (by simp[ownBl,Own.obj])
   have hb4:blks (bx3++[⟨b,B.ty,injL us⟩])=blks bx++[b]:=by rw[show blks (bx3++[⟨b,B.ty,injL us⟩])=blks bx3++[b] by simp[blks],hsb3.blk]
   have hC5:Ctx V U0 L (blks bx++[b]) (os'++ownsOf rw3 0 A3) [] w':=by
    refine hTk3.c.reown ?_ (fun b' hb'=>?_) (fun b' hb'=>hTk3.c.lowo b' (by simp only[List.cons_append,ownBl,Own.obj]; exact List.mem_cons_of_mem _ hb')) fun U' lt o ho'=>o.mono (hTk3.c.own o (by simp[ho'])) lt fun _ _=>rfl
    ·simp only[List.cons_append,ownBl,Own.obj,List.append_assoc]
     exact List.Perm.refl _
    ·rcases List.mem_append.1 hb' with hb'|hb'
     ·exact hTk3.c.low b' hb'
     ·simp at hb'; subst hb'; exact hbV
   have hU5:Us U0 (blks bx++[b]) (os'++ownsOf rw3 0 A3)=Us U0 (blks bx) ((oss'.flatten++(Own.obj b B.ty us::os'))++ownsOf rw1 0 A):=by
    rw[←hTk3.u]
    funext c
    simp only[Us,List.cons_append,ownBl,Own.obj,List.mem_append,List.mem_cons,List.not_mem_nil,or_false,false_or]
    apply propext
    constructor
    ·rintro(h|(h|h)|h)
     ·exact .inl h
     ·exact .inr (.inl h)
     ·exact .inr (.inr (.inl h))
     ·exact .inr (.inr (.inr h))
    ·rintro(h|h|h|h)
     ·exact .inl h
     ·exact .inr (.inl (.inl h))
     ·exact .inr (.inl (.inr h))
     ·exact .inr (.inr h)
   have hT5:Tk 0 V U0 L (bx3++[⟨b,B.ty,injL us⟩]) w' (Us U0 (blks bx) ((oss'.flatten++(Own.obj b B.ty us::os'))++ownsOf rw1 0 A)) (os'++[]) rw3 A3:=
    ⟨by rw[hb4]; simpa using hC5,by rw[hb4,List.append_nil]; exact hU5,hTk3.low,fun c hc=>hTk3.new c (by simp only[List.append_nil]at hc; simp only[ownBl]; exact List.mem_append.2 (.inr hc))⟩
   refine zuw (π:=π) hK3 (ho x B hlqx) hq hT5 fun ps rw4 A4 hK4 hT4 hm4 hp4=>?_
   rw[zbn,zby]at hK4
   have eu:Us U0 (blks bx++[b]) (ownsOf rw4 0 A4)=Us U0 (blks bx) ((oss'.flatten++(Own.obj b B.ty us::os'))++ownsOf rw1 0 A):=by have:=hT4.u; rw[List.nil_append,hb4]at this; exact this
   have hi:π pb3.length=none:=by
    cases hp:π pb3.length with
    |none=>rfl
    |some q=>exact absurd (hpl _ q hp) (by omega)
   have hc4:=hT4.c
   rw[hb4,List.nil_append]at hc4
   have e3:blks bx3=blks bx:=hsb3.blk
   have hts4:=zbr (hm3.trans hm4).sub hts2
   have hpb4:=zdp hm4.sub (fun _ _ h=>h) hpb3
   rw[hb4]at hp4
   rw[←eu,←e3]at hts4 hpb4 hp4
   rw[←e3]at hc4
   obtain⟨HS,hpv⟩:=St.bornC (nl:=0) (al:=al) (I:=I) (bx0:=bx0) (p0:=p0) (x:=⟨B.ty,ps⟩) hc4 hts4 hpb4 hp4 hT4.low hkp hpre3 H.hal H.px hbt hbV hi (pb':=pb3++[some ⟨B.ty,ps⟩]) (fun j=>by
    by_cases hji:j=pb3.length
    ·subst hji; simp
    ·rw[if_neg hji]
     rcases Nat.lt_or_ge j pb3.length with h'|h'
     ·rw[List.getElem?_append_left h']
     ·rw[List.getElem?_eq_none (by simp; omega),List.getElem?_eq_none h'])
   refine⟨.own pb3.length 0,_,rw4,_,A4,_,w',.own bx3.length b 0,hK4,rfl,HS,⟨rfl,rfl,rfl,Nat.le_refl _,fun _ _ _=>rfl,fun y hy=>?_⟩,⟨[b],by rw[hb4]⟩,hpv⟩
   rcases List.mem_append.1 hy with hy|hy
   ·exact hsync.own y hy
   ·simp only[List.mem_singleton]at hy; subst hy
    simp only[zhy]; exact hbox
end Go.Vc

namespace Go.Vc
open Go Go.RowKit
inductive DT where
 |int (k:IntKind)
 |bool
 |str
 |slc (t:DT)
 |unit
 |pair (a b:DT)
@[reducible] def DT.den:DT→Type
 | .int _=>Int
 | .bool=>Bool
 | .str=>ByteArray
 | .slc t=>List t.den
 | .unit=>Unit
 | .pair a b=>a.den×b.den
def DT.size:DT→Nat
 | .int _=>1
 | .bool=>1
 | .str=>1
 | .slc _=>1
 | .unit=>0
 | .pair a b=>a.size+b.size
def DT.agg:DT→Bool
 | .unit=>true
 | .pair _ _=>true
 |_=>false
def DT.enc:(t:DT)→t.den→List R
 | .int k,n=>[.val (.int k n)]
 | .bool,b=>[.val (.bool b)]
 | .str,s=>[.val (.string s)]
 | .slc t,l=>[.sl t.size (l.map fun x=>t.enc x)]
 | .unit,_=>[]
 | .pair a b,x=>a.enc x.1++b.enc x.2
def DT.encA:(t:DT)→t.den→R
 | .int k,n=>.val (.int k n)
 | .bool,b=>.val (.bool b)
 | .str,s=>.val (.string s)
 | .slc t,l=>.sl t.size (l.map fun x=>t.enc x)
 | .unit,_=>.agg []
 | .pair a b,x=>.agg (a.enc x.1++b.enc x.2)
def DT.same:(a b:DT)→Option (PLift (a=b))
 | .int k,.int k'=>if h:eqk k k'=true then some ⟨by rw[eqk_eq h]⟩ else none
 | .bool,.bool=>some ⟨rfl⟩
 | .str,.str=>some ⟨rfl⟩
 | .unit,.unit=>some ⟨rfl⟩
 | .slc a,.slc b=>match a.same b with
  |some ⟨h⟩=>some ⟨by rw[h]⟩
  |none=>none
 | .pair a b,.pair a' b'=>match a.same a',b.same b' with
  |some ⟨h⟩,some ⟨h'⟩=>some ⟨by rw[h,h']⟩
  |_,_=>none
 |_,_=>none
def DT.castL{a b:DT}(h:a=b)(l:List a.den):List b.den:=h▸l
def DT.ks:DT→List Nat→List Nat
 | .slc t,r=>t.size::r
 | .unit,r=>r
 | .pair a b,r=>a.ks (b.ks r)
 |_,r=>0::r
inductive DV:Type where
 |x (y:XV)
 |sl (t:DT) (l:List t.den)
 |row (j:Nat)
 |el (t:DT) (x:t.den) (off:Nat)
 |re (j i off:Nat)
 |rt (j i:Nat)
 |ob (j:Nat)
 |own (i off:Nat)
 |fn (f:FuncId) (caps:List DV)
 |agg (xs:List DV)
 |tup (xs:List DV)
 |junk
structure DB where
 ty:TypeId
 cells:List DV
 w:Bool
abbrev DBs:=List (Option DB)
inductive DR where
 |own (e:TypeId) (t:DT) (l:List t.den)
 |itr (s:ByteArray) (p:Int)
 |dead
def DT.cells:(t:DT)→t.den→List DV→List DV
 | .int k,n,r=>.x (.int k n)::r
 | .bool,b,r=>.x (.bool b)::r
 | .str,s,r=>.x (.str s)::r
 | .slc t,l,r=>.sl t l::r
 | .unit,_,r=>r
 | .pair a b,x,r=>a.cells x.1 (b.cells x.2 r)
def DT.val:(t:DT)→t.den→DV
 | .int k,n=>.x (.int k n)
 | .bool,b=>.x (.bool b)
 | .str,s=>.x (.str s)
 | .slc t,l=>.sl t l
 | .unit,_=>.agg []
 | .pair a b,x=>.agg (a.cells x.1 (b.cells x.2 []))
def DT.of:(t:DT)→List DV→Option (t.den×List DV)
 | .int k,cs=>match cs with
  | .x (.int k' n)::r=>match eqk k k' with|true=>some (n,r)|false=>none
  |_=>none
 | .bool,cs=>match cs with
  | .x (.bool b)::r=>some (b,r)
  | .x (.lit b)::r=>some (b,r)
  |_=>none
 | .str,cs=>match cs with
  | .x (.str s)::r=>some (s,r)
  |_=>none
 | .slc t,cs=>match cs with
  | .sl t' l::r=>match t'.same t with|some ⟨h⟩=>some (DT.castL h l,r)|none=>none
  | .x (.slc none 0 0)::r=>some ([],r)
  |_=>none
 | .unit,cs=>some ((),cs)
 | .pair a b,cs=>match a.of cs with
  |some (x,r)=>match b.of r with
   |some (y,r)=>some ((x,y),r)
   |none=>none
  |none=>none
def DT.ofV(t:DT)(v:DV):Option t.den:=
 match t.agg with
 |true=>match v with
  | .agg cs=>match t.of cs with|some (x,r)=>(match r with|[]=>some x|_=>none)|none=>none
  |_=>none
 |false=>match t.of [v]with|some (x,r)=>(match r with|[]=>some x|_=>none)|none=>none
mutual
def DV.p:DV→PV
 | .x y=>.x y
 | .sl t l=>.sl t.size (l.map fun x=>t.enc x)
 | .row j=>.row j
 | .el t x off=>.el (t.enc x) off
 | .re j i off=>.re j i off
 | .rt j i=>.rt j i
 | .ob j=>.ob j
 | .own i off=>.own i off
 | .fn f cs=>.fn f (pL cs)
 | .agg xs=>.agg (pL xs)
 | .tup xs=>.tup (pL xs)
 | .junk=>.junk
def pL:List DV→List PV
 |[]=>[]
 |x::xs=>x.p::pL xs
end
def bP:DBs→PBs
 |[]=>[]
 |some b::bs=>some ⟨b.ty,pL b.cells⟩::bP bs
 |none::bs=>none::bP bs
def DR.p:DR→RS
 | .own e t l=>.own e t.size (l.map fun x=>t.enc x)
 | .itr s p=>.ob (.stringIter s p.toNat)
 | .dead=>.dead
def rP:List DR→List RS
 |[]=>[]
 |r::rs=>r.p::rP rs
variable {β:Type}
abbrev DK(β:Type):=List DV→DBs→List DR→Option β
def gtV:List DV→Nat→Option DV
 |[],_=>some (.x .und)
 |p::_,0=>match p with
  | .junk=>none
  | .x y=>match y with
   | .junk=>none
   |y=>some (.x y)
  |p=>some p
 |_::ps,n+1=>gtV ps n
def setE:List DV→Nat→DV→(List DV→Option β)→Option β
 |[],_,_,K=>K []
 |_::ps,0,y,K=>K (y::ps)
 |p::ps,n+1,y,K=>setE ps n y fun l=>K (p::l)
def opV(ts:List DV)(o:Operand):Option DV:=
 match o with
 | .tmp t=>gtV ts t
 | .const c=>some (.x (zfo c))
 | .global g=>some (.x (.ptr ⟨g,0,none⟩))
 | .func f=>some (.fn f [])
def opsV(ts:List DV):List Operand→Option (List DV)
 |[]=>some []
 |o::os=>match opV ts o with
  |some x=>match opsV ts os with|some xs=>some (x::xs)|none=>none
  |none=>none
def subV:List DV→Nat→Nat→Option (List DV)
 |_::xs,o+1,n=>subV xs o n
 |_,0,0=>some []
 |x::xs,0,n+1=>match subV xs 0 n with|some l=>some (x::l)|none=>none
 |[],_,_=>none
def wrE:List DV→Nat→List DV→(List DV→Option β)→Option β
 |xs,_,[],K=>K xs
 |xs,off,v::vs,K=>setE xs off v fun l=>wrE l (off+1) vs K
def dbV:DBs→Nat→Option DB
 |[],_=>none
 |o::_,0=>o
 |_::xs,n+1=>dbV xs n
def setDB:DBs→Nat→Option DB→(DBs→Option β)→Option β
 |[],_,_,K=>K []
 |_::xs,0,y,K=>K (y::xs)
 |x::xs,n+1,y,K=>setDB xs n y fun l=>K (x::l)
def ybo:DBs→Nat→Bool
 |[],_=>false
 |o::_,0=>match o with|some _=>false|none=>true
 |_::xs,n+1=>ybo xs n
def drV:List DR→Nat→Option DR
 |[],_=>none
 |r::_,0=>some r
 |_::rs,n+1=>drV rs n
def setDR:List DR→Nat→DR→(List DR→Option β)→Option β
 |[],_,_,K=>K []
 |_::rs,0,y,K=>K (y::rs)
 |r::rs,n+1,y,K=>setDR rs n y fun l=>K (r::l)
def litE(n:Nat)(K:Nat→Option β):Option β:=
 match n with
 |0=>K 0
 |1=>K 1
 |2=>K 2
 |3=>K 3
 |4=>K 4
 |5=>K 5
 |6=>K 6
 |7=>K 7
 |8=>K 8
 |9=>K 9
 |10=>K 10
 |11=>K 11
 |n=>K n
def pushE{α:Type}:List α→α→(List α→Option β)→Option β
 |[],y,K=>K [y]
 |x::xs,y,K=>pushE xs y fun l=>K (x::l)
mutual
def DV.subE(f:Nat→Option DV):DV→(DV→Option β)→Option β
 | .row i,K=>match f i with|some p=>K p|none=>K (.row i)
 | .re i a b,K=>match f i with|some _=>K .junk|none=>K (.re i a b)
 | .rt i a,K=>match f i with|some _=>K .junk|none=>K (.rt i a)
 | .ob i,K=>match f i with|some _=>K .junk|none=>K (.ob i)
 | .fn g cs,K=>subLE f cs fun cs=>K (.fn g cs)
 | .agg xs,K=>subLE f xs fun xs=>K (.agg xs)
 | .tup xs,K=>subLE f xs fun xs=>K (.tup xs)
 | .x y,K=>K (.x y)
 | .sl t l,K=>K (.sl t l)
 | .el t x o,K=>K (.el t x o)
 | .own i o,K=>K (.own i o)
 | .junk,K=>K .junk
def subLE(f:Nat→Option DV):List DV→(List DV→Option β)→Option β
 |[],K=>K []
 |p::ps,K=>p.subE f fun p=>subLE f ps fun ps=>K (p::ps)
end
def subBE(f:Nat→Option DV):DBs→(DBs→Option β)→Option β
 |[],K=>K []
 |some ⟨t,cs,w⟩::ps,K=>subLE f cs fun cs=>subBE f ps fun ps=>K (some ⟨t,cs,w⟩::ps)
 |none::ps,K=>subBE f ps fun ps=>K (none::ps)
def oneD(j:Nat)(p:DV):Nat→Option DV:=fun i=>match Nat.beq i j with|true=>some p|false=>none
def norowD:Nat→Option DV:=fun _=>some .junk
def flatV:List DV→Option (List XV)
 |[]=>some []
 |p::ps=>match p with
  | .x y=>match flatV ps with|some l=>some (y::l)|none=>none
  |_=>none
def partsV(ts:List DV):List (Nat×Operand)→Option (List (Nat×DV))
 |[]=>some []
 |(i,o)::ps=>match opV ts o with
  |some x=>match partsV ts ps with|some xs=>some ((i,x)::xs)|none=>none
  |none=>none
def oneX(y:XV):Bool:=
 match y with
 | .v y=>oneC y
 | .agg _=>false
 | .tup _=>false
 | .und=>false
 | .junk=>false
 |_=>true
def oneD1(p:DV):Bool:=
 match p with
 | .x y=>oneX y
 | .agg _=>false
 | .tup _=>false
 | .junk=>false
 |_=>true
def cellsV(x:DV):Option (List DV):=
 match x with
 | .agg xs=>some xs
 |x=>match oneD1 x with|true=>some [x]|false=>none
def oneDL:List DV→Bool
 |[]=>true
 |p::ps=>match oneD1 p with|true=>oneDL ps|false=>false
def tiV:List TI→Nat→Option TI
 |[],_=>none
 |ti::_,0=>match ti.ok with|true=>some ti|false=>none
 |_::T,n+1=>tiV T n
def fldV:List (Nat×Nat×Nat)→Nat→Option (Nat×Nat×Nat)
 |[],_=>none
 |(off,ty,sz)::_,0=>match sz with|0=>none|n+1=>some (off,ty,n+1)
 |_::fs,i+1=>fldV fs i
def posV:List (Nat×Nat×Nat)→Bool
 |[]=>true
 |(_,_,sz)::fs=>match sz with|0=>false|_+1=>posV fs
def fillE(fs:List (Nat×Nat×Nat)):List DV→List (Nat×DV)→(List DV→Option β)→Option β
 |cells,[],K=>K cells
 |cells,(i,x)::ps,K=>match fldV fs i with
  |some (off,_,sz)=>match cellsV x with
   |some cs=>match Nat.beq cs.length sz,subV cells off sz with
    |true,some _=>wrE cells off cs fun cells=>fillE fs cells ps K
    |_,_=>none
   |none=>none
  |none=>none
def constV:List Value→List DV
 |[]=>[]
 |x::xs=>.x (zfo x)::constV xs
def opOV(ts:List DV)(o:Option Operand):Option (Option DV):=
 match o with
 |none=>some none
 |some o=>match opV ts o with|some x=>some (some x)|none=>none
def idxF{α:Type}(l:List α)(i:Int)(K:α→Option β):Option β:=
 match l[i.toNat]? with
 |some x=>bif decide (0≤i) then K x else none
 |none=>none
def idxR{α:Type}(l:List α)(i:Nat)(K:α→Option β):Option β:=
 match l[i]? with
 |some x=>K x
 |none=>none
def bndF(i:Int)(n:Nat)(K:Nat→Option β):Option β:=bif decide (0≤i)&&decide (i≤(n:Int)) then K i.toNat else none
def nzF(b:Int)(K:Option β):Option β:=bif decide (b=0) then none else K
def nnF(b:Int)(K:Option β):Option β:=bif decide (0≤b) then K else none
def roomF(n b:Nat)(K:Option β):Option β:=bif decide (n≤281474976710656)&&decide (n*b≤140737488355328) then K else none
def strF(n:Int)(K:Option β):Option β:=bif decide (n≤9223372036854775807) then K else none
def sidxF(s:ByteArray)(i:Int)(K:Int→Option β):Option β:=bif decide (0≤i) then (match s[i.toNat]? with|some b=>K (b.toNat:Int)|none=>none) else none
def nextF(s:ByteArray)(p:Int)(K:Int→Int→Option β)(N:Option β):Option β:=bif decide (p.toNat<s.size) then K ((Utf8.decode s p.toNat).1:Int) ((p.toNat+(Utf8.decode s p.toNat).2:Nat):Int) else N
def joinF{X:Type}(k:X→Option β)(f:(X→Option β)→Option β):Option β:=f k
def loopF{X:Type}:Nat→(X→(X→Option β)→Option β)→X→Option β
 |0,_,_=>none
 |n+1,f,z=>f z (loopF n f)
open Classical in
noncomputable def bothF(a b:Option β):Option β:=if a=b then a else none
noncomputable def nilF(e:Bool)(f:Bool→Option β):Option β:=bif e then bothF (f true) (f false) else f false
theorem FU_ex:∃n:Nat,n=18446744073709551616:=⟨_,rfl⟩
noncomputable def FU:Nat:=Classical.choose FU_ex
theorem FU_eq:FU=18446744073709551616:=Classical.choose_spec FU_ex
structure Wd:Type 1 where
 cnd:{β:Type}→Bool→Option β→Option β→Option β
 idx:{α β:Type}→List α→Int→(α→Option β)→Option β
 nth:{α β:Type}→List α→Nat→(α→Option β)→Option β
 bnd:{β:Type}→Int→Nat→(Nat→Option β)→Option β
 nz:{β:Type}→Int→Option β→Option β
 nn:{β:Type}→Int→Option β→Option β
 room:{β:Type}→Nat→Nat→Option β→Option β
 str:{β:Type}→Int→Option β→Option β
 join:{X β:Type}→(X→Option β)→((X→Option β)→Option β)→Option β
 loop:{X β:Type}→(X→(X→Option β)→Option β)→X→Option β
 both:{β:Type}→Option β→Option β→Option β
 call:{α β:Type}→Option α→(α→Option β)→Option β
 nilq:{β:Type}→Bool→(Bool→Option β)→Option β
 sidx:{β:Type}→ByteArray→Int→(Int→Option β)→Option β
 next:{β:Type}→ByteArray→Int→(Int→Int→Option β)→Option β→Option β
@[reducible] noncomputable def stdW:Wd where
 cnd:=fun c a b=>bif c then a else b
 idx:=idxF
 nth:=idxR
 bnd:=bndF
 nz:=nzF
 nn:=nnF
 room:=roomF
 str:=strF
 join:=joinF
 loop:=loopF FU
 both:=bothF
 call:=Option.bind
 nilq:=nilF
 sidx:=sidxF
 next:=nextF
def bndD(W:Wd)(o:Option DV)(dflt bound:Nat)(K:Nat→Option β):Option β:=
 match o with
 |none=>K dflt
 |some (.x (.int _ i))=>W.bnd i bound K
 |_=>none
def yiu(W:Wd)(op:BinOp)(k:IntKind)(a b:Int)(ret:XV→Option β):Option β:=
 match op with
 | .add=>ret (.int k (k.wrap (a+b)))
 | .sub=>ret (.int k (k.wrap (a - b)))
 | .mul=>ret (.int k (k.wrap (a*b)))
 | .quo=>W.nz b (ret (.int k (k.wrap (a.tdiv b))))
 | .rem=>W.nz b (ret (.int k (a.tmod b)))
 | .and=>ret (.int k (bits .and k a b))
 | .or=>ret (.int k (bits .or k a b))
 | .xor=>ret (.int k (bits .xor k a b))
 | .eql=>ret (.bool (a==b))
 | .neq=>ret (.bool (a != b))
 | .lss=>ret (.bool (decide (a<b)))
 | .leq=>ret (.bool (decide (a≤b)))
 | .gtr=>ret (.bool (decide (b<a)))
 | .geq=>ret (.bool (decide (b≤a)))
 |_=>none
def leafV(l:LK)(x y:XV):Option Bool:=
 match l,x,y with
 | .int _,.int k a,.int k' b=>match eqk k k' with|true=>some (a==b)|false=>none
 | .bool,.bool a,.bool b=>some (a==b)
 | .bool,.lit a,.bool b=>some (a==b)
 | .bool,.bool a,.lit b=>some (a==b)
 | .bool,.lit a,.lit b=>some (a==b)
 | .str,.str a,.str b=>some (a.toList==b.toList)
 |_,_,_=>none
def cmpXV:List LK→List XV→List XV→Option Bool
 |[l],[x],[y]=>leafV l x y
 |l::ls,x::xs,y::ys=>match leafV l x y with
  |some r=>match cmpXV ls xs ys with|some r'=>some (r&&r')|none=>none
  |none=>none
 |_,_,_=>none
def tdV(T:List TI)(t:TypeId):Option TD:=match tiV T t with|some ti=>some ti.td|none=>none
def eqXV(T:List TI)(neg:Bool)(t:TypeId)(a b:XV):Option XV:=
 match a,b with
 | .str s,.str u=>some (.bool (notIf neg (s.toList==u.toList)))
 | .agg xs,.agg ys=>match tiV T t with
  |some ti=>match ti.leaves,ti.td with
   |some ls,.struct _=>match cmpXV ls xs ys with|some r=>some (.bool (notIf neg r))|none=>none
   |_,_=>none
  |none=>none
 | .bool x,.bool y=>match tdV T t with|some .bool=>some (.bool (notIf neg (x==y)))|_=>none
 | .bool x,.lit y=>match tdV T t with|some .bool=>some (.bool (notIf neg (x==y)))|_=>none
 | .lit x,.bool y=>match tdV T t with|some .bool=>some (.bool (notIf neg (x==y)))|_=>none
 | .lit x,.lit y=>match tdV T t with|some .bool=>some (.bool (notIf neg (x==y)))|_=>none
 | .v (.pointer none),.v (.pointer none)=>match tdV T t with|some (.ptr _)=>some (.lit (!neg))|_=>none
 | .slc x _ _,.slc none 0 0=>match tdV T t with|some (.slice _)=>some (.bool (notIf neg x.isNone))|_=>none
 |_,_=>none
def binXE(W:Wd)(T:List TI)(op:BinOp)(t:TypeId)(a b:XV)(ret:XV→Option β):Option β:=
 match op,a,b with
 | .shl,.int k x,.int _ y=>W.nn y (ret (.int k (k.wrap (x*2 ^ (min y.toNat k.bits)))))
 | .shr,.int k x,.int _ y=>W.nn y (ret (.int k (x.fdiv (2 ^ (min y.toNat k.bits)))))
 |op,.int k x,.int k' y=>match eqk k k' with|true=>yiu W op k x y ret|false=>none
 | .add,.str s,.str u=>W.str ((s.size:Int)+u.size) (ret (.str (s++u)))
 | .eql,a,b=>match eqXV T false t a b with|some y=>ret y|none=>none
 | .neq,a,b=>match eqXV T true t a b with|some y=>ret y|none=>none
 |_,_,_=>none
def binE(W:Wd)(T:List TI)(op:BinOp)(t:TypeId)(a b:DV)(ret:DV→Option β):Option β:=
 match a,b with
 | .x y,.x z=>binXE W T op t y z fun r=>ret (.x r)
 | .agg ps,.agg qs=>match flatV ps,flatV qs with
  |some ys,some zs=>binXE W T op t (.agg ys) (.agg zs) fun r=>ret (.x r)
  |_,_=>none
 | .own _ _,.x (.v (.pointer none))=>match tdV T t,op with
  |some (.ptr _),.eql=>ret (.x (.lit false))
  |some (.ptr _),.neq=>ret (.x (.lit true))
  |_,_=>none
 |_,_=>none
def argTyV(T:List TI)(ats:Array TypeId):Option TD:=
 match ats.toList with
 |[t]=>tdV T t
 |_=>none
def lenV(xs:List DV)(rw:List DR):Option Nat:=
 match xs with
 |[.sl _ l]=>some l.length
 |[.row j]=>match drV rw j with|some (.own _ _ l)=>some l.length|_=>none
 |[.x (.slc none 0 0)]=>some 0
 |_=>none
def zvu(T:List TI)(b:Builtin)(ats:Array TypeId)(xs:List DV)(rw:List DR)(ret:DV→Option β):Option β:=
 match b with
 | .len=>match argTyV T ats with
  |some (.slice _)=>match lenV xs rw with|some n=>ret (.x (.int .i64 (n:Nat)))|none=>none
  |some .string=>match xs with|[.x (.str s)]=>ret (.x (.int .i64 s.size))|_=>none
  |_=>none
 | .max=>match xs with|[.x (.int k x),.x (.int _ y)]=>ret (.x (.int k (if y>x then y else x)))|_=>none
 | .min=>match xs with|[.x (.int k x),.x (.int _ y)]=>ret (.x (.int k (if y<x then y else x)))|_=>none
 |_=>none
def pickV(g:Bool)(a b:XV):Option XV:=
 match a,b with
 | .lit true,.bool y=>some (.bool (g||y))
 | .bool x,.lit false=>some (.bool (g&&x))
 | .lit true,.lit y=>some (.bool (g||y))
 | .lit false,.lit y=>some (.bool (!g&&y))
 | .bool x,.lit y=>some (.bool (bif g then x else y))
 | .lit x,.bool y=>some (.bool (bif g then x else y))
 | .bool x,.bool y=>some (.bool (bif g then x else y))
 |_,_=>none
def unV(op:UnOp)(a:XV):Option XV:=
 match op,a with
 | .not,.bool b=>some (.bool (!b))
 | .not,.lit b=>some (.lit (!b))
 | .neg,.int k n=>some (.int k (k.wrap (0 - n)))
 | .xor,.int k n=>some (.int k (bits .xor k (if k.signed then -1 else k.max) n))
 |_,_=>none
def o1(o:Option DV)(K:DV→Option β):Option β:=match o with|some x=>K x|none=>none
def purE(W:Wd)(T:List TI)(op:Op)(ts:List DV)(rw:List DR)(ret:DV→Option β):Option β:=
 match op with
 | .move x=>o1 (opV ts x) ret
 | .assign x=>o1 (opV ts x) ret
 | .pick c a b=>o1 (opV ts c) fun c=>match c with
  | .x (.lit true)=>o1 (opV ts a) ret
  | .x (.lit false)=>o1 (opV ts b) ret
  | .x (.bool g)=>o1 (opV ts a) fun a=>o1 (opV ts b) fun b=>match a,b with
   | .x a,.x b=>match pickV g a b with|some r=>ret (.x r)|none=>none
   |_,_=>none
  |_=>none
 | .nilCheck x=>o1 (opV ts x) fun p=>match p with
  | .own i o=>ret (.own i o)
  | .el t x o=>ret (.el t x o)
  | .re j i o=>ret (.re j i o)
  | .fn f cs=>ret (.fn f cs)
  |_=>none
 | .binOp op t x y _=>o1 (opV ts x) fun a=>o1 (opV ts y) fun b=>binE W T op t a b ret
 | .unOp op _ x=>o1 (opV ts x) fun a=>match a with
  | .x a=>match unV op a with|some r=>ret (.x r)|none=>none
  |_=>none
 | .convert src dst x=>o1 (opV ts x) fun a=>match tiV T src,tdV T dst,a with
  |some _,some (.int k),.x (.int _ n)=>ret (.x (.int k (k.wrap n)))
  |some _,some .string,.x (.str s)=>ret (.x (.str s))
  |_,_,_=>none
 | .fieldAddr s x f=>o1 (opV ts x) fun a=>match tdV T s with
  |some (.struct fs)=>match fldV fs f with
   |some (off,_,_)=>match a with
    | .own i o'=>ret (.own i (o'+off))
    | .el t x o'=>ret (.el t x (o'+off))
    | .re j i o'=>ret (.re j i (o'+off))
    |_=>none
   |none=>none
  |_=>none
 | .field s x f=>o1 (opV ts x) fun a=>match tdV T s,a with
  |some (.struct fs),.agg xs=>match fldV fs f with
   |some (off,ty,sz)=>match tiV T ty with
    |some tf=>match tf.agg with
     |true=>match subV xs off sz with|some l=>ret (.agg l)|none=>none
     |false=>match subV xs off 1 with|some [x]=>ret x|_=>none
    |none=>none
   |none=>none
  |_,_=>none
 | .indexAddr t x ix=>o1 (opV ts x) fun a=>o1 (opV ts ix) fun i=>match tdV T t,a,i with
  |some (.slice e),.sl t' l,.x (.int _ i)=>match tiV T e with
   |some te=>match Nat.beq te.size t'.size,Nat.blt 0 t'.size with
    |true,true=>W.idx l i fun x=>ret (.el t' x 0)
    |_,_=>none
   |none=>none
  |some (.slice e),.row j,.x (.int _ i)=>match tiV T e,drV rw j with
   |some te,some (.own _ t' l)=>match Nat.beq te.size t'.size,Nat.blt 0 t'.size with
    |true,true=>W.idx l i fun _=>ret (.re j i.toNat 0)
    |_,_=>none
   |_,_=>none
  |_,_,_=>none
 | .extract t i=>o1 (opV ts t) fun a=>match a with
  | .tup xs=>match subV xs i 1 with|some [x]=>ret x|_=>none
  |_=>none
 | .slice t x lo hi mx=>o1 (opV ts x) fun a=>match opOV ts lo,opOV ts hi with
  |some lo,some hi=>match tdV T t,a,mx with
   |some (.slice e),.sl t' l,none=>match tiV T e with
    |some te=>match Nat.beq te.size t'.size with
     |true=>match lo with
      |none=>bndD W hi l.length l.length fun h=>ret (.sl t' (l.take h))
      |some lo=>bndD W hi l.length l.length fun h=>bndD W (some lo) 0 h fun k=>ret (.sl t' ((l.take h).drop k))
     |false=>none
    |none=>none
   |some .string,.x (.str s),none=>bndD W hi s.size s.size fun h=>bndD W lo 0 h fun l=>ret (.x (.str (s.extract l h)))
   |_,_,_=>none
  |_,_=>none
 | .build t parts=>match partsV ts parts.toList with
  |some ps=>match tiV T t with
   |some ti=>match ti.td,ti.zero with
    | .struct fs,z::zs=>match posV fs with
     |true=>fillE fs (constV (z::zs)) ps fun cells=>ret (.agg cells)
     |false=>none
    |_,_=>none
   |none=>none
  |none=>none
 | .makeFunc fn first caps=>match fn,first.toList with
  | .func f,[]=>match opsV ts caps.toList with|some cs=>ret (.fn f cs)|none=>none
  |_,_=>none
 | .call c=>match c.callee with
  | .builtin b=>match opsV ts c.args.toList with|some xs=>zvu T b c.argTypes xs rw ret|none=>none
  |_=>none
 |_=>none
def loadE(W:Wd)(T:List TI)(t:TypeId)(A:DV)(pb:DBs)(rw:List DR)(ret:DV→Option β):Option β:=
 match tiV T t with
 |some ti=>match A with
  | .own i off=>match dbV pb i with
   |some b=>match ti.agg with
    |true=>match subV b.cells off ti.size with|some l=>ret (.agg l)|none=>none
    |false=>match subV b.cells off 1 with|some [x]=>ret x|_=>none
   |none=>none
  | .el t' x off=>match ti.agg,ti.size with
   |true,n+1=>match subV (t'.cells x []) off (n+1) with|some l=>ret (.agg l)|none=>none
   |false,_=>match subV (t'.cells x []) off 1 with|some [x]=>ret x|_=>none
   |_,_=>none
  | .re j i off=>match drV rw j with
   |some (.own _ t' l)=>W.nth l i fun x=>match ti.agg,ti.size with
    |true,n+1=>match subV (t'.cells x []) off (n+1) with|some l=>ret (.agg l)|none=>none
    |false,_=>match subV (t'.cells x []) off 1 with|some [x]=>ret x|_=>none
    |_,_=>none
   |_=>none
  |_=>none
 |none=>none
def ofVs(t:DT):List (Nat×DV)→Nat→Option (List t.den)
 |[],_=>some []
 |(i,p)::ps,n=>match Nat.beq i n,t.ofV p with
  |true,some x=>match ofVs t ps (n+1) with|some l=>some (x::l)|none=>none
  |_,_=>none
mutual
def DV.rows:DV→List Nat→List Nat
 | .row j,acc=>j::acc
 | .fn _ cs,acc=>rowsDL cs acc
 | .agg cs,acc=>rowsDL cs acc
 | .tup cs,acc=>rowsDL cs acc
 |_,acc=>acc
def rowsDL:List DV→List Nat→List Nat
 |[],acc=>acc
 |p::ps,acc=>p.rows (rowsDL ps acc)
end
def frzE(nl:Nat):List Nat→List DV→DBs→List DR→List DV→(List DV→DBs→List DR→List DV→Option β)→Option β
 |[],ts,pb,rw,ps,K=>K ts pb rw ps
 |j::js,ts,pb,rw,ps,K=>match drV rw j with
  |some (.own _ t l)=>match Nat.ble nl j with
   |true=>subLE (oneD j (.sl t l)) ts fun ts=>subBE (oneD j (.sl t l)) pb fun pb=>subLE (oneD j (.sl t l)) ps fun ps=>setDR rw j .dead fun rw=>frzE nl js ts pb rw ps K
   |false=>none
  |_=>frzE nl js ts pb rw ps K
def retE(dst:Option Tmp)(x:DV)(ts:List DV)(pb:DBs)(rw:List DR)(K:DK β):Option β:=
 match dst with
 |none=>K ts pb rw
 |some d=>setE ts d x fun l=>K l pb rw
inductive QT where
 |v (t:DT)
 |own (e:TypeId) (t:DT)
 |unit
 |pair (a b:QT)
@[reducible] def QT.den:QT→Type
 | .v t=>t.den
 | .own _ t=>List t.den
 | .unit=>Unit
 | .pair a b=>a.den×b.den
structure ES where
 P:DT
 Q:QT
 fn:P.den→Option Q.den
inductive PK where
 |v (t:DT)
 |ptr
 |fn (g n:Nat)
 |row (e:TypeId) (t:DT)
inductive CK where
 |v (t:DT)
 |row (e:TypeId) (t:DT)
structure BK where
 ty:TypeId
 cells:List CK
def pkT:List PK→DT→DT
 |[],r=>r
 |d::l,r=>match d with
  | .v t=>.pair t (pkT l r)
  | .ptr=>pkT l r
  | .fn _ _=>pkT l r
  | .row _ _=>pkT l r
def rowC:List PK→List CK
 |[]=>[]
 |d::l=>match d with
  | .row e t=>.row e t::rowC l
  | .v _=>rowC l
  | .ptr=>rowC l
  | .fn _ _=>rowC l
def ckT:List CK→DT→DT
 |[],r=>r
 |d::l,r=>match d with
  | .v t=>.pair t (ckT l r)
  | .row _ t=>.pair (.slc t) (ckT l r)
def bkT:List BK→DT→DT
 |[],r=>r
 |B::l,r=>ckT B.cells (bkT l r)
inductive LQT where
 |q (Q:QT)
 |ptr (k:Nat)
 |obj (B:BK)
@[reducible] def LQT.den:LQT→Type
 | .q Q=>Q.den
 | .ptr _=>Unit
 | .obj B=>(ckT B.cells .unit).den
structure LS where
 P:List PK
 B:List BK
 E:List BK
 Q:LQT
 fn:(pkT P (bkT B (ckT (rowC P) .unit))).den→Option (Q.den×(bkT E .unit).den)
def tysE:List BK→List BK→Bool
 |[],l=>match l with|[]=>true|_=>false
 |B::l,l'=>match l' with|E::l'=>Nat.beq B.ty E.ty&&tysE l l'|[]=>false
inductive EC where
 |es (s:ES)
 |ls (s:LS)
 |lb (s:LS)
abbrev ESs:=List (Nat×EC)
def esV:ESs→Nat→Option EC
 |[],_=>none
 |(n,s)::ss,f=>match Nat.beq n f with|true=>some s|false=>esV ss f
def takesE(n:Nat):Nat→List PK→List Nat
 |_,[]=>[]
 |i,d::l=>match d with
  | .row _ _=>takesN n i::takesE n (i+1) l
  | .v _=>takesE n (i+1) l
  | .ptr=>takesE n (i+1) l
  | .fn _ _=>takesE n (i+1) l
def keysE:ESs→List Nat
 |[]=>[]
 |(n,s)::ss=>match s with
  | .es _=>keysE ss
  | .ls s=>takesE n 0 s.P++keysE ss
  | .lb s=>takesE n 0 s.P++keysE ss
def keysF:ESs→List Nat
 |[]=>[]
 |(n,_)::ss=>n::keysF ss
def rowsAV(C:ESs)(g:Nat):Nat→List DV→List Nat→List Nat
 |_,[],acc=>acc
 |i,p::ps,acc=>match memN (takesN g i) (keysF C++keysE C) with|true=>rowsAV C g (i+1) ps acc|false=>p.rows (rowsAV C g (i+1) ps acc)
def ofA:(P:DT)→List DV→Option P.den
 | .unit,vs=>match vs with|[]=>some ()|_=>none
 | .pair a b,vs=>match vs with
  |v::vs=>match a.ofV v,ofA b vs with|some x,some y=>some (x,y)|_,_=>none
  |_=>none
 |_,_=>none
def argVs:(P:DT)→P.den→List DV
 | .pair a b,x=>a.val x.1::argVs b x.2
 |_,_=>[]
def resQ:(Q:QT)→Q.den→List DR→(DV→List DR→Option β)→Option β
 | .v t,x,rw,K=>K (t.val x) rw
 | .own e t,l,rw,K=>pushE rw (.own e t l) fun rw'=>litE rw.length fun n=>K (.row n) rw'
 |_,_,_,_=>none
def resQs:(Q:QT)→Q.den→List DR→(List DV→List DR→Option β)→Option β
 | .unit,_,rw,K=>K [] rw
 | .pair a b,x,rw,K=>resQ a x.1 rw fun v rw=>resQs b x.2 rw fun vs rw=>K (v::vs) rw
 |_,_,_,_=>none
def resT(Q:QT)(q:Q.den)(rw:List DR)(K:DV→List DR→Option β):Option β:=
 match Q,q with
 | .v t,x=>K (t.val x) rw
 | .own e t,l=>resQ (.own e t) l rw K
 | .unit,_=>K (.tup []) rw
 | .pair a b,q=>resQs (.pair a b) q rw fun vs rw=>K (.tup vs) rw
def zdj:List DV→List DV
 |[]=>[]
 |p::ps=>match p with
  | .fn _ cs=>cs++zdj ps
  |p=>p::zdj ps
def zsm(al:Nat→Bool):List DV→Bool
 |[]=>true
 | .own i _::ps=>al i&&zsm al ps
 |_::ps=>zsm al ps
def boxCs:DBs→Nat→List DV
 |[],_=>[]
 |o::_,0=>match o with|some b=>b.cells|none=>[]
 |_::pb,n+1=>boxCs pb n
def lentRV(pb:DBs):List DV→List Nat
 |[]=>[]
 | .own i _::ps=>rowsDL (boxCs pb i) (lentRV pb ps)
 |p::ps=>p.rows (lentRV pb ps)
def lentFV(js:List Nat):Nat→Option DV:=fun j=>match memN j js with|true=>some .junk|false=>none
def idsC:Nat→List DV→Option (List Nat)
 |0,cs=>match cs with|[]=>some []|_=>none
 |n+1,cs=>match cs with
  | .own i o::cs=>match o,idsC n cs with|0,some ids=>some (i::ids)|_,_=>none
  |_=>none
def idsV:List PK→List DV→Option (List Nat)
 |[],vs=>match vs with|[]=>some []|_=>none
 | .v _::l,vs=>match vs with|_::vs=>idsV l vs|_=>none
 | .ptr::l,vs=>match vs with
  | .own i o::vs=>match o,idsV l vs with|0,some ids=>some (i::ids)|_,_=>none
  |_=>none
 | .fn g n::l,vs=>match vs with
  | .fn g' cs::vs=>match Nat.beq g' g,idsC n cs,idsV l vs with|true,some a,some b=>some (a++b)|_,_,_=>none
  |_=>none
 | .row _ _::l,vs=>match vs with|_::vs=>idsV l vs|_=>none
def rowVs:List PK→List DV→List DV
 |[],_=>[]
 | .row _ _::l,vs=>match vs with|v::vs=>v::rowVs l vs|[]=>[]
 | .v _::l,vs=>match vs with|_::vs=>rowVs l vs|[]=>[]
 | .ptr::l,vs=>match vs with|_::vs=>rowVs l vs|[]=>[]
 | .fn _ _::l,vs=>match vs with|_::vs=>rowVs l vs|[]=>[]
def pkX:(l:List PK)→(r:DT)→List DV→r.den→Option (pkT l r).den
 |[],_,_,y=>some y
 | .v t::l,r,vs,y=>match vs with
  |v::vs=>match t.ofV v,pkX l r vs y with|some x,some z=>some (x,z)|_,_=>none
  |_=>none
 | .ptr::l,r,vs,y=>match vs with|_::vs=>pkX l r vs y|_=>none
 | .fn _ _::l,r,vs,y=>match vs with|_::vs=>pkX l r vs y|_=>none
 | .row _ _::l,r,vs,y=>match vs with|_::vs=>pkX l r vs y|_=>none
def ckX:(l:List CK)→(r:DT)→List DV→List DR→(List DR→Option (r.den×List DR))→Option ((ckT l r).den×List DR)
 |[],_,cs,rw,k=>match cs with|[]=>k rw|_=>none
 | .v t::l,r,cs,rw,k=>match cs with
  |c::cs=>match t.ofV c,ckX l r cs rw k with|some x,some (y,rw)=>some ((x,y),rw)|_,_=>none
  |_=>none
 | .row e t::l,r,cs,rw,k=>match cs with
  | .row j::cs=>match drV rw j with
   |some (.own e' t' xs)=>match Nat.beq e' e,t'.same t,ckX l r cs (rw.set j .dead) k with
    |true,some ⟨h⟩,some (y,rw)=>some ((DT.castL h xs,y),rw)
    |_,_,_=>none
   |_=>none
  | .x (.slc none 0 0)::cs=>match ckX l r cs rw k with|some (y,rw)=>some (([],y),rw)|none=>none
  |_=>none
def bkX:(l:List BK)→(r:DT)→List DV→List DR→(List DR→Option (r.den×List DR))→Option ((bkT l r).den×List DR)
 |[],_,olds,rw,k=>match olds with|[]=>k rw|_=>none
 |B::l,r,olds,rw,k=>match olds with
  | .agg cs::olds=>ckX B.cells (bkT l r) cs rw fun rw=>bkX l r olds rw k
  |_=>none
def lgetV:List BK→List Nat→DBs→Option (List DV)
 |[],ids,_=>match ids with|[]=>some []|_=>none
 |B::l,ids,pb=>match ids with
  |i::ids=>match dbV pb i with
   |some b=>match Nat.beq b.ty B.ty,lgetV l ids pb with|true,some vs=>some (.agg b.cells::vs)|_,_=>none
   |none=>none
  |[]=>none
def ckF:(l:List CK)→(r:DT)→(ckT l r).den→List DV→List DR→(List DV→r.den→List DR→Option β)→Option β
 |[],_,z,cs,rw,K=>match cs with|[]=>K [] z rw|_=>none
 | .v t::l,r,z,cs,rw,K=>match cs with
  |_::cs=>match t.agg with|false=>ckF l r z.2 cs rw fun vs y rw=>K (t.val z.1::vs) y rw|true=>none
  |_=>none
 | .row e t::l,r,z,cs,rw,K=>match cs with
  |c::cs=>match c with
   | .row j=>match drV rw j with
    |some .dead=>setDR rw j (.own e t z.1) fun rw=>ckF l r z.2 cs rw fun vs y rw=>K (.row j::vs) y rw
    |_=>none
   |_=>pushE rw (.own e t z.1) fun rw'=>litE rw.length fun n=>ckF l r z.2 cs rw' fun vs y rw=>K (.row n::vs) y rw
  |_=>none
def bkF:(l:List BK)→(r:DT)→(bkT l r).den→List Nat→List DV→DBs→List DR→(r.den→DBs→List DR→Option β)→Option β
 |[],_,z,_,_,pb,rw,K=>K z pb rw
 |B::l,r,z,ids,olds,pb,rw,K=>match ids,olds with
  |i::ids,.agg cs::olds=>ckF B.cells (bkT l r) z cs rw fun vs y rw=>match dbV pb i with
   |some b=>setDB pb i (some ⟨b.ty,vs,true⟩) fun pb=>bkF l r y ids olds pb rw K
   |none=>none
  |_,_=>none
def ckS:(l:List CK)→(r:DT)→(ckT l r).den→List DR→(List DV→r.den→List DR→Option β)→Option β
 |[],_,z,rw,K=>K [] z rw
 | .v t::l,r,z,rw,K=>match t.agg with
  |false=>ckS l r z.2 rw fun vs y rw=>K (t.val z.1::vs) y rw
  |true=>none
 | .row e t::l,r,z,rw,K=>pushE rw (.own e t z.1) fun rw'=>litE rw.length fun n=>ckS l r z.2 rw' fun vs y rw=>K (.row n::vs) y rw
def ndV:List Nat→Bool
 |[]=>true
 |n::l=>!memN n l&&ndV l
def resF(rs:List DV)(Q:QT)(q:Q.den)(rw:List DR)(K:DV→List DR→Option β):Option β:=
 match rs with
 |p::_=>match p with
  | .row j=>match Q,q with
   | .own e t,l=>match drV rw j with
    |some .dead=>setDR rw j (.own e t l) fun rw=>K (.row j) rw
    |_=>none
   |Q,q=>resT Q q rw K
  |_=>resT Q q rw K
 |[]=>resT Q q rw K
def callLV(W:Wd)(s:LS)(nl:Nat)(xs:List DV)(pb:DBs)(rw:List DR)(K:DV→DBs→List DR→Option β):Option β:=
 match nl,idsV s.P xs with
 |0,some ids=>match ndV ids,lgetV s.B ids pb with
  |true,some olds=>match bkX s.B (ckT (rowC s.P) .unit) olds rw (fun rw=>ckX (rowC s.P) .unit (rowVs s.P xs) rw fun rw=>some ((),rw)) with
   |some (z,rw1)=>match pkX s.P (bkT s.B (ckT (rowC s.P) .unit)) xs z with
    |some z=>subBE (lentFV (lentRV pb (zdj xs))) pb fun pb1=>W.call (s.fn z) fun o=>bkF s.E .unit o.2 ids olds pb1 rw1 fun _ pb2 rw2=>match s.Q,o.1 with
     | .q Q,q=>resF (rowVs s.P xs) Q q rw2 fun v rw3=>K v pb2 rw3
     | .ptr k,_=>match ids[k]? with|some i=>K (.own i 0) pb2 rw2|none=>none
     | .obj B,x=>ckS B.cells .unit x rw2 fun vs _ rw3=>pushE pb2 (some ⟨B.ty,vs,true⟩) fun pb3=>litE pb2.length fun n=>K (.own n 0) pb3 rw3
    |none=>none
   |none=>none
  |_,_=>none
 |_,_=>none
def rowAt:List PK→List DV→Option Nat
 |[],_=>none
 | .v t::l,vs=>match vs with
  |v::vs=>match t,v with
   | .slc _,.row j=>some j
   |_,_=>rowAt l vs
  |[]=>none
 | .ptr::l,vs=>match vs with|_::vs=>rowAt l vs|[]=>none
 | .fn _ _::l,vs=>match vs with|_::vs=>rowAt l vs|[]=>none
 | .row _ _::l,vs=>match vs with|_::vs=>rowAt l vs|[]=>none
def brwV(j:Nat)(t:DT)(l:List t.den):Nat→Option DV:=fun i=>match Nat.beq i j with|true=>some (.sl t l)|false=>some .junk
def deadDR:List DR→List DR
 |[]=>[]
 |_::rw=>.dead::deadDR rw
def deadOk:List DR→List DR→Bool
 |[],rw=>match rw with|[]=>true|_=>false
 |d::ds,rw=>match d,rw with | .dead,_::rw=>deadOk ds rw|_,_=>false
def allX:List DV→Bool
 |[]=>true
 |v::vs=>match v with | .x _=>allX vs|_=>false
def zqp:List DV→List Nat
 |[]=>[]
 | .own i _::ps=>i::zqp ps
 |_::ps=>zqp ps
def mrgB(ids:List Nat):Nat→DBs→DBs→Option DBs
 |_,[],pb1=>match pb1 with|[]=>some []|_=>none
 |n,b::pb,pb1=>match pb1 with
  |b1::pb1=>match memN n ids with
   |true=>match b,b1 with
    |some x,some y=>match Nat.beq y.ty x.ty,allX y.cells,mrgB ids (n+1) pb pb1 with
     |true,true,some l=>some (some ⟨y.ty,y.cells,true⟩::l)
     |_,_,_=>none
    |_,_=>none
   |false=>match b,b1,mrgB ids (n+1) pb pb1 with
    |some x,_,some l=>some (some x::l)
    |none,none,some l=>some (none::l)
    |_,_,_=>none
  |[]=>none
def brwQ(C:ESs)(g nl:Nat)(rw:List DR)(xs:List DV):Option (LS×Nat×TypeId×(t:DT)×List t.den):=
 match esV C g with
 |some (.lb s)=>match rowAt s.P xs with
  |some j=>match Nat.ble nl j,drV rw j with
   |true,some (.own e t l)=>some (s,j,e,⟨t,l⟩)
   |_,_=>none
  |none=>none
 |_=>none
def callBV(W:Wd)(s:LS)(nl j:Nat)(t:DT)(l:List t.den)(xs:List DV)(pb:DBs)(rw:List DR)(K:DV→DBs→List DR→Option β):Option β:=
 subLE (brwV j t l) xs fun xs'=>subBE (brwV j t l) pb fun pb'=>callLV W s nl xs' pb' (deadDR rw) fun r pb1 rw1=>match r,deadOk rw1 rw,mrgB (zqp (zdj xs')) 0 pb pb1 with
  | .x y,true,some pb2=>K (.x y) pb2 rw
  |_,_,_=>none
def avV:List (Nat×Nat)→Nat→Option Nat
 |[],_=>none
 |(d,i)::l,n=>match Nat.beq d n with|true=>some i|false=>avV l n
def newDB(av:List (Nat×Nat))(dst:Option Tmp)(ty:TypeId)(cs:List DV)(ts:List DV)(pb:DBs)(rw:List DR)(K:DK β):Option β:=
 match dst with
 |none=>none
 |some d=>match avV av d with
  |some i=>match ybo pb i with
   |true=>setDB pb i (some ⟨ty,cs,true⟩) fun pb'=>retE (some d) (.own i 0) ts pb' rw K
   |false=>none
  |none=>pushE pb (some ⟨ty,cs,true⟩) fun pb'=>litE pb.length fun n=>retE (some d) (.own n 0) ts pb' rw K
def sndsD:List (Nat×DV)→List DV
 |[]=>[]
 |(_,p)::ps=>p::sndsD ps
def rezipD:List (Nat×DV)→List DV→List (Nat×DV)
 |(i,_)::ps,q::qs=>(i,q)::rezipD ps qs
 |_,_=>[]
def tyOfs(f:TypeId→Option DT):List (Nat×Nat×Nat)→Option DT
 |[]=>some .unit
 |(_,ty,_)::fs=>match f ty,tyOfs f fs with
  |some a,some b=>some (.pair a b)
  |_,_=>none
def tyOf(T:List TI):Nat→TypeId→Option DT
 |0,_=>none
 |n+1,t=>match tdV T t with
  |some (.int k)=>some (.int k)
  |some .bool=>some .bool
  |some .string=>some .str
  |some (.slice e)=>match tyOf T n e with|some a=>some (.slc a)|none=>none
  |some (.struct fs)=>tyOfs (tyOf T n) fs
  |_=>none
def bytesQ(T:List TI)(o:Oper)(ts:List DV):Option ByteArray:=
 match o.op with
 | .convert src dst x=>match opV ts x with
  |some (.sl (.int .u8) l)=>match tdV T src,tdV T dst with
   |some (.slice e),some .string=>match tdV T e with|some (.int .u8)=>some (strOf l)|_=>none
   |_,_=>none
  |_=>none
 |_=>none
def zeroO:Operand→Bool
 | .const (.int _ (.ofNat 0))=>true
 |_=>false
def evOp(W:Wd)(T:List TI)(C:ESs)(nl:Nat)(al:Nat→Bool)(av:List (Nat×Nat))(o:Oper)(ts:List DV)(pb:DBs)(rw:List DR)(K:DK β):Option β:=
 match o.op with
 | .alloc t=>match tiV T t with
  |some ti=>match ti.zero with
   |z::zs=>newDB av o.dst t (constV (z::zs)) ts pb rw K
   |[]=>none
  |none=>none
 | .box t x=>match opV ts x with
  |some a=>match cellsV a with|some cs=>newDB av o.dst t cs ts pb rw K|none=>none
  |none=>none
 | .load t a=>match opV ts a with
  |some A=>loadE W T t A pb rw fun x=>retE o.dst x ts pb rw K
  |none=>none
 | .store t a x=>match opV ts a,opV ts x,tiV T t with
  |some a,some x,some ti=>match cellsV x with
   |some cs=>match Nat.beq cs.length ti.size,oneDL cs,a with
    |true,true,.own i off=>match al i,dbV pb i with
     |true,some y=>match subV y.cells off ti.size with
      |some _=>wrE y.cells off cs fun cells=>setDB pb i (some ⟨y.ty,cells,true⟩) fun pb'=>retE o.dst (.x .und) ts pb' rw K
      |none=>none
     |_,_=>none
    |true,true,.re j i off=>frzE nl (rowsDL cs []) ts pb rw (.re j i off::cs) fun ts pb rw ps=>match ps with
     | .re j i off::cs=>match drV rw j with
      |some (.own e t' l)=>match Nat.ble (off+cs.length) t'.size with
       |true=>W.nth l i fun y=>wrE (t'.cells y []) off cs fun cells=>match t'.of cells with
        |some (y',[])=>setDR rw j (.own e t' (l.set i y')) fun rw=>retE o.dst (.x .und) ts pb rw K
        |_=>none
       |false=>none
      |_=>none
     |_=>none
    |_,_,_=>none
   |none=>none
  |_,_,_=>none
 | .call c=>match c.callee with
  | .value f=>match opV ts f,opsV ts c.args.toList with
   |some (.fn g caps),some xs=>match brwQ C g nl rw (xs++caps) with
    |some (s,j,_,⟨t,l⟩)=>match zsm al (zdj (xs++caps)) with
     |true=>callBV W s nl j t l (xs++caps) pb rw fun r pb rw=>retE o.dst r ts pb rw K
     |false=>none
    |none=>frzE nl (rowsAV C g 0 xs (rowsDL caps [])) ts pb rw (xs++caps) fun ts pb rw xs=>match zsm al (zdj xs) with
     |true=>subLE (lentFV (lentRV pb (zdj xs))) ts fun ts=>match esV C g with
      |some (.es s)=>match ofA s.P xs with
       |some x=>W.call (s.fn x) fun q=>resT s.Q q rw fun r rw=>retE o.dst r ts pb rw K
       |none=>none
      |some (.ls s)=>callLV W s nl xs pb rw fun r pb rw=>retE o.dst r ts pb rw K
      |some (.lb s)=>callLV W s nl xs pb rw fun r pb rw=>retE o.dst r ts pb rw K
      |none=>none
     |false=>none
   |_,_=>none
  | .builtin b=>match opsV ts c.args.toList with
   |some xs=>match b with
    | .append=>match xs with
     |[a,b]=>frzE nl (b.rows []) ts pb rw [a,b] fun ts pb rw xs=>match xs,c.argTypes.toList with
      |[a,b],[t,t']=>match tdV T t with
       |some (.slice e)=>match tiV T e with
        |some te=>match Nat.beq t t',Nat.beq te.zero.length te.size,b with
         |true,true,.sl t2 news=>match Nat.blt 0 t2.size,a with
          |true,.row j=>match drV rw j with
           |some (.own e2 t1 l)=>match Nat.beq e e2,Nat.beq t1.size te.size,t2.same t1 with
            |true,true,some ⟨h⟩=>W.room (l.length+news.length) te.bytes (subLE (oneD j .junk) ts fun ts=>subBE (oneD j .junk) pb fun pb=>setDR rw j (.own e t1 (l++DT.castL h news)) fun rw=>retE o.dst (.row j) ts pb rw K)
            |_,_,_=>none
           |_=>none
          |true,.x (.slc none 0 0)=>match Nat.beq t2.size te.size with
           |true=>W.room news.length te.bytes (pushE rw (.own e t2 news) fun rw'=>litE rw.length fun n=>retE o.dst (.row n) ts pb rw' K)
           |false=>none
          |_,_=>none
         |_,_,_=>none
        |none=>none
       |_=>none
      |_,_=>none
     |_=>none
    | .clear=>match xs,c.argTypes.toList with
     |[.rt j i],[t]=>match tdV T t with
      |some (.slice e)=>match tiV T e,drV rw j with
       |some te,some (.own e2 t' l)=>match Nat.beq e e2,Nat.beq t'.size te.size,Nat.beq te.zero.length te.size,Nat.ble 1 te.size,t'.of (constV te.zero) with
        |true,true,true,true,some (z,[])=>W.bnd (.ofNat i) l.length fun n=>setDR rw j (.own e2 t' (l.take n++List.replicate (l.length - n) z)) fun rw=>retE o.dst .junk ts pb rw K
        |_,_,_,_,_=>none
       |_,_=>none
      |_=>none
     |_,_=>none
    |b=>zvu T b c.argTypes xs rw fun x=>retE o.dst x ts pb rw K
   |none=>none
  |_=>none
 | .buildSlice t len parts=>match partsV ts parts.toList with
  |some ps=>frzE nl (rowsDL (sndsD ps) []) ts pb rw (sndsD ps) fun ts pb rw qs=>match tdV T t with
   |some (.slice e)=>match tiV T e,tyOf T 9 e with
    |some te,some te'=>match ofVs te' (rezipD ps qs) 0 with
     |some l=>match Nat.beq te'.size te.size,Nat.beq len l.length,Nat.ble 1 te.size,Nat.ble (len*te.size) 16777216,Nat.beq te.zero.length te.size with
      |true,true,true,true,true=>pushE rw (.own e te' l) fun rw'=>litE rw.length fun n=>retE o.dst (.row n) ts pb rw' K
      |_,_,_,_,_=>none
     |none=>none
    |_,_=>none
   |_=>none
  |none=>none
 | .slice t x lo hi mx=>match opV ts x with
  |some a=>frzE nl (a.rows []) ts pb rw [] fun ts pb rw _=>purE W T (.slice t x lo hi mx) ts rw fun y=>retE o.dst y ts pb rw K
  |none=>none
 | .makeSlice t l c=>match opV ts l,opV ts c,tdV T t with
  |some (.x (.int _ n)),some (.x (.int _ c)),some (.slice e)=>match tiV T e,tyOf T 9 e with
   |some te,some te'=>match Nat.beq te'.size te.size,Nat.ble 1 te.size,Nat.beq te.zero.length te.size,te'.of (constV te.zero) with
    |true,true,true,some (z,[])=>match zeroO l with
     |true=>match n with
      | .ofNat 0=>W.nn c (W.room c.toNat te.bytes (pushE rw (.own e te' []) fun rw'=>litE rw.length fun n=>retE o.dst (.row n) ts pb rw' K))
      |_=>none
     |false=>W.nn c (W.room c.toNat te.bytes (W.bnd n c.toNat fun n=>pushE rw (.own e te' (List.replicate n z)) fun rw'=>litE rw.length fun n=>retE o.dst (.row n) ts pb rw' K))
    |_,_,_,_=>none
   |_,_=>none
  |_,_,_=>none
 | .index t x ix=>match opV ts x,opV ts ix,tdV T t with
  |some (.x (.str s)),some (.x (.int _ i)),some .string=>W.sidx s i fun b=>retE o.dst (.x (.int .u8 b)) ts pb rw K
  |_,_,_=>none
 | .range t x=>match opV ts x,tdV T t with
  |some (.x (.str s)),some .string=>pushE rw (.itr s 0) fun rw'=>litE rw.length fun n=>retE o.dst (.ob n) ts pb rw' K
  |_,_=>none
 | .next it b=>match opV ts it,b with
  |some (.ob j),true=>match drV rw j with
   |some (.itr s p)=>W.next s p (fun c q=>setDR rw j (.itr s q) fun rw'=>retE o.dst (.tup [.x (.lit true),.x (.int .i64 (p.toNat:Int)),.x (.int .i32 c)]) ts pb rw' K) (retE o.dst (.tup [.x (.lit false)]) ts pb rw K)
   |_=>none
  |_,_=>none
 | .convert src dst x=>match bytesQ T o ts with
  |some s=>retE o.dst (.x (.str s)) ts pb rw K
  |none=>purE W T (.convert src dst x) ts rw fun x=>retE o.dst x ts pb rw K
 |op=>purE W T op ts rw fun x=>retE o.dst x ts pb rw K
def nilQ(T:List TI)(o:Oper)(ts:List DV):Option (Bool×Bool):=
 match o.op with
 | .binOp op t x y _=>match tdV T t,opV ts x,opV ts y with
  |some (.slice _),some (.sl d l),some (.x (.slc none 0 0))=>match Nat.blt 0 d.size with
   |true=>match op with
    | .eql=>some (List.isEmpty l,false)
    | .neq=>some (List.isEmpty l,true)
    |_=>none
   |false=>none
  |_,_,_=>none
 |_=>none
def evOpN(W:Wd)(T:List TI)(C:ESs)(nl:Nat)(al:Nat→Bool)(av:List (Nat×Nat))(o:Oper)(ts:List DV)(pb:DBs)(rw:List DR)(K:DK β):Option β:=
 match nilQ T o ts with
 |some (e,neg)=>W.nilq e fun g=>retE o.dst (.x (.bool (notIf neg g))) ts pb rw K
 |none=>evOp W T C nl al av o ts pb rw K
def isClear:List Oper→Bool
 |o::_=>match o.op with
  | .call c=>match c.callee with | .builtin .clear=>true|_=>false
  |_=>false
 |[]=>false
def tailQ(T:List TI)(o:Oper)(rest:List Oper)(ts:List DV)(rw:List DR):Option (Nat×Int×Nat):=
 match isClear rest with
 |true=>match o.op with
  | .slice t x (some lo) none none=>match tdV T t,opV ts x,opV ts lo with
   |some (.slice e),some (.row j),some (.x (.int _ i))=>match tiV T e,drV rw j with
    |some te,some (.own _ t' l)=>match Nat.beq t'.size te.size with|true=>some (j,i,l.length)|false=>none
    |_,_=>none
   |_,_,_=>none
  |_=>none
 |false=>none
def evOpT(W:Wd)(T:List TI)(C:ESs)(nl:Nat)(al:Nat→Bool)(av:List (Nat×Nat))(o:Oper)(rest:List Oper)(ts:List DV)(pb:DBs)(rw:List DR)(K:DK β):Option β:=
 match tailQ T o rest ts rw with
 |some (j,i,n)=>W.bnd i n fun m=>retE o.dst (.rt j m) ts pb rw K
 |none=>evOpN W T C nl al av o ts pb rw K
end Go.Vc

namespace Go.Vc
open Go Go.RowKit
variable {β:Type} {r:β}
theorem pL_map(l:List DV):pL l=l.map DV.p:=by induction l with|nil=>rfl|cons x l ih=>simp[pL,ih]
theorem bP_map(l:DBs):bP l=l.map fun o=>o.map fun b=>⟨b.ty,pL b.cells⟩:=by
 induction l with
 |nil=>rfl
 |cons x l ih=>cases x<;>simp[bP,ih]
theorem rP_map(l:List DR):rP l=l.map DR.p:=by induction l with|nil=>rfl|cons x l ih=>simp[rP,ih]
theorem pL_set(l:List DV)(n:Nat)(v:DV):pL (l.set n v)=(pL l).set n v.p:=by simp[pL_map,List.map_set]
theorem bP_set(l:DBs)(n:Nat)(b:DB):bP (l.set n (some b))=(bP l).set n (some ⟨b.ty,pL b.cells⟩):=by simp[bP_map,List.map_set]
theorem rP_set(l:List DR)(n:Nat)(v:DR):rP (l.set n v)=(rP l).set n v.p:=by simp[rP_map,List.map_set]
theorem pL_app(l m:List DV):pL (l++m)=pL l++pL m:=by simp[pL_map]
theorem bP_app(l m:DBs):bP (l++m)=bP l++bP m:=by simp[bP_map]
theorem rP_app(l m:List DR):rP (l++m)=rP l++rP m:=by simp[rP_map]
theorem pL_len(l:List DV):(pL l).length=l.length:=by simp[pL_map]
theorem bP_len(l:DBs):(bP l).length=l.length:=by simp[bP_map]
theorem rP_len(l:List DR):(rP l).length=l.length:=by simp[rP_map]
theorem zwl(l:List DV)(n:Nat)(v:DV)(K:List DV→Option β):setE l n v K=K (l.set n v):=by
 induction l generalizing n K with
 |nil=>simp[setE]
 |cons x l ih=>cases n<;>simp[setE,ih]
theorem wrE_eq(vs:List DV)(l:List DV)(off:Nat)(K:List DV→Option β):wrE l off vs K=K (wr l off vs):=by
 induction vs generalizing l off with
 |nil=>simp[wrE,wr]
 |cons v vs ih=>simp only[wrE,zwl,wr,ih]
theorem pL_wr(vs:List DV)(l:List DV)(off:Nat):pL (wr l off vs)=wr (pL l) off (pL vs):=by
 induction vs generalizing l off with
 |nil=>simp[wr,pL]
 |cons v vs ih=>simp only[wr,pL,ih,pL_set]
theorem zus(l:DBs)(n:Nat)(v:Option DB)(K:DBs→Option β):setDB l n v K=K (l.set n v):=by
 induction l generalizing n K with
 |nil=>simp[setDB]
 |cons x l ih=>cases n<;>simp[setDB,ih]
theorem zik(l:List DR)(n:Nat)(v:DR)(K:List DR→Option β):setDR l n v K=K (l.set n v):=by
 induction l generalizing n K with
 |nil=>simp[setDR]
 |cons x l ih=>cases n<;>simp[setDR,ih]
theorem zfp(n:Nat)(K:Nat→Option β):litE n K=K n:=by unfold litE; split<;>rfl
theorem zdy{α:Type}(l:List α)(y:α)(K:List α→Option β):pushE l y K=K (l++[y]):=by
 induction l generalizing K with
 |nil=>rfl
 |cons x l ih=>simp[pushE,ih]
mutual
def DV.sub(f:Nat→Option DV):DV→DV
 | .row i=>match f i with|some p=>p|none=>.row i
 | .re i a b=>match f i with|some _=>.junk|none=>.re i a b
 | .rt i a=>match f i with|some _=>.junk|none=>.rt i a
 | .ob i=>match f i with|some _=>.junk|none=>.ob i
 | .fn g cs=>.fn g (subDL f cs)
 | .agg xs=>.agg (subDL f xs)
 | .tup xs=>.tup (subDL f xs)
 | .x y=>.x y
 | .sl t l=>.sl t l
 | .el t x o=>.el t x o
 | .own i o=>.own i o
 | .junk=>.junk
def subDL(f:Nat→Option DV):List DV→List DV
 |[]=>[]
 |p::ps=>p.sub f::subDL f ps
end
def subDB(f:Nat→Option DV):DBs→DBs
 |[]=>[]
 |some ⟨t,cs,w⟩::ps=>some ⟨t,subDL f cs,w⟩::subDB f ps
 |none::ps=>none::subDB f ps
mutual
theorem DV.subE_eq(f:Nat→Option DV):(p:DV)→(K:DV→Option β)→p.subE f K=K (p.sub f)
 | .row i,K=>by simp only[DV.subE,DV.sub]; cases f i<;>rfl
 | .re i a b,K=>by simp only[DV.subE,DV.sub]; cases f i<;>rfl
 | .rt i a,K=>by simp only[DV.subE,DV.sub]; cases f i<;>rfl
 | .ob i,K=>by simp only[DV.subE,DV.sub]; cases f i<;>rfl
 | .fn g cs,K=>by simp only[DV.subE,DV.sub,zel f cs]
 | .agg xs,K=>by simp only[DV.subE,DV.sub,zel f xs]
 | .tup xs,K=>by simp only[DV.subE,DV.sub,zel f xs]
 | .x y,K=>rfl
 | .sl t l,K=>rfl
 | .el t x o,K=>rfl
 | .own i o,K=>rfl
 | .junk,K=>rfl
theorem zel(f:Nat→Option DV):(ps:List DV)→(K:List DV→Option β)→subLE f ps K=K (subDL f ps)
 |[],K=>rfl
 |p::ps,K=>by simp only[subLE,subDL,DV.subE_eq f p,zel f ps]
end
theorem zij(f:Nat→Option DV):(ps:DBs)→(K:DBs→Option β)→subBE f ps K=K (subDB f ps)
 |[],K=>rfl
 |some ⟨t,cs,w⟩::ps,K=>by simp only[subBE,subDB,zel,zij f ps]
 |none::ps,K=>by simp only[subBE,subDB,zij f ps]
def fP(f:Nat→Option DV):Nat→Option PV:=fun i=>(f i).map DV.p
mutual
theorem DV.p_sub(f:Nat→Option DV):(p:DV)→(p.sub f).p=p.p.sub (fP f)
 | .row i=>by simp only[DV.sub,DV.p,PV.sub,fP]; cases h:f i<;>simp[DV.p]
 | .re i a b=>by simp only[DV.sub,DV.p,PV.sub,fP]; cases h:f i<;>simp[DV.p]
 | .rt i a=>by simp only[DV.sub,DV.p,PV.sub,fP]; cases h:f i<;>simp[DV.p]
 | .ob i=>by simp only[DV.sub,DV.p,PV.sub,fP]; cases h:f i<;>simp[DV.p]
 | .fn g cs=>by simp only[DV.sub,DV.p,PV.sub,pL_sub f cs]
 | .agg xs=>by simp only[DV.sub,DV.p,PV.sub,pL_sub f xs]
 | .tup xs=>by simp only[DV.sub,DV.p,PV.sub,pL_sub f xs]
 | .x y=>rfl
 | .sl t l=>rfl
 | .el t x o=>rfl
 | .own i o=>rfl
 | .junk=>rfl
theorem pL_sub(f:Nat→Option DV):(ps:List DV)→pL (subDL f ps)=subL (fP f) (pL ps)
 |[]=>rfl
 |p::ps=>by simp only[subDL,pL,subL,DV.p_sub f p,pL_sub f ps]
end
theorem bP_sub(f:Nat→Option DV):(ps:DBs)→bP (subDB f ps)=subB' (fP f) (bP ps)
 |[]=>rfl
 |some ⟨t,cs,w⟩::ps=>by simp only[subDB,bP,subB',pL_sub,bP_sub f ps]
 |none::ps=>by simp only[subDB,bP,subB',bP_sub f ps]
theorem fP_one(j:Nat)(v:DV):fP (oneD j v)=oneF j v.p:=by
 funext i; unfold fP oneD oneF; cases Nat.beq i j<;>rfl
theorem ylr:fP norowD=norowF:=by funext i; rfl
theorem gtV_p:∀{ts:List DV} {n:Nat} {v:DV} {K:RP},gtV ts n=some v→K v.p→getP (pL ts) n K
 |[],n,v,K,h,k=>by simp only[gtV,Option.some.injEq]at h; subst h; exact k
 |p::ts,0,v,K,h,k=>by
  simp only[gtV]at h
  simp only[pL,getP]
  cases p with
  |junk=>cases h
  |x y=>cases y<;>first|(cases h; done)|(simp only[Option.some.injEq]at h; subst h; exact k)
  |_=>simp only[Option.some.injEq]at h; subst h; exact k
 |p::ts,n+1,v,K,h,k=>by simp only[gtV]at h; simp only[pL,getP]; exact gtV_p h k
theorem opV_p{ts:List DV}{o:Operand}{v:DV}{K:RP}(h:opV ts o=some v)(k:K v.p):opP (pL ts) o K:=by
 cases o with
 |tmp t=>exact gtV_p h k
 |_=>simp only[opV,Option.some.injEq]at h; subst h; exact k
theorem opsV_p:∀{os:List Operand} {ts vs:List DV} {K:List PV→Prop},opsV ts os=some vs→K (pL vs)→opsP (pL ts) os K
 |[],ts,vs,K,h,k=>by simp only[opsV,Option.some.injEq]at h; subst h; exact k
 |o::os,ts,vs,K,h,k=>by
  simp only[opsV]at h
  split at h
  ·rename_i x hx
   split at h
   ·rename_i xs hxs
    simp only[Option.some.injEq]at h; subst h
    exact opV_p hx (opsV_p hxs k)
   ·cases h
  ·cases h
theorem subV_p:∀{xs:List DV} {o n:Nat} {l:List DV} {K:List PV→Prop},subV xs o n=some l→K (pL l)→subP (pL xs) o n K
 |x::xs,o+1,n,l,K,h,k=>by simp only[subV]at h; simp only[pL,subP]; exact subV_p h k
 |[],o+1,n,l,K,h,k=>by simp[subV]at h
 |[],0,0,l,K,h,k=>by simp only[subV,Option.some.injEq]at h; subst h; exact k
 |x::xs,0,0,l,K,h,k=>by simp only[subV,Option.some.injEq]at h; subst h; exact k
 |[],0,n+1,l,K,h,k=>by simp[subV]at h
 |x::xs,0,n+1,l,K,h,k=>by
  simp only[subV]at h
  split at h
  ·rename_i l' hl
   simp only[Option.some.injEq]at h; subst h
   simp only[pL,subP]
   exact subV_p hl k
  ·cases h
theorem dbV_p:∀{pb:DBs} {i:Nat} {b:DB} {K:PBox→Prop},dbV pb i=some b→K ⟨b.ty,pL b.cells⟩→pbK (bP pb) i K
 |[],i,b,K,h,k=>by cases h
 |o::pb,0,b,K,h,k=>by simp only[dbV]at h; subst h; exact k
 |o::pb,i+1,b,K,h,k=>by
  simp only[dbV]at h
  have:=dbV_p h k
  cases o<;>simpa only[bP,pbK]using this
theorem ztk:∀{pb:DBs} {i:Nat} {b:DB},dbV pb i=some b→pb[i]?=some (some b)
 |[],i,b,h=>by cases h
 |o::pb,0,b,h=>by simp only[dbV]at h; subst h; rfl
 |o::pb,i+1,b,h=>by simpa using ztk (pb:=pb) (i:=i) h
theorem yew:∀{pb:DBs} {i:Nat} {K:Prop},ybo pb i=true→K→zwh (bP pb) i K
 |[],i,K,h,k=>by cases h
 |o::pb,0,K,h,k=>by cases o with
  |none=>exact k
  |some b=>cases h
 |o::pb,i+1,K,h,k=>by
  have:=yew (pb:=pb) (i:=i) h k
  cases o<;>simpa only[bP,zwh]using this
theorem zwg:∀{pb:DBs} {i:Nat},ybo pb i=true→pb[i]?=some none
 |[],i,h=>by cases h
 |o::pb,0,h=>by cases o with
  |none=>rfl
  |some b=>cases h
 |o::pb,i+1,h=>by simpa using zwg (pb:=pb) (i:=i) h
theorem drV_p:∀{rw:List DR} {j:Nat} {e:TypeId} {t:DT} {l:List t.den} {K:Nat→Nat→List (List R)→Prop},drV rw j=some (.own e t l)→K e t.size (l.map fun x=>t.enc x)→rsK (rP rw) j K
 |[],j,e,t,l,K,h,k=>by cases h
 |x::rw,0,e,t,l,K,h,k=>by simp only[drV,Option.some.injEq]at h; subst h; exact k
 |x::rw,j+1,e,t,l,K,h,k=>by simp only[drV]at h; simp only[rP,rsK]; exact drV_p h k
theorem drV_d:∀{rw:List DR} {j:Nat} {e:TypeId} {t:DT} {l:List t.den} {K:Nat→Nat→List (List R)→Prop} {N:Prop},drV rw j=some (.own e t l)→K e t.size (l.map fun x=>t.enc x)→rsD (rP rw) j K N
 |[],j,e,t,l,K,N,h,k=>by cases h
 |x::rw,0,e,t,l,K,N,h,k=>by simp only[drV,Option.some.injEq]at h; subst h; exact k
 |x::rw,j+1,e,t,l,K,N,h,k=>by simp only[drV]at h; simp only[rP,rsD]; exact drV_d h k
theorem drV_n:∀{rw:List DR} {j:Nat} {K:Nat→Nat→List (List R)→Prop} {N:Prop},(∀e t l,drV rw j≠some (.own e t l))→N→rsD (rP rw) j K N
 |[],j,K,N,h,k=>k
 |x::rw,0,K,N,h,k=>by
  cases x with
  |own e t l=>exact absurd rfl (h e t l)
  |itr s p=>exact k
  |dead=>exact k
 |x::rw,j+1,K,N,h,k=>by simp only[rP,rsD]; exact drV_n (rw:=rw) (fun e t l=>h e t l) k
theorem drV_o:∀{rw:List DR} {j:Nat} {s:ByteArray} {p:Int} {K:Obj→Prop},drV rw j=some (.itr s p)→K (.stringIter s p.toNat)→obK (rP rw) j K
 |[],j,s,p,K,h,k=>by cases h
 |x::rw,0,s,p,K,h,k=>by simp only[drV,Option.some.injEq]at h; subst h; exact k
 |x::rw,j+1,s,p,K,h,k=>by simp only[drV]at h; simp only[rP,obK]; exact drV_o h k
theorem yjd:∀{ps:List DV} {ys:List XV} {K:List XV→Prop},flatV ps=some ys→K ys→flatK (pL ps) K
 |[],ys,K,h,k=>by simp only[flatV,Option.some.injEq]at h; subst h; exact k
 |p::ps,ys,K,h,k=>by
  simp only[flatV]at h
  cases p with
  |x y=>
   simp only at h
   split at h
   ·rename_i l hl
    simp only[Option.some.injEq]at h; subst h
    simp only[pL,DV.p,flatK]
    exact yjd hl k
   ·cases h
  |_=>cases h
def ndP:List (Nat×DV)→List (Nat×PV)
 |[]=>[]
 |(i,v)::l=>(i,v.p)::ndP l
theorem ycy:∀{l:List (Nat×Operand)} {ts:List DV} {ps:List (Nat×DV)} {K:List (Nat×PV)→Prop},partsV ts l=some ps→K (ndP ps)→partsP (pL ts) l K
 |[],ts,ps,K,h,k=>by simp only[partsV,Option.some.injEq]at h; subst h; exact k
 |(i,o)::l,ts,ps,K,h,k=>by
  simp only[partsV]at h
  split at h
  ·rename_i x hx
   split at h
   ·rename_i xs hxs
    simp only[Option.some.injEq]at h; subst h
    exact opV_p hx (ycy hxs k)
   ·cases h
  ·cases h
theorem zrk{x:DV}{cs:List DV}{K:List PV→Prop}(h:cellsV x=some cs)(k:K (pL cs)):cellsP x.p K:=by
 unfold cellsV at h
 cases x with
 |agg xs=>simp only[Option.some.injEq]at h; subst h; exact k
 |x y=>
  simp only[oneD1]at h
  split at h
  ·rename_i ho
   simp only[Option.some.injEq]at h; subst h
   simp only[DV.p,cellsP]
   cases y<;>first|(cases ho; done)|exact k|exact⟨ho,k⟩
  ·cases h
 |tup xs=>cases h
 |junk=>cases h
 |_=>simp only[oneD1,Option.some.injEq]at h; subst h; exact k
theorem yik:∀{cs:List DV} {K:Prop},oneDL cs=true→K→oneP (pL cs) K
 |[],K,_,k=>k
 |c::cs,K,h,k=>by
  simp only[oneDL]at h
  split at h
  ·rename_i ho
   have ih:=yik h k
   cases c with
   |x y=>
    simp only[oneD1]at ho
    simp only[pL,DV.p,oneP]
    cases y<;>first|(cases ho; done)|exact ih|exact⟨ho,ih⟩
   |agg _=>cases ho
   |tup _=>cases ho
   |junk=>cases ho
   |_=>exact ih
  ·cases h
theorem lenP_p:∀{cs:List DV} {n:Nat} {K:Prop},Nat.beq cs.length n=true→K→lenP (pL cs) n K
 |[],0,K,_,k=>k
 |[],n+1,K,h,k=>by simp at h
 |c::cs,0,K,h,k=>by simp at h
 |c::cs,n+1,K,h,k=>by simp only[pL,lenP]; exact lenP_p (by simpa using h) k
theorem tiV_p:∀{T:List TI} {t:Nat} {ti:TI} {K:TI→Prop},tiV T t=some ti→K ti→tiK T t K
 |[],t,ti,K,h,k=>by cases h
 |x::T,0,ti,K,h,k=>by
  simp only[tiV]at h
  split at h
  ·rename_i ho; simp only[Option.some.injEq]at h; subst h; simp only[tiK,ho]; exact k
  ·cases h
 |x::T,t+1,ti,K,h,k=>tiV_p (T:=T) (t:=t) h k
theorem tdV_p{T:List TI}{t:Nat}{d:TD}{K:TI→Prop}(h:tdV T t=some d)(k:∀ti,ti.td=d→K ti):tiK T t K:=by
 unfold tdV at h
 split at h
 ·rename_i ti hti; simp only[Option.some.injEq]at h; exact tiV_p hti (k ti h)
 ·cases h
theorem fldV_p:∀{fs:List (Nat×Nat×Nat)} {i off ty sz:Nat} {K:Nat→Nat→Nat→Prop},fldV fs i=some (off,ty,sz)→K off ty sz→fldK fs i K
 |[],i,off,ty,sz,K,h,k=>by cases h
 |(a,b,c)::fs,0,off,ty,sz,K,h,k=>by
  cases c with
  |zero=>cases h
  |succ c=>simp only[fldV,Option.some.injEq,Prod.mk.injEq]at h; obtain⟨rfl,rfl,rfl⟩:=h; exact k
 |f::fs,i+1,off,ty,sz,K,h,k=>fldV_p (fs:=fs) (i:=i) h k
theorem posV_p:∀{fs:List (Nat×Nat×Nat)} {K:Prop},posV fs=true→K→posK fs K
 |[],K,_,k=>k
 |(a,b,c)::fs,K,h,k=>by
  cases c with
  |zero=>cases h
  |succ c=>exact posV_p (fs:=fs) h k
theorem zvr(l:List Value):pL (constV l)=constP l:=by
 induction l with
 |nil=>rfl
 |cons x l ih=>simp only[constV,pL,constP,DV.p,ih]
theorem fillE_p{fs:List (Nat×Nat×Nat)}:∀{ps:List (Nat×DV)} {cells:List DV} {K:List DV→Option β},fillE fs cells ps K=some r→∃out,K out=some r∧∀K':List PV→Prop,K' (pL out)→fillP fs (pL cells) (ndP ps) K'
 |[],cells,K,h=>⟨cells,h,fun _ k=>k⟩
 |(i,x)::ps,cells,K,h=>by
  simp only[fillE]at h
  split at h
  ·rename_i off ty sz hf
   split at h
   ·rename_i cs hcs
    split at h
    ·rename_i l h1 h2
     rw[wrE_eq]at h
     obtain⟨out,h3,h4⟩:=fillE_p h
     refine⟨out,h3,fun K' k=>?_⟩
     simp only[ndP,fillP]
     refine fldV_p hf (zrk hcs (lenP_p h1 (subV_p h2 ((ybd _ _ _ _).2 ?_))))
     rw[←pL_wr]
     exact h4 K' k
    ·cases h
   ·cases h
  ·cases h
theorem opOV_p{ts:List DV}{o:Option Operand}{v:Option DV}{K:Option PV→Prop}(h:opOV ts o=some v)(k:K (v.map DV.p)):opOP (pL ts) o K:=by
 cases o with
 |none=>simp only[opOV,Option.some.injEq]at h; subst h; exact k
 |some o=>
  simp only[opOV]at h
  split at h
  ·rename_i x hx; simp only[Option.some.injEq]at h; subst h; exact opV_p hx k
  ·cases h
theorem zdn{c:Bool}{a:Option β}(h:(bif c then a else none)=some r):c=true∧a=some r:=by cases c<;>simp_all
theorem bndF_p{i:Int}{n:Nat}{K:Nat→Option β}(h:bndF i n K=some r):0≤i∧i≤(n:Int)∧K i.toNat=some r:=by
 obtain⟨h1,h2⟩:=zdn h
 simp only[Bool.and_eq_true,decide_eq_true_eq]at h1
 exact⟨h1.1,h1.2,h2⟩
theorem bndD_p{o:Option DV}{d b:Nat}{K:Nat→Option β}(h:bndD stdW o d b K=some r):∃n,K n=some r∧∀K':Nat→Prop,K' n→bndP (o.map DV.p) d b K':=by
 unfold bndD at h
 split at h
 ·exact⟨_,h,fun _ k=>k⟩
 ·obtain⟨h1,h2,h3⟩:=bndF_p h
  exact⟨_,h3,fun _ k=>⟨h1,h2,k⟩⟩
 ·cases h
theorem idxF_p{α:Type}{l:List α}{i:Int}{K:α→Option β}(h:idxF l i K=some r):∃x,0≤i∧i<(l.length:Int)∧l[i.toNat]?=some x∧K x=some r:=by
 unfold idxF at h
 split at h
 ·rename_i x hx
  obtain⟨h1,h2⟩:=zdn h
  have h1:=of_decide_eq_true h1
  have:=(List.getElem?_eq_some_iff.1 hx).1
  exact⟨x,h1,by omega,hx,h2⟩
 ·cases h
theorem idxR_p{α:Type}{l:List α}{i:Nat}{K:α→Option β}(h:idxR l i K=some r):∃x,l[i]?=some x∧K x=some r:=by
 unfold idxR at h
 split at h
 ·rename_i x hx; exact⟨x,hx,h⟩
 ·cases h
end Go.Vc
