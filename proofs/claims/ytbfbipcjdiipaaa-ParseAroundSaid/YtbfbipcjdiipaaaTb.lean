/- The program's types. -/
import Derived.Test.YtbfbipcjdiipaaaBb
import Derived.Test.YtbfbipcjdiipaaaProg
import Derived.KernelRfl
namespace Go.Proofs.Ytbfbipcjdiipaaa.Ab
open Go
set_option linter.all false
/-- The types of the program. -/
def tab : List (Option TI) := [none,
  some ⟨.other, 1, 8, [.nilFunc]⟩,
  some ⟨.int .i64, 1, 8, [.int .i64 0]⟩,
  some ⟨.int .i64, 1, 8, [.int .i64 0]⟩,
  some ⟨.bool, 1, 1, [.bool false]⟩,
  some ⟨.int .u8, 1, 1, [.int .u8 0]⟩,
  some ⟨.int .u8, 1, 1, [.int .u8 0]⟩,
  some ⟨.struct [(2, 0), (3, 1), (4, 2), (6, 3)], 4, 24, [.int .i64 0, .int .i64 0, .bool false, .int .u8 0]⟩,
  some ⟨.struct [(2, 0), (3, 1), (4, 2), (6, 3)], 4, 24, [.int .i64 0, .int .i64 0, .bool false, .int .u8 0]⟩,
  some ⟨.str, 1, 16, [.string ByteArray.empty]⟩,
  some ⟨.str, 1, 16, [.string ByteArray.empty]⟩,
  some ⟨.str, 1, 16, [.string ByteArray.empty]⟩,
  some ⟨.int .u64, 1, 8, [.int .u64 0]⟩,
  some ⟨.struct [(9, 0), (12, 1)], 2, 24, [.string ByteArray.empty, .int .u64 0]⟩,
  some ⟨.struct [(9, 0), (12, 1)], 2, 24, [.string ByteArray.empty, .int .u64 0]⟩,
  some ⟨.ptr 71, 1, 8, [.pointer none]⟩,
  some ⟨.ptr 74, 1, 8, [.pointer none]⟩,
  some ⟨.ptr 83, 1, 8, [.pointer none]⟩,
  some ⟨.struct [(17, 0)], 1, 8, [.pointer none]⟩,
  some ⟨.struct [(17, 0)], 1, 8, [.pointer none]⟩,
  none,
  some ⟨.int .i32, 1, 4, [.int .i32 0]⟩,
  some ⟨.slice 5, 1, 24, [.slice none 0 0]⟩,
  some ⟨.other, 1, 8, [.nilFunc]⟩,
  some ⟨.slice 26, 1, 24, [.slice none 0 0]⟩,
  some ⟨.struct [(3, 0), (3, 1), (9, 2), (24, 3), (3, 4)], 5, 64, [.int .i64 0, .int .i64 0, .string ByteArray.empty, .slice none 0 0, .int .i64 0]⟩,
  some ⟨.struct [(3, 0), (3, 1), (9, 2), (24, 3), (3, 4)], 5, 64, [.int .i64 0, .int .i64 0, .string ByteArray.empty, .slice none 0 0, .int .i64 0]⟩,
  some ⟨.int .i64, 1, 8, [.int .i64 0]⟩,
  none,
  some ⟨.other, 1, 8, [.nilFunc]⟩,
  some ⟨.other, 1, 8, [.nilFunc]⟩,
  some ⟨.other, 1, 8, [.nilFunc]⟩,
  some ⟨.other, 1, 8, [.nilFunc]⟩,
  some ⟨.slice 38, 1, 24, [.slice none 0 0]⟩,
  none,
  some ⟨.other, 1, 8, [.nilFunc]⟩,
  some ⟨.other, 1, 8, [.nilFunc]⟩,
  some ⟨.struct [(3, 0), (9, 1), (3, 2), (3, 3)], 4, 40, [.int .i64 0, .string ByteArray.empty, .int .i64 0, .int .i64 0]⟩,
  some ⟨.struct [(3, 0), (9, 1), (3, 2), (3, 3)], 4, 40, [.int .i64 0, .string ByteArray.empty, .int .i64 0, .int .i64 0]⟩,
  some ⟨.other, 1, 8, [.nilFunc]⟩,
  some ⟨.ptr 42, 1, 8, [.pointer none]⟩,
  some ⟨.struct [(22, 0), (3, 1), (33, 2)], 3, 56, [.slice none 0 0, .int .i64 0, .slice none 0 0]⟩,
  some ⟨.struct [(22, 0), (3, 1), (33, 2)], 3, 56, [.slice none 0 0, .int .i64 0, .slice none 0 0]⟩,
  some ⟨.other, 1, 8, [.nilFunc]⟩,
  some ⟨.ptr 46, 1, 8, [.pointer none]⟩,
  some ⟨.struct [(33, 0), (3, 1), (27, 2)], 3, 40, [.slice none 0 0, .int .i64 0, .int .i64 0]⟩,
  some ⟨.struct [(33, 0), (3, 1), (27, 2)], 3, 40, [.slice none 0 0, .int .i64 0, .int .i64 0]⟩,
  some ⟨.other, 1, 8, [.nilFunc]⟩,
  some ⟨.other, 1, 8, [.nilFunc]⟩,
  some ⟨.other, 1, 8, [.nilFunc]⟩,
  some ⟨.other, 1, 8, [.nilFunc]⟩,
  some ⟨.other, 1, 8, [.nilFunc]⟩,
  some ⟨.other, 1, 8, [.nilFunc]⟩,
  some ⟨.other, 1, 8, [.nilFunc]⟩,
  some ⟨.other, 1, 8, [.nilFunc]⟩,
  some ⟨.other, 1, 8, [.nilFunc]⟩,
  some ⟨.other, 1, 8, [.nilFunc]⟩,
  some ⟨.other, 1, 8, [.nilFunc]⟩,
  some ⟨.int .u64, 1, 8, [.int .u64 0]⟩,
  some ⟨.other, 1, 8, [.nilFunc]⟩,
  some ⟨.slice 9, 1, 24, [.slice none 0 0]⟩,
  some ⟨.other, 1, 8, [.nilFunc]⟩,
  some ⟨.other, 1, 8, [.nilFunc]⟩,
  some ⟨.other, 1, 8, [.nilFunc]⟩,
  some ⟨.other, 1, 8, [.nilFunc]⟩,
  some ⟨.other, 1, 8, [.nilFunc]⟩,
  some ⟨.other, 1, 8, [.nilFunc]⟩,
  some ⟨.other, 1, 8, [.nilFunc]⟩,
  some ⟨.other, 1, 8, [.nilFunc]⟩,
  some ⟨.other, 1, 8, [.nilFunc]⟩,
  some ⟨.struct [(17, 0), (17, 1), (17, 2), (9, 3)], 4, 40, [.pointer none, .pointer none, .pointer none, .string ByteArray.empty]⟩,
  some ⟨.struct [(17, 0), (17, 1), (17, 2), (9, 3)], 4, 40, [.pointer none, .pointer none, .pointer none, .string ByteArray.empty]⟩,
  some ⟨.array 0 16, 0, 0, []⟩,
  some ⟨.struct [(72, 0)], 0, 0, []⟩,
  some ⟨.struct [(72, 0)], 0, 0, []⟩,
  some ⟨.int .u32, 1, 4, [.int .u32 0]⟩,
  some ⟨.int .u8, 1, 1, [.int .u8 0]⟩,
  some ⟨.int .u8, 1, 1, [.int .u8 0]⟩,
  some ⟨.other, 1, 8, [.nilFunc]⟩,
  some ⟨.ptr 5, 1, 8, [.pointer none]⟩,
  some ⟨.int .i32, 1, 4, [.int .i32 0]⟩,
  some ⟨.int .i32, 1, 4, [.int .i32 0]⟩,
  some ⟨.struct [(12, 0), (12, 1), (75, 2), (76, 3), (5, 4), (5, 5), (77, 6), (78, 7), (79, 8), (80, 9), (81, 10)], 11, 48, [.int .u64 0, .int .u64 0, .int .u32 0, .int .u8 0, .int .u8 0, .int .u8 0, .int .u8 0, .nilFunc, .pointer none, .int .i32 0, .int .i32 0]⟩,
  some ⟨.struct [(12, 0), (12, 1), (75, 2), (76, 3), (5, 4), (5, 5), (77, 6), (78, 7), (79, 8), (80, 9), (81, 10)], 11, 48, [.int .u64 0, .int .u64 0, .int .u32 0, .int .u8 0, .int .u8 0, .int .u8 0, .int .u8 0, .nilFunc, .pointer none, .int .i32 0, .int .i32 0]⟩,
  none]
theorem htab : TabOK Try.prog tab := tab_ok (P := Try.prog) (by kernel_rfl)
theorem ti2 : ti tab 2 = some ⟨.int .i64, 1, 8, [.int .i64 0]⟩ := rfl
theorem ti3 : ti tab 3 = some ⟨.int .i64, 1, 8, [.int .i64 0]⟩ := rfl
theorem ti4 : ti tab 4 = some ⟨.bool, 1, 1, [.bool false]⟩ := rfl
theorem ti5 : ti tab 5 = some ⟨.int .u8, 1, 1, [.int .u8 0]⟩ := rfl
theorem ti9 : ti tab 9 = some ⟨.str, 1, 16, [.string ByteArray.empty]⟩ := rfl
theorem ti12 : ti tab 12 = some ⟨.int .u64, 1, 8, [.int .u64 0]⟩ := rfl
theorem ti13 : ti tab 13 = some ⟨.struct [(9, 0), (12, 1)], 2, 24, [.string ByteArray.empty, .int .u64 0]⟩ := rfl
theorem ti19 : ti tab 19 = some ⟨.struct [(17, 0)], 1, 8, [.pointer none]⟩ := rfl
theorem ti21 : ti tab 21 = some ⟨.int .i32, 1, 4, [.int .i32 0]⟩ := rfl
theorem ti22 : ti tab 22 = some ⟨.slice 5, 1, 24, [.slice none 0 0]⟩ := rfl
theorem ti24 : ti tab 24 = some ⟨.slice 26, 1, 24, [.slice none 0 0]⟩ := rfl
theorem ti25 : ti tab 25 = some ⟨.struct [(3, 0), (3, 1), (9, 2), (24, 3), (3, 4)], 5, 64, [.int .i64 0, .int .i64 0, .string ByteArray.empty, .slice none 0 0, .int .i64 0]⟩ := rfl
theorem ti26 : ti tab 26 = some ⟨.struct [(3, 0), (3, 1), (9, 2), (24, 3), (3, 4)], 5, 64, [.int .i64 0, .int .i64 0, .string ByteArray.empty, .slice none 0 0, .int .i64 0]⟩ := rfl
theorem ti27 : ti tab 27 = some ⟨.int .i64, 1, 8, [.int .i64 0]⟩ := rfl
theorem ti33 : ti tab 33 = some ⟨.slice 38, 1, 24, [.slice none 0 0]⟩ := rfl
theorem ti37 : ti tab 37 = some ⟨.struct [(3, 0), (9, 1), (3, 2), (3, 3)], 4, 40, [.int .i64 0, .string ByteArray.empty, .int .i64 0, .int .i64 0]⟩ := rfl
theorem ti38 : ti tab 38 = some ⟨.struct [(3, 0), (9, 1), (3, 2), (3, 3)], 4, 40, [.int .i64 0, .string ByteArray.empty, .int .i64 0, .int .i64 0]⟩ := rfl
theorem ti40 : ti tab 40 = some ⟨.ptr 42, 1, 8, [.pointer none]⟩ := rfl
theorem ti41 : ti tab 41 = some ⟨.struct [(22, 0), (3, 1), (33, 2)], 3, 56, [.slice none 0 0, .int .i64 0, .slice none 0 0]⟩ := rfl
theorem ti42 : ti tab 42 = some ⟨.struct [(22, 0), (3, 1), (33, 2)], 3, 56, [.slice none 0 0, .int .i64 0, .slice none 0 0]⟩ := rfl
theorem ti44 : ti tab 44 = some ⟨.ptr 46, 1, 8, [.pointer none]⟩ := rfl
theorem ti45 : ti tab 45 = some ⟨.struct [(33, 0), (3, 1), (27, 2)], 3, 40, [.slice none 0 0, .int .i64 0, .int .i64 0]⟩ := rfl
theorem ti46 : ti tab 46 = some ⟨.struct [(33, 0), (3, 1), (27, 2)], 3, 40, [.slice none 0 0, .int .i64 0, .int .i64 0]⟩ := rfl
theorem ti58 : ti tab 58 = some ⟨.int .u64, 1, 8, [.int .u64 0]⟩ := rfl
theorem ti60 : ti tab 60 = some ⟨.slice 9, 1, 24, [.slice none 0 0]⟩ := rfl
theorem ti75 : ti tab 75 = some ⟨.int .u32, 1, 4, [.int .u32 0]⟩ := rfl
theorem ti79 : ti tab 79 = some ⟨.ptr 5, 1, 8, [.pointer none]⟩ := rfl

end Go.Proofs.Ytbfbipcjdiipaaa.Ab
