/- The program's types. -/
import Derived.Test.YtpeimfcmhedjmaaBb
import Derived.Test.YtpeimfcmhedjmaaProg
import Derived.KernelRfl
namespace Go.Proofs.Ytpeimfcmhedjmaa.Ab
open Go
set_option linter.all false
/-- The types of the program. -/
def tab : List (Option TI) := [none,
  some ⟨.other, 1, 8, [.nilFunc]⟩,
  some ⟨.int .i64, 1, 8, [.int .i64 0]⟩,
  some ⟨.int .i64, 1, 8, [.int .i64 0]⟩,
  some ⟨.bool, 1, 1, [.bool false]⟩,
  some ⟨.int .u8, 1, 1, [.int .u8 0]⟩,
  some ⟨.int .u8, 1, 1, [.int .u8 0]⟩,
  some ⟨.struct [(2, 0), (3, 1), (4, 2), (6, 3)], 4, 24, [.int .i64 0, .int .i64 0, .bool false, .int .u8 0]⟩,
  some ⟨.struct [(2, 0), (3, 1), (4, 2), (6, 3)], 4, 24, [.int .i64 0, .int .i64 0, .bool false, .int .u8 0]⟩,
  some ⟨.str, 1, 16, [.string ByteArray.empty]⟩,
  some ⟨.str, 1, 16, [.string ByteArray.empty]⟩,
  some ⟨.str, 1, 16, [.string ByteArray.empty]⟩,
  some ⟨.int .u64, 1, 8, [.int .u64 0]⟩,
  some ⟨.struct [(9, 0), (12, 1)], 2, 24, [.string ByteArray.empty, .int .u64 0]⟩,
  some ⟨.struct [(9, 0), (12, 1)], 2, 24, [.string ByteArray.empty, .int .u64 0]⟩,
  some ⟨.ptr 127, 1, 8, [.pointer none]⟩,
  some ⟨.ptr 130, 1, 8, [.pointer none]⟩,
  some ⟨.ptr 139, 1, 8, [.pointer none]⟩,
  some ⟨.struct [(17, 0)], 1, 8, [.pointer none]⟩,
  some ⟨.struct [(17, 0)], 1, 8, [.pointer none]⟩,
  none,
  some ⟨.int .i32, 1, 4, [.int .i32 0]⟩,
  some ⟨.slice 61, 1, 24, [.slice none 0 0]⟩,
  some ⟨.slice 41, 1, 24, [.slice none 0 0]⟩,
  some ⟨.struct [(22, 0), (23, 1)], 2, 48, [.slice none 0 0, .slice none 0 0]⟩,
  some ⟨.struct [(22, 0), (23, 1)], 2, 48, [.slice none 0 0, .slice none 0 0]⟩,
  some ⟨.other, 1, 8, [.nilFunc]⟩,
  some ⟨.other, 1, 8, [.nilFunc]⟩,
  some ⟨.slice 9, 1, 24, [.slice none 0 0]⟩,
  some ⟨.struct [(28, 0), (28, 1)], 2, 48, [.slice none 0 0, .slice none 0 0]⟩,
  some ⟨.struct [(28, 0), (28, 1)], 2, 48, [.slice none 0 0, .slice none 0 0]⟩,
  some ⟨.other, 1, 8, [.nilFunc]⟩,
  some ⟨.other, 1, 8, [.nilFunc]⟩,
  some ⟨.other, 1, 8, [.nilFunc]⟩,
  some ⟨.other, 1, 8, [.nilFunc]⟩,
  some ⟨.other, 1, 8, [.nilFunc]⟩,
  some ⟨.other, 1, 8, [.nilFunc]⟩,
  some ⟨.other, 1, 8, [.nilFunc]⟩,
  some ⟨.slice 43, 1, 24, [.slice none 0 0]⟩,
  some ⟨.slice 73, 1, 24, [.slice none 0 0]⟩,
  some ⟨.struct [(9, 0), (38, 1), (38, 2), (39, 3), (3, 4)], 5, 96, [.string ByteArray.empty, .slice none 0 0, .slice none 0 0, .slice none 0 0, .int .i64 0]⟩,
  some ⟨.struct [(9, 0), (38, 1), (38, 2), (39, 3), (3, 4)], 5, 96, [.string ByteArray.empty, .slice none 0 0, .slice none 0 0, .slice none 0 0, .int .i64 0]⟩,
  some ⟨.struct [(9, 0), (4, 1)], 2, 24, [.string ByteArray.empty, .bool false]⟩,
  some ⟨.struct [(9, 0), (4, 1)], 2, 24, [.string ByteArray.empty, .bool false]⟩,
  some ⟨.other, 1, 8, [.nilFunc]⟩,
  some ⟨.other, 1, 8, [.nilFunc]⟩,
  some ⟨.other, 1, 8, [.nilFunc]⟩,
  some ⟨.other, 1, 8, [.nilFunc]⟩,
  some ⟨.other, 1, 8, [.nilFunc]⟩,
  some ⟨.other, 1, 8, [.nilFunc]⟩,
  some ⟨.other, 1, 8, [.nilFunc]⟩,
  some ⟨.other, 1, 8, [.nilFunc]⟩,
  some ⟨.other, 1, 8, [.nilFunc]⟩,
  some ⟨.other, 1, 8, [.nilFunc]⟩,
  some ⟨.map 9 3, 1, 8, [.map none]⟩,
  none,
  some ⟨.other, 1, 8, [.nilFunc]⟩,
  some ⟨.other, 1, 8, [.nilFunc]⟩,
  some ⟨.other, 1, 8, [.nilFunc]⟩,
  some ⟨.other, 1, 8, [.nilFunc]⟩,
  some ⟨.struct [(9, 0), (4, 1), (3, 2), (3, 3)], 4, 40, [.string ByteArray.empty, .bool false, .int .i64 0, .int .i64 0]⟩,
  some ⟨.struct [(9, 0), (4, 1), (3, 2), (3, 3)], 4, 40, [.string ByteArray.empty, .bool false, .int .i64 0, .int .i64 0]⟩,
  none,
  some ⟨.other, 1, 8, [.nilFunc]⟩,
  some ⟨.other, 1, 8, [.nilFunc]⟩,
  some ⟨.slice 23, 1, 24, [.slice none 0 0]⟩,
  some ⟨.other, 1, 8, [.nilFunc]⟩,
  some ⟨.struct [(28, 0)], 1, 24, [.slice none 0 0]⟩,
  some ⟨.struct [(28, 0)], 1, 24, [.slice none 0 0]⟩,
  some ⟨.other, 1, 8, [.nilFunc]⟩,
  some ⟨.other, 1, 8, [.nilFunc]⟩,
  some ⟨.slice 76, 1, 24, [.slice none 0 0]⟩,
  some ⟨.struct [(3, 0), (9, 1), (9, 2), (71, 3), (39, 4), (39, 5), (3, 6)], 7, 120, [.int .i64 0, .string ByteArray.empty, .string ByteArray.empty, .slice none 0 0, .slice none 0 0, .slice none 0 0, .int .i64 0]⟩,
  some ⟨.struct [(3, 0), (9, 1), (9, 2), (71, 3), (39, 4), (39, 5), (3, 6)], 7, 120, [.int .i64 0, .string ByteArray.empty, .string ByteArray.empty, .slice none 0 0, .slice none 0 0, .slice none 0 0, .int .i64 0]⟩,
  some ⟨.other, 1, 8, [.nilFunc]⟩,
  some ⟨.struct [(3, 0), (3, 1), (9, 2), (71, 3), (3, 4)], 5, 64, [.int .i64 0, .int .i64 0, .string ByteArray.empty, .slice none 0 0, .int .i64 0]⟩,
  some ⟨.struct [(3, 0), (3, 1), (9, 2), (71, 3), (3, 4)], 5, 64, [.int .i64 0, .int .i64 0, .string ByteArray.empty, .slice none 0 0, .int .i64 0]⟩,
  some ⟨.other, 1, 8, [.nilFunc]⟩,
  some ⟨.other, 1, 8, [.nilFunc]⟩,
  some ⟨.other, 1, 8, [.nilFunc]⟩,
  some ⟨.other, 1, 8, [.nilFunc]⟩,
  some ⟨.other, 1, 8, [.nilFunc]⟩,
  some ⟨.other, 1, 8, [.nilFunc]⟩,
  some ⟨.other, 1, 8, [.nilFunc]⟩,
  some ⟨.other, 1, 8, [.nilFunc]⟩,
  some ⟨.other, 1, 8, [.nilFunc]⟩,
  some ⟨.other, 1, 8, [.nilFunc]⟩,
  some ⟨.other, 1, 8, [.nilFunc]⟩,
  some ⟨.slice 22, 1, 24, [.slice none 0 0]⟩,
  some ⟨.other, 1, 8, [.nilFunc]⟩,
  some ⟨.other, 1, 8, [.nilFunc]⟩,
  some ⟨.other, 1, 8, [.nilFunc]⟩,
  some ⟨.other, 1, 8, [.nilFunc]⟩,
  some ⟨.ptr 68, 1, 8, [.pointer none]⟩,
  some ⟨.other, 1, 8, [.nilFunc]⟩,
  some ⟨.other, 1, 8, [.nilFunc]⟩,
  some ⟨.int .u64, 1, 8, [.int .u64 0]⟩,
  some ⟨.other, 1, 8, [.nilFunc]⟩,
  some ⟨.other, 1, 8, [.nilFunc]⟩,
  some ⟨.other, 1, 8, [.nilFunc]⟩,
  some ⟨.other, 1, 8, [.nilFunc]⟩,
  some ⟨.other, 1, 8, [.nilFunc]⟩,
  some ⟨.int .i64, 1, 8, [.int .i64 0]⟩,
  none,
  some ⟨.other, 1, 8, [.nilFunc]⟩,
  some ⟨.other, 1, 8, [.nilFunc]⟩,
  some ⟨.other, 1, 8, [.nilFunc]⟩,
  some ⟨.other, 1, 8, [.nilFunc]⟩,
  none,
  some ⟨.other, 1, 8, [.nilFunc]⟩,
  some ⟨.other, 1, 8, [.nilFunc]⟩,
  some ⟨.int .u32, 1, 4, [.int .u32 0]⟩,
  some ⟨.other, 1, 8, [.nilFunc]⟩,
  some ⟨.int .u64, 1, 8, [.int .u64 0]⟩,
  some ⟨.other, 1, 8, [.nilFunc]⟩,
  some ⟨.other, 1, 8, [.nilFunc]⟩,
  some ⟨.int .u64, 1, 8, [.int .u64 0]⟩,
  some ⟨.other, 1, 8, [.nilFunc]⟩,
  some ⟨.other, 1, 8, [.nilFunc]⟩,
  some ⟨.other, 1, 8, [.nilFunc]⟩,
  some ⟨.ptr 3, 1, 8, [.pointer none]⟩,
  some ⟨.other, 1, 8, [.nilFunc]⟩,
  some ⟨.ptr 116, 1, 8, [.pointer none]⟩,
  none,
  some ⟨.other, 1, 8, [.nilFunc]⟩,
  some ⟨.other, 1, 8, [.nilFunc]⟩,
  some ⟨.struct [(17, 0), (17, 1), (17, 2), (9, 3)], 4, 40, [.pointer none, .pointer none, .pointer none, .string ByteArray.empty]⟩,
  some ⟨.struct [(17, 0), (17, 1), (17, 2), (9, 3)], 4, 40, [.pointer none, .pointer none, .pointer none, .string ByteArray.empty]⟩,
  some ⟨.array 0 16, 0, 0, []⟩,
  some ⟨.struct [(128, 0)], 0, 0, []⟩,
  some ⟨.struct [(128, 0)], 0, 0, []⟩,
  some ⟨.other, 1, 8, [.nilFunc]⟩,
  some ⟨.int .u8, 1, 1, [.int .u8 0]⟩,
  some ⟨.int .u8, 1, 1, [.int .u8 0]⟩,
  some ⟨.other, 1, 8, [.nilFunc]⟩,
  some ⟨.ptr 5, 1, 8, [.pointer none]⟩,
  some ⟨.int .i32, 1, 4, [.int .i32 0]⟩,
  some ⟨.int .i32, 1, 4, [.int .i32 0]⟩,
  some ⟨.struct [(12, 0), (12, 1), (111, 2), (132, 3), (5, 4), (5, 5), (133, 6), (134, 7), (135, 8), (136, 9), (137, 10)], 11, 48, [.int .u64 0, .int .u64 0, .int .u32 0, .int .u8 0, .int .u8 0, .int .u8 0, .int .u8 0, .nilFunc, .pointer none, .int .i32 0, .int .i32 0]⟩,
  some ⟨.struct [(12, 0), (12, 1), (111, 2), (132, 3), (5, 4), (5, 5), (133, 6), (134, 7), (135, 8), (136, 9), (137, 10)], 11, 48, [.int .u64 0, .int .u64 0, .int .u32 0, .int .u8 0, .int .u8 0, .int .u8 0, .int .u8 0, .nilFunc, .pointer none, .int .i32 0, .int .i32 0]⟩,
  none]
theorem htab : TabOK Try.prog tab := tab_ok (P := Try.prog) (by kernel_rfl)
theorem eqt43 : EqT Try.prog 43 := ⟨by kernel_rfl, by kernel_rfl, by kernel_rfl⟩
theorem ti2 : ti tab 2 = some ⟨.int .i64, 1, 8, [.int .i64 0]⟩ := rfl
theorem ti3 : ti tab 3 = some ⟨.int .i64, 1, 8, [.int .i64 0]⟩ := rfl
theorem ti4 : ti tab 4 = some ⟨.bool, 1, 1, [.bool false]⟩ := rfl
theorem ti5 : ti tab 5 = some ⟨.int .u8, 1, 1, [.int .u8 0]⟩ := rfl
theorem ti9 : ti tab 9 = some ⟨.str, 1, 16, [.string ByteArray.empty]⟩ := rfl
theorem ti12 : ti tab 12 = some ⟨.int .u64, 1, 8, [.int .u64 0]⟩ := rfl
theorem ti13 : ti tab 13 = some ⟨.struct [(9, 0), (12, 1)], 2, 24, [.string ByteArray.empty, .int .u64 0]⟩ := rfl
theorem ti19 : ti tab 19 = some ⟨.struct [(17, 0)], 1, 8, [.pointer none]⟩ := rfl
theorem ti21 : ti tab 21 = some ⟨.int .i32, 1, 4, [.int .i32 0]⟩ := rfl
theorem ti22 : ti tab 22 = some ⟨.slice 61, 1, 24, [.slice none 0 0]⟩ := rfl
theorem ti23 : ti tab 23 = some ⟨.slice 41, 1, 24, [.slice none 0 0]⟩ := rfl
theorem ti24 : ti tab 24 = some ⟨.struct [(22, 0), (23, 1)], 2, 48, [.slice none 0 0, .slice none 0 0]⟩ := rfl
theorem ti25 : ti tab 25 = some ⟨.struct [(22, 0), (23, 1)], 2, 48, [.slice none 0 0, .slice none 0 0]⟩ := rfl
theorem ti28 : ti tab 28 = some ⟨.slice 9, 1, 24, [.slice none 0 0]⟩ := rfl
theorem ti29 : ti tab 29 = some ⟨.struct [(28, 0), (28, 1)], 2, 48, [.slice none 0 0, .slice none 0 0]⟩ := rfl
theorem ti30 : ti tab 30 = some ⟨.struct [(28, 0), (28, 1)], 2, 48, [.slice none 0 0, .slice none 0 0]⟩ := rfl
theorem ti38 : ti tab 38 = some ⟨.slice 43, 1, 24, [.slice none 0 0]⟩ := rfl
theorem ti39 : ti tab 39 = some ⟨.slice 73, 1, 24, [.slice none 0 0]⟩ := rfl
theorem ti40 : ti tab 40 = some ⟨.struct [(9, 0), (38, 1), (38, 2), (39, 3), (3, 4)], 5, 96, [.string ByteArray.empty, .slice none 0 0, .slice none 0 0, .slice none 0 0, .int .i64 0]⟩ := rfl
theorem ti41 : ti tab 41 = some ⟨.struct [(9, 0), (38, 1), (38, 2), (39, 3), (3, 4)], 5, 96, [.string ByteArray.empty, .slice none 0 0, .slice none 0 0, .slice none 0 0, .int .i64 0]⟩ := rfl
theorem ti42 : ti tab 42 = some ⟨.struct [(9, 0), (4, 1)], 2, 24, [.string ByteArray.empty, .bool false]⟩ := rfl
theorem ti43 : ti tab 43 = some ⟨.struct [(9, 0), (4, 1)], 2, 24, [.string ByteArray.empty, .bool false]⟩ := rfl
theorem ti54 : ti tab 54 = some ⟨.map 9 3, 1, 8, [.map none]⟩ := rfl
theorem ti60 : ti tab 60 = some ⟨.struct [(9, 0), (4, 1), (3, 2), (3, 3)], 4, 40, [.string ByteArray.empty, .bool false, .int .i64 0, .int .i64 0]⟩ := rfl
theorem ti61 : ti tab 61 = some ⟨.struct [(9, 0), (4, 1), (3, 2), (3, 3)], 4, 40, [.string ByteArray.empty, .bool false, .int .i64 0, .int .i64 0]⟩ := rfl
theorem ti65 : ti tab 65 = some ⟨.slice 23, 1, 24, [.slice none 0 0]⟩ := rfl
theorem ti67 : ti tab 67 = some ⟨.struct [(28, 0)], 1, 24, [.slice none 0 0]⟩ := rfl
theorem ti68 : ti tab 68 = some ⟨.struct [(28, 0)], 1, 24, [.slice none 0 0]⟩ := rfl
theorem ti71 : ti tab 71 = some ⟨.slice 76, 1, 24, [.slice none 0 0]⟩ := rfl
theorem ti72 : ti tab 72 = some ⟨.struct [(3, 0), (9, 1), (9, 2), (71, 3), (39, 4), (39, 5), (3, 6)], 7, 120, [.int .i64 0, .string ByteArray.empty, .string ByteArray.empty, .slice none 0 0, .slice none 0 0, .slice none 0 0, .int .i64 0]⟩ := rfl
theorem ti73 : ti tab 73 = some ⟨.struct [(3, 0), (9, 1), (9, 2), (71, 3), (39, 4), (39, 5), (3, 6)], 7, 120, [.int .i64 0, .string ByteArray.empty, .string ByteArray.empty, .slice none 0 0, .slice none 0 0, .slice none 0 0, .int .i64 0]⟩ := rfl
theorem ti75 : ti tab 75 = some ⟨.struct [(3, 0), (3, 1), (9, 2), (71, 3), (3, 4)], 5, 64, [.int .i64 0, .int .i64 0, .string ByteArray.empty, .slice none 0 0, .int .i64 0]⟩ := rfl
theorem ti76 : ti tab 76 = some ⟨.struct [(3, 0), (3, 1), (9, 2), (71, 3), (3, 4)], 5, 64, [.int .i64 0, .int .i64 0, .string ByteArray.empty, .slice none 0 0, .int .i64 0]⟩ := rfl
theorem ti88 : ti tab 88 = some ⟨.slice 22, 1, 24, [.slice none 0 0]⟩ := rfl
theorem ti93 : ti tab 93 = some ⟨.ptr 68, 1, 8, [.pointer none]⟩ := rfl
theorem ti96 : ti tab 96 = some ⟨.int .u64, 1, 8, [.int .u64 0]⟩ := rfl
theorem ti102 : ti tab 102 = some ⟨.int .i64, 1, 8, [.int .i64 0]⟩ := rfl
theorem ti111 : ti tab 111 = some ⟨.int .u32, 1, 4, [.int .u32 0]⟩ := rfl
theorem ti113 : ti tab 113 = some ⟨.int .u64, 1, 8, [.int .u64 0]⟩ := rfl
theorem ti116 : ti tab 116 = some ⟨.int .u64, 1, 8, [.int .u64 0]⟩ := rfl
theorem ti120 : ti tab 120 = some ⟨.ptr 3, 1, 8, [.pointer none]⟩ := rfl
theorem ti122 : ti tab 122 = some ⟨.ptr 116, 1, 8, [.pointer none]⟩ := rfl
theorem ti135 : ti tab 135 = some ⟨.ptr 5, 1, 8, [.pointer none]⟩ := rfl

end Go.Proofs.Ytpeimfcmhedjmaa.Ab
