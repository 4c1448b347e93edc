/- The program's types. -/
import Derived.Test.YtphpnbdfngdinaaAb15
import Derived.Test.YtphpnbdfngdinaaProg
import Derived.KernelRfl
namespace Go.Proofs.Ytphpnbdfngdinaa.Ab
open Go
set_option linter.all false
/-- The types of the program. -/
def tab : List (Option TI) := [none,
  some ⟨.other, 1, 8, [.nilFunc]⟩,
  some ⟨.int .i64, 1, 8, [.int .i64 0]⟩,
  some ⟨.int .i64, 1, 8, [.int .i64 0]⟩,
  some ⟨.bool, 1, 1, [.bool false]⟩,
  some ⟨.int .u8, 1, 1, [.int .u8 0]⟩,
  some ⟨.int .u8, 1, 1, [.int .u8 0]⟩,
  some ⟨.struct [(2, 0), (3, 1), (4, 2), (6, 3)], 4, 24, [.int .i64 0, .int .i64 0, .bool false, .int .u8 0]⟩,
  some ⟨.struct [(2, 0), (3, 1), (4, 2), (6, 3)], 4, 24, [.int .i64 0, .int .i64 0, .bool false, .int .u8 0]⟩,
  some ⟨.str, 1, 16, [.string ByteArray.empty]⟩,
  some ⟨.str, 1, 16, [.string ByteArray.empty]⟩,
  some ⟨.str, 1, 16, [.string ByteArray.empty]⟩,
  some ⟨.int .u64, 1, 8, [.int .u64 0]⟩,
  some ⟨.struct [(9, 0), (12, 1)], 2, 24, [.string ByteArray.empty, .int .u64 0]⟩,
  some ⟨.struct [(9, 0), (12, 1)], 2, 24, [.string ByteArray.empty, .int .u64 0]⟩,
  some ⟨.ptr 118, 1, 8, [.pointer none]⟩,
  some ⟨.ptr 121, 1, 8, [.pointer none]⟩,
  some ⟨.ptr 130, 1, 8, [.pointer none]⟩,
  some ⟨.struct [(17, 0)], 1, 8, [.pointer none]⟩,
  some ⟨.struct [(17, 0)], 1, 8, [.pointer none]⟩,
  none,
  some ⟨.int .i32, 1, 4, [.int .i32 0]⟩,
  some ⟨.slice 56, 1, 24, [.slice none 0 0]⟩,
  some ⟨.other, 1, 8, [.nilFunc]⟩,
  some ⟨.slice 9, 1, 24, [.slice none 0 0]⟩,
  some ⟨.other, 1, 8, [.nilFunc]⟩,
  some ⟨.other, 1, 8, [.nilFunc]⟩,
  some ⟨.other, 1, 8, [.nilFunc]⟩,
  some ⟨.slice 3, 1, 24, [.slice none 0 0]⟩,
  some ⟨.other, 1, 8, [.nilFunc]⟩,
  some ⟨.other, 1, 8, [.nilFunc]⟩,
  some ⟨.other, 1, 8, [.nilFunc]⟩,
  some ⟨.slice 34, 1, 24, [.slice none 0 0]⟩,
  some ⟨.struct [(3, 0), (3, 1), (9, 2), (32, 3), (3, 4)], 5, 64, [.int .i64 0, .int .i64 0, .string ByteArray.empty, .slice none 0 0, .int .i64 0]⟩,
  some ⟨.struct [(3, 0), (3, 1), (9, 2), (32, 3), (3, 4)], 5, 64, [.int .i64 0, .int .i64 0, .string ByteArray.empty, .slice none 0 0, .int .i64 0]⟩,
  some ⟨.other, 1, 8, [.nilFunc]⟩,
  some ⟨.other, 1, 8, [.nilFunc]⟩,
  some ⟨.other, 1, 8, [.nilFunc]⟩,
  some ⟨.other, 1, 8, [.nilFunc]⟩,
  some ⟨.other, 1, 8, [.nilFunc]⟩,
  some ⟨.other, 1, 8, [.nilFunc]⟩,
  some ⟨.slice 71, 1, 24, [.slice none 0 0]⟩,
  some ⟨.struct [(9, 0), (41, 1), (41, 2), (22, 3), (3, 4)], 5, 96, [.string ByteArray.empty, .slice none 0 0, .slice none 0 0, .slice none 0 0, .int .i64 0]⟩,
  some ⟨.struct [(9, 0), (41, 1), (41, 2), (22, 3), (3, 4)], 5, 96, [.string ByteArray.empty, .slice none 0 0, .slice none 0 0, .slice none 0 0, .int .i64 0]⟩,
  some ⟨.array 2 34, 10, 128, [.int .i64 0, .int .i64 0, .string ByteArray.empty, .slice none 0 0, .int .i64 0, .int .i64 0, .int .i64 0, .string ByteArray.empty, .slice none 0 0, .int .i64 0]⟩,
  some ⟨.other, 1, 8, [.nilFunc]⟩,
  some ⟨.other, 1, 8, [.nilFunc]⟩,
  some ⟨.other, 1, 8, [.nilFunc]⟩,
  some ⟨.other, 1, 8, [.nilFunc]⟩,
  some ⟨.other, 1, 8, [.nilFunc]⟩,
  some ⟨.other, 1, 8, [.nilFunc]⟩,
  some ⟨.struct [(24, 0)], 1, 24, [.slice none 0 0]⟩,
  some ⟨.struct [(24, 0)], 1, 24, [.slice none 0 0]⟩,
  some ⟨.other, 1, 8, [.nilFunc]⟩,
  some ⟨.other, 1, 8, [.nilFunc]⟩,
  some ⟨.struct [(3, 0), (9, 1), (9, 2), (32, 3), (22, 4), (22, 5), (3, 6)], 7, 120, [.int .i64 0, .string ByteArray.empty, .string ByteArray.empty, .slice none 0 0, .slice none 0 0, .slice none 0 0, .int .i64 0]⟩,
  some ⟨.struct [(3, 0), (9, 1), (9, 2), (32, 3), (22, 4), (22, 5), (3, 6)], 7, 120, [.int .i64 0, .string ByteArray.empty, .string ByteArray.empty, .slice none 0 0, .slice none 0 0, .slice none 0 0, .int .i64 0]⟩,
  some ⟨.other, 1, 8, [.nilFunc]⟩,
  some ⟨.other, 1, 8, [.nilFunc]⟩,
  some ⟨.other, 1, 8, [.nilFunc]⟩,
  some ⟨.other, 1, 8, [.nilFunc]⟩,
  some ⟨.struct [(28, 0)], 1, 24, [.slice none 0 0]⟩,
  some ⟨.struct [(28, 0)], 1, 24, [.slice none 0 0]⟩,
  some ⟨.other, 1, 8, [.nilFunc]⟩,
  some ⟨.other, 1, 8, [.nilFunc]⟩,
  some ⟨.other, 1, 8, [.nilFunc]⟩,
  some ⟨.other, 1, 8, [.nilFunc]⟩,
  some ⟨.other, 1, 8, [.nilFunc]⟩,
  some ⟨.other, 1, 8, [.nilFunc]⟩,
  some ⟨.other, 1, 8, [.nilFunc]⟩,
  some ⟨.struct [(9, 0), (4, 1)], 2, 24, [.string ByteArray.empty, .bool false]⟩,
  some ⟨.struct [(9, 0), (4, 1)], 2, 24, [.string ByteArray.empty, .bool false]⟩,
  some ⟨.other, 1, 8, [.nilFunc]⟩,
  some ⟨.ptr 52, 1, 8, [.pointer none]⟩,
  some ⟨.other, 1, 8, [.nilFunc]⟩,
  some ⟨.other, 1, 8, [.nilFunc]⟩,
  some ⟨.ptr 62, 1, 8, [.pointer none]⟩,
  some ⟨.other, 1, 8, [.nilFunc]⟩,
  some ⟨.other, 1, 8, [.nilFunc]⟩,
  some ⟨.other, 1, 8, [.nilFunc]⟩,
  some ⟨.other, 1, 8, [.nilFunc]⟩,
  some ⟨.int .u64, 1, 8, [.int .u64 0]⟩,
  some ⟨.other, 1, 8, [.nilFunc]⟩,
  some ⟨.other, 1, 8, [.nilFunc]⟩,
  some ⟨.int .i64, 1, 8, [.int .i64 0]⟩,
  none,
  some ⟨.other, 1, 8, [.nilFunc]⟩,
  some ⟨.other, 1, 8, [.nilFunc]⟩,
  some ⟨.other, 1, 8, [.nilFunc]⟩,
  some ⟨.other, 1, 8, [.nilFunc]⟩,
  none,
  some ⟨.other, 1, 8, [.nilFunc]⟩,
  some ⟨.other, 1, 8, [.nilFunc]⟩,
  some ⟨.int .u32, 1, 4, [.int .u32 0]⟩,
  some ⟨.other, 1, 8, [.nilFunc]⟩,
  some ⟨.int .u64, 1, 8, [.int .u64 0]⟩,
  some ⟨.other, 1, 8, [.nilFunc]⟩,
  some ⟨.other, 1, 8, [.nilFunc]⟩,
  some ⟨.other, 1, 8, [.nilFunc]⟩,
  some ⟨.other, 1, 8, [.nilFunc]⟩,
  some ⟨.other, 1, 8, [.nilFunc]⟩,
  some ⟨.other, 1, 8, [.nilFunc]⟩,
  some ⟨.int .u64, 1, 8, [.int .u64 0]⟩,
  some ⟨.other, 1, 8, [.nilFunc]⟩,
  some ⟨.other, 1, 8, [.nilFunc]⟩,
  some ⟨.other, 1, 8, [.nilFunc]⟩,
  some ⟨.ptr 3, 1, 8, [.pointer none]⟩,
  some ⟨.other, 1, 8, [.nilFunc]⟩,
  some ⟨.other, 1, 8, [.nilFunc]⟩,
  some ⟨.other, 1, 8, [.nilFunc]⟩,
  some ⟨.other, 1, 8, [.nilFunc]⟩,
  some ⟨.other, 1, 8, [.nilFunc]⟩,
  some ⟨.ptr 102, 1, 8, [.pointer none]⟩,
  none,
  some ⟨.other, 1, 8, [.nilFunc]⟩,
  some ⟨.other, 1, 8, [.nilFunc]⟩,
  some ⟨.other, 1, 8, [.nilFunc]⟩,
  some ⟨.struct [(17, 0), (17, 1), (17, 2), (9, 3)], 4, 40, [.pointer none, .pointer none, .pointer none, .string ByteArray.empty]⟩,
  some ⟨.struct [(17, 0), (17, 1), (17, 2), (9, 3)], 4, 40, [.pointer none, .pointer none, .pointer none, .string ByteArray.empty]⟩,
  some ⟨.array 0 16, 0, 0, []⟩,
  some ⟨.struct [(119, 0)], 0, 0, []⟩,
  some ⟨.struct [(119, 0)], 0, 0, []⟩,
  some ⟨.other, 1, 8, [.nilFunc]⟩,
  some ⟨.int .u8, 1, 1, [.int .u8 0]⟩,
  some ⟨.int .u8, 1, 1, [.int .u8 0]⟩,
  some ⟨.other, 1, 8, [.nilFunc]⟩,
  some ⟨.ptr 5, 1, 8, [.pointer none]⟩,
  some ⟨.int .i32, 1, 4, [.int .i32 0]⟩,
  some ⟨.int .i32, 1, 4, [.int .i32 0]⟩,
  some ⟨.struct [(12, 0), (12, 1), (93, 2), (123, 3), (5, 4), (5, 5), (124, 6), (125, 7), (126, 8), (127, 9), (128, 10)], 11, 48, [.int .u64 0, .int .u64 0, .int .u32 0, .int .u8 0, .int .u8 0, .int .u8 0, .int .u8 0, .nilFunc, .pointer none, .int .i32 0, .int .i32 0]⟩,
  some ⟨.struct [(12, 0), (12, 1), (93, 2), (123, 3), (5, 4), (5, 5), (124, 6), (125, 7), (126, 8), (127, 9), (128, 10)], 11, 48, [.int .u64 0, .int .u64 0, .int .u32 0, .int .u8 0, .int .u8 0, .int .u8 0, .int .u8 0, .nilFunc, .pointer none, .int .i32 0, .int .i32 0]⟩,
  none]
theorem htab : TabOK Try.prog tab := tab_ok (P := Try.prog) (by kernel_rfl)
theorem eqt71 : EqT Try.prog 71 := ⟨by kernel_rfl, by kernel_rfl, by kernel_rfl⟩
theorem ti2 : ti tab 2 = some ⟨.int .i64, 1, 8, [.int .i64 0]⟩ := rfl
theorem ti3 : ti tab 3 = some ⟨.int .i64, 1, 8, [.int .i64 0]⟩ := rfl
theorem ti4 : ti tab 4 = some ⟨.bool, 1, 1, [.bool false]⟩ := rfl
theorem ti5 : ti tab 5 = some ⟨.int .u8, 1, 1, [.int .u8 0]⟩ := rfl
theorem ti9 : ti tab 9 = some ⟨.str, 1, 16, [.string ByteArray.empty]⟩ := rfl
theorem ti12 : ti tab 12 = some ⟨.int .u64, 1, 8, [.int .u64 0]⟩ := rfl
theorem ti13 : ti tab 13 = some ⟨.struct [(9, 0), (12, 1)], 2, 24, [.string ByteArray.empty, .int .u64 0]⟩ := rfl
theorem ti19 : ti tab 19 = some ⟨.struct [(17, 0)], 1, 8, [.pointer none]⟩ := rfl
theorem ti21 : ti tab 21 = some ⟨.int .i32, 1, 4, [.int .i32 0]⟩ := rfl
theorem ti22 : ti tab 22 = some ⟨.slice 56, 1, 24, [.slice none 0 0]⟩ := rfl
theorem ti24 : ti tab 24 = some ⟨.slice 9, 1, 24, [.slice none 0 0]⟩ := rfl
theorem ti28 : ti tab 28 = some ⟨.slice 3, 1, 24, [.slice none 0 0]⟩ := rfl
theorem ti32 : ti tab 32 = some ⟨.slice 34, 1, 24, [.slice none 0 0]⟩ := rfl
theorem ti33 : ti tab 33 = some ⟨.struct [(3, 0), (3, 1), (9, 2), (32, 3), (3, 4)], 5, 64, [.int .i64 0, .int .i64 0, .string ByteArray.empty, .slice none 0 0, .int .i64 0]⟩ := rfl
theorem ti34 : ti tab 34 = some ⟨.struct [(3, 0), (3, 1), (9, 2), (32, 3), (3, 4)], 5, 64, [.int .i64 0, .int .i64 0, .string ByteArray.empty, .slice none 0 0, .int .i64 0]⟩ := rfl
theorem ti41 : ti tab 41 = some ⟨.slice 71, 1, 24, [.slice none 0 0]⟩ := rfl
theorem ti42 : ti tab 42 = some ⟨.struct [(9, 0), (41, 1), (41, 2), (22, 3), (3, 4)], 5, 96, [.string ByteArray.empty, .slice none 0 0, .slice none 0 0, .slice none 0 0, .int .i64 0]⟩ := rfl
theorem ti43 : ti tab 43 = some ⟨.struct [(9, 0), (41, 1), (41, 2), (22, 3), (3, 4)], 5, 96, [.string ByteArray.empty, .slice none 0 0, .slice none 0 0, .slice none 0 0, .int .i64 0]⟩ := rfl
theorem ti44 : ti tab 44 = some ⟨.array 2 34, 10, 128, [.int .i64 0, .int .i64 0, .string ByteArray.empty, .slice none 0 0, .int .i64 0, .int .i64 0, .int .i64 0, .string ByteArray.empty, .slice none 0 0, .int .i64 0]⟩ := rfl
theorem ti51 : ti tab 51 = some ⟨.struct [(24, 0)], 1, 24, [.slice none 0 0]⟩ := rfl
theorem ti52 : ti tab 52 = some ⟨.struct [(24, 0)], 1, 24, [.slice none 0 0]⟩ := rfl
theorem ti55 : ti tab 55 = some ⟨.struct [(3, 0), (9, 1), (9, 2), (32, 3), (22, 4), (22, 5), (3, 6)], 7, 120, [.int .i64 0, .string ByteArray.empty, .string ByteArray.empty, .slice none 0 0, .slice none 0 0, .slice none 0 0, .int .i64 0]⟩ := rfl
theorem ti56 : ti tab 56 = some ⟨.struct [(3, 0), (9, 1), (9, 2), (32, 3), (22, 4), (22, 5), (3, 6)], 7, 120, [.int .i64 0, .string ByteArray.empty, .string ByteArray.empty, .slice none 0 0, .slice none 0 0, .slice none 0 0, .int .i64 0]⟩ := rfl
theorem ti61 : ti tab 61 = some ⟨.struct [(28, 0)], 1, 24, [.slice none 0 0]⟩ := rfl
theorem ti62 : ti tab 62 = some ⟨.struct [(28, 0)], 1, 24, [.slice none 0 0]⟩ := rfl
theorem ti70 : ti tab 70 = some ⟨.struct [(9, 0), (4, 1)], 2, 24, [.string ByteArray.empty, .bool false]⟩ := rfl
theorem ti71 : ti tab 71 = some ⟨.struct [(9, 0), (4, 1)], 2, 24, [.string ByteArray.empty, .bool false]⟩ := rfl
theorem ti73 : ti tab 73 = some ⟨.ptr 52, 1, 8, [.pointer none]⟩ := rfl
theorem ti76 : ti tab 76 = some ⟨.ptr 62, 1, 8, [.pointer none]⟩ := rfl
theorem ti81 : ti tab 81 = some ⟨.int .u64, 1, 8, [.int .u64 0]⟩ := rfl
theorem ti84 : ti tab 84 = some ⟨.int .i64, 1, 8, [.int .i64 0]⟩ := rfl
theorem ti93 : ti tab 93 = some ⟨.int .u32, 1, 4, [.int .u32 0]⟩ := rfl
theorem ti95 : ti tab 95 = some ⟨.int .u64, 1, 8, [.int .u64 0]⟩ := rfl
theorem ti102 : ti tab 102 = some ⟨.int .u64, 1, 8, [.int .u64 0]⟩ := rfl
theorem ti106 : ti tab 106 = some ⟨.ptr 3, 1, 8, [.pointer none]⟩ := rfl
theorem ti112 : ti tab 112 = some ⟨.ptr 102, 1, 8, [.pointer none]⟩ := rfl
theorem ti126 : ti tab 126 = some ⟨.ptr 5, 1, 8, [.pointer none]⟩ := rfl

end Go.Proofs.Ytphpnbdfngdinaa.Ab
