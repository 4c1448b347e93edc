/- The program's types. -/
import Derived.Test.YtpapooaaccmnpaaAb15
import Derived.Test.YtpapooaaccmnpaaProg
import Derived.KernelRfl
namespace Go.Proofs.Ytpapooaaccmnpaa.Ab
open Go
set_option linter.all false
/-- The types of the program. -/
def tab : List (Option TI) := [none,
  some ⟨.other, 1, 8, [.nilFunc]⟩,
  some ⟨.int .i64, 1, 8, [.int .i64 0]⟩,
  some ⟨.int .i64, 1, 8, [.int .i64 0]⟩,
  some ⟨.bool, 1, 1, [.bool false]⟩,
  some ⟨.int .u8, 1, 1, [.int .u8 0]⟩,
  some ⟨.int .u8, 1, 1, [.int .u8 0]⟩,
  some ⟨.struct [(2, 0), (3, 1), (4, 2), (6, 3)], 4, 24, [.int .i64 0, .int .i64 0, .bool false, .int .u8 0]⟩,
  some ⟨.struct [(2, 0), (3, 1), (4, 2), (6, 3)], 4, 24, [.int .i64 0, .int .i64 0, .bool false, .int .u8 0]⟩,
  some ⟨.str, 1, 16, [.string ByteArray.empty]⟩,
  some ⟨.str, 1, 16, [.string ByteArray.empty]⟩,
  some ⟨.str, 1, 16, [.string ByteArray.empty]⟩,
  some ⟨.int .u64, 1, 8, [.int .u64 0]⟩,
  some ⟨.struct [(9, 0), (12, 1)], 2, 24, [.string ByteArray.empty, .int .u64 0]⟩,
  some ⟨.struct [(9, 0), (12, 1)], 2, 24, [.string ByteArray.empty, .int .u64 0]⟩,
  some ⟨.ptr 72, 1, 8, [.pointer none]⟩,
  some ⟨.ptr 75, 1, 8, [.pointer none]⟩,
  some ⟨.ptr 84, 1, 8, [.pointer none]⟩,
  some ⟨.struct [(17, 0)], 1, 8, [.pointer none]⟩,
  some ⟨.struct [(17, 0)], 1, 8, [.pointer none]⟩,
  none,
  some ⟨.int .i32, 1, 4, [.int .i32 0]⟩,
  some ⟨.slice 52, 1, 24, [.slice none 0 0]⟩,
  some ⟨.slice 49, 1, 24, [.slice none 0 0]⟩,
  some ⟨.struct [(9, 0), (22, 1), (22, 2), (23, 3), (3, 4)], 5, 96, [.string ByteArray.empty, .slice none 0 0, .slice none 0 0, .slice none 0 0, .int .i64 0]⟩,
  some ⟨.struct [(9, 0), (22, 1), (22, 2), (23, 3), (3, 4)], 5, 96, [.string ByteArray.empty, .slice none 0 0, .slice none 0 0, .slice none 0 0, .int .i64 0]⟩,
  some ⟨.slice 41, 1, 24, [.slice none 0 0]⟩,
  some ⟨.struct [(9, 0), (3, 1), (26, 2), (22, 3), (3, 4)], 5, 80, [.string ByteArray.empty, .int .i64 0, .slice none 0 0, .slice none 0 0, .int .i64 0]⟩,
  some ⟨.struct [(9, 0), (3, 1), (26, 2), (22, 3), (3, 4)], 5, 80, [.string ByteArray.empty, .int .i64 0, .slice none 0 0, .slice none 0 0, .int .i64 0]⟩,
  some ⟨.slice 3, 1, 24, [.slice none 0 0]⟩,
  none,
  some ⟨.other, 1, 8, [.nilFunc]⟩,
  some ⟨.other, 1, 8, [.nilFunc]⟩,
  some ⟨.other, 1, 8, [.nilFunc]⟩,
  some ⟨.other, 1, 8, [.nilFunc]⟩,
  some ⟨.other, 1, 8, [.nilFunc]⟩,
  some ⟨.other, 1, 8, [.nilFunc]⟩,
  some ⟨.other, 1, 8, [.nilFunc]⟩,
  some ⟨.other, 1, 8, [.nilFunc]⟩,
  some ⟨.slice 47, 1, 24, [.slice none 0 0]⟩,
  some ⟨.struct [(3, 0), (3, 1), (3, 2), (9, 3), (9, 4), (39, 5)], 6, 80, [.int .i64 0, .int .i64 0, .int .i64 0, .string ByteArray.empty, .string ByteArray.empty, .slice none 0 0]⟩,
  some ⟨.struct [(3, 0), (3, 1), (3, 2), (9, 3), (9, 4), (39, 5)], 6, 80, [.int .i64 0, .int .i64 0, .int .i64 0, .string ByteArray.empty, .string ByteArray.empty, .slice none 0 0]⟩,
  some ⟨.struct [(3, 0), (3, 1), (26, 2), (29, 3)], 4, 64, [.int .i64 0, .int .i64 0, .slice none 0 0, .slice none 0 0]⟩,
  some ⟨.struct [(3, 0), (3, 1), (26, 2), (29, 3)], 4, 64, [.int .i64 0, .int .i64 0, .slice none 0 0, .slice none 0 0]⟩,
  some ⟨.other, 1, 8, [.nilFunc]⟩,
  some ⟨.other, 1, 8, [.nilFunc]⟩,
  some ⟨.struct [(3, 0), (3, 1), (9, 2), (39, 3), (3, 4)], 5, 64, [.int .i64 0, .int .i64 0, .string ByteArray.empty, .slice none 0 0, .int .i64 0]⟩,
  some ⟨.struct [(3, 0), (3, 1), (9, 2), (39, 3), (3, 4)], 5, 64, [.int .i64 0, .int .i64 0, .string ByteArray.empty, .slice none 0 0, .int .i64 0]⟩,
  some ⟨.struct [(3, 0), (9, 1), (9, 2), (39, 3), (23, 4), (23, 5), (3, 6)], 7, 120, [.int .i64 0, .string ByteArray.empty, .string ByteArray.empty, .slice none 0 0, .slice none 0 0, .slice none 0 0, .int .i64 0]⟩,
  some ⟨.struct [(3, 0), (9, 1), (9, 2), (39, 3), (23, 4), (23, 5), (3, 6)], 7, 120, [.int .i64 0, .string ByteArray.empty, .string ByteArray.empty, .slice none 0 0, .slice none 0 0, .slice none 0 0, .int .i64 0]⟩,
  some ⟨.other, 1, 8, [.nilFunc]⟩,
  some ⟨.struct [(9, 0), (4, 1)], 2, 24, [.string ByteArray.empty, .bool false]⟩,
  some ⟨.struct [(9, 0), (4, 1)], 2, 24, [.string ByteArray.empty, .bool false]⟩,
  some ⟨.struct [(28, 0), (3, 5), (29, 6)], 7, 112, [.string ByteArray.empty, .int .i64 0, .slice none 0 0, .slice none 0 0, .int .i64 0, .int .i64 0, .slice none 0 0]⟩,
  some ⟨.struct [(28, 0), (3, 5), (29, 6)], 7, 112, [.string ByteArray.empty, .int .i64 0, .slice none 0 0, .slice none 0 0, .int .i64 0, .int .i64 0, .slice none 0 0]⟩,
  some ⟨.ptr 54, 1, 8, [.pointer none]⟩,
  some ⟨.other, 1, 8, [.nilFunc]⟩,
  some ⟨.other, 1, 8, [.nilFunc]⟩,
  some ⟨.other, 1, 8, [.nilFunc]⟩,
  some ⟨.other, 1, 8, [.nilFunc]⟩,
  some ⟨.other, 1, 8, [.nilFunc]⟩,
  some ⟨.other, 1, 8, [.nilFunc]⟩,
  some ⟨.other, 1, 8, [.nilFunc]⟩,
  some ⟨.slice 22, 1, 24, [.slice none 0 0]⟩,
  some ⟨.other, 1, 8, [.nilFunc]⟩,
  some ⟨.other, 1, 8, [.nilFunc]⟩,
  some ⟨.other, 1, 8, [.nilFunc]⟩,
  some ⟨.other, 1, 8, [.nilFunc]⟩,
  some ⟨.other, 1, 8, [.nilFunc]⟩,
  some ⟨.other, 1, 8, [.nilFunc]⟩,
  some ⟨.other, 1, 8, [.nilFunc]⟩,
  some ⟨.struct [(17, 0), (17, 1), (17, 2), (9, 3)], 4, 40, [.pointer none, .pointer none, .pointer none, .string ByteArray.empty]⟩,
  some ⟨.struct [(17, 0), (17, 1), (17, 2), (9, 3)], 4, 40, [.pointer none, .pointer none, .pointer none, .string ByteArray.empty]⟩,
  some ⟨.array 0 16, 0, 0, []⟩,
  some ⟨.struct [(73, 0)], 0, 0, []⟩,
  some ⟨.struct [(73, 0)], 0, 0, []⟩,
  some ⟨.int .u32, 1, 4, [.int .u32 0]⟩,
  some ⟨.int .u8, 1, 1, [.int .u8 0]⟩,
  some ⟨.int .u8, 1, 1, [.int .u8 0]⟩,
  some ⟨.other, 1, 8, [.nilFunc]⟩,
  some ⟨.ptr 5, 1, 8, [.pointer none]⟩,
  some ⟨.int .i32, 1, 4, [.int .i32 0]⟩,
  some ⟨.int .i32, 1, 4, [.int .i32 0]⟩,
  some ⟨.struct [(12, 0), (12, 1), (76, 2), (77, 3), (5, 4), (5, 5), (78, 6), (79, 7), (80, 8), (81, 9), (82, 10)], 11, 48, [.int .u64 0, .int .u64 0, .int .u32 0, .int .u8 0, .int .u8 0, .int .u8 0, .int .u8 0, .nilFunc, .pointer none, .int .i32 0, .int .i32 0]⟩,
  some ⟨.struct [(12, 0), (12, 1), (76, 2), (77, 3), (5, 4), (5, 5), (78, 6), (79, 7), (80, 8), (81, 9), (82, 10)], 11, 48, [.int .u64 0, .int .u64 0, .int .u32 0, .int .u8 0, .int .u8 0, .int .u8 0, .int .u8 0, .nilFunc, .pointer none, .int .i32 0, .int .i32 0]⟩,
  none]
theorem htab : TabOK Try.prog tab := tab_ok (P := Try.prog) (by kernel_rfl)
theorem eqt52 : EqT Try.prog 52 := ⟨by kernel_rfl, by kernel_rfl, by kernel_rfl⟩
theorem ti2 : ti tab 2 = some ⟨.int .i64, 1, 8, [.int .i64 0]⟩ := rfl
theorem ti3 : ti tab 3 = some ⟨.int .i64, 1, 8, [.int .i64 0]⟩ := rfl
theorem ti4 : ti tab 4 = some ⟨.bool, 1, 1, [.bool false]⟩ := rfl
theorem ti5 : ti tab 5 = some ⟨.int .u8, 1, 1, [.int .u8 0]⟩ := rfl
theorem ti9 : ti tab 9 = some ⟨.str, 1, 16, [.string ByteArray.empty]⟩ := rfl
theorem ti12 : ti tab 12 = some ⟨.int .u64, 1, 8, [.int .u64 0]⟩ := rfl
theorem ti13 : ti tab 13 = some ⟨.struct [(9, 0), (12, 1)], 2, 24, [.string ByteArray.empty, .int .u64 0]⟩ := rfl
theorem ti19 : ti tab 19 = some ⟨.struct [(17, 0)], 1, 8, [.pointer none]⟩ := rfl
theorem ti21 : ti tab 21 = some ⟨.int .i32, 1, 4, [.int .i32 0]⟩ := rfl
theorem ti22 : ti tab 22 = some ⟨.slice 52, 1, 24, [.slice none 0 0]⟩ := rfl
theorem ti23 : ti tab 23 = some ⟨.slice 49, 1, 24, [.slice none 0 0]⟩ := rfl
theorem ti24 : ti tab 24 = some ⟨.struct [(9, 0), (22, 1), (22, 2), (23, 3), (3, 4)], 5, 96, [.string ByteArray.empty, .slice none 0 0, .slice none 0 0, .slice none 0 0, .int .i64 0]⟩ := rfl
theorem ti25 : ti tab 25 = some ⟨.struct [(9, 0), (22, 1), (22, 2), (23, 3), (3, 4)], 5, 96, [.string ByteArray.empty, .slice none 0 0, .slice none 0 0, .slice none 0 0, .int .i64 0]⟩ := rfl
theorem ti26 : ti tab 26 = some ⟨.slice 41, 1, 24, [.slice none 0 0]⟩ := rfl
theorem ti27 : ti tab 27 = some ⟨.struct [(9, 0), (3, 1), (26, 2), (22, 3), (3, 4)], 5, 80, [.string ByteArray.empty, .int .i64 0, .slice none 0 0, .slice none 0 0, .int .i64 0]⟩ := rfl
theorem ti28 : ti tab 28 = some ⟨.struct [(9, 0), (3, 1), (26, 2), (22, 3), (3, 4)], 5, 80, [.string ByteArray.empty, .int .i64 0, .slice none 0 0, .slice none 0 0, .int .i64 0]⟩ := rfl
theorem ti29 : ti tab 29 = some ⟨.slice 3, 1, 24, [.slice none 0 0]⟩ := rfl
theorem ti39 : ti tab 39 = some ⟨.slice 47, 1, 24, [.slice none 0 0]⟩ := rfl
theorem ti40 : ti tab 40 = some ⟨.struct [(3, 0), (3, 1), (3, 2), (9, 3), (9, 4), (39, 5)], 6, 80, [.int .i64 0, .int .i64 0, .int .i64 0, .string ByteArray.empty, .string ByteArray.empty, .slice none 0 0]⟩ := rfl
theorem ti41 : ti tab 41 = some ⟨.struct [(3, 0), (3, 1), (3, 2), (9, 3), (9, 4), (39, 5)], 6, 80, [.int .i64 0, .int .i64 0, .int .i64 0, .string ByteArray.empty, .string ByteArray.empty, .slice none 0 0]⟩ := rfl
theorem ti42 : ti tab 42 = some ⟨.struct [(3, 0), (3, 1), (26, 2), (29, 3)], 4, 64, [.int .i64 0, .int .i64 0, .slice none 0 0, .slice none 0 0]⟩ := rfl
theorem ti43 : ti tab 43 = some ⟨.struct [(3, 0), (3, 1), (26, 2), (29, 3)], 4, 64, [.int .i64 0, .int .i64 0, .slice none 0 0, .slice none 0 0]⟩ := rfl
theorem ti46 : ti tab 46 = some ⟨.struct [(3, 0), (3, 1), (9, 2), (39, 3), (3, 4)], 5, 64, [.int .i64 0, .int .i64 0, .string ByteArray.empty, .slice none 0 0, .int .i64 0]⟩ := rfl
theorem ti47 : ti tab 47 = some ⟨.struct [(3, 0), (3, 1), (9, 2), (39, 3), (3, 4)], 5, 64, [.int .i64 0, .int .i64 0, .string ByteArray.empty, .slice none 0 0, .int .i64 0]⟩ := rfl
theorem ti48 : ti tab 48 = some ⟨.struct [(3, 0), (9, 1), (9, 2), (39, 3), (23, 4), (23, 5), (3, 6)], 7, 120, [.int .i64 0, .string ByteArray.empty, .string ByteArray.empty, .slice none 0 0, .slice none 0 0, .slice none 0 0, .int .i64 0]⟩ := rfl
theorem ti49 : ti tab 49 = some ⟨.struct [(3, 0), (9, 1), (9, 2), (39, 3), (23, 4), (23, 5), (3, 6)], 7, 120, [.int .i64 0, .string ByteArray.empty, .string ByteArray.empty, .slice none 0 0, .slice none 0 0, .slice none 0 0, .int .i64 0]⟩ := rfl
theorem ti51 : ti tab 51 = some ⟨.struct [(9, 0), (4, 1)], 2, 24, [.string ByteArray.empty, .bool false]⟩ := rfl
theorem ti52 : ti tab 52 = some ⟨.struct [(9, 0), (4, 1)], 2, 24, [.string ByteArray.empty, .bool false]⟩ := rfl
theorem ti53 : ti tab 53 = some ⟨.struct [(28, 0), (3, 5), (29, 6)], 7, 112, [.string ByteArray.empty, .int .i64 0, .slice none 0 0, .slice none 0 0, .int .i64 0, .int .i64 0, .slice none 0 0]⟩ := rfl
theorem ti54 : ti tab 54 = some ⟨.struct [(28, 0), (3, 5), (29, 6)], 7, 112, [.string ByteArray.empty, .int .i64 0, .slice none 0 0, .slice none 0 0, .int .i64 0, .int .i64 0, .slice none 0 0]⟩ := rfl
theorem ti55 : ti tab 55 = some ⟨.ptr 54, 1, 8, [.pointer none]⟩ := rfl
theorem ti63 : ti tab 63 = some ⟨.slice 22, 1, 24, [.slice none 0 0]⟩ := rfl
theorem ti76 : ti tab 76 = some ⟨.int .u32, 1, 4, [.int .u32 0]⟩ := rfl
theorem ti80 : ti tab 80 = some ⟨.ptr 5, 1, 8, [.pointer none]⟩ := rfl

end Go.Proofs.Ytpapooaaccmnpaa.Ab
