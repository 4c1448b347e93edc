/- The program's types. -/
import Derived.Test.YtcjgacmoemiifaaAb15
import Derived.Test.YtcjgacmoemiifaaProg
import Derived.KernelRfl
namespace Go.Proofs.Ytcjgacmoemiifaa.Ab
open Go
/-- The types of the program. -/
def tab : List (Option TI) := [none,
  none,
  some ⟨.int .i64, 1, 8, [.int .i64 0]⟩,
  some ⟨.int .i64, 1, 8, [.int .i64 0]⟩,
  some ⟨.bool, 1, 1, [.bool false]⟩,
  some ⟨.int .u8, 1, 1, [.int .u8 0]⟩,
  some ⟨.int .u8, 1, 1, [.int .u8 0]⟩,
  some ⟨.struct [(2, 0), (3, 1), (4, 2), (6, 3)], 4, 24, [.int .i64 0, .int .i64 0, .bool false, .int .u8 0]⟩,
  some ⟨.struct [(2, 0), (3, 1), (4, 2), (6, 3)], 4, 24, [.int .i64 0, .int .i64 0, .bool false, .int .u8 0]⟩,
  some ⟨.str, 1, 16, [.string ByteArray.empty]⟩,
  some ⟨.str, 1, 16, [.string ByteArray.empty]⟩,
  some ⟨.str, 1, 16, [.string ByteArray.empty]⟩,
  some ⟨.int .u64, 1, 8, [.int .u64 0]⟩,
  some ⟨.struct [(9, 0), (12, 1)], 2, 24, [.string ByteArray.empty, .int .u64 0]⟩,
  some ⟨.struct [(9, 0), (12, 1)], 2, 24, [.string ByteArray.empty, .int .u64 0]⟩,
  some ⟨.ptr 71, 1, 8, [.pointer none]⟩,
  some ⟨.ptr 74, 1, 8, [.pointer none]⟩,
  some ⟨.ptr 84, 1, 8, [.pointer none]⟩,
  some ⟨.struct [(17, 0)], 1, 8, [.pointer none]⟩,
  some ⟨.struct [(17, 0)], 1, 8, [.pointer none]⟩,
  none,
  some ⟨.int .i32, 1, 4, [.int .i32 0]⟩,
  some ⟨.int .u64, 1, 8, [.int .u64 0]⟩,
  some ⟨.array 2 22, 2, 16, [.int .u64 0, .int .u64 0]⟩,
  some ⟨.struct [(4, 0), (3, 1), (3, 2)], 3, 24, [.bool false, .int .i64 0, .int .i64 0]⟩,
  some ⟨.struct [(4, 0), (3, 1), (3, 2)], 3, 24, [.bool false, .int .i64 0, .int .i64 0]⟩,
  none,
  none,
  none,
  none,
  none,
  none,
  none,
  none,
  none,
  none,
  none,
  none,
  none,
  some ⟨.struct [(2, 0), (22, 1)], 2, 16, [.int .i64 0, .int .u64 0]⟩,
  some ⟨.struct [(2, 0), (22, 1)], 2, 16, [.int .i64 0, .int .u64 0]⟩,
  none,
  none,
  some ⟨.slice 25, 1, 24, [.slice none 0 0]⟩,
  none,
  none,
  none,
  none,
  none,
  none,
  none,
  none,
  none,
  none,
  none,
  none,
  none,
  none,
  some ⟨.array 8 22, 8, 64, [.int .u64 0, .int .u64 0, .int .u64 0, .int .u64 0, .int .u64 0, .int .u64 0, .int .u64 0, .int .u64 0]⟩,
  none,
  none,
  none,
  some ⟨.int .u64, 1, 8, [.int .u64 0]⟩,
  some ⟨.slice 40, 1, 24, [.slice none 0 0]⟩,
  none,
  none,
  none,
  none,
  some ⟨.ptr 86, 1, 8, [.pointer none]⟩,
  none,
  some ⟨.struct [(17, 0), (17, 1), (17, 2), (9, 3)], 4, 40, [.pointer none, .pointer none, .pointer none, .string ByteArray.empty]⟩,
  some ⟨.struct [(17, 0), (17, 1), (17, 2), (9, 3)], 4, 40, [.pointer none, .pointer none, .pointer none, .string ByteArray.empty]⟩,
  some ⟨.array 0 16, 0, 0, []⟩,
  some ⟨.struct [(72, 0)], 0, 0, []⟩,
  some ⟨.struct [(72, 0)], 0, 0, []⟩,
  none,
  some ⟨.int .u32, 1, 4, [.int .u32 0]⟩,
  some ⟨.int .u8, 1, 1, [.int .u8 0]⟩,
  some ⟨.int .u8, 1, 1, [.int .u8 0]⟩,
  none,
  some ⟨.ptr 5, 1, 8, [.pointer none]⟩,
  some ⟨.int .i32, 1, 4, [.int .i32 0]⟩,
  some ⟨.int .i32, 1, 4, [.int .i32 0]⟩,
  some ⟨.struct [(12, 0), (12, 1), (76, 2), (77, 3), (5, 4), (5, 5), (78, 6), (79, 7), (80, 8), (81, 9), (82, 10)], 11, 48, [.int .u64 0, .int .u64 0, .int .u32 0, .int .u8 0, .int .u8 0, .int .u8 0, .int .u8 0, .nilFunc, .pointer none, .int .i32 0, .int .i32 0]⟩,
  some ⟨.struct [(12, 0), (12, 1), (76, 2), (77, 3), (5, 4), (5, 5), (78, 6), (79, 7), (80, 8), (81, 9), (82, 10)], 11, 48, [.int .u64 0, .int .u64 0, .int .u32 0, .int .u8 0, .int .u8 0, .int .u8 0, .int .u8 0, .nilFunc, .pointer none, .int .i32 0, .int .i32 0]⟩,
  some ⟨.struct [(9, 0)], 1, 16, [.string ByteArray.empty]⟩,
  some ⟨.struct [(9, 0)], 1, 16, [.string ByteArray.empty]⟩,
  none]
theorem htab : TabOK Try.prog tab := tab_ok (P := Try.prog) (by kernel_rfl)
theorem eqt25 : EqT Try.prog 25 := ⟨by kernel_rfl, by kernel_rfl, by kernel_rfl⟩
theorem eqt40 : EqT Try.prog 40 := ⟨by kernel_rfl, by kernel_rfl, by kernel_rfl⟩
theorem ti2 : ti tab 2 = some ⟨.int .i64, 1, 8, [.int .i64 0]⟩ := rfl
theorem ti3 : ti tab 3 = some ⟨.int .i64, 1, 8, [.int .i64 0]⟩ := rfl
theorem ti4 : ti tab 4 = some ⟨.bool, 1, 1, [.bool false]⟩ := rfl
theorem ti5 : ti tab 5 = some ⟨.int .u8, 1, 1, [.int .u8 0]⟩ := rfl
theorem ti9 : ti tab 9 = some ⟨.str, 1, 16, [.string ByteArray.empty]⟩ := rfl
theorem ti12 : ti tab 12 = some ⟨.int .u64, 1, 8, [.int .u64 0]⟩ := rfl
theorem ti13 : ti tab 13 = some ⟨.struct [(9, 0), (12, 1)], 2, 24, [.string ByteArray.empty, .int .u64 0]⟩ := rfl
theorem ti19 : ti tab 19 = some ⟨.struct [(17, 0)], 1, 8, [.pointer none]⟩ := rfl
theorem ti21 : ti tab 21 = some ⟨.int .i32, 1, 4, [.int .i32 0]⟩ := rfl
theorem ti22 : ti tab 22 = some ⟨.int .u64, 1, 8, [.int .u64 0]⟩ := rfl
theorem ti23 : ti tab 23 = some ⟨.array 2 22, 2, 16, [.int .u64 0, .int .u64 0]⟩ := rfl
theorem ti24 : ti tab 24 = some ⟨.struct [(4, 0), (3, 1), (3, 2)], 3, 24, [.bool false, .int .i64 0, .int .i64 0]⟩ := rfl
theorem ti25 : ti tab 25 = some ⟨.struct [(4, 0), (3, 1), (3, 2)], 3, 24, [.bool false, .int .i64 0, .int .i64 0]⟩ := rfl
theorem ti39 : ti tab 39 = some ⟨.struct [(2, 0), (22, 1)], 2, 16, [.int .i64 0, .int .u64 0]⟩ := rfl
theorem ti40 : ti tab 40 = some ⟨.struct [(2, 0), (22, 1)], 2, 16, [.int .i64 0, .int .u64 0]⟩ := rfl
theorem ti43 : ti tab 43 = some ⟨.slice 25, 1, 24, [.slice none 0 0]⟩ := rfl
theorem ti58 : ti tab 58 = some ⟨.array 8 22, 8, 64, [.int .u64 0, .int .u64 0, .int .u64 0, .int .u64 0, .int .u64 0, .int .u64 0, .int .u64 0, .int .u64 0]⟩ := rfl
theorem ti62 : ti tab 62 = some ⟨.int .u64, 1, 8, [.int .u64 0]⟩ := rfl
theorem ti63 : ti tab 63 = some ⟨.slice 40, 1, 24, [.slice none 0 0]⟩ := rfl
theorem ti68 : ti tab 68 = some ⟨.ptr 86, 1, 8, [.pointer none]⟩ := rfl
theorem ti76 : ti tab 76 = some ⟨.int .u32, 1, 4, [.int .u32 0]⟩ := rfl
theorem ti80 : ti tab 80 = some ⟨.ptr 5, 1, 8, [.pointer none]⟩ := rfl
theorem ti85 : ti tab 85 = some ⟨.struct [(9, 0)], 1, 16, [.string ByteArray.empty]⟩ := rfl
theorem ti86 : ti tab 86 = some ⟨.struct [(9, 0)], 1, 16, [.string ByteArray.empty]⟩ := rfl

end Go.Proofs.Ytcjgacmoemiifaa.Ab
