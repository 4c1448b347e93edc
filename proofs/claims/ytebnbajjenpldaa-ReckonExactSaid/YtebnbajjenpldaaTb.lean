/- The program's types. -/
import Derived.Test.YtebnbajjenpldaaAb15
import Derived.Test.YtebnbajjenpldaaProg
import Derived.KernelRfl
namespace Go.Proofs.Ytebnbajjenpldaa.Ab
open Go
set_option linter.all false
/-- The types of the program. -/
def tab : List (Option TI) := [none,
  none,
  some ⟨.int .i64, 1, 8, [.int .i64 0]⟩,
  some ⟨.int .i64, 1, 8, [.int .i64 0]⟩,
  some ⟨.bool, 1, 1, [.bool false]⟩,
  some ⟨.int .u8, 1, 1, [.int .u8 0]⟩,
  some ⟨.int .u8, 1, 1, [.int .u8 0]⟩,
  some ⟨.struct [(2, 0), (3, 1), (4, 2), (6, 3)], 4, 24, [.int .i64 0, .int .i64 0, .bool false, .int .u8 0]⟩,
  some ⟨.struct [(2, 0), (3, 1), (4, 2), (6, 3)], 4, 24, [.int .i64 0, .int .i64 0, .bool false, .int .u8 0]⟩,
  some ⟨.str, 1, 16, [.string ByteArray.empty]⟩,
  some ⟨.str, 1, 16, [.string ByteArray.empty]⟩,
  some ⟨.str, 1, 16, [.string ByteArray.empty]⟩,
  some ⟨.int .u64, 1, 8, [.int .u64 0]⟩,
  some ⟨.struct [(9, 0), (12, 1)], 2, 24, [.string ByteArray.empty, .int .u64 0]⟩,
  some ⟨.struct [(9, 0), (12, 1)], 2, 24, [.string ByteArray.empty, .int .u64 0]⟩,
  some ⟨.ptr 92, 1, 8, [.pointer none]⟩,
  some ⟨.ptr 95, 1, 8, [.pointer none]⟩,
  some ⟨.ptr 105, 1, 8, [.pointer none]⟩,
  some ⟨.struct [(17, 0)], 1, 8, [.pointer none]⟩,
  some ⟨.struct [(17, 0)], 1, 8, [.pointer none]⟩,
  none,
  some ⟨.int .i32, 1, 4, [.int .i32 0]⟩,
  some ⟨.struct [(4, 0), (3, 1), (3, 2)], 3, 24, [.bool false, .int .i64 0, .int .i64 0]⟩,
  some ⟨.struct [(4, 0), (3, 1), (3, 2)], 3, 24, [.bool false, .int .i64 0, .int .i64 0]⟩,
  none,
  none,
  none,
  none,
  none,
  some ⟨.int .u64, 1, 8, [.int .u64 0]⟩,
  some ⟨.struct [(2, 0), (29, 1)], 2, 16, [.int .i64 0, .int .u64 0]⟩,
  some ⟨.struct [(2, 0), (29, 1)], 2, 16, [.int .i64 0, .int .u64 0]⟩,
  some ⟨.array 2 31, 4, 32, [.int .i64 0, .int .u64 0, .int .i64 0, .int .u64 0]⟩,
  none,
  none,
  none,
  none,
  none,
  none,
  none,
  none,
  none,
  some ⟨.struct [(3, 0), (23, 1), (23, 4), (3, 7), (3, 8)], 9, 72, [.int .i64 0, .bool false, .int .i64 0, .int .i64 0, .bool false, .int .i64 0, .int .i64 0, .int .i64 0, .int .i64 0]⟩,
  some ⟨.struct [(3, 0), (23, 1), (23, 4), (3, 7), (3, 8)], 9, 72, [.int .i64 0, .bool false, .int .i64 0, .int .i64 0, .bool false, .int .i64 0, .int .i64 0, .int .i64 0, .int .i64 0]⟩,
  none,
  none,
  none,
  none,
  none,
  none,
  none,
  none,
  none,
  some ⟨.slice 31, 1, 24, [.slice none 0 0]⟩,
  none,
  none,
  none,
  none,
  none,
  none,
  none,
  none,
  none,
  none,
  none,
  none,
  none,
  none,
  none,
  none,
  some ⟨.slice 23, 1, 24, [.slice none 0 0]⟩,
  none,
  some ⟨.int .i64, 1, 8, [.int .i64 0]⟩,
  none,
  none,
  some ⟨.slice 3, 1, 24, [.slice none 0 0]⟩,
  none,
  none,
  none,
  some ⟨.array 8 29, 8, 64, [.int .u64 0, .int .u64 0, .int .u64 0, .int .u64 0, .int .u64 0, .int .u64 0, .int .u64 0, .int .u64 0]⟩,
  none,
  none,
  none,
  some ⟨.int .u64, 1, 8, [.int .u64 0]⟩,
  none,
  none,
  some ⟨.array 2 23, 6, 48, [.bool false, .int .i64 0, .int .i64 0, .bool false, .int .i64 0, .int .i64 0]⟩,
  none,
  none,
  none,
  none,
  some ⟨.struct [(17, 0), (17, 1), (17, 2), (9, 3)], 4, 40, [.pointer none, .pointer none, .pointer none, .string ByteArray.empty]⟩,
  some ⟨.struct [(17, 0), (17, 1), (17, 2), (9, 3)], 4, 40, [.pointer none, .pointer none, .pointer none, .string ByteArray.empty]⟩,
  some ⟨.array 0 16, 0, 0, []⟩,
  some ⟨.struct [(93, 0)], 0, 0, []⟩,
  some ⟨.struct [(93, 0)], 0, 0, []⟩,
  none,
  some ⟨.int .u32, 1, 4, [.int .u32 0]⟩,
  some ⟨.int .u8, 1, 1, [.int .u8 0]⟩,
  some ⟨.int .u8, 1, 1, [.int .u8 0]⟩,
  none,
  some ⟨.ptr 5, 1, 8, [.pointer none]⟩,
  some ⟨.int .i32, 1, 4, [.int .i32 0]⟩,
  some ⟨.int .i32, 1, 4, [.int .i32 0]⟩,
  some ⟨.struct [(12, 0), (12, 1), (97, 2), (98, 3), (5, 4), (5, 5), (99, 6), (100, 7), (101, 8), (102, 9), (103, 10)], 11, 48, [.int .u64 0, .int .u64 0, .int .u32 0, .int .u8 0, .int .u8 0, .int .u8 0, .int .u8 0, .nilFunc, .pointer none, .int .i32 0, .int .i32 0]⟩,
  some ⟨.struct [(12, 0), (12, 1), (97, 2), (98, 3), (5, 4), (5, 5), (99, 6), (100, 7), (101, 8), (102, 9), (103, 10)], 11, 48, [.int .u64 0, .int .u64 0, .int .u32 0, .int .u8 0, .int .u8 0, .int .u8 0, .int .u8 0, .nilFunc, .pointer none, .int .i32 0, .int .i32 0]⟩,
  none]
theorem htab : TabOK Try.prog tab := tab_ok (P := Try.prog) (by kernel_rfl)
theorem eqt23 : EqT Try.prog 23 := ⟨by kernel_rfl, by kernel_rfl, by kernel_rfl⟩
theorem eqt31 : EqT Try.prog 31 := ⟨by kernel_rfl, by kernel_rfl, by kernel_rfl⟩
theorem ti2 : ti tab 2 = some ⟨.int .i64, 1, 8, [.int .i64 0]⟩ := rfl
theorem ti3 : ti tab 3 = some ⟨.int .i64, 1, 8, [.int .i64 0]⟩ := rfl
theorem ti4 : ti tab 4 = some ⟨.bool, 1, 1, [.bool false]⟩ := rfl
theorem ti5 : ti tab 5 = some ⟨.int .u8, 1, 1, [.int .u8 0]⟩ := rfl
theorem ti9 : ti tab 9 = some ⟨.str, 1, 16, [.string ByteArray.empty]⟩ := rfl
theorem ti12 : ti tab 12 = some ⟨.int .u64, 1, 8, [.int .u64 0]⟩ := rfl
theorem ti13 : ti tab 13 = some ⟨.struct [(9, 0), (12, 1)], 2, 24, [.string ByteArray.empty, .int .u64 0]⟩ := rfl
theorem ti19 : ti tab 19 = some ⟨.struct [(17, 0)], 1, 8, [.pointer none]⟩ := rfl
theorem ti21 : ti tab 21 = some ⟨.int .i32, 1, 4, [.int .i32 0]⟩ := rfl
theorem ti22 : ti tab 22 = some ⟨.struct [(4, 0), (3, 1), (3, 2)], 3, 24, [.bool false, .int .i64 0, .int .i64 0]⟩ := rfl
theorem ti23 : ti tab 23 = some ⟨.struct [(4, 0), (3, 1), (3, 2)], 3, 24, [.bool false, .int .i64 0, .int .i64 0]⟩ := rfl
theorem ti29 : ti tab 29 = some ⟨.int .u64, 1, 8, [.int .u64 0]⟩ := rfl
theorem ti30 : ti tab 30 = some ⟨.struct [(2, 0), (29, 1)], 2, 16, [.int .i64 0, .int .u64 0]⟩ := rfl
theorem ti31 : ti tab 31 = some ⟨.struct [(2, 0), (29, 1)], 2, 16, [.int .i64 0, .int .u64 0]⟩ := rfl
theorem ti32 : ti tab 32 = some ⟨.array 2 31, 4, 32, [.int .i64 0, .int .u64 0, .int .i64 0, .int .u64 0]⟩ := rfl
theorem ti42 : ti tab 42 = some ⟨.struct [(3, 0), (23, 1), (23, 4), (3, 7), (3, 8)], 9, 72, [.int .i64 0, .bool false, .int .i64 0, .int .i64 0, .bool false, .int .i64 0, .int .i64 0, .int .i64 0, .int .i64 0]⟩ := rfl
theorem ti43 : ti tab 43 = some ⟨.struct [(3, 0), (23, 1), (23, 4), (3, 7), (3, 8)], 9, 72, [.int .i64 0, .bool false, .int .i64 0, .int .i64 0, .bool false, .int .i64 0, .int .i64 0, .int .i64 0, .int .i64 0]⟩ := rfl
theorem ti53 : ti tab 53 = some ⟨.slice 31, 1, 24, [.slice none 0 0]⟩ := rfl
theorem ti70 : ti tab 70 = some ⟨.slice 23, 1, 24, [.slice none 0 0]⟩ := rfl
theorem ti72 : ti tab 72 = some ⟨.int .i64, 1, 8, [.int .i64 0]⟩ := rfl
theorem ti75 : ti tab 75 = some ⟨.slice 3, 1, 24, [.slice none 0 0]⟩ := rfl
theorem ti79 : ti tab 79 = some ⟨.array 8 29, 8, 64, [.int .u64 0, .int .u64 0, .int .u64 0, .int .u64 0, .int .u64 0, .int .u64 0, .int .u64 0, .int .u64 0]⟩ := rfl
theorem ti83 : ti tab 83 = some ⟨.int .u64, 1, 8, [.int .u64 0]⟩ := rfl
theorem ti86 : ti tab 86 = some ⟨.array 2 23, 6, 48, [.bool false, .int .i64 0, .int .i64 0, .bool false, .int .i64 0, .int .i64 0]⟩ := rfl
theorem ti97 : ti tab 97 = some ⟨.int .u32, 1, 4, [.int .u32 0]⟩ := rfl
theorem ti101 : ti tab 101 = some ⟨.ptr 5, 1, 8, [.pointer none]⟩ := rfl

end Go.Proofs.Ytebnbajjenpldaa.Ab
