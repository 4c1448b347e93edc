/- The program's types. -/
import Derived.Test.YtjbpfgknhpdkaaaAb15
import Derived.Test.YtjbpfgknhpdkaaaProg
import Derived.KernelRfl
namespace Go.Proofs.Ytjbpfgknhpdkaaa.Ab
open Go
set_option linter.all false
/-- The types of the program. -/
def tab : List (Option TI) := [none,
  none,
  some ⟨.int .i64, 1, 8, [.int .i64 0]⟩,
  some ⟨.int .i64, 1, 8, [.int .i64 0]⟩,
  some ⟨.bool, 1, 1, [.bool false]⟩,
  some ⟨.int .u8, 1, 1, [.int .u8 0]⟩,
  some ⟨.int .u8, 1, 1, [.int .u8 0]⟩,
  some ⟨.struct [(2, 0), (3, 1), (4, 2), (6, 3)], 4, 24, [.int .i64 0, .int .i64 0, .bool false, .int .u8 0]⟩,
  some ⟨.struct [(2, 0), (3, 1), (4, 2), (6, 3)], 4, 24, [.int .i64 0, .int .i64 0, .bool false, .int .u8 0]⟩,
  some ⟨.str, 1, 16, [.string ByteArray.empty]⟩,
  some ⟨.str, 1, 16, [.string ByteArray.empty]⟩,
  some ⟨.str, 1, 16, [.string ByteArray.empty]⟩,
  some ⟨.int .u64, 1, 8, [.int .u64 0]⟩,
  some ⟨.struct [(9, 0), (12, 1)], 2, 24, [.string ByteArray.empty, .int .u64 0]⟩,
  some ⟨.struct [(9, 0), (12, 1)], 2, 24, [.string ByteArray.empty, .int .u64 0]⟩,
  some ⟨.ptr 94, 1, 8, [.pointer none]⟩,
  some ⟨.ptr 97, 1, 8, [.pointer none]⟩,
  some ⟨.ptr 107, 1, 8, [.pointer none]⟩,
  some ⟨.struct [(17, 0)], 1, 8, [.pointer none]⟩,
  some ⟨.struct [(17, 0)], 1, 8, [.pointer none]⟩,
  none,
  some ⟨.int .i32, 1, 4, [.int .i32 0]⟩,
  some ⟨.struct [(4, 0), (3, 1), (3, 2)], 3, 24, [.bool false, .int .i64 0, .int .i64 0]⟩,
  some ⟨.struct [(4, 0), (3, 1), (3, 2)], 3, 24, [.bool false, .int .i64 0, .int .i64 0]⟩,
  some ⟨.struct [(3, 0), (23, 1), (23, 4), (4, 7)], 8, 64, [.int .i64 0, .bool false, .int .i64 0, .int .i64 0, .bool false, .int .i64 0, .int .i64 0, .bool false]⟩,
  some ⟨.struct [(3, 0), (23, 1), (23, 4), (4, 7)], 8, 64, [.int .i64 0, .bool false, .int .i64 0, .int .i64 0, .bool false, .int .i64 0, .int .i64 0, .bool false]⟩,
  none,
  none,
  none,
  none,
  none,
  none,
  some ⟨.struct [(3, 0), (23, 1), (23, 4)], 7, 56, [.int .i64 0, .bool false, .int .i64 0, .int .i64 0, .bool false, .int .i64 0, .int .i64 0]⟩,
  some ⟨.struct [(3, 0), (23, 1), (23, 4)], 7, 56, [.int .i64 0, .bool false, .int .i64 0, .int .i64 0, .bool false, .int .i64 0, .int .i64 0]⟩,
  some ⟨.struct [(33, 0), (3, 7), (3, 8), (4, 9)], 10, 80, [.int .i64 0, .bool false, .int .i64 0, .int .i64 0, .bool false, .int .i64 0, .int .i64 0, .int .i64 0, .int .i64 0, .bool false]⟩,
  some ⟨.struct [(33, 0), (3, 7), (3, 8), (4, 9)], 10, 80, [.int .i64 0, .bool false, .int .i64 0, .int .i64 0, .bool false, .int .i64 0, .int .i64 0, .int .i64 0, .int .i64 0, .bool false]⟩,
  none,
  none,
  none,
  none,
  none,
  none,
  some ⟨.int .i64, 1, 8, [.int .i64 0]⟩,
  none,
  none,
  none,
  none,
  none,
  none,
  none,
  none,
  none,
  some ⟨.int .u64, 1, 8, [.int .u64 0]⟩,
  some ⟨.struct [(2, 0), (52, 1)], 2, 16, [.int .i64 0, .int .u64 0]⟩,
  some ⟨.struct [(2, 0), (52, 1)], 2, 16, [.int .i64 0, .int .u64 0]⟩,
  none,
  none,
  none,
  none,
  none,
  none,
  none,
  none,
  none,
  none,
  none,
  none,
  none,
  none,
  none,
  none,
  none,
  none,
  none,
  none,
  some ⟨.array 8 52, 8, 64, [.int .u64 0, .int .u64 0, .int .u64 0, .int .u64 0, .int .u64 0, .int .u64 0, .int .u64 0, .int .u64 0]⟩,
  none,
  some ⟨.int .u64, 1, 8, [.int .u64 0]⟩,
  none,
  none,
  none,
  none,
  none,
  none,
  none,
  none,
  none,
  none,
  none,
  some ⟨.slice 54, 1, 24, [.slice none 0 0]⟩,
  none,
  some ⟨.ptr 109, 1, 8, [.pointer none]⟩,
  none,
  some ⟨.struct [(17, 0), (17, 1), (17, 2), (9, 3)], 4, 40, [.pointer none, .pointer none, .pointer none, .string ByteArray.empty]⟩,
  some ⟨.struct [(17, 0), (17, 1), (17, 2), (9, 3)], 4, 40, [.pointer none, .pointer none, .pointer none, .string ByteArray.empty]⟩,
  some ⟨.array 0 16, 0, 0, []⟩,
  some ⟨.struct [(95, 0)], 0, 0, []⟩,
  some ⟨.struct [(95, 0)], 0, 0, []⟩,
  none,
  some ⟨.int .u32, 1, 4, [.int .u32 0]⟩,
  some ⟨.int .u8, 1, 1, [.int .u8 0]⟩,
  some ⟨.int .u8, 1, 1, [.int .u8 0]⟩,
  none,
  some ⟨.ptr 5, 1, 8, [.pointer none]⟩,
  some ⟨.int .i32, 1, 4, [.int .i32 0]⟩,
  some ⟨.int .i32, 1, 4, [.int .i32 0]⟩,
  some ⟨.struct [(12, 0), (12, 1), (99, 2), (100, 3), (5, 4), (5, 5), (101, 6), (102, 7), (103, 8), (104, 9), (105, 10)], 11, 48, [.int .u64 0, .int .u64 0, .int .u32 0, .int .u8 0, .int .u8 0, .int .u8 0, .int .u8 0, .nilFunc, .pointer none, .int .i32 0, .int .i32 0]⟩,
  some ⟨.struct [(12, 0), (12, 1), (99, 2), (100, 3), (5, 4), (5, 5), (101, 6), (102, 7), (103, 8), (104, 9), (105, 10)], 11, 48, [.int .u64 0, .int .u64 0, .int .u32 0, .int .u8 0, .int .u8 0, .int .u8 0, .int .u8 0, .nilFunc, .pointer none, .int .i32 0, .int .i32 0]⟩,
  some ⟨.struct [(9, 0)], 1, 16, [.string ByteArray.empty]⟩,
  some ⟨.struct [(9, 0)], 1, 16, [.string ByteArray.empty]⟩,
  none]
theorem htab : TabOK Try.prog tab := tab_ok (P := Try.prog) (by kernel_rfl)
theorem eqt23 : EqT Try.prog 23 := ⟨by kernel_rfl, by kernel_rfl, by kernel_rfl⟩
theorem eqt54 : EqT Try.prog 54 := ⟨by kernel_rfl, by kernel_rfl, by kernel_rfl⟩
theorem ti2 : ti tab 2 = some ⟨.int .i64, 1, 8, [.int .i64 0]⟩ := rfl
theorem ti3 : ti tab 3 = some ⟨.int .i64, 1, 8, [.int .i64 0]⟩ := rfl
theorem ti4 : ti tab 4 = some ⟨.bool, 1, 1, [.bool false]⟩ := rfl
theorem ti5 : ti tab 5 = some ⟨.int .u8, 1, 1, [.int .u8 0]⟩ := rfl
theorem ti9 : ti tab 9 = some ⟨.str, 1, 16, [.string ByteArray.empty]⟩ := rfl
theorem ti12 : ti tab 12 = some ⟨.int .u64, 1, 8, [.int .u64 0]⟩ := rfl
theorem ti13 : ti tab 13 = some ⟨.struct [(9, 0), (12, 1)], 2, 24, [.string ByteArray.empty, .int .u64 0]⟩ := rfl
theorem ti19 : ti tab 19 = some ⟨.struct [(17, 0)], 1, 8, [.pointer none]⟩ := rfl
theorem ti21 : ti tab 21 = some ⟨.int .i32, 1, 4, [.int .i32 0]⟩ := rfl
theorem ti22 : ti tab 22 = some ⟨.struct [(4, 0), (3, 1), (3, 2)], 3, 24, [.bool false, .int .i64 0, .int .i64 0]⟩ := rfl
theorem ti23 : ti tab 23 = some ⟨.struct [(4, 0), (3, 1), (3, 2)], 3, 24, [.bool false, .int .i64 0, .int .i64 0]⟩ := rfl
theorem ti24 : ti tab 24 = some ⟨.struct [(3, 0), (23, 1), (23, 4), (4, 7)], 8, 64, [.int .i64 0, .bool false, .int .i64 0, .int .i64 0, .bool false, .int .i64 0, .int .i64 0, .bool false]⟩ := rfl
theorem ti25 : ti tab 25 = some ⟨.struct [(3, 0), (23, 1), (23, 4), (4, 7)], 8, 64, [.int .i64 0, .bool false, .int .i64 0, .int .i64 0, .bool false, .int .i64 0, .int .i64 0, .bool false]⟩ := rfl
theorem ti32 : ti tab 32 = some ⟨.struct [(3, 0), (23, 1), (23, 4)], 7, 56, [.int .i64 0, .bool false, .int .i64 0, .int .i64 0, .bool false, .int .i64 0, .int .i64 0]⟩ := rfl
theorem ti33 : ti tab 33 = some ⟨.struct [(3, 0), (23, 1), (23, 4)], 7, 56, [.int .i64 0, .bool false, .int .i64 0, .int .i64 0, .bool false, .int .i64 0, .int .i64 0]⟩ := rfl
theorem ti34 : ti tab 34 = some ⟨.struct [(33, 0), (3, 7), (3, 8), (4, 9)], 10, 80, [.int .i64 0, .bool false, .int .i64 0, .int .i64 0, .bool false, .int .i64 0, .int .i64 0, .int .i64 0, .int .i64 0, .bool false]⟩ := rfl
theorem ti35 : ti tab 35 = some ⟨.struct [(33, 0), (3, 7), (3, 8), (4, 9)], 10, 80, [.int .i64 0, .bool false, .int .i64 0, .int .i64 0, .bool false, .int .i64 0, .int .i64 0, .int .i64 0, .int .i64 0, .bool false]⟩ := rfl
theorem ti42 : ti tab 42 = some ⟨.int .i64, 1, 8, [.int .i64 0]⟩ := rfl
theorem ti52 : ti tab 52 = some ⟨.int .u64, 1, 8, [.int .u64 0]⟩ := rfl
theorem ti53 : ti tab 53 = some ⟨.struct [(2, 0), (52, 1)], 2, 16, [.int .i64 0, .int .u64 0]⟩ := rfl
theorem ti54 : ti tab 54 = some ⟨.struct [(2, 0), (52, 1)], 2, 16, [.int .i64 0, .int .u64 0]⟩ := rfl
theorem ti75 : ti tab 75 = some ⟨.array 8 52, 8, 64, [.int .u64 0, .int .u64 0, .int .u64 0, .int .u64 0, .int .u64 0, .int .u64 0, .int .u64 0, .int .u64 0]⟩ := rfl
theorem ti77 : ti tab 77 = some ⟨.int .u64, 1, 8, [.int .u64 0]⟩ := rfl
theorem ti89 : ti tab 89 = some ⟨.slice 54, 1, 24, [.slice none 0 0]⟩ := rfl
theorem ti91 : ti tab 91 = some ⟨.ptr 109, 1, 8, [.pointer none]⟩ := rfl
theorem ti99 : ti tab 99 = some ⟨.int .u32, 1, 4, [.int .u32 0]⟩ := rfl
theorem ti103 : ti tab 103 = some ⟨.ptr 5, 1, 8, [.pointer none]⟩ := rfl
theorem ti108 : ti tab 108 = some ⟨.struct [(9, 0)], 1, 16, [.string ByteArray.empty]⟩ := rfl
theorem ti109 : ti tab 109 = some ⟨.struct [(9, 0)], 1, 16, [.string ByteArray.empty]⟩ := rfl

end Go.Proofs.Ytjbpfgknhpdkaaa.Ab
