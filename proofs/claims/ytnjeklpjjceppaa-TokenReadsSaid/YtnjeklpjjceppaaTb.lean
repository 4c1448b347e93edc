/- The program's types. -/
import Derived.Test.YtnjeklpjjceppaaAb15
import Derived.Test.YtnjeklpjjceppaaProg
import Derived.KernelRfl
namespace Go.Proofs.Ytnjeklpjjceppaa.Ab
open Go
set_option linter.all false
/-- The types of the program. -/
def tab : List (Option TI) := [none,
  none,
  some ⟨.int .i64, 1, 8, [.int .i64 0]⟩,
  some ⟨.int .i64, 1, 8, [.int .i64 0]⟩,
  some ⟨.bool, 1, 1, [.bool false]⟩,
  some ⟨.int .u8, 1, 1, [.int .u8 0]⟩,
  some ⟨.int .u8, 1, 1, [.int .u8 0]⟩,
  some ⟨.struct [(2, 0), (3, 1), (4, 2), (6, 3)], 4, 24, [.int .i64 0, .int .i64 0, .bool false, .int .u8 0]⟩,
  some ⟨.struct [(2, 0), (3, 1), (4, 2), (6, 3)], 4, 24, [.int .i64 0, .int .i64 0, .bool false, .int .u8 0]⟩,
  some ⟨.str, 1, 16, [.string ByteArray.empty]⟩,
  some ⟨.str, 1, 16, [.string ByteArray.empty]⟩,
  some ⟨.str, 1, 16, [.string ByteArray.empty]⟩,
  some ⟨.int .u64, 1, 8, [.int .u64 0]⟩,
  some ⟨.struct [(9, 0), (12, 1)], 2, 24, [.string ByteArray.empty, .int .u64 0]⟩,
  some ⟨.struct [(9, 0), (12, 1)], 2, 24, [.string ByteArray.empty, .int .u64 0]⟩,
  some ⟨.ptr 70, 1, 8, [.pointer none]⟩,
  some ⟨.ptr 73, 1, 8, [.pointer none]⟩,
  some ⟨.ptr 81, 1, 8, [.pointer none]⟩,
  some ⟨.struct [(17, 0)], 1, 8, [.pointer none]⟩,
  some ⟨.struct [(17, 0)], 1, 8, [.pointer none]⟩,
  none,
  some ⟨.int .i32, 1, 4, [.int .i32 0]⟩,
  some ⟨.slice 5, 1, 24, [.slice none 0 0]⟩,
  some ⟨.slice 40, 1, 24, [.slice none 0 0]⟩,
  some ⟨.int .i64, 1, 8, [.int .i64 0]⟩,
  none,
  none,
  none,
  none,
  none,
  none,
  none,
  none,
  none,
  none,
  some ⟨.ptr 37, 1, 8, [.pointer none]⟩,
  some ⟨.struct [(22, 0), (3, 1), (23, 2)], 3, 56, [.slice none 0 0, .int .i64 0, .slice none 0 0]⟩,
  some ⟨.struct [(22, 0), (3, 1), (23, 2)], 3, 56, [.slice none 0 0, .int .i64 0, .slice none 0 0]⟩,
  none,
  some ⟨.struct [(3, 0), (9, 1), (3, 2), (3, 3)], 4, 40, [.int .i64 0, .string ByteArray.empty, .int .i64 0, .int .i64 0]⟩,
  some ⟨.struct [(3, 0), (9, 1), (3, 2), (3, 3)], 4, 40, [.int .i64 0, .string ByteArray.empty, .int .i64 0, .int .i64 0]⟩,
  none,
  none,
  some ⟨.slice 9, 1, 24, [.slice none 0 0]⟩,
  none,
  none,
  none,
  none,
  none,
  none,
  none,
  none,
  some ⟨.ptr 54, 1, 8, [.pointer none]⟩,
  some ⟨.struct [(52, 0), (22, 1)], 2, 32, [.pointer none, .slice none 0 0]⟩,
  some ⟨.struct [(52, 0), (22, 1)], 2, 32, [.pointer none, .slice none 0 0]⟩,
  none,
  none,
  none,
  none,
  none,
  none,
  none,
  none,
  some ⟨.int .u64, 1, 8, [.int .u64 0]⟩,
  none,
  some ⟨.ptr 5, 1, 8, [.pointer none]⟩,
  none,
  none,
  none,
  some ⟨.struct [(17, 0), (17, 1), (17, 2), (9, 3)], 4, 40, [.pointer none, .pointer none, .pointer none, .string ByteArray.empty]⟩,
  some ⟨.struct [(17, 0), (17, 1), (17, 2), (9, 3)], 4, 40, [.pointer none, .pointer none, .pointer none, .string ByteArray.empty]⟩,
  some ⟨.array 0 16, 0, 0, []⟩,
  some ⟨.struct [(71, 0)], 0, 0, []⟩,
  some ⟨.struct [(71, 0)], 0, 0, []⟩,
  some ⟨.int .u32, 1, 4, [.int .u32 0]⟩,
  some ⟨.int .u8, 1, 1, [.int .u8 0]⟩,
  some ⟨.int .u8, 1, 1, [.int .u8 0]⟩,
  none,
  some ⟨.int .i32, 1, 4, [.int .i32 0]⟩,
  some ⟨.int .i32, 1, 4, [.int .i32 0]⟩,
  some ⟨.struct [(12, 0), (12, 1), (74, 2), (75, 3), (5, 4), (5, 5), (76, 6), (77, 7), (65, 8), (78, 9), (79, 10)], 11, 48, [.int .u64 0, .int .u64 0, .int .u32 0, .int .u8 0, .int .u8 0, .int .u8 0, .int .u8 0, .nilFunc, .pointer none, .int .i32 0, .int .i32 0]⟩,
  some ⟨.struct [(12, 0), (12, 1), (74, 2), (75, 3), (5, 4), (5, 5), (76, 6), (77, 7), (65, 8), (78, 9), (79, 10)], 11, 48, [.int .u64 0, .int .u64 0, .int .u32 0, .int .u8 0, .int .u8 0, .int .u8 0, .int .u8 0, .nilFunc, .pointer none, .int .i32 0, .int .i32 0]⟩]
theorem htab : TabOK Try.prog tab := tab_ok (P := Try.prog) (by kernel_rfl)
theorem ti2 : ti tab 2 = some ⟨.int .i64, 1, 8, [.int .i64 0]⟩ := rfl
theorem ti3 : ti tab 3 = some ⟨.int .i64, 1, 8, [.int .i64 0]⟩ := rfl
theorem ti4 : ti tab 4 = some ⟨.bool, 1, 1, [.bool false]⟩ := rfl
theorem ti5 : ti tab 5 = some ⟨.int .u8, 1, 1, [.int .u8 0]⟩ := rfl
theorem ti9 : ti tab 9 = some ⟨.str, 1, 16, [.string ByteArray.empty]⟩ := rfl
theorem ti12 : ti tab 12 = some ⟨.int .u64, 1, 8, [.int .u64 0]⟩ := rfl
theorem ti13 : ti tab 13 = some ⟨.struct [(9, 0), (12, 1)], 2, 24, [.string ByteArray.empty, .int .u64 0]⟩ := rfl
theorem ti19 : ti tab 19 = some ⟨.struct [(17, 0)], 1, 8, [.pointer none]⟩ := rfl
theorem ti21 : ti tab 21 = some ⟨.int .i32, 1, 4, [.int .i32 0]⟩ := rfl
theorem ti22 : ti tab 22 = some ⟨.slice 5, 1, 24, [.slice none 0 0]⟩ := rfl
theorem ti23 : ti tab 23 = some ⟨.slice 40, 1, 24, [.slice none 0 0]⟩ := rfl
theorem ti24 : ti tab 24 = some ⟨.int .i64, 1, 8, [.int .i64 0]⟩ := rfl
theorem ti35 : ti tab 35 = some ⟨.ptr 37, 1, 8, [.pointer none]⟩ := rfl
theorem ti36 : ti tab 36 = some ⟨.struct [(22, 0), (3, 1), (23, 2)], 3, 56, [.slice none 0 0, .int .i64 0, .slice none 0 0]⟩ := rfl
theorem ti37 : ti tab 37 = some ⟨.struct [(22, 0), (3, 1), (23, 2)], 3, 56, [.slice none 0 0, .int .i64 0, .slice none 0 0]⟩ := rfl
theorem ti39 : ti tab 39 = some ⟨.struct [(3, 0), (9, 1), (3, 2), (3, 3)], 4, 40, [.int .i64 0, .string ByteArray.empty, .int .i64 0, .int .i64 0]⟩ := rfl
theorem ti40 : ti tab 40 = some ⟨.struct [(3, 0), (9, 1), (3, 2), (3, 3)], 4, 40, [.int .i64 0, .string ByteArray.empty, .int .i64 0, .int .i64 0]⟩ := rfl
theorem ti43 : ti tab 43 = some ⟨.slice 9, 1, 24, [.slice none 0 0]⟩ := rfl
theorem ti52 : ti tab 52 = some ⟨.ptr 54, 1, 8, [.pointer none]⟩ := rfl
theorem ti53 : ti tab 53 = some ⟨.struct [(52, 0), (22, 1)], 2, 32, [.pointer none, .slice none 0 0]⟩ := rfl
theorem ti54 : ti tab 54 = some ⟨.struct [(52, 0), (22, 1)], 2, 32, [.pointer none, .slice none 0 0]⟩ := rfl
theorem ti63 : ti tab 63 = some ⟨.int .u64, 1, 8, [.int .u64 0]⟩ := rfl
theorem ti65 : ti tab 65 = some ⟨.ptr 5, 1, 8, [.pointer none]⟩ := rfl
theorem ti74 : ti tab 74 = some ⟨.int .u32, 1, 4, [.int .u32 0]⟩ := rfl

end Go.Proofs.Ytnjeklpjjceppaa.Ab
