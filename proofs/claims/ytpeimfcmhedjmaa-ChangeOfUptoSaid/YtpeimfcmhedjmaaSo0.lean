/- Texts as lists of bytes; sorts and Compact as functions. Over any program. -/
import Derived.Test.YtpeimfcmhedjmaaSo1
import Derived.Test.YtpeimfcmhedjmaaBc
import Derived.Lib.SlicesCompact
import Derived.Sort.EncStr
namespace Go.Proofs.Ytpeimfcmhedjmaa.Ab
open Go Go.RowKit
set_option linter.all false
def bsOf (l : List UInt8) : ByteArray := ⟨l.toArray⟩
def lsOf (b : ByteArray) : List UInt8 := b.data.toList
theorem bs_ls (b : ByteArray) : bsOf (lsOf b) = b := by cases b; simp [bsOf, lsOf]
theorem ls_bs (l : List UInt8) : lsOf (bsOf l) = l := by simp [bsOf, lsOf]
theorem map_bs_ls (xs : List ByteArray) : (xs.map lsOf).map bsOf = xs := by
  rw [List.map_map]; simp [Function.comp_def, bs_ls]
theorem row_ls (ls : List (List UInt8)) : rowE encStr ls = (ls.map bsOf).map eStr := by
  unfold rowE; rw [List.map_map]; rfl
theorem row_bs (xs : List ByteArray) : rowE encStr (xs.map lsOf) = xs.map eStr := by rw [row_ls, map_bs_ls]
theorem compactUp_le {α : Type} [Inhabited α] [DecidableEq α] (d : Array α) : ∀ m, (Lib.compactUpTo d m).length ≤ m
  | 0 => by simp [Lib.compactUpTo]
  | m + 1 => by
    have := compactUp_le d m
    rw [Lib.compactUpTo_succ, List.length_append]
    split <;> simp <;> omega
theorem compact_le {α : Type} [Inhabited α] [DecidableEq α] (xs : List α) : (Lib.compact xs).length ≤ xs.length := compactUp_le _ _
def len62B (xs : List ByteArray) : Bool := decide (xs.length < 4611686018427387904)
def len62I (xs : List Int) : Bool := decide (xs.length < 4611686018427387904)
def sortB (xs : List ByteArray) : List ByteArray := ((xs.map lsOf).mergeSort fun x y => decide (x ≤ y)).map bsOf
def sortI (xs : List Int) : List Int := xs.mergeSort fun x y => decide (x ≤ y)
def compactB (xs : List ByteArray) : List ByteArray := (Lib.compact (xs.map lsOf)).map bsOf
def compactI (xs : List Int) : List Int := Lib.compact xs
theorem row_int (xs : List Int) : rowE (Value.int .i64) xs = xs.map eI64 := rfl
end Go.Proofs.Ytpeimfcmhedjmaa.Ab
