/- The library's sorts and Compact, on rows of texts and of ints. -/
import Derived.Test.YtphpnbdfngdinaaSo1
import Derived.Test.YtphpnbdfngdinaaRw3
import Derived.Test.YtphpnbdfngdinaaTb
import Derived.Test.YtphpnbdfngdinaaShelf
namespace Go.Proofs.Ytphpnbdfngdinaa.Ab
open Go Go.RowKit Go.Shelf Go.Proofs.Ytphpnbdfngdinaa
set_option linter.all false
def bsOf (l : List UInt8) : ByteArray := ⟨l.toArray⟩
def lsOf (b : ByteArray) : List UInt8 := b.data.toList
theorem bs_ls (b : ByteArray) : bsOf (lsOf b) = b := by cases b; simp [bsOf, lsOf]
theorem ls_bs (l : List UInt8) : lsOf (bsOf l) = l := by simp [bsOf, lsOf]
theorem map_bs_ls (xs : List ByteArray) : (xs.map lsOf).map bsOf = xs := by
  rw [List.map_map]; simp [Function.comp_def, bs_ls]
theorem row_ls (ls : List (List UInt8)) : rowE encStr ls = (ls.map bsOf).map eStr := by
  unfold rowE; rw [List.map_map]; rfl
theorem row_bs (xs : List ByteArray) : rowE encStr (xs.map lsOf) = xs.map eStr := by rw [row_ls, map_bs_ls]
theorem compactUp_le {α : Type} [Inhabited α] [DecidableEq α] (d : Array α) : ∀ m, (Lib.compactUpTo d m).length ≤ m
  | 0 => by simp [Lib.compactUpTo]
  | m + 1 => by
    have := compactUp_le d m
    rw [Lib.compactUpTo_succ, List.length_append]
    split <;> simp <;> omega
theorem compact_le {α : Type} [Inhabited α] [DecidableEq α] (xs : List α) : (Lib.compact xs).length ≤ xs.length := compactUp_le _ _
def len62B (xs : List ByteArray) : Bool := decide (xs.length < 4611686018427387904)
def len62I (xs : List Int) : Bool := decide (xs.length < 4611686018427387904)
def sortB (xs : List ByteArray) : List ByteArray := ((xs.map lsOf).mergeSort fun x y => decide (x ≤ y)).map bsOf
def sortI (xs : List Int) : List Int := xs.mergeSort fun x y => decide (x ≤ y)
def compactB (xs : List ByteArray) : List ByteArray := (Lib.compact (xs.map lsOf)).map bsOf
def compactI (xs : List Int) : List Int := Lib.compact xs
theorem row_int (xs : List Int) : rowE (Value.int .i64) xs = xs.map eI64 := rfl
theorem sortB_ok (a0 : List ByteArray) (z : Z3) (h : len62B a0 = true) : CallsD Try.prog 53 [.v (SL z)] [(0, .row 1 (a0.map eStr) (SL z))] [] (fun d h k => d = .tup [] ∧ h = [(0, .row 1 ((sortB a0).map eStr) (SL z))] ∧ k = []) := by
  have := sort_row (P := Try.prog) (f := 53) (enc := encStr) (fun _ => rfl) (S := fun xs => xs.mergeSort fun x y => decide (x ≤ y)) (fun xs => List.length_mergeSort _) ⟨_, Try.func53, rfl, rfl⟩ [] [] (fun H vs h => by simpa [RepsV] using h)
    (fun b m xs w hH hb hl => by simpa using Try.slices_Sort_string b 0 m xs w hH hb hl) (fun a m w => Try.slices_Sort_string_none a m w) (a0.map lsOf) z (by simpa [len62B] using h)
  rw [row_bs, row_ls] at this
  exact this
theorem sortI_ok (a0 : List Int) (z : Z3) (h : len62I a0 = true) : CallsD Try.prog 55 [.v (SL z)] [(0, .row 1 (a0.map eI64) (SL z))] [] (fun d h k => d = .tup [] ∧ h = [(0, .row 1 ((sortI a0).map eI64) (SL z))] ∧ k = []) := by
  have := sort_row (P := Try.prog) (f := 55) (enc := Value.int .i64) (fun _ => rfl) (S := fun xs => xs.mergeSort fun x y => decide (x ≤ y)) (fun xs => List.length_mergeSort _) ⟨_, Try.func55, rfl, rfl⟩ [] [] (fun H vs h => by simpa [RepsV] using h)
    (fun b m xs w hH hb hl => by simpa using Try.slices_Sort_int b 0 m xs w hH hb hl) (fun a m w => Try.slices_Sort_int_none a m w) a0 z (by simpa [len62I] using h)
  rw [row_int, row_int] at this
  exact this
theorem compactB_ok (a0 : List ByteArray) (z : Z3) (h : len62B a0 = true) : CallsD Try.prog 54 [.v (SL z)] [(0, .row 1 (a0.map eStr) (SL z))] [] (fun d h k => ∃ y0, d = .v (SL y0) ∧ h = [(0, .row 1 ((compactB a0).map eStr) (SL y0))] ∧ k = []) := by
  have := cut_row (P := Try.prog) (f := 54) (enc := encStr) (fun _ => rfl) (S := Lib.compact) compact_le ⟨_, Try.func54, rfl, rfl⟩ [] [] (fun H vs h => by simpa [RepsV] using h) []
    (fun b m xs w hH hl hm => Try.slices_Compact_string b 0 m xs w hH (by omega) hm) (fun a m w => Try.slices_Compact_string_empty a m w) (a0.map lsOf) z (by simpa [len62B] using h)
  rw [row_bs, row_ls] at this
  exact this
theorem compactI_ok (a0 : List Int) (z : Z3) (h : len62I a0 = true) : CallsD Try.prog 56 [.v (SL z)] [(0, .row 1 (a0.map eI64) (SL z))] [] (fun d h k => ∃ y0, d = .v (SL y0) ∧ h = [(0, .row 1 ((compactI a0).map eI64) (SL y0))] ∧ k = []) := by
  have := cut_row (P := Try.prog) (f := 56) (enc := Value.int .i64) (fun _ => rfl) (S := Lib.compact) compact_le ⟨_, Try.func56, rfl, rfl⟩ [] [] (fun H vs h => by simpa [RepsV] using h) 0
    (fun b m xs w hH hl hm => Try.slices_Compact_int b 0 m xs w hH (by omega) hm) (fun a m w => Try.slices_Compact_int_empty a m w) a0 z (by simpa [len62I] using h)
  rw [row_int, row_int] at this
  exact this
end Go.Proofs.Ytphpnbdfngdinaa.Ab
