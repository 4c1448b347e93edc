/- The library's sorts and Compact, on rows of texts and of ints. -/
import Derived.Test.YtpeimfcmhedjmaaSo0
import Derived.Test.YtpeimfcmhedjmaaTb
import Derived.Test.YtpeimfcmhedjmaaShelf
namespace Go.Proofs.Ytpeimfcmhedjmaa.Ab
open Go Go.RowKit Go.Shelf Go.Proofs.Ytpeimfcmhedjmaa
set_option linter.all false
theorem sortB_ok (a0 : List ByteArray) (z : Z3) (h : len62B a0 = true) : CallsD Try.prog 47 [.v (SL z)] [(0, .row 1 (a0.map eStr) (SL z))] [] (fun d h k => d = .tup [] ∧ h = [(0, .row 1 ((sortB a0).map eStr) (SL z))] ∧ k = []) := by
  have := sort_row (P := Try.prog) (f := 47) (enc := encStr) (fun _ => rfl) (S := fun xs => xs.mergeSort fun x y => decide (x ≤ y)) (fun xs => List.length_mergeSort _) ⟨_, Try.func47, rfl, rfl⟩ [] [] (fun H vs h => by simpa [RepsV] using h)
    (fun b m xs w hH hb hl => by simpa using Try.slices_Sort_string b 0 m xs w hH hb hl) (fun a m w => Try.slices_Sort_string_none a m w) (a0.map lsOf) z (by simpa [len62B] using h)
  rw [row_bs, row_ls] at this
  exact this
theorem compactB_ok (a0 : List ByteArray) (z : Z3) (h : len62B a0 = true) : CallsD Try.prog 48 [.v (SL z)] [(0, .row 1 (a0.map eStr) (SL z))] [] (fun d h k => ∃ y0, d = .v (SL y0) ∧ h = [(0, .row 1 ((compactB a0).map eStr) (SL y0))] ∧ k = []) := by
  have := cut_row (P := Try.prog) (f := 48) (enc := encStr) (fun _ => rfl) (S := Lib.compact) compact_le ⟨_, Try.func48, rfl, rfl⟩ [] [] (fun H vs h => by simpa [RepsV] using h) []
    (fun b m xs w hH hl hm => Try.slices_Compact_string b 0 m xs w hH (by omega) hm) (fun a m w => Try.slices_Compact_string_empty a m w) (a0.map lsOf) z (by simpa [len62B] using h)
  rw [row_bs, row_ls] at this
  exact this
end Go.Proofs.Ytpeimfcmhedjmaa.Ab
