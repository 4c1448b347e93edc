/- The library at names: Compare, SortFunc by Compare, Compact, Clone, Grow. -/
import Derived.Test.YtaofljigbobdpaaSo0
import Derived.Test.YtaofljigbobdpaaGw1
import Derived.Test.YtaofljigbobdpaaTr2
import Derived.Test.YtaofljigbobdpaaTb
import Derived.Test.YtaofljigbobdpaaShelf
namespace Go.Proofs.Ytaofljigbobdpaa.Ab
open Go Go.RowKit Go.Shelf Go.Proofs.Ytaofljigbobdpaa
set_option linter.all false
theorem ltB_bytes : ∀ x y : List UInt8, ltOf Lib.compareBytes x y = decide (x < y)
  | [], [] => by simp [ltOf, Lib.compareBytes]
  | [], b :: y => by simp [ltOf, Lib.compareBytes]
  | a :: x, [] => by simp [ltOf, Lib.compareBytes]
  | a :: x, b :: y => by
    have ih := ltB_bytes x y
    unfold ltOf at ih ⊢
    unfold Lib.compareBytes
    rw [Bool.eq_iff_iff, decide_eq_true_iff, decide_eq_true_iff] at ih ⊢
    rw [List.cons_lt_cons_iff]
    by_cases h1 : a < b
    · simp [h1]
    · by_cases h2 : b < a
      · rw [if_neg h1, if_pos h2]
        have : a ≠ b := fun e => by subst e; exact h1 h2
        simp [h1, this]
      · have : a = b := UInt8.le_antisymm (UInt8.not_lt.1 h2) (UInt8.not_lt.1 h1)
        rw [if_neg h1, if_neg h2]
        simp [h1, this, ih]
theorem swo_bytes : Sort.SWO (ltOf Lib.compareBytes) where
  irrefl x := by rw [ltB_bytes]; simp [List.lt_irrefl]
  trans x y z h1 h2 := by
    rw [ltB_bytes] at *
    simp only [decide_eq_true_eq] at *
    exact List.lt_trans h1 h2
  ntrans x y z h1 h2 := by
    rw [ltB_bytes] at *
    simp only [decide_eq_false_iff_not, List.not_lt] at *
    exact List.le_trans h2 h1
theorem tot_bytes (x y : List UInt8) (h1 : ltOf Lib.compareBytes x y = false) (h2 : ltOf Lib.compareBytes y x = false) : x = y := by
  rw [ltB_bytes] at *
  simp only [decide_eq_false_iff_not, List.not_lt] at *
  exact List.le_antisymm h2 h1
theorem ge_bytes : (fun x y : List UInt8 => !ltOf Lib.compareBytes y x) = fun x y => decide (x ≤ y) := by
  funext x y
  rw [ltB_bytes, Bool.eq_iff_iff, Bool.not_eq_true', decide_eq_false_iff_not, decide_eq_true_iff, List.not_lt]
theorem of1_calls (x y : List UInt8) (W : World) : Calls Try.prog 33 #[encStr x, encStr y] W fun e w' => e = .returned (.int .i64 (Lib.compareBytes x y)) ∧ ∃ q, w' = W.drewN q := by
  have hcon := Try.strings_Compare ⟨x.toArray⟩ ⟨y.toArray⟩ W
  simp only [List.toList_toArray] at hcon
  generalize Lib.compareBytes x y = r at hcon ⊢
  go_enter Try.func33, Try.ntmps33
  go_wp2_with (go_at_call 34; refine hcon.mono ?_; rintro e w' ⟨rfl, rfl⟩)
  go_ret
  exact ⟨rfl, 0, rfl⟩
theorem sortF_ok (a0 : List ByteArray) (z : Z3) (h : len62B a0 = true) : CallsD Try.prog 32 [.v (SL z), .fn (.func 33) [] []] [(0, .row 1 (a0.map eStr) (SL z))] [] (fun d h k => d = .tup [] ∧ h = [(0, .row 1 ((sortB a0).map eStr) (SL z))] ∧ k = []) := by
  have := sort_row (P := Try.prog) (f := 32) (enc := encStr) (fun _ => rfl) (S := fun xs => xs.mergeSort fun x y => decide (x ≤ y)) (fun xs => List.length_mergeSort _) ⟨_, Try.func32, rfl, rfl⟩ [.func (.func 33) #[] #[]] [.fn (.func 33) [] []] (fun H vs h => by
      simp only [RepsV] at h
      obtain ⟨u, us, rfl, hu, rfl⟩ := h
      obtain ⟨vs, ws, rfl, h1, h2⟩ := rep_fn_inv hu
      simp only [RepsV] at h1 h2
      subst h1 h2; rfl)
    (fun b m xs w hH hb hl => by
      have := Try.slices_SortFunc_total encStr (fun _ => rfl) Lib.compareBytes swo_bytes 33 #[] b 0 m xs.toArray w (fun args w => by rfl) (CmpReads.lays fun _ _ _ _ x y => of1_calls x y _) hH hb (by simpa using hl) tot_bytes
      rw [ge_bytes] at this
      simpa [sortWorld] using this)
    (fun a m w => Try.slices_SortFunc_none (α := List UInt8) a m _ w) (a0.map lsOf) z (by simpa [len62B] using h)
  rw [row_bs, row_ls] at this
  exact this
theorem compactB_ok (a0 : List ByteArray) (z : Z3) (h : len62B a0 = true) : CallsD Try.prog 35 [.v (SL z)] [(0, .row 1 (a0.map eStr) (SL z))] [] (fun d h k => ∃ y0, d = .v (SL y0) ∧ h = [(0, .row 1 ((compactB a0).map eStr) (SL y0))] ∧ k = []) := by
  have := cut_row (P := Try.prog) (f := 35) (enc := encStr) (fun _ => rfl) (S := Lib.compact) compact_le ⟨_, Try.func35, rfl, rfl⟩ [] [] (fun H vs h => by simpa [RepsV] using h) []
    (fun b m xs w hH hl hm => Try.slices_Compact_string b 0 m xs w hH (by omega) hm) (fun a m w => Try.slices_Compact_string_empty a m w) (a0.map lsOf) z (by simpa [len62B] using h)
  rw [row_bs, row_ls] at this
  exact this
def growF (n : Int) : List ByteArray := []
def growPre (n : Int) : Bool := decide (0 ≤ n) && decide (n * 16 ≤ 140737488355328)
theorem growB_ok (n : Int) {k0 : Nat} (h : growPre n = true) : CallsD Try.prog 36 [.lst k0 [] .full, .v (.int .i64 n)] [] [] (fun d h k => ∃ y0, d = .v (SL y0) ∧ h = [(0, .row 1 ((growF n).map eStr) (SL y0))] ∧ k = []) := by
  simp only [growPre, Bool.and_eq_true, decide_eq_true_eq] at h
  exact grow_nil (e := 9) (bb := 16) ⟨_, Try.func36, rfl, rfl⟩ ⟨_, _, rfl, rfl, rfl, rfl, rfl⟩ (by decide)
    (fun a w => Any8.slices_Grow_room Try.grow36 a 0 0 0 w (by omega) (by omega) (by omega) (by omega))
    (fun i0 z hi0 hz0 hs0 a m w h0 hb h62 => by
      have := Any8.slices_Grow_grow Try.grow36 i0 z hi0 hz0 hs0 a 0 0 m [] w (by omega) (by omega) (by simpa using hb) (by omega) (by simp) (fun _ => rfl) (fun _ _ j v hj => by simp at hj)
      simpa [Try.grow36_ren] using this) n h.1 h.2 (by omega)
end Go.Proofs.Ytaofljigbobdpaa.Ab
