/- The program's and the reference's functions on operators (layer 2): what each returns. -/
import Derived.Test.YtdjkmphkahileaaWd7
namespace Go.Proofs.Ytdjkmphkahileaa
open Go.RowKit Go.Shelf
theorem hiW_sub (x y : Int) : hiW (V (hiW x) (loW x) - V (hiW y) (loW y)) = hiW (x - y) := hiW_congr (by rw [V_W, V_W]; omega)
theorem loW_sub (x y : Int) : loW (V (hiW x) (loW x) - V (hiW y) (loW y)) = loW (x - y) := loW_congr (by rw [V_W, V_W]; omega)
theorem wexact_add (a b : Int) (w : World) (ka : I64 a) (kb : I64 b) : Calls Try.prog 15 #[.int .i64 10, .int .i64 a, .int .i64 b] w fun e w' => e = .returned (.tuple #[.agg #[.int .i64 (hiW (a + b)), .int .u64 (loW (a + b))], .bool true]) ∧ Below w.heap.size w w' := by
  go_enter Try.func15, Try.ntmps15
  go_wp2_with fail
  refine (wof_any a _ ka).mono ?_
  rintro e w1 ⟨rfl, hb⟩
  have m1 := Blk.below (H := E) (n := w.heap.size) (b := w.heap.size) (c := #[.int .i64 0, .int .u64 0]) (T := 31) (by (apply Blk.cast; (repeat (first | with_reducible assumption | (with_reducible apply Blk.mk_new; (focus (first | exact agE _ | assumption)); (focus (first | rfl | (simp; done))); (focus omega)) | with_reducible apply Blk.alloc | with_reducible apply Blk.drewN | with_reducible apply Blk.drew | with_reducible apply Blk.set | (with_reducible apply Blk.far'; focus (first | with_reducible assumption | (apply Ne.symm; with_reducible assumption) | omega)))); (try (first | (simp; done) | rfl)))) hb
  have b1 := below_then (a := w) (by (repeat (first | with_reducible exact Below.refl _ _ | with_reducible assumption | (with_reducible refine below_set ?_ ?_; focus ((try dsimp only); first | with_reducible assumption | omega)) | (with_reducible refine below_alloc ?_ ?_; focus (first | omega | (simp; done) | (simp; omega))) | with_reducible refine below_drewN ?_ _ | with_reducible refine Below.drew ?_))) hb
  clear hb
  go_wp2_with fail
  refine (wof_any b _ kb).mono ?_
  rintro e w2 ⟨rfl, hb⟩
  have m2 := m1.below hb
  have b2 := below_then b1 hb
  clear hb m1 b1
  go_wp2_with fail
  refine (wadd_any _ _ _ _ _ (ok2 a) (ok2 b)).mono ?_
  rintro e w3 ⟨rfl, hb⟩
  rw [hiW_add, loW_add]
  have m3 := m2.below hb
  have b3 := below_then b2 hb
  clear hb m2 b2
  have c3 := m3.cell; have z3 := m3.frozen
  go_wp2
  simp [bodyPost, results, Try.results15, go_sem, c3]
  (repeat (first | with_reducible exact Below.refl _ _ | with_reducible assumption | (with_reducible refine below_set ?_ ?_; focus ((try dsimp only); first | with_reducible assumption | omega)) | (with_reducible refine below_alloc ?_ ?_; focus (first | omega | (simp; done) | (simp; omega))) | with_reducible refine below_drewN ?_ _ | with_reducible refine Below.drew ?_))
theorem wexact_sub (a b : Int) (w : World) (ka : I64 a) (kb : I64 b) : Calls Try.prog 15 #[.int .i64 11, .int .i64 a, .int .i64 b] w fun e w' => e = .returned (.tuple #[.agg #[.int .i64 (hiW (a - b)), .int .u64 (loW (a - b))], .bool true]) ∧ Below w.heap.size w w' := by
  go_enter Try.func15, Try.ntmps15
  go_wp2_with fail
  refine (wof_any a _ ka).mono ?_
  rintro e w1 ⟨rfl, hb⟩
  have m1 := Blk.below (H := E) (n := w.heap.size) (b := w.heap.size) (c := #[.int .i64 0, .int .u64 0]) (T := 31) (by (apply Blk.cast; (repeat (first | with_reducible assumption | (with_reducible apply Blk.mk_new; (focus (first | exact agE _ | assumption)); (focus (first | rfl | (simp; done))); (focus omega)) | with_reducible apply Blk.alloc | with_reducible apply Blk.drewN | with_reducible apply Blk.drew | with_reducible apply Blk.set | (with_reducible apply Blk.far'; focus (first | with_reducible assumption | (apply Ne.symm; with_reducible assumption) | omega)))); (try (first | (simp; done) | rfl)))) hb
  have b1 := below_then (a := w) (by (repeat (first | with_reducible exact Below.refl _ _ | with_reducible assumption | (with_reducible refine below_set ?_ ?_; focus ((try dsimp only); first | with_reducible assumption | omega)) | (with_reducible refine below_alloc ?_ ?_; focus (first | omega | (simp; done) | (simp; omega))) | with_reducible refine below_drewN ?_ _ | with_reducible refine Below.drew ?_))) hb
  clear hb
  go_wp2_with fail
  refine (wof_any b _ kb).mono ?_
  rintro e w2 ⟨rfl, hb⟩
  have m2 := m1.below hb
  have b2 := below_then b1 hb
  clear hb m1 b1
  go_wp2_with fail
  refine (wsub_any _ _ _ _ _ (ok2 a) (ok2 b)).mono ?_
  rintro e w3 ⟨rfl, hb⟩
  rw [hiW_sub, loW_sub]
  have m3 := m2.below hb
  have b3 := below_then b2 hb
  clear hb m2 b2
  have c3 := m3.cell; have z3 := m3.frozen
  go_wp2
  simp [bodyPost, results, Try.results15, go_sem, c3]
  (repeat (first | with_reducible exact Below.refl _ _ | with_reducible assumption | (with_reducible refine below_set ?_ ?_; focus ((try dsimp only); first | with_reducible assumption | omega)) | (with_reducible refine below_alloc ?_ ?_; focus (first | omega | (simp; done) | (simp; omega))) | with_reducible refine below_drewN ?_ _ | with_reducible refine Below.drew ?_))
theorem wexact_mul (a b : Int) (w : World) (ka : I64 a) (kb : I64 b) : Calls Try.prog 15 #[.int .i64 7, .int .i64 a, .int .i64 b] w fun e w' => e = .returned (.tuple #[.agg #[.int .i64 (hiW (a * b)), .int .u64 (loW (a * b))], .bool true]) ∧ Below w.heap.size w w' := by
  go_enter Try.func15, Try.ntmps15
  go_wp2_with fail
  refine (wmul_any _ _ _ ka kb).mono ?_
  rintro e w3 ⟨rfl, hb⟩
  have m3 := Blk.below (H := E) (n := w.heap.size) (b := w.heap.size) (c := #[.int .i64 0, .int .u64 0]) (T := 31) (by (apply Blk.cast; (repeat (first | with_reducible assumption | (with_reducible apply Blk.mk_new; (focus (first | exact agE _ | assumption)); (focus (first | rfl | (simp; done))); (focus omega)) | with_reducible apply Blk.alloc | with_reducible apply Blk.drewN | with_reducible apply Blk.drew | with_reducible apply Blk.set | (with_reducible apply Blk.far'; focus (first | with_reducible assumption | (apply Ne.symm; with_reducible assumption) | omega)))); (try (first | (simp; done) | rfl)))) hb
  have b3 := below_then (a := w) (by (repeat (first | with_reducible exact Below.refl _ _ | with_reducible assumption | (with_reducible refine below_set ?_ ?_; focus ((try dsimp only); first | with_reducible assumption | omega)) | (with_reducible refine below_alloc ?_ ?_; focus (first | omega | (simp; done) | (simp; omega))) | with_reducible refine below_drewN ?_ _ | with_reducible refine Below.drew ?_))) hb
  clear hb
  have c3 := m3.cell; have z3 := m3.frozen
  go_wp2
  simp [bodyPost, results, Try.results15, go_sem, c3]
  (repeat (first | with_reducible exact Below.refl _ _ | with_reducible assumption | (with_reducible refine below_set ?_ ?_; focus ((try dsimp only); first | with_reducible assumption | omega)) | (with_reducible refine below_alloc ?_ ?_; focus (first | omega | (simp; done) | (simp; omega))) | with_reducible refine below_drewN ?_ _ | with_reducible refine Below.drew ?_))
theorem wexact_no (op a b : Int) (w : World) (h1 : (op == 10) = false) (h2 : (op == 11) = false) (h3 : (op == 7) = false) : Calls Try.prog 15 #[.int .i64 op, .int .i64 a, .int .i64 b] w fun e w' => e = .returned (.tuple #[.agg #[.int .i64 0, .int .u64 0], .bool false]) ∧ Below w.heap.size w w' := by
  go_enter Try.func15, Try.ntmps15
  go_wp2
  simp [bodyPost, results, Try.results15, go_sem]
  (repeat (first | with_reducible exact Below.refl _ _ | with_reducible assumption | (with_reducible refine below_set ?_ ?_; focus ((try dsimp only); first | with_reducible assumption | omega)) | (with_reducible refine below_alloc ?_ ?_; focus (first | omega | (simp; done) | (simp; omega))) | with_reducible refine below_drewN ?_ _ | with_reducible refine Below.drew ?_))
theorem rexact_add (a b : Int) (w : World) (ka : I64 a) (kb : I64 b) : Calls Try.prog 16 #[.int .i64 10, .int .i64 a, .int .i64 b] w fun e w' => e = .returned (.tuple #[.agg #[.int .i64 (hiW (a + b)), .int .u64 (loW (a + b))], .bool true]) ∧ Below w.heap.size w w' := by
  go_enter Try.func16, Try.ntmps16
  go_wp2_with fail
  refine (rof_any a _ ka).mono ?_
  rintro e w1 ⟨rfl, hb⟩
  have m1 := Blk.below (H := E) (n := w.heap.size) (b := w.heap.size) (c := #[.int .i64 0, .int .u64 0]) (T := 31) (by (apply Blk.cast; (repeat (first | with_reducible assumption | (with_reducible apply Blk.mk_new; (focus (first | exact agE _ | assumption)); (focus (first | rfl | (simp; done))); (focus omega)) | with_reducible apply Blk.alloc | with_reducible apply Blk.drewN | with_reducible apply Blk.drew | with_reducible apply Blk.set | (with_reducible apply Blk.far'; focus (first | with_reducible assumption | (apply Ne.symm; with_reducible assumption) | omega)))); (try (first | (simp; done) | rfl)))) hb
  have b1 := below_then (a := w) (by (repeat (first | with_reducible exact Below.refl _ _ | with_reducible assumption | (with_reducible refine below_set ?_ ?_; focus ((try dsimp only); first | with_reducible assumption | omega)) | (with_reducible refine below_alloc ?_ ?_; focus (first | omega | (simp; done) | (simp; omega))) | with_reducible refine below_drewN ?_ _ | with_reducible refine Below.drew ?_))) hb
  clear hb
  go_wp2_with fail
  refine (rof_any b _ kb).mono ?_
  rintro e w2 ⟨rfl, hb⟩
  have m2 := m1.below hb
  have b2 := below_then b1 hb
  clear hb m1 b1
  go_wp2_with fail
  refine (radd_any _ _ _ _ _ (ok2 a) (ok2 b)).mono ?_
  rintro e w3 ⟨rfl, hb⟩
  rw [hiW_add, loW_add]
  have m3 := m2.below hb
  have b3 := below_then b2 hb
  clear hb m2 b2
  have c3 := m3.cell; have z3 := m3.frozen
  go_wp2
  simp [bodyPost, results, Try.results16, go_sem, c3]
  (repeat (first | with_reducible exact Below.refl _ _ | with_reducible assumption | (with_reducible refine below_set ?_ ?_; focus ((try dsimp only); first | with_reducible assumption | omega)) | (with_reducible refine below_alloc ?_ ?_; focus (first | omega | (simp; done) | (simp; omega))) | with_reducible refine below_drewN ?_ _ | with_reducible refine Below.drew ?_))
theorem rexact_sub (a b : Int) (w : World) (ka : I64 a) (kb : I64 b) : Calls Try.prog 16 #[.int .i64 11, .int .i64 a, .int .i64 b] w fun e w' => e = .returned (.tuple #[.agg #[.int .i64 (hiW (a - b)), .int .u64 (loW (a - b))], .bool true]) ∧ Below w.heap.size w w' := by
  go_enter Try.func16, Try.ntmps16
  go_wp2_with fail
  refine (rof_any a _ ka).mono ?_
  rintro e w1 ⟨rfl, hb⟩
  have m1 := Blk.below (H := E) (n := w.heap.size) (b := w.heap.size) (c := #[.int .i64 0, .int .u64 0]) (T := 31) (by (apply Blk.cast; (repeat (first | with_reducible assumption | (with_reducible apply Blk.mk_new; (focus (first | exact agE _ | assumption)); (focus (first | rfl | (simp; done))); (focus omega)) | with_reducible apply Blk.alloc | with_reducible apply Blk.drewN | with_reducible apply Blk.drew | with_reducible apply Blk.set | (with_reducible apply Blk.far'; focus (first | with_reducible assumption | (apply Ne.symm; with_reducible assumption) | omega)))); (try (first | (simp; done) | rfl)))) hb
  have b1 := below_then (a := w) (by (repeat (first | with_reducible exact Below.refl _ _ | with_reducible assumption | (with_reducible refine below_set ?_ ?_; focus ((try dsimp only); first | with_reducible assumption | omega)) | (with_reducible refine below_alloc ?_ ?_; focus (first | omega | (simp; done) | (simp; omega))) | with_reducible refine below_drewN ?_ _ | with_reducible refine Below.drew ?_))) hb
  clear hb
  go_wp2_with fail
  refine (rof_any b _ kb).mono ?_
  rintro e w2 ⟨rfl, hb⟩
  have m2 := m1.below hb
  have b2 := below_then b1 hb
  clear hb m1 b1
  go_wp2_with fail
  refine (rsub_any _ _ _ _ _ (ok2 a) (ok2 b)).mono ?_
  rintro e w3 ⟨rfl, hb⟩
  rw [hiW_sub, loW_sub]
  have m3 := m2.below hb
  have b3 := below_then b2 hb
  clear hb m2 b2
  have c3 := m3.cell; have z3 := m3.frozen
  go_wp2
  simp [bodyPost, results, Try.results16, go_sem, c3]
  (repeat (first | with_reducible exact Below.refl _ _ | with_reducible assumption | (with_reducible refine below_set ?_ ?_; focus ((try dsimp only); first | with_reducible assumption | omega)) | (with_reducible refine below_alloc ?_ ?_; focus (first | omega | (simp; done) | (simp; omega))) | with_reducible refine below_drewN ?_ _ | with_reducible refine Below.drew ?_))
theorem rexact_mul (a b : Int) (w : World) (ka : I64 a) (kb : I64 b) : Calls Try.prog 16 #[.int .i64 7, .int .i64 a, .int .i64 b] w fun e w' => e = .returned (.tuple #[.agg #[.int .i64 (hiW (a * b)), .int .u64 (loW (a * b))], .bool true]) ∧ Below w.heap.size w w' := by
  go_enter Try.func16, Try.ntmps16
  go_wp2_with fail
  refine (rmul_any _ _ _ ka kb).mono ?_
  rintro e w3 ⟨rfl, hb⟩
  have m3 := Blk.below (H := E) (n := w.heap.size) (b := w.heap.size) (c := #[.int .i64 0, .int .u64 0]) (T := 31) (by (apply Blk.cast; (repeat (first | with_reducible assumption | (with_reducible apply Blk.mk_new; (focus (first | exact agE _ | assumption)); (focus (first | rfl | (simp; done))); (focus omega)) | with_reducible apply Blk.alloc | with_reducible apply Blk.drewN | with_reducible apply Blk.drew | with_reducible apply Blk.set | (with_reducible apply Blk.far'; focus (first | with_reducible assumption | (apply Ne.symm; with_reducible assumption) | omega)))); (try (first | (simp; done) | rfl)))) hb
  have b3 := below_then (a := w) (by (repeat (first | with_reducible exact Below.refl _ _ | with_reducible assumption | (with_reducible refine below_set ?_ ?_; focus ((try dsimp only); first | with_reducible assumption | omega)) | (with_reducible refine below_alloc ?_ ?_; focus (first | omega | (simp; done) | (simp; omega))) | with_reducible refine below_drewN ?_ _ | with_reducible refine Below.drew ?_))) hb
  clear hb
  have c3 := m3.cell; have z3 := m3.frozen
  go_wp2
  simp [bodyPost, results, Try.results16, go_sem, c3]
  (repeat (first | with_reducible exact Below.refl _ _ | with_reducible assumption | (with_reducible refine below_set ?_ ?_; focus ((try dsimp only); first | with_reducible assumption | omega)) | (with_reducible refine below_alloc ?_ ?_; focus (first | omega | (simp; done) | (simp; omega))) | with_reducible refine below_drewN ?_ _ | with_reducible refine Below.drew ?_))
theorem rexact_no (op a b : Int) (w : World) (h1 : (op == 10) = false) (h2 : (op == 11) = false) (h3 : (op == 7) = false) : Calls Try.prog 16 #[.int .i64 op, .int .i64 a, .int .i64 b] w fun e w' => e = .returned (.tuple #[.agg #[.int .i64 0, .int .u64 0], .bool false]) ∧ Below w.heap.size w w' := by
  go_enter Try.func16, Try.ntmps16
  go_wp2
  simp [bodyPost, results, Try.results16, go_sem]
  (repeat (first | with_reducible exact Below.refl _ _ | with_reducible assumption | (with_reducible refine below_set ?_ ?_; focus ((try dsimp only); first | with_reducible assumption | omega)) | (with_reducible refine below_alloc ?_ ?_; focus (first | omega | (simp; done) | (simp; omega))) | with_reducible refine below_drewN ?_ _ | with_reducible refine Below.drew ?_))
theorem wone (x : Bool) (w : World) : Calls Try.prog 22 #[.bool x] w fun e w' => e = .returned (.int .i64 (if x then 1 else 0)) ∧ Below w.heap.size w w' := by
  cases x
  all_goals
    go_enter Try.func22, Try.ntmps22
    go_wp2
    go_ret
    exact ⟨rfl, by (repeat (first | with_reducible exact Below.refl _ _ | with_reducible assumption | (with_reducible refine below_set ?_ ?_; focus ((try dsimp only); first | with_reducible assumption | omega)) | (with_reducible refine below_alloc ?_ ?_; focus (first | omega | (simp; done) | (simp; omega))) | with_reducible refine below_drewN ?_ _ | with_reducible refine Below.drew ?_))⟩
theorem rone (x : Bool) (w : World) : Calls Try.prog 27 #[.bool x] w fun e w' => e = .returned (.int .i64 (if x then 1 else 0)) ∧ Below w.heap.size w w' := by
  cases x
  all_goals
    go_enter Try.func27, Try.ntmps27
    go_wp2
    go_ret
    exact ⟨rfl, by (repeat (first | with_reducible exact Below.refl _ _ | with_reducible assumption | (with_reducible refine below_set ?_ ?_; focus ((try dsimp only); first | with_reducible assumption | omega)) | (with_reducible refine below_alloc ?_ ?_; focus (first | omega | (simp; done) | (simp; omega))) | with_reducible refine below_drewN ?_ _ | with_reducible refine Below.drew ?_))⟩
theorem rlow_any (h l : Int) (w : World) (_k : Ok2 h l) :
    Calls Try.prog 23 #[.agg #[.int .i64 h, .int .u64 l]] w fun e w' => e = .returned (.int .i64 (wrap64 l)) ∧ Below w.heap.size w w' := by
  go_enter Try.func23, Try.ntmps23
  go_wp2
  go_ret
  exact ⟨rfl, by (repeat (first | with_reducible exact Below.refl _ _ | with_reducible assumption | (with_reducible refine below_set ?_ ?_; focus ((try dsimp only); first | with_reducible assumption | omega)) | (with_reducible refine below_alloc ?_ ?_; focus (first | omega | (simp; done) | (simp; omega))) | with_reducible refine below_drewN ?_ _ | with_reducible refine Below.drew ?_))⟩
theorem rabs_any (n : Int) (w : World) (k : I64 n) :
    Calls Try.prog 37 #[.int .i64 n] w fun e w' => e = .returned (.int .u64 (n.natAbs : Int)) ∧ Below w.heap.size w w' := by
  have k' := k
  unfold I64 at k'
  obtain ⟨k1, k2⟩ := k'
  by_cases hn : n < 0
  · have e1 : loW (-n) = (n.natAbs : Int) := by unfold loW; omega
    have HE := Lib.hid e1; clear e1
    go_enter Try.func37, Try.ntmps37
    go_wp2_with fail
    refine (rof_any n _ k).mono ?_
    rintro e w1 ⟨rfl, hb1⟩
    go_wp2_with fail
    refine (rneg_any _ _ _ (ok2 n)).mono ?_
    rintro e w2 ⟨rfl, hb⟩
    rw [hiW_neg, loW_neg, HE.out]
    have m3 := Blk.below (H := E) (n := w.heap.size) (b := w1.heap.size) (c := #[.int .i64 (hiW n), .int .u64 (loW n)]) (T := 31) (by have hs := hb1.size; (apply Blk.cast; (repeat (first | with_reducible assumption | (with_reducible apply Blk.mk_new; (focus (first | exact agE _ | assumption)); (focus (first | rfl | (simp; done))); (focus omega)) | with_reducible apply Blk.alloc | with_reducible apply Blk.drewN | with_reducible apply Blk.drew | with_reducible apply Blk.set | (with_reducible apply Blk.far'; focus (first | with_reducible assumption | (apply Ne.symm; with_reducible assumption) | omega)))); (try (first | (simp; done) | rfl)))) hb
    have b3 := below_then (a := w) (by have hs := hb1.size; (repeat (first | with_reducible exact Below.refl _ _ | with_reducible assumption | (with_reducible refine below_set ?_ ?_; focus ((try dsimp only); first | with_reducible assumption | omega)) | (with_reducible refine below_alloc ?_ ?_; focus (first | omega | (simp; done) | (simp; omega))) | with_reducible refine below_drewN ?_ _ | with_reducible refine Below.drew ?_))) hb
    have hs := hb1.size
    clear hb hb1
    have c3 := m3.cell; have z3 := m3.frozen
    go_wp2
    go_ret
    exact ⟨rfl, by (repeat (first | with_reducible exact Below.refl _ _ | with_reducible assumption | (with_reducible refine below_set ?_ ?_; focus ((try dsimp only); first | with_reducible assumption | omega)) | (with_reducible refine below_alloc ?_ ?_; focus (first | omega | (simp; done) | (simp; omega))) | with_reducible refine below_drewN ?_ _ | with_reducible refine Below.drew ?_))⟩
  · have e1 : loW n = (n.natAbs : Int) := by unfold loW; omega
    have HE := Lib.hid e1; clear e1
    go_enter Try.func37, Try.ntmps37
    go_wp2_with fail
    refine (rof_any n _ k).mono ?_
    rintro e w1 ⟨rfl, hb1⟩
    rw [HE.out]
    have hs := hb1.size
    go_wp2
    go_ret
    exact ⟨rfl, by (repeat (first | with_reducible exact Below.refl _ _ | with_reducible assumption | (with_reducible refine below_set ?_ ?_; focus ((try dsimp only); first | with_reducible assumption | omega)) | (with_reducible refine below_alloc ?_ ?_; focus (first | omega | (simp; done) | (simp; omega))) | with_reducible refine below_drewN ?_ _ | with_reducible refine Below.drew ?_))⟩
end Go.Proofs.Ytdjkmphkahileaa
