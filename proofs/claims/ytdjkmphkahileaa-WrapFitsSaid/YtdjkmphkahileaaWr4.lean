/- Layer 2: the document's quotient. -/
import Derived.Test.YtdjkmphkahileaaWr1
import Derived.Test.YtdjkmphkahileaaWr2
import Derived.Test.YtdjkmphkahileaaWr3
namespace Go.Proofs.Ytdjkmphkahileaa
open Go.RowKit Go.Shelf
theorem rquot_same (a b m : Int) (w : World) (ka : I64 a) (kb : I64 b) (hz : ¬ (b.natAbs : Int) = 0) (hs : (!(decide (a < 0) == decide (b < 0))) = false) (hm : IntKind.u64.wrap ((a.natAbs : Int) / (b.natAbs : Int)) = m) (km : Ok2 0 m) : Calls Try.prog 25 #[.int .i64 a, .int .i64 b] w fun e w' => e = .returned (.int .i64 (wrap64 m)) ∧ Below w.heap.size w w' := by
  go_enter Try.func25, Try.ntmps25
  go_wp2_with fail
  refine (rabs_any a _ ka).mono ?_
  rintro e w1 ⟨rfl, hb1⟩
  go_wp2_with fail
  refine (rabs_any b _ kb).mono ?_
  rintro e w2 ⟨rfl, hb2⟩
  have hs1 := hb1.size
  have b2 := below_then (a := w) (by (repeat (first | with_reducible exact Below.refl _ _ | with_reducible assumption | (with_reducible refine below_set ?_ ?_; focus ((try dsimp only); first | with_reducible assumption | omega)) | (with_reducible refine below_alloc ?_ ?_; focus (first | omega | (simp; done) | (simp; omega))) | with_reducible refine below_drewN ?_ _ | with_reducible refine Below.drew ?_))) hb2
  have hs2 := b2.size
  go_wp2_with fail
  refine (rlow_any 0 m _ km).mono ?_
  rintro e w3 ⟨rfl, hb3⟩
  have b3 := below_then (a := w) (by (repeat (first | with_reducible exact Below.refl _ _ | with_reducible assumption | (with_reducible refine below_set ?_ ?_; focus ((try dsimp only); first | with_reducible assumption | omega)) | (with_reducible refine below_alloc ?_ ?_; focus (first | omega | (simp; done) | (simp; omega))) | with_reducible refine below_drewN ?_ _ | with_reducible refine Below.drew ?_))) hb3
  go_wp2
  go_ret
  exact ⟨rfl, b3⟩
theorem rquot_diff (a b m : Int) (w : World) (ka : I64 a) (kb : I64 b) (hz : ¬ (b.natAbs : Int) = 0) (hs : (!(decide (a < 0) == decide (b < 0))) = true) (hm : IntKind.u64.wrap ((a.natAbs : Int) / (b.natAbs : Int)) = m) (km : Ok2 0 m) : Calls Try.prog 25 #[.int .i64 a, .int .i64 b] w fun e w' => e = .returned (.int .i64 (wrap64 (loW (-V 0 m)))) ∧ Below w.heap.size w w' := by
  go_enter Try.func25, Try.ntmps25
  go_wp2_with fail
  refine (rabs_any a _ ka).mono ?_
  rintro e w1 ⟨rfl, hb1⟩
  go_wp2_with fail
  refine (rabs_any b _ kb).mono ?_
  rintro e w2 ⟨rfl, hb2⟩
  have hs1 := hb1.size
  have b2 := below_then (a := w) (by (repeat (first | with_reducible exact Below.refl _ _ | with_reducible assumption | (with_reducible refine below_set ?_ ?_; focus ((try dsimp only); first | with_reducible assumption | omega)) | (with_reducible refine below_alloc ?_ ?_; focus (first | omega | (simp; done) | (simp; omega))) | with_reducible refine below_drewN ?_ _ | with_reducible refine Below.drew ?_))) hb2
  have hs2 := b2.size
  clear hb1 hb2
  go_wp2_with fail
  refine (rneg_any 0 m _ km).mono ?_
  rintro e w3 ⟨rfl, hb3⟩
  have m3 := Blk.below (H := E) (n := w.heap.size) (b := w2.heap.size) (c := #[.int .i64 0, .int .u64 m]) (T := 31) (by (apply Blk.cast; (repeat (first | with_reducible assumption | (with_reducible apply Blk.mk_new; (focus (first | exact agE _ | assumption)); (focus (first | rfl | (simp; done))); (focus omega)) | with_reducible apply Blk.alloc | with_reducible apply Blk.drewN | with_reducible apply Blk.drew | with_reducible apply Blk.set | (with_reducible apply Blk.far'; focus (first | with_reducible assumption | (apply Ne.symm; with_reducible assumption) | omega)))); (try (first | (simp; done) | rfl)))) hb3
  have b3 := below_then (a := w) (by (repeat (first | with_reducible exact Below.refl _ _ | with_reducible assumption | (with_reducible refine below_set ?_ ?_; focus ((try dsimp only); first | with_reducible assumption | omega)) | (with_reducible refine below_alloc ?_ ?_; focus (first | omega | (simp; done) | (simp; omega))) | with_reducible refine below_drewN ?_ _ | with_reducible refine Below.drew ?_))) hb3
  have hs3 := b3.size
  clear hb3 b2
  have c3 := m3.cell; have z3 := m3.frozen
  go_wp2_with fail
  refine (rlow_any _ _ _ (ok2 _)).mono ?_
  rintro e w4 ⟨rfl, hb4⟩
  have b4 := below_then (a := w) (by (repeat (first | with_reducible exact Below.refl _ _ | with_reducible assumption | (with_reducible refine below_set ?_ ?_; focus ((try dsimp only); first | with_reducible assumption | omega)) | (with_reducible refine below_alloc ?_ ?_; focus (first | omega | (simp; done) | (simp; omega))) | with_reducible refine below_drewN ?_ _ | with_reducible refine Below.drew ?_))) hb4
  go_wp2
  go_ret
  exact ⟨rfl, b4⟩
theorem quot_m (a b : Int) (ka : I64 a) (hz : b ≠ 0) : IntKind.u64.wrap ((a.natAbs : Int) / (b.natAbs : Int)) = ((a.natAbs / b.natAbs : Nat) : Int) := by
  have h : a.natAbs / b.natAbs ≤ a.natAbs := Nat.div_le_self _ _
  unfold I64 at ka
  rw [← Int.natCast_ediv, IntKind.wrap_u64]
  generalize a.natAbs / b.natAbs = q at *
  omega
theorem quot_ok (a b : Int) (ka : I64 a) : Ok2 0 ((a.natAbs / b.natAbs : Nat) : Int) := by
  have h : a.natAbs / b.natAbs ≤ a.natAbs := Nat.div_le_self _ _
  unfold I64 at ka
  generalize a.natAbs / b.natAbs = q at *
  unfold Ok2; omega
theorem tdiv_same (a b : Int) (hs : (!(decide (a < 0) == decide (b < 0))) = false) : ((a.natAbs / b.natAbs : Nat) : Int) = a.tdiv b := by
  by_cases h1 : a < 0 <;> by_cases h2 : b < 0 <;> simp [h1, h2] at hs
  · have e1 : a = -(a.natAbs : Int) := by omega
    have e2 : b = -(b.natAbs : Int) := by omega
    generalize a.natAbs = x at *; generalize b.natAbs = y at *
    subst e1 e2
    rw [Int.neg_tdiv, Int.tdiv_neg, Int.neg_neg]; exact (Int.ofNat_tdiv _ _)
  · have e1 : a = (a.natAbs : Int) := by omega
    have e2 : b = (b.natAbs : Int) := by omega
    generalize a.natAbs = x at *; generalize b.natAbs = y at *
    subst e1 e2
    exact (Int.ofNat_tdiv _ _)
theorem tdiv_diff (a b : Int) (hs : (!(decide (a < 0) == decide (b < 0))) = true) : -((a.natAbs / b.natAbs : Nat) : Int) = a.tdiv b := by
  by_cases h1 : a < 0 <;> by_cases h2 : b < 0 <;> simp [h1, h2] at hs
  · have e1 : a = -(a.natAbs : Int) := by omega
    have e2 : b = (b.natAbs : Int) := by omega
    generalize a.natAbs = x at *; generalize b.natAbs = y at *
    subst e1 e2
    rw [Int.neg_tdiv]; exact congrArg _ (Int.ofNat_tdiv _ _)
  · have e1 : a = (a.natAbs : Int) := by omega
    have e2 : b = -(b.natAbs : Int) := by omega
    generalize a.natAbs = x at *; generalize b.natAbs = y at *
    subst e1 e2
    rw [Int.tdiv_neg]; exact congrArg _ (Int.ofNat_tdiv _ _)
end Go.Proofs.Ytdjkmphkahileaa
