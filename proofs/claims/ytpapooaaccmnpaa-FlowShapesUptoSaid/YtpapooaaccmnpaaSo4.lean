/- The library at flow: Grow. -/
import Derived.Test.YtpapooaaccmnpaaGw1
import Derived.Test.YtpapooaaccmnpaaTb
import Derived.Test.YtpapooaaccmnpaaTr6
import Derived.Test.YtpapooaaccmnpaaShelf
namespace Go.Proofs.Ytpapooaaccmnpaa.Ab
open Go
set_option linter.all false
structure TApiVar where
  gName : ByteArray
  gPtr : Bool
def eTApiVar (x : TApiVar) : D := .agg [.v (.string x.gName), .v (.bool x.gPtr)]
def growF (n : Int) : List TApiVar := []
def growPre (n : Int) : Bool := decide (0 ≤ n) && decide (n * 24 ≤ 140737488355328)
open Go.RowKit Go.Shelf Go.Proofs.Ytpapooaaccmnpaa in
theorem growV_ok (n : Int) {k0 : Nat} (h : growPre n = true) : CallsD Try.prog 22 [.lst k0 [] .full, .v (.int .i64 n)] [] [] (fun d h k => ∃ y0, d = .v (SL y0) ∧ h = [(0, .row 2 ((growF n).map eTApiVar) (SL y0))] ∧ k = []) := by
  simp only [growPre, Bool.and_eq_true, decide_eq_true_eq] at h
  exact grow_nil (e := 52) (bb := 24) ⟨_, Try.func22, rfl, rfl⟩ ⟨_, _, rfl, rfl, rfl, rfl, rfl⟩ (by decide)
    (fun a w => Any8.slices_Grow_room Try.grow22 a 0 0 0 w (by omega) (by omega) (by omega) (by omega))
    (fun i0 z hi0 hz0 hs0 a m w h0 hb h62 => by
      have := Any8.slices_Grow_grow Try.grow22 i0 z hi0 hz0 hs0 a 0 0 m [] w (by omega) (by omega) (by simpa using hb) (by omega) (by simp) (fun _ => rfl) (fun _ _ j v hj => by simp at hj)
      simpa [Try.grow22_ren] using this) n h.1 h.2 (by omega)
end Go.Proofs.Ytpapooaaccmnpaa.Ab
