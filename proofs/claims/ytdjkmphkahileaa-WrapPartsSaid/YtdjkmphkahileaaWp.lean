/- WrapParts: the law's function over any two ints, in any world. -/
import Derived.Test.YtdjkmphkahileaaWq
namespace Go.Proofs.Ytdjkmphkahileaa
open Go Go.RowKit
theorem parts_any (a b : Int) (w : World) (ka : I64 a) (kb : I64 b) : Calls Try.prog 4 #[.int .i64 a, .int .i64 b] w fun e w' => e = .returned (.bool true) ∧ Below w.heap.size w w' :=
  Ab.to_calls (Ab.parts_all a b ka kb) (H := fun _ => none) (fun _ _ h => by cases h) (by
    simp only [Ab.RepsV]
    exact ⟨_, _, rfl, Ab.rep_v rfl, _, _, rfl, Ab.rep_v rfl, rfl⟩)
end Go.Proofs.Ytdjkmphkahileaa
