/- Layer 12: what is read. -/
import Derived.Test.YtbfbipcjdiipaaaPk5
import Derived.Test.YtbfbipcjdiipaaaBd
namespace Go.Proofs.Ytbfbipcjdiipaaa.Ab
open Go
set_option linter.all false
def wfL22 : List UInt8 → Prop := (fun y => (y.length ≤ maxLen ∧ ∀ z ∈ y, True))
theorem goodL22 {n : Nat} {d : D} (g : GoodT tab n 22 d) : ∃ x : List UInt8, d = .lst 1 (x.map byteD) .no ∧ wfL22 x := by
  obtain ⟨n1, zs1, _, rfl, hl1, hz1⟩ := good_slice ti22 rfl ti5 (g)
  obtain ⟨x1, rfl, w1⟩ := good_list (f := byteD) (K := (fun y => True)) (p := fun x => GoodT tab n1 5 x) (fun x hx => by obtain ⟨x2, rfl⟩ := good_u8 ti5 rfl (hx); exact ⟨x2, rfl, trivial⟩) zs1 hz1
  exact ⟨x1, rfl, ⟨by simpa using hl1, w1⟩⟩
theorem ParseAround_true (a0 : List UInt8) (k0 : wfL22 a0) : l12_ParseAround a0 = some true := Pq.around_law a0
end Go.Proofs.Ytbfbipcjdiipaaa.Ab
