/- strings.IndexByte. -/
import Derived.Test.YtbfbipcjdiipaaaTb
import Derived.Test.YtbfbipcjdiipaaaBc
import Derived.Test.YtbfbipcjdiipaaaShelf
namespace Go.Proofs.Ytbfbipcjdiipaaa.Ab
open Go
set_option linter.all false
def indexB (s : ByteArray) (c : Int) : Int := Lib.indexByte s.data.toList c.toNat.toUInt8
theorem indexB_ok (s : ByteArray) (c : Int) : CallsD Try.prog 25 [.v (.string s), .v (.int .u8 c)] [] [] (fun d h k => d = .v (.int .i64 (indexB s c)) ∧ h = [] ∧ k = []) :=
  of_calls (us := #[.string s, .int .u8 c]) ⟨_, Try.func25, rfl, rfl⟩ rfl (fun _ => rep_v rfl) fun w => (Try.strings_IndexByte s c w).mono fun _ w' ⟨h1, h2⟩ => ⟨h1, by subst h2; exact ⟨rfl, rfl, rfl, Nat.le_refl _, fun _ _ => rfl⟩⟩
end Go.Proofs.Ytbfbipcjdiipaaa.Ab
