/- Layer 6: the laws, for what is read. -/
import Derived.Test.YtjbpfgknhpdkaaaRq
import Derived.Test.YtjbpfgknhpdkaaaFa
import Derived.Test.YtjbpfgknhpdkaaaFr
namespace Go.Proofs.Ytjbpfgknhpdkaaa.Ab
open Go Go.RowKit Go.Shelf Go.Proofs.Ytjbpfgknhpdkaaa
set_option linter.all false
def wfTApiCong (x : TApiCong) : Prop := (Lit.int .i64 x.gM).wf = true ∧ (Lit.int .i64 x.gR).wf = true
theorem goodTApiCong {n : Nat} {d : D} (g : GoodT tab n 23 d) : ∃ x : TApiCong, d = eTApiCong x ∧ wfTApiCong x := by
  obtain ⟨n', ds, _, rfl, hl, h⟩ := good_struct ti23 rfl g
  match ds, hl with
  | [d0, d1, d2], _ =>
    obtain ⟨x1, rfl⟩ := good_bool ti4 rfl (h 0 _ _ rfl rfl)
    obtain ⟨x2, rfl, w2⟩ := good_int ti3 rfl (h 1 _ _ rfl rfl)
    obtain ⟨x3, rfl, w3⟩ := good_int ti3 rfl (h 2 _ _ rfl rfl)
    exact ⟨⟨x1, x2, x3⟩, rfl, w2, w3⟩
def wfTSondagelaw06Told (x : TSondagelaw06Told) : Prop := (Lit.int .i64 x.gOp).wf = true ∧ wfTApiCong x.gA ∧ wfTApiCong x.gB
theorem goodTSondagelaw06Told {n : Nat} {d : D} (g : GoodT tab n 25 d) : ∃ x : TSondagelaw06Told, d = eTSondagelaw06Told x ∧ wfTSondagelaw06Told x := by
  obtain ⟨n', ds, _, rfl, hl, h⟩ := good_struct ti25 rfl g
  match ds, hl with
  | [d0, d1, d2, d3], _ =>
    obtain ⟨x1, rfl, w1⟩ := good_int ti3 rfl (h 0 _ _ rfl rfl)
    obtain ⟨x2, rfl, w2⟩ := goodTApiCong (h 1 _ _ rfl rfl)
    obtain ⟨x3, rfl, w3⟩ := goodTApiCong (h 2 _ _ rfl rfl)
    obtain ⟨x4, rfl⟩ := good_bool ti4 rfl (h 3 _ _ rfl rfl)
    exact ⟨⟨x1, x2, x3, x4⟩, rfl, w1, w2, w3⟩
theorem okC_wf {c : TApiCong} (h : wfTApiCong c) : okC c := ⟨i64_wf h.1, i64_wf h.2⟩
theorem ResidueDoes_true (a0 : TSondagelaw06Told) (k0 : wfTSondagelaw06Told a0) : l06_ResidueDoes a0 = some true := by
  obtain ⟨_, h1, h2⟩ := k0
  exact does (okC_wf h1) (okC_wf h2)
theorem ResidueExact_true (a0 a1 a2 : Int) (k0 : (Lit.int .i64 a0).wf = true) (k1 : (Lit.int .i64 a1).wf = true) (k2 : (Lit.int .i64 a2).wf = true) : l06_ResidueExact a0 a1 a2 = some true := exact (i64_wf k1) (i64_wf k2)
end Go.Proofs.Ytjbpfgknhpdkaaa.Ab
