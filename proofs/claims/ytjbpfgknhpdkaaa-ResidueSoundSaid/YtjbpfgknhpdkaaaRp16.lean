/- Layer 6: the law of soundness, for what is read. -/
import Derived.Test.YtjbpfgknhpdkaaaRq2
import Derived.Test.YtjbpfgknhpdkaaaFa
import Derived.Test.YtjbpfgknhpdkaaaFr
namespace Go.Proofs.Ytjbpfgknhpdkaaa.Ab
open Go Go.RowKit Go.Shelf Go.Proofs.Ytjbpfgknhpdkaaa
set_option linter.all false
def wfTApiCong (x : TApiCong) : Prop := (Lit.int .i64 x.gM).wf = true ∧ (Lit.int .i64 x.gR).wf = true
theorem goodTApiCong {n : Nat} {d : D} (g : GoodT tab n 23 d) : ∃ x : TApiCong, d = eTApiCong x ∧ wfTApiCong x := by
  obtain ⟨n', ds, _, rfl, hl, h⟩ := good_struct ti23 rfl g
  match ds, hl with
  | [d0, d1, d2], _ =>
    obtain ⟨x1, rfl⟩ := good_bool ti4 rfl (h 0 _ _ rfl rfl)
    obtain ⟨x2, rfl, w2⟩ := good_int ti3 rfl (h 1 _ _ rfl rfl)
    obtain ⟨x3, rfl, w3⟩ := good_int ti3 rfl (h 2 _ _ rfl rfl)
    exact ⟨⟨x1, x2, x3⟩, rfl, w2, w3⟩
def wfTSondagelaw06Case (x : TSondagelaw06Case) : Prop := (Lit.int .i64 x.gOp).wf = true ∧ wfTApiCong x.gA ∧ wfTApiCong x.gB
theorem goodTSondagelaw06Case {n : Nat} {d : D} (g : GoodT tab n 33 d) : ∃ x : TSondagelaw06Case, d = eTSondagelaw06Case x ∧ wfTSondagelaw06Case x := by
  obtain ⟨n', ds, _, rfl, hl, h⟩ := good_struct ti33 rfl g
  match ds, hl with
  | [d0, d1, d2], _ =>
    obtain ⟨x1, rfl, w1⟩ := good_int ti3 rfl (h 0 _ _ rfl rfl)
    obtain ⟨x2, rfl, w2⟩ := goodTApiCong (h 1 _ _ rfl rfl)
    obtain ⟨x3, rfl, w3⟩ := goodTApiCong (h 2 _ _ rfl rfl)
    exact ⟨⟨x1, x2, x3⟩, rfl, w1, w2, w3⟩
def wfTSondagelaw06Ints (x : TSondagelaw06Ints) : Prop := wfTSondagelaw06Case x.gC ∧ (Lit.int .i64 x.gX).wf = true ∧ (Lit.int .i64 x.gY).wf = true
theorem goodTSondagelaw06Ints {n : Nat} {d : D} (g : GoodT tab n 35 d) : ∃ x : TSondagelaw06Ints, d = eTSondagelaw06Ints x ∧ wfTSondagelaw06Ints x := by
  obtain ⟨n', ds, _, rfl, hl, h⟩ := good_struct ti35 rfl g
  match ds, hl with
  | [d0, d1, d2, d3], _ =>
    obtain ⟨x1, rfl, w1⟩ := goodTSondagelaw06Case (h 0 _ _ rfl rfl)
    obtain ⟨x2, rfl, w2⟩ := good_int ti3 rfl (h 1 _ _ rfl rfl)
    obtain ⟨x3, rfl, w3⟩ := good_int ti3 rfl (h 2 _ _ rfl rfl)
    obtain ⟨x4, rfl⟩ := good_bool ti4 rfl (h 3 _ _ rfl rfl)
    exact ⟨⟨x1, x2, x3, x4⟩, rfl, w1, w2, w3⟩
theorem okC_wf {c : TApiCong} (h : wfTApiCong c) : okC c := ⟨i64_wf h.1, i64_wf h.2⟩
theorem ResidueSound_true (a0 : TSondagelaw06Ints) (k0 : wfTSondagelaw06Ints a0) : l06_ResidueSound a0 = some true := by
  obtain ⟨⟨_, h1, h2⟩, h3, h4⟩ := k0
  exact sound (okC_wf h1) (okC_wf h2) (i64_wf h3) (i64_wf h4)
end Go.Proofs.Ytjbpfgknhpdkaaa.Ab
