/- Layer 4: the laws, for what is read. -/
import Derived.Test.YtebnbajjenpldaaKq
import Derived.Test.YtebnbajjenpldaaFa
import Derived.Test.YtebnbajjenpldaaFr
namespace Go.Proofs.Ytebnbajjenpldaa.Ab
open Go Go.RowKit Go.Shelf Go.Proofs.Ytebnbajjenpldaa
set_option linter.all false
def wfTApiSpan (x : TApiSpan) : Prop := (Lit.int .i64 x.gLo).wf = true ∧ (Lit.int .i64 x.gHi).wf = true
theorem goodTApiSpan {n : Nat} {d : D} (g : GoodT tab n 23 d) : ∃ x : TApiSpan, d = eTApiSpan x ∧ wfTApiSpan x := by
  obtain ⟨n', ds, _, rfl, hl, h⟩ := good_struct ti23 rfl g
  match ds, hl with
  | [d0, d1, d2], _ =>
    obtain ⟨x1, rfl⟩ := good_bool ti4 rfl (h 0 _ _ rfl rfl)
    obtain ⟨x2, rfl, w2⟩ := good_int ti3 rfl (h 1 _ _ rfl rfl)
    obtain ⟨x3, rfl, w3⟩ := good_int ti3 rfl (h 2 _ _ rfl rfl)
    exact ⟨⟨x1, x2, x3⟩, rfl, w2, w3⟩
def wfTApiWide (x : TApiWide) : Prop := (Lit.int .i64 x.gHi).wf = true ∧ (Lit.int .u64 x.gLo).wf = true
theorem goodTApiWide {n : Nat} {d : D} (g : GoodT tab n 31 d) : ∃ x : TApiWide, d = eTApiWide x ∧ wfTApiWide x := by
  obtain ⟨n', ds, _, rfl, hl, h⟩ := good_struct ti31 rfl g
  match ds, hl with
  | [d0, d1], _ =>
    obtain ⟨x1, rfl, w1⟩ := good_int ti2 rfl (h 0 _ _ rfl rfl)
    obtain ⟨x2, rfl, w2⟩ := good_int ti29 rfl (h 1 _ _ rfl rfl)
    exact ⟨⟨x1, x2⟩, rfl, w1, w2⟩
def wfT2ApiWide (x : T2ApiWide) : Prop := wfTApiWide x.g0 ∧ wfTApiWide x.g1
theorem goodT2ApiWide {n : Nat} {d : D} (g : GoodT tab n 32 d) : ∃ x : T2ApiWide, d = eT2ApiWide x ∧ wfT2ApiWide x := by
  obtain ⟨n', ds, _, rfl, hl, h⟩ := good_array ti32 rfl g
  match ds, hl with
  | [d0, d1], _ =>
    obtain ⟨x1, rfl, w1⟩ := goodTApiWide (h d0 (by simp))
    obtain ⟨x2, rfl, w2⟩ := goodTApiWide (h d1 (by simp))
    exact ⟨⟨x1, x2⟩, rfl, w1, w2⟩
def wfTSondagelaw04Case (x : TSondagelaw04Case) : Prop := (Lit.int .i64 x.gOp).wf = true ∧ wfTApiSpan x.gA ∧ wfTApiSpan x.gB ∧ (Lit.int .i64 x.gX).wf = true ∧ (Lit.int .i64 x.gY).wf = true
theorem goodTSondagelaw04Case {n : Nat} {d : D} (g : GoodT tab n 43 d) : ∃ x : TSondagelaw04Case, d = eTSondagelaw04Case x ∧ wfTSondagelaw04Case x := by
  obtain ⟨n', ds, _, rfl, hl, h⟩ := good_struct ti43 rfl g
  match ds, hl with
  | [d0, d1, d2, d3, d4], _ =>
    obtain ⟨x1, rfl, w1⟩ := good_int ti3 rfl (h 0 _ _ rfl rfl)
    obtain ⟨x2, rfl, w2⟩ := goodTApiSpan (h 1 _ _ rfl rfl)
    obtain ⟨x3, rfl, w3⟩ := goodTApiSpan (h 2 _ _ rfl rfl)
    obtain ⟨x4, rfl, w4⟩ := good_int ti3 rfl (h 3 _ _ rfl rfl)
    obtain ⟨x5, rfl, w5⟩ := good_int ti3 rfl (h 4 _ _ rfl rfl)
    exact ⟨⟨x1, x2, x3, x4, x5⟩, rfl, w1, w2, w3, w4, w5⟩
theorem okS_wf {c : TApiSpan} (h : wfTApiSpan c) : okS c := ⟨i64_wf h.1, i64_wf h.2⟩
theorem okW_wf {c : TApiWide} (h : wfTApiWide c) : okW c = true := okW_of ⟨(i64_wf h.1).1, (i64_wf h.1).2, (u64_wf h.2).1, (u64_wf h.2).2⟩
theorem ReckonDoes_true (a0 : Int) (a1 a2 : TApiSpan) (k0 : (Lit.int .i64 a0).wf = true) (k1 : wfTApiSpan a1) (k2 : wfTApiSpan a2) : l04_ReckonDoes a0 a1 a2 = some true := does4 (okS_wf k1) (okS_wf k2)
theorem ReckonOnes_true (a0 : Int) (a1 : TApiSpan) (a2 : T2ApiWide) (k0 : (Lit.int .i64 a0).wf = true) (k1 : wfTApiSpan a1) (k2 : wfT2ApiWide a2) : l04_ReckonOnes a0 a1 a2 = some true := ones4 (okS_wf k1) (okW_wf k2.1) (okW_wf k2.2)
theorem ReckonSound_true (a0 : TSondagelaw04Case) (a1 : TApiSpan) (k0 : wfTSondagelaw04Case a0) (k1 : wfTApiSpan a1) : l04_ReckonSound a0 a1 = some true := sound4 (okS_wf k0.2.1) (okS_wf k0.2.2.1) (okS_wf k1)
theorem ReckonExact_true (a0 a1 a2 : Int) (k0 : (Lit.int .i64 a0).wf = true) (k1 : (Lit.int .i64 a1).wf = true) (k2 : (Lit.int .i64 a2).wf = true) : l04_ReckonExact a0 a1 a2 = some true := exact4 (i64_wf k1) (i64_wf k2)
end Go.Proofs.Ytebnbajjenpldaa.Ab
