/- Arrays that are built. Over any program. -/
import Derived.Test.YtpapooaaccmnpaaTr5
namespace Go.Proofs.Ytpapooaaccmnpaa.Ab
open Go
set_option linter.all false
section
variable {P : Program} {C : Ctx} {N : Nat} {ops rest : List Oper} {o : Oper} {t : List (Nat × D)} {h : List (Nat × Blk)} {k : List (Nat × Value)} {Q : Exit → S → Prop} {tab : List (Option TI)}
theorem td_array' {d : TypeDesc} {n e : Nat} (h : tdOf d = .array n e) : d = .array n e := td_array h
theorem zeros_reps {H : Hp} : ∀ {l : List Value}, l.all one = true → Reps H (l.map dOf) l
  | [], _ => by simp [Reps]
  | u :: l, hz => by
    simp only [List.all_cons, Bool.and_eq_true] at hz
    simp only [List.map_cons, Reps]
    exact ⟨u, l, rfl, ⟨(dOf_ok H u).1, hz.1, (dOf_ok H u).2⟩, zeros_reps hz.2⟩
theorem x_buildA {T : TypeId} {ps : Array (Nat × Operand)} {ti0 j : TI} {n e : Nat} {r : List D} (hT : TabOK P tab) (ho : o.op = .build T ps) (hti : ti tab T = some ti0) (hfs : ti0.d = .array n e) (hj : ti tab e = some j) (hz : ti0.zero.all one = true) (eb : buildD tab ((List.range n).map fun i => (e, i * j.size)) t ps.toList (ti0.zero.map dOf) = some r) : ∀ H a w, TOK H t a → ∃ v, (execOp a.eval o).run P w = .ok (.value v) w ∧ Rep H (.agg r) v :=
  fun H a w kt => by
  obtain ⟨z, h1, h2⟩ := run_zeroValue (w := w) (ti_ok hT hti)
  obtain ⟨d, h3, h4⟩ := run_underlying (w := w) (ti_ok hT hti)
  obtain rfl := td_array (h4.trans hfs)
  have hr : Reps H (ti0.zero.map dOf) z.cells.toList := by rw [h2]; exact zeros_reps hz
  obtain ⟨vs, h6, h7⟩ := fill_ok (P := P) (place := fun i => some (i * j.size, j.size)) hT kt (fs := (List.range n).map fun i => (e, i * j.size)) (by
    intro f fl j' hf hj'
    rw [List.getElem?_map, Option.map_eq_some_iff] at hf
    obtain ⟨x, h8, h9⟩ := hf
    have := List.getElem?_eq_some_iff.1 h8
    obtain ⟨h10, h11⟩ := this
    simp only [List.getElem_range] at h11
    subst h9; subst h11
    simp only [] at hj'
    rw [hj] at hj'
    cases hj'
    rfl) ps.toList _ _ r hr eb
  refine ⟨.agg vs.toArray, ?_, rep_agg h7⟩
  unfold execOp
  rw [ho]
  refine exec_v ?_
  unfold Instr.build
  rw [run_bind_ok h1]
  simp only []
  rw [run_bind_ok h3]
  simp only []
  rw [run_bind_ok (run_sizeOf (ti_ok hT hj))]
  have e1 : (ps.map fun x => (x.1, a.eval x.2)).toList = ps.toList.map fun p => (p.1, a.eval p.2) := by simp
  rw [e1]
  have e2 : z.cells = z.cells.toList.toArray := by simp
  rw [e2]
  simp only [h6]
  rfl
theorem p_buildA {i : Nat} {T : TypeId} {ps : Array (Nat × Operand)} {ti0 j : TI} {n e : Nat} {r : List D} (hT : TabOK P tab) (ho : o.op = .build T ps) (hw : wantD ops t o = some true) (hd : o.dst = some i) (hi : Nat.blt i N = true)
    (hti : ti tab T = some ti0) (hfs : ti0.d = .array n e) (hj : ti tab e = some j) (hz : ti0.zero.all one = true) (eb : buildD tab ((List.range n).map fun i => (e, i * j.size)) t ps.toList (ti0.zero.map dOf) = some r)
    (g : opsD P C N ops rest ⟨(i, .agg r) :: t, h, k⟩ Q) : opsD P C N ops (o :: rest) ⟨t, h, k⟩ Q := ops_run (s := ⟨t, h, k⟩) hw hd hi (x_buildA hT ho hti hfs hj hz eb) g
end
end Go.Proofs.Ytpapooaaccmnpaa.Ab
