/- Rows as steps: append, calls that are given blocks, rows, tokens. Over any program. -/
import Derived.Test.YtpapooaaccmnpaaRw2
namespace Go.Proofs.Ytpapooaaccmnpaa.Ab
open Go
set_option linter.all false
section
variable {P : Program} {C : Ctx} {N : Nat} {ops rest : List Oper} {o : Oper} {t : List (Nat × D)} {h : List (Nat × Blk)} {k : List (Nat × Value)} {Q : Exit → S → Prop} {tab : List (Option TI)}
theorem p_appR2 {i r kk bb : Nat} {T T' e e' : TypeId} {x y : Operand} {xs ys zs : List D} {c' : Cap} {z : Z3} {i0 i1 ie : TI} (j : Nat) (hT : TabOK P tab) (ho : o.op = .call ⟨.builtin .append, [x, y].toArray, #[T, T']⟩) (hw : wantD ops t o = some true) (hd : o.dst = some i) (hi : Nat.blt i N = true)
    (hx : opD t x = some (.v (SL z))) (hj : h[j]? = some (r, .row kk xs (SL z))) (hy : opD t y = some (.lst kk ys c'))
    (hi0 : ti tab T = some i0) (hd0 : i0.d = .slice e) (hi1 : ti tab T' = some i1) (hd1 : i1.d = .slice e') (hie : ti tab e = some ie) (hks : ie.size = kk) (hbb : ie.bytes = bb) (hz : ie.zero.length = kk) (hb1 : Nat.ble 1 bb = true) (hbound : (xs.length + ys.length) * bb ≤ 140737488355328) (em : xs ++ ys = zs)
    (g : ∀ z' : Z3, opsD P C N ops rest ⟨(i, .v (SL z')) :: t, h.set j (0, .row kk zs (SL z')), k⟩ Q) : opsD P C N ops (o :: rest) ⟨t, h, k⟩ Q := by
  subst em
  exact p_appR j hT ho hw hd hi hx hj hy hi0 hd0 hi1 hd1 hie hks hbb hz hb1 hbound g
/-- append to nil: a new row. -/
theorem p_app0R {i k0 kk bb : Nat} {T T' e e' : TypeId} {x y : Operand} {ys zs : List D} {c' : Cap} {i0 i1 ie : TI} (hT : TabOK P tab) (ho : o.op = .call ⟨.builtin .append, [x, y].toArray, #[T, T']⟩) (hw : wantD ops t o = some true) (hd : o.dst = some i) (hi : Nat.blt i N = true)
    (hx : opD t x = some (.lst k0 [] .full)) (hy : opD t y = some (.lst kk ys c'))
    (hi0 : ti tab T = some i0) (hd0 : i0.d = .slice e) (hi1 : ti tab T' = some i1) (hd1 : i1.d = .slice e') (hie : ti tab e = some ie) (hks : ie.size = kk) (hbb : ie.bytes = bb) (hz : ie.zero.length = kk) (hb1 : Nat.ble 1 bb = true) (hbound : ys.length * bb ≤ 140737488355328) (em : ys = zs)
    (g : ∀ z' : Z3, opsD P C N ops rest ⟨(i, .v (SL z')) :: t, (0, .row kk zs (SL z')) :: h, k⟩ Q) : opsD P C N ops (o :: rest) ⟨t, h, k⟩ Q := by
  subst em
  refine ops_val (s := ⟨t, h, k⟩) hw hd hi fun H a w core kt => ?_
  have hry := opD_ok kt hy
  obtain ⟨a2, m2, ey⟩ := rep_slice_len hry
  obtain ⟨z, ez, c1⟩ := row_nil (kk := kk) core (opD_ok kt hx)
  have hbl := c1.blks _ (List.mem_cons_self ..)
  obtain ⟨z', w', h1, h2⟩ := app_runR (P := P) (ty := o.type) (v1 := SL z) (v2 := a.eval y) (xs := []) (ys := ys) hT c1.ag hbl (fun b hb => c1.lt b (by
      have := (claims_append [(0, Blk.row kk [] (SL z))] h [] k).mem_iff (a := b)
      exact this.2 (List.mem_append_left _ hb))) (by rw [ey]; rfl) (fun w2 hw2 => first_told (fun a' v e' => by
        have := core.ag a' v e'
        have hlt := core.ag.lt e'
        unfold World.cell? at this ⊢
        rw [hw2 _ hlt]; exact this) hry) hi0 hd0 hi1 hd1 hie hks hbb hz (Nat.le_of_ble_eq_true hb1) (by simpa using hbound)
  have c2 := Core.call (h1 := [(0, .row kk [] (SL z))]) (k1 := []) (h2 := h) (k2 := k) c1 h2
  refine ⟨SL z', w', H, .v (SL z'), (0, .row kk ys (SL z')) :: h, k, exec_builtin (s := Builtin.append_) ho (fun _ _ => rfl) ?_, Hp.le_refl H, c2, rep_v rfl, g z'⟩
  simpa [ez] using h1
/-- A call, with all that it is given. -/
theorem p_callG {f : FuncId} {args : List Operand} {ts : Array TypeId} {i : Nat} {ds ds' : List D} {h1 h2 : List (Nat × Blk)} {k1 k2 : List (Nat × Value)} {R : D → List (Nat × Blk) → List (Nat × Value) → Prop}
    (hc : CallsD P f ds' h1 k1 R) (ho : o.op = .call ⟨.value (.func f), args.toArray, ts⟩) (hw : wantD ops t o = some true) (hd : o.dst = some i) (hi : Nat.blt i N = true) (ha : someMap args (opD t) = some ds) (hwk : WkL ds ds')
    (hh : h.Perm (h1 ++ h2)) (hk : k.Perm (k1 ++ k2)) (g : ∀ d h' k', R d h' k' → opsD P C N ops rest ⟨(i, d) :: t, h' ++ h2, k' ++ k2⟩ Q) : opsD P C N ops (o :: rest) ⟨t, h, k⟩ Q :=
  ops_call (s := ⟨t, h, k⟩) hc ho hw hd hi ha hwk hh hk g
theorem p_callG0 {f : FuncId} {args : List Operand} {ts : Array TypeId} {ds ds' : List D} {h1 h2 : List (Nat × Blk)} {k1 k2 : List (Nat × Value)} {R : D → List (Nat × Blk) → List (Nat × Value) → Prop}
    (hc : CallsD P f ds' h1 k1 R) (ho : o.op = .call ⟨.value (.func f), args.toArray, ts⟩) (hw : wantD ops t o = some true) (hd : o.dst = none) (ha : someMap args (opD t) = some ds) (hwk : WkL ds ds')
    (hh : h.Perm (h1 ++ h2)) (hk : k.Perm (k1 ++ k2)) (g : ∀ d h' k', R d h' k' → opsD P C N ops rest ⟨t, h' ++ h2, k' ++ k2⟩ Q) : opsD P C N ops (o :: rest) ⟨t, h, k⟩ Q :=
  ops_call0 (s := ⟨t, h, k⟩) hc ho hw hd ha hwk hh hk g
theorem WkC.any {d : D} : WkC d .any := fun _ _ _ => by simp only [RepC]
end
end Go.Proofs.Ytpapooaaccmnpaa.Ab
