/- Function values that are called within drawn regions. Over any program. -/
import Derived.Test.YtpapooaaccmnpaaTr4
import Derived.Test.YtpapooaaccmnpaaAb18
namespace Go.Proofs.Ytpapooaaccmnpaa.Ab
open Go
set_option linter.all false
section
variable {P : Program} {C : Ctx} {N : Nat} {l : List Oper} {m : Nat} {De : Nat → D} {al : AL} {pre : List (List Nat)} {ev : List Nat} {h : List (Nat × Blk)} {k : List (Nat × Value)} {Q : Exit → S → Prop} {bs : Nat → Nat} {i : Nat} {o : Oper} {rest : List Oper} {te : TE}
theorem z_callV {f : FuncId} {z : Operand} {args : List Operand} {ts : Array TypeId} {j : Nat} {p : List Nat} {t : List (Nat × D)} {as cs ds da ds' : List D} {d : D} (hp : pre.getD i [] = p) (ht : vis p te = t) (hc : CallsD P f ds' [] [] (fun d' h k => d' = d ∧ h = [] ∧ k = [])) (hz : opD t z = some (.fn (.func f) as cs)) (ho : o.op = .call ⟨.value z, args.toArray, ts⟩)
    (ha : someMap args (opD t) = some ds) (hda : as ++ ds ++ cs = da) (hwk : WkL da ds') (hw : wantD l (vis [] te) o = some true) (hd : o.dst = some j) (hi : Nat.blt j N = true) (he : ev.contains i = true) (hna : isAl al i = false) (hDe : De i = d)
    (g : Zw P C N l m De al pre ev h k Q bs (i + 1) rest ((j, d, some i) :: te)) : Zw P C N l m De al pre ev h k Q bs i (o :: rest) te :=
  z_event hp hw hd hi he hna hDe (fun hh H a w c kt => by
    subst ht; subst hda
    obtain ⟨vs, ws, ex, r1, r2⟩ := rep_fn_inv (opD_ok kt hz)
    unfold Jx.Gives
    rw [callV_run ho ex hc.1]
    simp only []
    have hv := hwk H _ (repsV_append (repsV_append r1 (someMap_ok kt ha)) r2)
    refine (hc.2 H w _ hv c.ag (by simp) (by simp) (by simp [claims, blkClaim])).mono ?_
    rintro e w' ⟨v, H', d', h', k', rfl, hr, hcore, rfl, rfl, rfl⟩
    exact ⟨v, rfl, H', hcore.le, hcore, hr⟩) g
theorem z_callVB {f : FuncId} {z : Operand} {args : List Operand} {ts : Array TypeId} {j : Nat} {p : List Nat} {t : List (Nat × D)} {as cs ds da ds' : List D} {d : D} {x : Nat × Blk} (b : Nat) (hp : pre.getD i [] = p) (ht : vis p te = t) (hc : CallsD P f ds' [x] [] (fun d' h k => d' = d ∧ h = [x] ∧ k = [])) (hz : opD t z = some (.fn (.func f) as cs)) (ho : o.op = .call ⟨.value z, args.toArray, ts⟩)
    (ha : someMap args (opD t) = some ds) (hda : as ++ ds ++ cs = da) (hwk : WkL da ds') (hb : h[b]? = some x) (hw : wantD l (vis [] te) o = some true) (hd : o.dst = some j) (hi : Nat.blt j N = true) (he : ev.contains i = true) (hna : isAl al i = false) (hDe : De i = d)
    (g : Zw P C N l m De al pre ev h k Q bs (i + 1) rest ((j, d, some i) :: te)) : Zw P C N l m De al pre ev h k Q bs i (o :: rest) te :=
  z_event2 hp hw hd hi he hna hDe (fun hh H a w c kt => by
    subst ht; subst hda
    obtain ⟨vs, ws, ex, r1, r2⟩ := rep_fn_inv (opD_ok kt hz)
    unfold Jx.Gives
    rw [callV_run ho ex hc.1]
    simp only []
    have hv := hwk H _ (repsV_append (repsV_append r1 (someMap_ok kt ha)) r2)
    have hbl : b < h.length := (List.getElem?_eq_some_iff.1 hb).1
    have hb2 : (h ++ hh)[b]? = some x := by rw [List.getElem?_append_left hbl]; exact hb
    have c1 := c.perm (perm_at hb2) (List.Perm.refl k)
    have hblk := c.blks _ (List.mem_of_getElem? hb2)
    have nd := (claims_append [x] ((h ++ hh).eraseIdx b) [] k).nodup_iff.1 (by simpa using c1.nd)
    rw [List.nodup_append] at nd
    refine (hc.2 H w _ hv c.ag (by simpa using hblk) (by simp) nd.1).mono ?_
    rintro e w' ⟨v, H', d', h', k', rfl, hr, hcore, rfl, rfl, rfl⟩
    refine ⟨v, rfl, H', hcore.le, ?_, hr⟩
    have c2 := Core.call (h1 := [x]) (k1 := []) (h2 := (h ++ hh).eraseIdx b) (k2 := k) c1 hcore
    exact c2.perm (perm_at hb2).symm (List.Perm.refl k)) g
end
end Go.Proofs.Ytpapooaaccmnpaa.Ab
