/- An abstract machine, part 6: functions: where a call begins and what it returns. Over any program. -/
import Derived.Test.YtpapooaaccmnpaaAb5
import Derived.Laws.Sem
namespace Go.Proofs.Ytpapooaaccmnpaa.Ab
open Go
set_option linter.all false

def argT : Nat → List D → List (Nat × D)
  | _, [] => []
  | i, d :: ds => (i, d) :: argT (i + 1) ds
theorem look_argT : ∀ (ds : List D) (i j : Nat) (d : D), look (argT i ds) j = some d → ∃ n, j = i + n ∧ ds[n]? = some d
  | [], i, j, d, h => by simp [argT, look] at h
  | d0 :: ds, i, j, d, h => by
    simp only [argT, look] at h
    cases hb : Nat.beq i j with
    | true =>
      rw [hb] at h; simp at h
      exact ⟨0, (Nat.eq_of_beq_eq_true hb).symm, by simp [h]⟩
    | false =>
      rw [hb] at h; simp at h
      obtain ⟨n, h1, h2⟩ := look_argT ds (i + 1) j d h
      exact ⟨n + 1, by omega, by simpa using h2⟩
theorem repsV_length {H : Hp} : ∀ {l : List D} {us : List Value}, RepsV H l us → us.length = l.length
  | [], us, h => by simp only [RepsV] at h; subst h; rfl
  | d :: l, us, h => by
    simp only [RepsV] at h
    obtain ⟨u, us', rfl, _, h2⟩ := h
    simp [repsV_length h2]

def resOne (tab : List (Option TI)) (s : S) : ResultVar → D → Prop
  | .tmp t, d => look s.t t = some d
  | .cell a T, d => ∃ (j b off : Nat) (ds : List D) (T' : TypeId) (i : TI), look s.t a = some (.ptr b off) ∧ s.h[j]? = some (b, Blk.cells ds T') ∧ ti tab T = some i ∧ partD i ds off = some d
def resL (tab : List (Option TI)) (s : S) : List ResultVar → List D → Prop
  | [], ds => ds = []
  | r :: rs, ds => ∃ d ds', ds = d :: ds' ∧ resOne tab s r d ∧ resL tab s rs ds'
def wrapD : List D → D
  | [d] => d
  | l => .tup l
/-- A function's end. -/
def retD (tab : List (Option TI)) (rs : List ResultVar) (R : D → List (Nat × Blk) → List (Nat × Value) → Prop) : Exit → S → Prop := fun x s =>
  (x = .ret ∨ x = .normal) ∧ ∃ ds hh kk, resL tab s rs ds ∧ hh.Sublist s.h ∧ kk.Sublist s.k ∧ R (wrapD ds) hh kk

def resF (tmps : Array Value) : ResultVar → Sem Value
  | .tmp t => pure (tmps.getD t undef)
  | .cell a t => do loadVar t (← asAddr (tmps.getD a undef))
theorem look_getD {H : Hp} {t : List (Nat × D)} {a : Act} (k : TOK H t a) {i : Nat} {d : D} (h : look t i = some d) : Rep H d (a.tmps.getD i undef) := by
  obtain ⟨v, h1, h2⟩ := k i d h
  rw [Array.getD_eq_getD_getElem?, h1]; exact h2
theorem resOne_run {P : Program} {tab : List (Option TI)} (ht : TabOK P tab) {C : Ctx} {H : Hp} {s : S} {a : Act} {w : World} (c : Core C H s.h s.k w) (k : TOK H s.t a) {r : ResultVar} {d : D} (h : resOne tab s r d) :
    ∃ v, (resF a.tmps r).run P w = .ok v w ∧ Rep H d v := by
  cases r with
  | tmp t => simp only [resOne] at h; exact ⟨_, rfl, look_getD k h⟩
  | cell x T =>
    simp only [resOne] at h
    obtain ⟨j, b, off, ds, T', i, h1, h2, h3, h4⟩ := h
    obtain ⟨us, h5, h6, h7⟩ := c.blks _ (List.mem_of_getElem? h2)
    obtain ⟨v, h8, h9⟩ := run_loadAt (P := P) (T := T) (n := off) (ti_ok ht h3) (row_block h5) h6 h4
    refine ⟨v, ?_, h9⟩
    have := rep_ptr_inv (look_getD k h1)
    simp only [resF, this]
    rw [run_bind_ok (a := (⟨b, off, none⟩ : Addr)) rfl]
    unfold Instr.loadAt at h8
    rw [run_bind_ok (a := (⟨b, 0 + off, none⟩ : Addr)) rfl, Nat.zero_add] at h8
    exact h8
theorem resL_run {P : Program} {tab : List (Option TI)} (ht : TabOK P tab) {C : Ctx} {H : Hp} {s : S} {a : Act} {w : World} (c : Core C H s.h s.k w) (k : TOK H s.t a) : ∀ {rs : List ResultVar} {ds : List D}, resL tab s rs ds →
    ∃ vs, (rs.mapM (resF a.tmps)).run P w = .ok vs w ∧ RepsV H ds vs
  | [], ds, h => by simp only [resL] at h; subst h; exact ⟨[], rfl, by simp [RepsV]⟩
  | r :: rs, ds, h => by
    simp only [resL] at h
    obtain ⟨d, ds', rfl, h1, h2⟩ := h
    obtain ⟨v, h3, h4⟩ := resOne_run ht c k h1
    obtain ⟨vs, h5, h6⟩ := resL_run ht c k h2
    refine ⟨v :: vs, ?_, ?_⟩
    · rw [List.mapM_cons, run_bind_ok h3, run_bind_ok h5]; rfl
    · simp only [RepsV]; exact ⟨v, vs, rfl, h4, h6⟩
theorem rep_cell' {H : Hp} {l : List D} {vs : List Value} (h : RepC H (.tup l) [.tuple vs.toArray]) : Rep H (.tup l) (.tuple vs.toArray) := ⟨h, rfl⟩
theorem results_run {P : Program} {tab : List (Option TI)} (ht : TabOK P tab) {C : Ctx} {H : Hp} {s : S} {a : Act} {w : World} (c : Core C H s.h s.k w) (k : TOK H s.t a) {fn : Func} {ds : List D} (h : resL tab s fn.results.toList ds) :
    ∃ v, (results fn a.tmps).run P w = .ok v w ∧ Rep H (wrapD ds) v := by
  obtain ⟨vs, h1, h2⟩ := resL_run ht c k h
  have h3 : (fn.results.mapM (resF a.tmps)).run P w = .ok vs.toArray w := by
    rw [Array.mapM_eq_mapM_toList]
    rw [map_eq_pure_bind, run_bind_ok h1]; rfl
  have h4 : results fn a.tmps = (do let vs ← fn.results.mapM (resF a.tmps); pure (if h : vs.size = 1 then vs[0] else .tuple vs)) := rfl
  rw [h4, run_bind_ok h3]
  refine ⟨_, rfl, ?_⟩
  match ds, h2 with
  | [], h2 => simp only [RepsV] at h2; subst h2; exact rep_cell' (vs := []) (by simp [RepC, RepsV])
  | [d], h2 =>
    simp only [RepsV] at h2
    obtain ⟨u, us', rfl, h5, rfl⟩ := h2
    exact h5
  | d :: d' :: ds, h2 =>
    have hl := repsV_length h2
    rw [dif_neg (by simp [hl])]
    exact rep_cell' (by simp only [RepC]; exact ⟨vs, rfl, h2⟩)
/-- A function. -/
theorem enter {P : Program} {tab : List (Option TI)} (ht : TabOK P tab) {f : FuncId} {fn : Func} {c : Code} {ds : List D} {h : List (Nat × Blk)} {k : List (Nat × Value)} {R : D → List (Nat × Blk) → List (Nat × Value) → Prop} {rs : List ResultVar}
    (hf : P.funcs[f]? = some fn) (hb : fn.body = some c) (hn : (fn.name == "runtime.NumGoroutine") = false) {N : Nat} (hN : fn.ntmps = N) (hl : Nat.ble ds.length N = true) (hrs : fn.results.toList = rs)
    (hw : ∀ C, wpD P C N c ⟨argT 0 ds, h, k⟩ (retD tab rs R)) : CallsD P f ds h k R := by
  subst hN
  subst hrs
  refine ⟨⟨fn, hf, hn, by simp [hb]⟩, fun H w vs h1 h2 h3 h4 h5 => ?_⟩
  have hlen := repsV_length h1
  have hle := Nat.le_of_ble_eq_true hl
  refine calls_of_wp hf hb (wp_mono (hw ⟨H, w, claims h k⟩ _ _ ⟨H, ?_, ?_, ?_, rfl⟩) ?_)
  · exact ⟨h2, Hp.le_refl H, fun _ _ x => .inl x, fun _ _ _ => rfl, Nat.le_refl _, h3, h4, h5, fun b hb => .inl hb, Env.refl w⟩
  · intro i d e
    obtain ⟨n, rfl, hn⟩ := look_argT ds 0 i d e
    obtain ⟨u, h6, h7⟩ := repsV_get h1 hn
    refine ⟨u, ?_, h7⟩
    have hlt : n < vs.length := (List.getElem?_eq_some_iff.1 h6).1
    simp only [Nat.zero_add]
    rw [Array.getElem?_append_left (by simpa using hlt)]
    simpa using h6
  · simp; omega
  · rintro e a' w' ⟨s', ⟨H', c', k', hN, hdf⟩, hx, ds', hh, kk, hr, hs1, hs2, hR⟩
    obtain ⟨v, h6, h7⟩ := results_run ht c' k' hr
    have : a'.defers = [] ∧ ∃ v, (results fn a'.tmps).run P w' = .ok v w' ∧ ∃ v', ∃ H' d h' k', Ending.returned v = .returned v' ∧ Rep H' d v' ∧ Core ⟨H, w, claims h k⟩ H' h' k' w' ∧ R d h' k' :=
      ⟨hdf, v, h6, v, H', wrapD ds', hh, kk, rfl, h7, c'.drop hs1 hs2, hR⟩
    rcases hx with rfl | rfl <;> exact this
end Go.Proofs.Ytpapooaaccmnpaa.Ab
