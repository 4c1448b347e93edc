/- An abstract machine, part 7: the steps as a walk takes them. Over any program. -/
import Derived.Test.YtpapooaaccmnpaaAb6
namespace Go.Proofs.Ytpapooaaccmnpaa.Ab
open Go
set_option linter.all false

/-! ### Jumps within a scope -/
def jumps (P : Program) (c : Code) (Q : Exit → Act → World → Prop) : Nat → Code → Act → World → Prop
  | 0, _, _, _ => False
  | n + 1, r, a, w => r.wp P (fun x a w => match x with
    | .goto l => ∃ rest, findLabel c l = some rest ∧ jumps P c Q n rest a w
    | x => Q x a w) a w
theorem wp_scope_fuel {P : Program} {c : Code} {Q : Exit → Act → World → Prop} {a : Act} {w : World} (n : Nat) (h : jumps P c Q n c a w) : (Code.scope c).wp P Q a w := by
  intro b k cs
  have key : ∀ n r a w, jumps P c Q n r a w → ∃ e a' w', Q e a' w' ∧ Arrives P (lone (b.at a (.code r :: .inScope c :: k)) cs w) b k cs e a' w' := by
    intro n
    induction n with
    | zero => intro r a w h; exact h.elim
    | succ n ih =>
      intro r a w h
      obtain ⟨e, a₁, w₁, hq, harr⟩ := h b (.inScope c :: k) cs
      cases e with
      | normal => exact ⟨.normal, a₁, w₁, hq, Steps.trans harr (.one step_inScope)⟩
      | exit id => exact ⟨.exit id, a₁, w₁, hq, fun k' hk => harr k' (by simp [exitTo, hk])⟩
      | goto l =>
        obtain ⟨rest, hf, hj⟩ := hq
        have hg : gotoIn l (.inScope c :: k) = some (.code rest :: .inScope c :: k) := by simp [gotoIn, hf]
        obtain ⟨e₂, a₂, w₂, hq₂, harr₂⟩ := ih rest a₁ w₁ hj
        exact ⟨e₂, a₂, w₂, hq₂, .of_steps (harr _ hg) harr₂⟩
      | ret => exact ⟨_, a₁, w₁, hq, harr⟩
      | panic ch => exact ⟨_, a₁, w₁, hq, harr⟩
      | outgrown => exact ⟨_, a₁, w₁, hq, harr⟩
  obtain ⟨e, a', w', hq, harr⟩ := key n c a w h
  exact ⟨e, a', w', hq, .of_steps (.one step_scope) harr⟩
def jumpsD (P : Program) (C : Ctx) (N : Nat) (c : Code) (Q : Exit → S → Prop) (n : Nat) (r : Code) (s : S) : Prop := ∀ a w, Rel C N s a w → jumps P c (QD C N Q) n r a w
def scopeD (P : Program) (C : Ctx) (N : Nat) (c : Code) (Q : Exit → S → Prop) (n : Nat) : Exit → S → Prop
  | .goto l, s => ∃ rest, findLabel c l = some rest ∧ jumpsD P C N c Q n rest s
  | x, s => Q x s

section
variable {P : Program} {C : Ctx} {N : Nat} {ops rest : List Oper} {o : Oper} {t : List (Nat × D)} {h : List (Nat × Blk)} {k : List (Nat × Value)} {Q : Exit → S → Prop} {tab : List (Option TI)}

theorem p_pure {i : Nat} {d : D} (ht : TabOK P tab) (hw : wantD ops t o = some true) (hd : o.dst = some i) (hi : Nat.blt i N = true) (e : evP tab t o.op = some d)
    (g : opsD P C N ops rest ⟨(i, d) :: t, h, k⟩ Q) : opsD P C N ops (o :: rest) ⟨t, h, k⟩ Q := ops_pure (s := ⟨t, h, k⟩) ht hw hd hi e g
theorem p_skip {i : Nat} (hw : wantD ops t o = some false) (hd : o.dst = some i) (hi : Nat.blt i N = true) (g : opsD P C N ops rest ⟨(i, .v (.tuple #[])) :: t, h, k⟩ Q) : opsD P C N ops (o :: rest) ⟨t, h, k⟩ Q := ops_skip (s := ⟨t, h, k⟩) hw hd hi g
theorem p_skip0 (hw : wantD ops t o = some false) (hd : o.dst = none) (g : opsD P C N ops rest ⟨t, h, k⟩ Q) : opsD P C N ops (o :: rest) ⟨t, h, k⟩ Q := ops_skip0 (s := ⟨t, h, k⟩) hw hd g
theorem p_load {i b off : Nat} {T T' : TypeId} {x : Operand} {ds : List D} {ti0 : TI} {d : D} (j : Nat) (ht : TabOK P tab) (ho : o.op = .load T x) (hw : wantD ops t o = some true) (hd : o.dst = some i) (hi : Nat.blt i N = true)
    (hx : opD t x = some (.ptr b off)) (hb : h[j]? = some (b, .cells ds T')) (hT : ti tab T = some ti0) (e : partD ti0 ds off = some d)
    (g : opsD P C N ops rest ⟨(i, d) :: t, h, k⟩ Q) : opsD P C N ops (o :: rest) ⟨t, h, k⟩ Q := ops_load (s := ⟨t, h, k⟩) j ht ho hw hd hi hx hb hT e g
theorem p_loadEl {i : Nat} {T : TypeId} {x : Operand} {d0 d : D} {ti0 : TI} (ht : TabOK P tab) (ho : o.op = .load T x) (hw : wantD ops t o = some true) (hd : o.dst = some i) (hi : Nat.blt i N = true)
    (hx : opD t x = some (.el d0)) (hT : ti tab T = some ti0) (e : partD ti0 (dcells d0) 0 = some d) (hne : (dcells d0).isEmpty = false)
    (g : opsD P C N ops rest ⟨(i, d) :: t, h, k⟩ Q) : opsD P C N ops (o :: rest) ⟨t, h, k⟩ Q := ops_loadEl (s := ⟨t, h, k⟩) ht ho hw hd hi hx hT e (by intro e; rw [e] at hne; cases hne) g
theorem p_alloc {i : Nat} {T : TypeId} {ti0 : TI} {zs : List D} (ht : TabOK P tab) (ho : o.op = .alloc T) (hw : wantD ops t o = some true) (hd : o.dst = some i) (hi : Nat.blt i N = true) (hT : ti tab T = some ti0) (hz : ti0.zero.all one = true) (e : ti0.zero.map dOf = zs)
    (g : ∀ b, opsD P C N ops rest ⟨(i, .ptr b 0) :: t, h ++ [(b, .cells zs T)], k⟩ Q) : opsD P C N ops (o :: rest) ⟨t, h, k⟩ Q := ops_alloc (s := ⟨t, h, k⟩) ht ho hw hd hi hT hz (by rw [e]; exact g)
theorem p_store {b off : Nat} {T T' : TypeId} {x y : Operand} {ds ds' : List D} {ti0 : TI} {d : D} {h' : List (Nat × Blk)} (j : Nat) (ht : TabOK P tab) (ho : o.op = .store T x y) (hw : wantD ops t o = some true) (hd : o.dst = none)
    (hx : opD t x = some (.ptr b off)) (hb : h[j]? = some (b, .cells ds T')) (hT : ti tab T = some ti0) (hy : opD t y = some d) (hs : stor d = true) (hsz : Nat.beq (dcells d).length ti0.size = true) (hle : Nat.ble (off + ti0.size) ds.length = true)
    (e : lay ds off (dcells d) = ds') (e' : h.set j (b, .cells ds' T') = h') (g : opsD P C N ops rest ⟨t, h', k⟩ Q) : opsD P C N ops (o :: rest) ⟨t, h, k⟩ Q :=
  ops_store (s := ⟨t, h, k⟩) j ht ho hw hd hx hb hT hy hs hsz hle (by rw [e, e']; exact g)
theorem p_box {i : Nat} {T : TypeId} {x : Operand} {d : D} {ds : List D} (ho : o.op = .box T x) (hw : wantD ops t o = some true) (hd : o.dst = some i) (hi : Nat.blt i N = true) (hx : opD t x = some d) (hs : stor d = true) (e : dcells d = ds)
    (g : ∀ b, opsD P C N ops rest ⟨(i, .ptr b 0) :: t, h ++ [(b, .cells ds T)], k⟩ Q) : opsD P C N ops (o :: rest) ⟨t, h, k⟩ Q := ops_box (s := ⟨t, h, k⟩) ho hw hd hi hx hs (by rw [e]; exact g)
/-- A call that is given no block. -/
theorem p_call {f : FuncId} {args : List Operand} {ts : Array TypeId} {i : Nat} {ds ds' : List D} {R : D → List (Nat × Blk) → List (Nat × Value) → Prop}
    (hc : CallsD P f ds' [] [] R) (ho : o.op = .call ⟨.value (.func f), args.toArray, ts⟩) (hw : wantD ops t o = some true) (hd : o.dst = some i) (hi : Nat.blt i N = true) (ha : someMap args (opD t) = some ds) (hwk : WkL ds ds')
    (g : ∀ d h' k', R d h' k' → opsD P C N ops rest ⟨(i, d) :: t, h' ++ h, k' ++ k⟩ Q) : opsD P C N ops (o :: rest) ⟨t, h, k⟩ Q :=
  ops_call (s := ⟨t, h, k⟩) hc ho hw hd hi ha hwk (List.Perm.refl _) (List.Perm.refl _) g
/-- The same, where it gives back no block. -/
theorem p_call0 {f : FuncId} {args : List Operand} {ts : Array TypeId} {i : Nat} {ds ds' : List D} {R : D → Prop}
    (hc : CallsD P f ds' [] [] (fun d h k => R d ∧ h = [] ∧ k = [])) (ho : o.op = .call ⟨.value (.func f), args.toArray, ts⟩) (hw : wantD ops t o = some true) (hd : o.dst = some i) (hi : Nat.blt i N = true) (ha : someMap args (opD t) = some ds) (hwk : WkL ds ds')
    (g : ∀ d, R d → opsD P C N ops rest ⟨(i, d) :: t, h, k⟩ Q) : opsD P C N ops (o :: rest) ⟨t, h, k⟩ Q :=
  p_call hc ho hw hd hi ha hwk fun d h' k' ⟨hR, e1, e2⟩ => by subst e1; subst e2; exact g d hR
theorem x_pickT {c x y : Operand} {d : D} (ho : o.op = .pick c x y) (hc : opD t c = some (.v (.bool true))) (hx : opD t x = some d) : ∀ H a w, TOK H t a → ∃ v, (execOp a.eval o).run P w = .ok (.value v) w ∧ Rep H d v :=
  fun H a w k => ⟨a.eval x, by unfold execOp; rw [ho]; simp only [rep_v_inv (opD_ok k hc)]; rfl, opD_ok k hx⟩
theorem x_pickF {c x y : Operand} {d : D} (ho : o.op = .pick c x y) (hc : opD t c = some (.v (.bool false))) (hx : opD t y = some d) : ∀ H a w, TOK H t a → ∃ v, (execOp a.eval o).run P w = .ok (.value v) w ∧ Rep H d v :=
  fun H a w k => ⟨a.eval y, by unfold execOp; rw [ho]; simp only [rep_v_inv (opD_ok k hc)]; rfl, opD_ok k hx⟩
theorem p_pickT {i : Nat} {c x y : Operand} {d : D} (ho : o.op = .pick c x y) (hw : wantD ops t o = some true) (hd : o.dst = some i) (hi : Nat.blt i N = true) (hc : opD t c = some (.v (.bool true))) (hx : opD t x = some d)
    (g : opsD P C N ops rest ⟨(i, d) :: t, h, k⟩ Q) : opsD P C N ops (o :: rest) ⟨t, h, k⟩ Q :=
  ops_run (s := ⟨t, h, k⟩) hw hd hi (fun H a w k => ⟨a.eval x, by unfold execOp; rw [ho]; simp only [rep_v_inv (opD_ok k hc)]; rfl, opD_ok k hx⟩) g
theorem p_pickF {i : Nat} {c x y : Operand} {d : D} (ho : o.op = .pick c x y) (hw : wantD ops t o = some true) (hd : o.dst = some i) (hi : Nat.blt i N = true) (hc : opD t c = some (.v (.bool false))) (hx : opD t y = some d)
    (g : opsD P C N ops rest ⟨(i, d) :: t, h, k⟩ Q) : opsD P C N ops (o :: rest) ⟨t, h, k⟩ Q :=
  ops_run (s := ⟨t, h, k⟩) hw hd hi (fun H a w k => ⟨a.eval y, by unfold execOp; rw [ho]; simp only [rep_v_inv (opD_ok k hc)]; rfl, opD_ok k hx⟩) g
/-- A test is decided, and told so. -/
theorem p_split {i : Nat} {b : Bool} (hx : look t i = some (.v (.bool b))) (g1 : b = true → opsD P C N ops rest ⟨(i, .v (.bool true)) :: t, h, k⟩ Q) (g2 : b = false → opsD P C N ops rest ⟨(i, .v (.bool false)) :: t, h, k⟩ Q) : opsD P C N ops rest ⟨t, h, k⟩ Q := by
  have key : ∀ b', b = b' → opsD P C N ops rest ⟨(i, .v (.bool b')) :: t, h, k⟩ Q → opsD P C N ops rest ⟨t, h, k⟩ Q := by
    intro b' e g
    subst e
    refine ops_wk (s' := ⟨(i, .v (.bool b)) :: t, h, k⟩) (fun H a w c k' => ⟨H, Hp.le_refl H, c, fun j d hj => ?_⟩) g
    simp only [look] at hj
    cases hb : Nat.beq i j with
    | true =>
      rw [hb] at hj; simp at hj; subst hj
      have := Nat.eq_of_beq_eq_true hb; subst this
      exact k' i _ hx
    | false => rw [hb] at hj; exact k' j d hj
  cases b
  · exact key false rfl (g2 rfl)
  · exact key true rfl (g1 rfl)
/-- A slot is told otherwise. -/
theorem p_eq {i : Nat} {d d' : D} (hx : look t i = some d) (e : Wk d d') (g : opsD P C N ops rest ⟨(i, d') :: t, h, k⟩ Q) : opsD P C N ops rest ⟨t, h, k⟩ Q := by
  refine ops_wk (s' := ⟨(i, d') :: t, h, k⟩) (fun H a w c k' => ⟨H, Hp.le_refl H, c, fun j d0 hj => ?_⟩) g
  simp only [look] at hj
  cases hb : Nat.beq i j with
  | true =>
    rw [hb] at hj; simp at hj; subst hj
    have := Nat.eq_of_beq_eq_true hb; subst this
    obtain ⟨v, h1, h2⟩ := k' i _ hx
    exact ⟨v, h1, e _ _ h2⟩
  | false => rw [hb] at hj; exact k' j d0 hj
/-- Slots that are wanted no more are dropped. -/
def keepT (l : List Nat) (t : List (Nat × D)) : List (Nat × D) :=
  match l with
  | [] => []
  | i :: l => match look t i with
    | some d => (i, d) :: keepT l t
    | none => keepT l t
theorem keepT_ok {H : Hp} {a : Act} {t : List (Nat × D)} (k : TOK H t a) : ∀ l, TOK H (keepT l t) a
  | [], i, d, e => by simp [keepT, look] at e
  | j :: l, i, d, e => by
    unfold keepT at e
    split at e
    · rename_i d0 h0
      simp only [look] at e
      cases hb : Nat.beq j i with
      | true =>
        rw [hb] at e; simp at e; subst e
        have := Nat.eq_of_beq_eq_true hb; subst this
        exact k j _ h0
      | false => rw [hb] at e; exact keepT_ok k l i d e
    · exact keepT_ok k l i d e
theorem w_keep {c : Code} (l : List Nat) {t' : List (Nat × D)} (e : keepT l t = t') (g : wpD P C N c ⟨t', h, k⟩ Q) : wpD P C N c ⟨t, h, k⟩ Q :=
  wpD_wk (s' := ⟨t', h, k⟩) (fun H _ _ c0 k0 => ⟨H, Hp.le_refl H, c0, e ▸ keepT_ok k0 l⟩) g
theorem wpD_scope {c : Code} {s : S} (n : Nat) (g : jumpsD P C N c Q n c s) : wpD P C N (.scope c) s Q := fun a w r => wp_scope_fuel n (g a w r)
theorem jumpsD_succ {c r : Code} {s : S} {n : Nat} (g : wpD P C N r s (scopeD P C N c Q n)) : jumpsD P C N c Q (n + 1) r s := fun a w r0 => by
  unfold jumps
  refine wp_mono (g a w r0) ?_
  rintro e a' w' ⟨s', r', q⟩
  cases e with
  | goto l => obtain ⟨rest, hf, hj⟩ := q; exact ⟨rest, hf, hj a' w' r'⟩
  | _ => exact ⟨s', r', q⟩
theorem scope_normal {c : Code} {s : S} {n : Nat} (g : Q .normal s) : scopeD P C N c Q n .normal s := g
theorem scope_ret {c : Code} {s : S} {n : Nat} (g : Q .ret s) : scopeD P C N c Q n .ret s := g
theorem scope_exit {c : Code} {s : S} {n j : Nat} (g : Q (.exit j) s) : scopeD P C N c Q n (.exit j) s := g
theorem scope_goto {c rest : Code} {s : S} {n l : Nat} (hf : findLabel c l = some rest) (g : jumpsD P C N c Q n rest s) : scopeD P C N c Q n (.goto l) s := ⟨rest, hf, g⟩
theorem then_normal {next : S → Prop} {s : S} (g : next s) : thenD next Q .normal s := g
theorem then_ret {next : S → Prop} {s : S} (g : Q .ret s) : thenD next Q .ret s := g
theorem then_exit {next : S → Prop} {s : S} {j : Nat} (g : Q (.exit j) s) : thenD next Q (.exit j) s := g
theorem then_goto {next : S → Prop} {s : S} {j : Nat} (g : Q (.goto j) s) : thenD next Q (.goto j) s := g
theorem block_normal {s : S} {j : Nat} (g : Q .normal s) : blockD j Q .normal s := g
theorem block_ret {s : S} {j : Nat} (g : Q .ret s) : blockD j Q .ret s := g
theorem block_goto {s : S} {j l : Nat} (g : Q (.goto l) s) : blockD j Q (.goto l) s := g
theorem block_hit {s : S} {j : Nat} (g : Q .normal s) : blockD j Q (.exit j) s := by
  show (bif Nat.beq j j then Q .normal s else Q (.exit j) s)
  rw [Nat.beq_refl]; exact g
theorem block_miss {s : S} {j i : Nat} (hb : Nat.beq i j = false) (g : Q (.exit i) s) : blockD j Q (.exit i) s := by
  show (bif Nat.beq i j then Q .normal s else Q (.exit i) s)
  rw [hb]; exact g
/-- The end of a function that makes nothing. -/
theorem ret1 {R : D → Prop} {r : Nat} {x : Exit} {d : D} (hx : x = .ret ∨ x = .normal) (h1 : look t r = some d) (g : R d) : retD tab [.tmp r] (fun d h k => R d ∧ h = [] ∧ k = []) x ⟨t, h, k⟩ :=
  ⟨hx, [d], [], [], ⟨d, [], rfl, h1, rfl⟩, List.nil_sublist _, List.nil_sublist _, g, rfl, rfl⟩
theorem ret2 {R : D → Prop} {r r' : Nat} {x : Exit} {d d' : D} (hx : x = .ret ∨ x = .normal) (h1 : look t r = some d) (h2 : look t r' = some d') (g : R (.tup [d, d'])) : retD tab [.tmp r, .tmp r'] (fun d h k => R d ∧ h = [] ∧ k = []) x ⟨t, h, k⟩ :=
  ⟨hx, [d, d'], [], [], ⟨d, _, rfl, h1, d', [], rfl, h2, rfl⟩, List.nil_sublist _, List.nil_sublist _, g, rfl, rfl⟩
theorem ret3 {R : D → Prop} {r r' r'' : Nat} {x : Exit} {d d' d'' : D} (hx : x = .ret ∨ x = .normal) (h1 : look t r = some d) (h2 : look t r' = some d') (h3 : look t r'' = some d'') (g : R (.tup [d, d', d''])) : retD tab [.tmp r, .tmp r', .tmp r''] (fun d h k => R d ∧ h = [] ∧ k = []) x ⟨t, h, k⟩ :=
  ⟨hx, [d, d', d''], [], [], ⟨d, _, rfl, h1, d', _, rfl, h2, d'', [], rfl, h3, rfl⟩, List.nil_sublist _, List.nil_sublist _, g, rfl, rfl⟩
theorem ret_cell {R : D → Prop} {x : Exit} {a b off : Nat} {T T' : TypeId} {ds : List D} {i : TI} {d : D} (j : Nat) (hx : x = .ret ∨ x = .normal) (h1 : look t a = some (.ptr b off)) (h2 : h[j]? = some (b, .cells ds T')) (h3 : ti tab T = some i) (h4 : partD i ds off = some d) (g : R d) :
    retD tab [.cell a T] (fun d h k => R d ∧ h = [] ∧ k = []) x ⟨t, h, k⟩ :=
  ⟨hx, [d], [], [], ⟨d, [], rfl, ⟨j, b, off, ds, T', i, h1, h2, h3, h4⟩, rfl⟩, List.nil_sublist _, List.nil_sublist _, g, rfl, rfl⟩
theorem ret_cell_tmp {R : D → Prop} {x : Exit} {a b off r : Nat} {T T' : TypeId} {ds : List D} {i : TI} {d d' : D} (j : Nat) (hx : x = .ret ∨ x = .normal) (h1 : look t a = some (.ptr b off)) (h2 : h[j]? = some (b, .cells ds T')) (h3 : ti tab T = some i) (h4 : partD i ds off = some d) (h5 : look t r = some d') (g : R (.tup [d, d'])) :
    retD tab [.cell a T, .tmp r] (fun d h k => R d ∧ h = [] ∧ k = []) x ⟨t, h, k⟩ :=
  ⟨hx, [d, d'], [], [], ⟨d, _, rfl, ⟨j, b, off, ds, T', i, h1, h2, h3, h4⟩, d', [], rfl, h5, rfl⟩, List.nil_sublist _, List.nil_sublist _, g, rfl, rfl⟩
end
end Go.Proofs.Ytpapooaaccmnpaa.Ab
