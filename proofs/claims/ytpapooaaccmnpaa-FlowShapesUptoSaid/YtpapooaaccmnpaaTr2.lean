/- More steps: bits, shifts, texts, greatest and least, nil slices. Over any program. -/
import Derived.Test.YtpapooaaccmnpaaTr1
namespace Go.Proofs.Ytpapooaaccmnpaa.Ab
open Go
set_option linter.all false

/-! ### Recursion -/
def Le {α : Type} (m m' : Option α) : Prop := ∀ r, m = some r → m' = some r
theorem Le.refl {α : Type} (m : Option α) : Le m m := fun _ h => h
theorem Le.none {α : Type} (m : Option α) : Le Option.none m := fun _ h => by cases h
theorem Le.bind {α β : Type} {m m' : Option α} {f f' : α → Option β} (h : Le m m') (k : ∀ x, Le (f x) (f' x)) : Le (m.bind f) (m'.bind f') := fun r e => by
  rw [Option.bind_eq_some_iff] at e ⊢
  obtain ⟨a, h1, h2⟩ := e
  exact ⟨a, h a h1, k a r h2⟩
theorem Le.cond {α : Type} {c : Bool} {m m' n n' : Option α} (h : Le m m') (k : Le n n') : Le (bif c then m else n) (bif c then m' else n') := by
  cases c
  · exact k
  · exact h
theorem Le.elim {α β γ : Type} {f f' : α → Option γ} {g g' : β → Option γ} {x : α ⊕ β} (h : ∀ a, Le (f a) (f' a)) (k : ∀ b, Le (g b) (g' b)) : Le (Sum.elim f g x) (Sum.elim f' g' x) := by
  cases x
  · exact h _
  · exact k _
theorem Le.loop {σ τ : Type} {f f' : σ → Option (Step σ τ)} {s : σ} (h : ∀ s, Le (f s) (f' s)) : Le (loopM f s) (loopM f' s) := fun r e => by
  obtain ⟨n, hn⟩ := loopM_inv e
  have key : ∀ n s, loopN f n s = some r → loopN f' n s = some r := by
    intro n
    induction n with
    | zero => intro s h; simp [loopN] at h
    | succ n ih =>
      intro s e
      simp only [loopN] at e ⊢
      cases hf : f s with
      | none => rw [hf] at e; cases e
      | some x =>
        rw [hf] at e
        rw [h s x hf]
        cases x with
        | next s' => exact ih s' e
        | done t => exact e
  exact loopM_of (key n s hn)
open Classical in
noncomputable def anyN {α : Type} (f : Nat → Option α) : Option α := if h : ∃ n r, f n = some r then some h.choose_spec.choose else Option.none
theorem anyN_inv {α : Type} {f : Nat → Option α} {r : α} (h : anyN f = some r) : ∃ n, f n = some r := by
  unfold anyN at h
  split at h
  · rename_i hx
    simp only [Option.some.injEq] at h
    exact ⟨_, h ▸ hx.choose_spec.choose_spec⟩
  · cases h
theorem anyN_of {α : Type} {f : Nat → Option α} (hle : ∀ n, Le (f n) (f (n + 1))) {r : α} {n : Nat} (h : f n = some r) : anyN f = some r := by
  have up : ∀ (k n : Nat) (r : α), f n = some r → f (n + k) = some r := by
    intro k
    induction k with
    | zero => intro n r e; exact e
    | succ k ih => intro n r e; exact hle _ _ (ih n r e)
  have hx : ∃ n r, f n = some r := ⟨n, r, h⟩
  unfold anyN
  rw [dif_pos hx]
  have h1 := hx.choose_spec.choose_spec
  have h2 := up n _ _ h1
  have h3 := up hx.choose _ _ h
  rw [Nat.add_comm] at h3
  exact h2.symm.trans h3

def bitI (op : BinOp) (k : IntKind) (a b : Int) : Int :=
  match op with
  | .and => k.wrap ((BitVec.ofInt k.bits a &&& BitVec.ofInt k.bits b).toNat : Int)
  | .or => k.wrap ((BitVec.ofInt k.bits a ||| BitVec.ofInt k.bits b).toNat : Int)
  | .xor => k.wrap ((BitVec.ofInt k.bits a ^^^ BitVec.ofInt k.bits b).toNat : Int)
  | _ => k.wrap ((BitVec.ofInt k.bits a &&& ~~~ (BitVec.ofInt k.bits b)).toNat : Int)
def isBit : BinOp → Bool
  | .and => true | .or => true | .xor => true | .andNot => true | _ => false
def shI (op : BinOp) (k : IntKind) (a b : Int) : Int :=
  match op with
  | .shl => k.wrap (a * 2 ^ (min b.toNat k.bits))
  | _ => a.fdiv (2 ^ (min b.toNat k.bits))
def isSh : BinOp → Bool
  | .shl => true | .shr => true | _ => false
def ltB (a b : ByteArray) : Bool := Op.bytesLess a.toList b.toList
def catS (a b : ByteArray) : Option ByteArray := bif decide (((a.size + b.size : Nat) : Int) ≤ IntKind.i64.max) then some (a ++ b) else none
theorem catS_ok {a b r : ByteArray} (h : catS a b = some r) : r = a ++ b ∧ ((a.size + b.size : Nat) : Int) ≤ IntKind.i64.max := by
  unfold catS at h
  by_cases hc : ((a.size + b.size : Nat) : Int) ≤ IntKind.i64.max
  · rw [decide_eq_true hc] at h
    simp only [cond_true, Option.some.injEq] at h
    exact ⟨h.symm, hc⟩
  · rw [decide_eq_false hc] at h; cases h
theorem i64max : IntKind.i64.max = 9223372036854775807 := by decide
theorem catS_of {a b : ByteArray} (h : a.size + b.size ≤ 9223372036854775807) : catS a b = some (a ++ b) := by
  unfold catS
  rw [decide_eq_true (by rw [i64max]; omega)]; rfl
section
variable {P : Program} {C : Ctx} {N : Nat} {ops rest : List Oper} {o : Oper} {t : List (Nat × D)} {h : List (Nat × Blk)} {k : List (Nat × Value)} {Q : Exit → S → Prop} {tab : List (Option TI)}
theorem x_bit {op : BinOp} {xt yt : TypeId} {x y : Operand} {kk : IntKind} {a b : Int} (ho : o.op = .binOp op xt x y yt) (hop : isBit op = true) (hx : opD t x = some (.v (.int kk a))) (hy : opD t y = some (.v (.int kk b))) : Ex P o t (.v (.int kk (bitI op kk a b))) := fun H ac w kt => by
  refine ⟨.int kk (bitI op kk a b), ?_, rep_v rfl⟩
  unfold execOp
  rw [ho]
  refine exec_v ?_
  rw [rep_v_inv (opD_ok kt hx), rep_v_inv (opD_ok kt hy)]
  cases op <;> simp [isBit] at hop <;> simp [eqGuard, binOp, Op.intBits, bitI] <;> rfl
theorem p_bit {i : Nat} {op : BinOp} {xt yt : TypeId} {x y : Operand} {kk : IntKind} {a b : Int} (ho : o.op = .binOp op xt x y yt) (hop : isBit op = true) (hw : wantD ops t o = some true) (hd : o.dst = some i) (hi : Nat.blt i N = true) (hx : opD t x = some (.v (.int kk a))) (hy : opD t y = some (.v (.int kk b)))
    (g : opsD P C N ops rest ⟨(i, .v (.int kk (bitI op kk a b))) :: t, h, k⟩ Q) : opsD P C N ops (o :: rest) ⟨t, h, k⟩ Q := ops_run (s := ⟨t, h, k⟩) hw hd hi (x_bit ho hop hx hy) g
theorem x_sh {op : BinOp} {xt yt : TypeId} {x y : Operand} {kk jk : IntKind} {a b : Int} (ho : o.op = .binOp op xt x y yt) (hop : isSh op = true) (hx : opD t x = some (.v (.int kk a))) (hy : opD t y = some (.v (.int jk b))) (hb : 0 ≤ b) : Ex P o t (.v (.int kk (shI op kk a b))) := fun H ac w kt => by
  refine ⟨.int kk (shI op kk a b), ?_, rep_v rfl⟩
  unfold execOp
  rw [ho]
  refine exec_v ?_
  rw [rep_v_inv (opD_ok kt hx), rep_v_inv (opD_ok kt hy)]
  have hn : ¬ b < 0 := by omega
  cases op <;> simp [isSh] at hop <;> simp [eqGuard, binOp, Op.shift, shI, hn] <;> rfl
theorem p_sh {i : Nat} {op : BinOp} {xt yt : TypeId} {x y : Operand} {kk jk : IntKind} {a b : Int} (ho : o.op = .binOp op xt x y yt) (hop : isSh op = true) (hw : wantD ops t o = some true) (hd : o.dst = some i) (hi : Nat.blt i N = true) (hx : opD t x = some (.v (.int kk a))) (hy : opD t y = some (.v (.int jk b))) (hb : 0 ≤ b)
    (g : opsD P C N ops rest ⟨(i, .v (.int kk (shI op kk a b))) :: t, h, k⟩ Q) : opsD P C N ops (o :: rest) ⟨t, h, k⟩ Q := ops_run (s := ⟨t, h, k⟩) hw hd hi (x_sh ho hop hx hy hb) g
theorem x_cat {xt yt : TypeId} {x y : Operand} {a b r : ByteArray} (q : catS a b = some r) (ho : o.op = .binOp .add xt x y yt) (hx : opD t x = some (.v (.string a))) (hy : opD t y = some (.v (.string b))) : Ex P o t (.v (.string r)) := fun H ac w kt => by
  obtain ⟨rfl, hl⟩ := catS_ok q
  refine ⟨.string (a ++ b), ?_, rep_v rfl⟩
  unfold execOp
  rw [ho]
  refine exec_v ?_
  rw [rep_v_inv (opD_ok kt hx), rep_v_inv (opD_ok kt hy)]
  have hn : ¬ IntKind.i64.max < ((a.size + b.size : Nat) : Int) := by omega
  have h2 : binOp .add xt (.string a) (.string b) = pure (.string (a ++ b)) := by
    unfold binOp Op.stringOp
    simp only [gt_iff_lt]
    rw [if_neg hn]
  have h1 : (eqGuard .add xt x y (.string a) (.string b)).run P w = .ok () w := by simp [eqGuard] <;> rfl
  rw [run_bind_ok h1, h2]; rfl
theorem p_cat {i : Nat} {xt yt : TypeId} {x y : Operand} {a b r : ByteArray} (q : catS a b = some r) (ho : o.op = .binOp .add xt x y yt) (hw : wantD ops t o = some true) (hd : o.dst = some i) (hi : Nat.blt i N = true) (hx : opD t x = some (.v (.string a))) (hy : opD t y = some (.v (.string b)))
    (g : opsD P C N ops rest ⟨(i, .v (.string r)) :: t, h, k⟩ Q) : opsD P C N ops (o :: rest) ⟨t, h, k⟩ Q := ops_run (s := ⟨t, h, k⟩) hw hd hi (x_cat q ho hx hy) g
def strLV (op : BinOp) (a b : ByteArray) : Option Bool :=
  match op with
  | .lss => some (ltB a b)
  | .geq => some (!ltB a b)
  | .leq => some (ltB a b || a.toList == b.toList)
  | .gtr => some (!(ltB a b || a.toList == b.toList))
  | _ => none
theorem x_ltS {op : BinOp} {xt yt : TypeId} {x y : Operand} {a b : ByteArray} {r : Bool} (ho : o.op = .binOp op xt x y yt) (hx : opD t x = some (.v (.string a))) (hy : opD t y = some (.v (.string b))) (e : strLV op a b = some r) : Ex P o t (.v (.bool r)) := fun H ac w kt => by
  refine ⟨.bool r, ?_, rep_v rfl⟩
  unfold execOp
  rw [ho]
  refine exec_v ?_
  rw [rep_v_inv (opD_ok kt hx), rep_v_inv (opD_ok kt hy)]
  cases op <;> simp only [strLV, Option.some.injEq, reduceCtorEq] at e <;> subst e <;> simp [eqGuard, binOp, Op.stringOp, ltB] <;> rfl
theorem p_ltS {i : Nat} {op : BinOp} {xt yt : TypeId} {x y : Operand} {a b : ByteArray} {r : Bool} (ho : o.op = .binOp op xt x y yt) (hw : wantD ops t o = some true) (hd : o.dst = some i) (hi : Nat.blt i N = true) (hx : opD t x = some (.v (.string a))) (hy : opD t y = some (.v (.string b))) (e : strLV op a b = some r)
    (g : opsD P C N ops rest ⟨(i, .v (.bool r)) :: t, h, k⟩ Q) : opsD P C N ops (o :: rest) ⟨t, h, k⟩ Q := ops_run (s := ⟨t, h, k⟩) hw hd hi (x_ltS ho hx hy e) g
theorem x_max {T T' : TypeId} {x y : Operand} {kk : IntKind} {a b : Int} (ho : o.op = .call ⟨.builtin .max, [x, y].toArray, #[T, T']⟩) (hx : opD t x = some (.v (.int kk a))) (hy : opD t y = some (.v (.int kk b))) : Ex P o t (.v (.int kk (max a b))) := fun H ac w kt => by
  refine ⟨.int kk (max a b), exec_builtin (s := Builtin.max_) ho (fun _ _ => rfl) ?_, rep_v rfl⟩
  simp only [List.map_cons, List.map_nil, rep_v_inv (opD_ok kt hx), rep_v_inv (opD_ok kt hy)]
  show (pure (.int kk (if b > a then b else a)) : Sem Value).run P w = _
  have : max a b = if b > a then b else a := by split <;> omega
  rw [this]; rfl
theorem p_max {i : Nat} {T T' : TypeId} {x y : Operand} {kk : IntKind} {a b : Int} (ho : o.op = .call ⟨.builtin .max, [x, y].toArray, #[T, T']⟩) (hw : wantD ops t o = some true) (hd : o.dst = some i) (hi : Nat.blt i N = true) (hx : opD t x = some (.v (.int kk a))) (hy : opD t y = some (.v (.int kk b)))
    (g : opsD P C N ops rest ⟨(i, .v (.int kk (max a b))) :: t, h, k⟩ Q) : opsD P C N ops (o :: rest) ⟨t, h, k⟩ Q := ops_run (s := ⟨t, h, k⟩) hw hd hi (x_max ho hx hy) g
theorem x_max3 {T T' T'' : TypeId} {x y z : Operand} {kk : IntKind} {a b c : Int} (ho : o.op = .call ⟨.builtin .max, [x, y, z].toArray, #[T, T', T'']⟩) (hx : opD t x = some (.v (.int kk a))) (hy : opD t y = some (.v (.int kk b))) (hz : opD t z = some (.v (.int kk c))) : Ex P o t (.v (.int kk (max (max a b) c))) := fun H ac w kt => by
  refine ⟨.int kk (max (max a b) c), exec_builtin (s := Builtin.max_) ho (fun _ _ => rfl) ?_, rep_v rfl⟩
  simp only [List.map_cons, List.map_nil, rep_v_inv (opD_ok kt hx), rep_v_inv (opD_ok kt hy), rep_v_inv (opD_ok kt hz)]
  have e1 : (if b > a then b else a) = max a b := by split <;> omega
  have e2 : (if c > max a b then c else max a b) = max (max a b) c := by split <;> omega
  have h1 : (Builtin.max2 (.int kk a) (.int kk b)).run P w = .ok (.int kk (max a b)) w := by show (pure (.int kk (if b > a then b else a)) : Sem Value).run P w = _; rw [e1]; rfl
  have h2 : (Builtin.max2 (.int kk (max a b)) (.int kk c)).run P w = .ok (.int kk (max (max a b) c)) w := by show (pure (.int kk (if c > max a b then c else max a b)) : Sem Value).run P w = _; rw [e2]; rfl
  show (List.foldlM Builtin.max2 (.int kk a) [.int kk b, .int kk c] : Sem Value).run P w = _
  simp only [List.foldlM_cons, List.foldlM_nil]
  rw [run_bind_ok h1, run_bind_ok h2]; rfl
theorem p_max3 {i : Nat} {T T' T'' : TypeId} {x y z : Operand} {kk : IntKind} {a b c : Int} (ho : o.op = .call ⟨.builtin .max, [x, y, z].toArray, #[T, T', T'']⟩) (hw : wantD ops t o = some true) (hd : o.dst = some i) (hi : Nat.blt i N = true) (hx : opD t x = some (.v (.int kk a))) (hy : opD t y = some (.v (.int kk b))) (hz : opD t z = some (.v (.int kk c)))
    (g : opsD P C N ops rest ⟨(i, .v (.int kk (max (max a b) c))) :: t, h, k⟩ Q) : opsD P C N ops (o :: rest) ⟨t, h, k⟩ Q := ops_run (s := ⟨t, h, k⟩) hw hd hi (x_max3 ho hx hy hz) g
theorem x_min {T T' : TypeId} {x y : Operand} {kk : IntKind} {a b : Int} (ho : o.op = .call ⟨.builtin .min, [x, y].toArray, #[T, T']⟩) (hx : opD t x = some (.v (.int kk a))) (hy : opD t y = some (.v (.int kk b))) : Ex P o t (.v (.int kk (min a b))) := fun H ac w kt => by
  refine ⟨.int kk (min a b), exec_builtin (s := Builtin.min_) ho (fun _ _ => rfl) ?_, rep_v rfl⟩
  simp only [List.map_cons, List.map_nil, rep_v_inv (opD_ok kt hx), rep_v_inv (opD_ok kt hy)]
  show (pure (.int kk (if b < a then b else a)) : Sem Value).run P w = _
  have : min a b = if b < a then b else a := by split <;> omega
  rw [this]; rfl
theorem p_min {i : Nat} {T T' : TypeId} {x y : Operand} {kk : IntKind} {a b : Int} (ho : o.op = .call ⟨.builtin .min, [x, y].toArray, #[T, T']⟩) (hw : wantD ops t o = some true) (hd : o.dst = some i) (hi : Nat.blt i N = true) (hx : opD t x = some (.v (.int kk a))) (hy : opD t y = some (.v (.int kk b)))
    (g : opsD P C N ops rest ⟨(i, .v (.int kk (min a b))) :: t, h, k⟩ Q) : opsD P C N ops (o :: rest) ⟨t, h, k⟩ Q := ops_run (s := ⟨t, h, k⟩) hw hd hi (x_min ho hx hy) g
/-- Is a slice nil? Not if it has elements. -/
theorem p_isnil {i kk : Nat} {xt yt e : Nat} {x : Operand} {xs : List D} {c : Cap} {i0 : TI} (hT : TabOK P tab) (ho : o.op = .binOp .eql xt x (.const (.slice none 0 0)) yt) (hw : wantD ops t o = some true) (hd : o.dst = some i) (hi : Nat.blt i N = true) (hx : opD t x = some (.lst kk xs c)) (hi0 : ti tab xt = some i0) (hd0 : i0.d = .slice e)
    (g : ∀ b, (b = true → xs = []) → opsD P C N ops rest ⟨(i, .v (.bool b)) :: t, h, k⟩ Q) : opsD P C N ops (o :: rest) ⟨t, h, k⟩ Q := by
  refine ops_val (s := ⟨t, h, k⟩) hw hd hi fun H a w cc kt => ?_
  obtain ⟨d0, u0, u1⟩ := run_underlying (w := w) (ti_ok hT hi0)
  have e0 := td_slice (u1.trans hd0); subst e0
  have hr := opD_ok kt hx
  obtain ⟨_, hr2⟩ := rep_lst_inv hr
  have key : ∀ (ad : Option Addr) (n m : Nat), a.eval x = .slice ad n m → (execOp a.eval o).run P w = .ok (.value (.bool ad.isNone)) w := by
    intro ad n m hv
    unfold execOp
    rw [ho]
    refine exec_v ?_
    rw [hv]
    have h1 : (eqGuard .eql xt x (.const (.slice none 0 0)) (.slice ad n m) (a.eval (.const (.slice none 0 0)))).run P w = .ok () w := by simp [eqGuard, Act.eval] <;> rfl
    rw [run_bind_ok h1]
    show (do pure (.bool (← Op.equal xt (.slice ad n m) (.slice none 0 0))) : Sem Value).run P w = _
    have h2 : (Op.equal xt (.slice ad n m) (.slice none 0 0)).run P w = .ok ad.isNone w := by
      show (Op.equalIn (9999 + 1) xt _ _).run P w = _
      rw [Op.equalIn, run_bind_ok u0]
      cases ad <;> rfl
    rw [run_bind_ok h2]; rfl
  rcases hr2 with ⟨rfl, ad, m, hv, _⟩ | ⟨b, off, m, hv, _, hE⟩
  · exact ⟨.bool ad.isNone, w, H, .v (.bool ad.isNone), h, k, key _ _ _ hv, Hp.le_refl H, cc, rep_v rfl, g _ fun _ => rfl⟩
  · exact ⟨.bool false, w, H, .v (.bool false), h, k, key _ _ _ hv, Hp.le_refl H, cc, rep_v rfl, g _ fun q => by cases q⟩
/-! ### Calls of function values -/
theorem repsV_append {H : Hp} : ∀ {l m : List D} {us vs : List Value}, RepsV H l us → RepsV H m vs → RepsV H (l ++ m) (us ++ vs)
  | [], m, us, vs, h, k => by simp only [RepsV] at h; subst h; simpa using k
  | d :: l, m, us, vs, h, k => by
    simp only [RepsV] at h
    obtain ⟨u, us', rfl, h1, h2⟩ := h
    simp only [List.cons_append, RepsV]
    exact ⟨u, _, rfl, h1, repsV_append h2 k⟩
theorem rep_fn_inv {H : Hp} {f : Fn} {as cs : List D} {y : Value} (h : Rep H (.fn f as cs) y) : ∃ vs ws, y = .func f vs.toArray ws.toArray ∧ RepsV H as vs ∧ RepsV H cs ws := by
  obtain ⟨h1, h2⟩ := h
  cases y <;> simp [D.shape] at h2 <;> simp [RepC, Value.cells] at h1 <;> simp [h1]
theorem callV_run {f : FuncId} {args : List Operand} {ts : Array TypeId} {x : Operand} {a : Act} {w : World} {vs ws : List Value} (ho : o.op = .call ⟨.value x, args.toArray, ts⟩) (hx : a.eval x = .func (.func f) vs.toArray ws.toArray) (h : Goes P f) : (execOp a.eval o).run P w = .ok (.enter f (vs ++ args.map a.eval ++ ws).toArray) w := by
  unfold execOp
  rw [ho]
  simp only []
  have : (resolve a.eval ⟨.value x, args.toArray, ts⟩ o.type).run P w = .ok ⟨.fn (.func f) ws.toArray, vs.toArray ++ (args.map a.eval).toArray⟩ w := by
    simp [resolve, Deferred.ofValue, hx]
    first | done | rfl
  rw [run_bind_ok this]
  show (callFunc f (vs.toArray ++ (args.map a.eval).toArray ++ ws.toArray)).run P w = _
  rw [callFunc_run h]
  simp
theorem p_callV {f : FuncId} {x : Operand} {args : List Operand} {ts : Array TypeId} {i : Nat} {as cs ds da ds' : List D} {h1 h2 : List (Nat × Blk)} {k1 k2 : List (Nat × Value)} {R : D → List (Nat × Blk) → List (Nat × Value) → Prop}
    (hc : CallsD P f ds' h1 k1 R) (hx : opD t x = some (.fn (.func f) as cs)) (ho : o.op = .call ⟨.value x, args.toArray, ts⟩) (hw : wantD ops t o = some true) (hd : o.dst = some i) (hi : Nat.blt i N = true) (ha : someMap args (opD t) = some ds) (hda : as ++ ds ++ cs = da) (hwk : WkL da ds')
    (hh : h.Perm (h1 ++ h2)) (hk : k.Perm (k1 ++ k2)) (g : ∀ d h' k', R d h' k' → opsD P C N ops rest ⟨(i, d) :: t, h' ++ h2, k' ++ k2⟩ Q) : opsD P C N ops (o :: rest) ⟨t, h, k⟩ Q := by
  subst hda
  rintro a w ⟨H, c, kt, hN, hdf⟩
  obtain ⟨vs, ws, ex, r1, r2⟩ := rep_fn_inv (opD_ok kt hx)
  unfold wpList
  rw [wantD_ok kt hw, if_pos rfl]
  refine .inl ?_
  unfold Oper.wp
  rw [callV_run ho ex hc.1, Oper.upon_enter]
  have c0 := c.perm hh hk
  have nd := (claims_append h1 h2 k1 k2).nodup_iff.1 c0.nd
  rw [List.nodup_append] at nd
  have hv := hwk H _ (repsV_append (repsV_append r1 (someMap_ok kt ha)) r2)
  have := hc.2 H w _ hv c.ag (fun p hp => c0.blks p (List.mem_append_left _ hp)) (fun p hp => c0.toks p (List.mem_append_left _ hp)) nd.1
  refine this.mono ?_
  rintro e w' ⟨v, H', d, h', k', rfl, hr, hcore, hR⟩
  simp only []
  rw [hd]
  refine g d h' k' hR _ _ ⟨H', Core.call c0 hcore, TOK.put (kt.mono hcore.le) (by rw [hN]; simpa using hi) hr, ?_, hdf⟩
  simp only [Act.put, Array.size_setIfInBounds]; exact hN
theorem p_callV0 {f : FuncId} {x : Operand} {args : List Operand} {ts : Array TypeId} {i : Nat} {as cs ds da ds' : List D} {R : D → Prop}
    (hc : CallsD P f ds' [] [] (fun d h k => R d ∧ h = [] ∧ k = [])) (hx : opD t x = some (.fn (.func f) as cs)) (ho : o.op = .call ⟨.value x, args.toArray, ts⟩) (hw : wantD ops t o = some true) (hd : o.dst = some i) (hi : Nat.blt i N = true) (ha : someMap args (opD t) = some ds) (hda : as ++ ds ++ cs = da) (hwk : WkL da ds')
    (g : ∀ d, R d → opsD P C N ops rest ⟨(i, d) :: t, h, k⟩ Q) : opsD P C N ops (o :: rest) ⟨t, h, k⟩ Q :=
  p_callV (h1 := []) (k1 := []) (h2 := h) (k2 := k) hc hx ho hw hd hi ha hda hwk (List.Perm.refl _) (List.Perm.refl _) fun d h' k' ⟨r, e1, e2⟩ => by subst e1; subst e2; exact g d r
theorem p_callVB {f : FuncId} {z : Operand} {args : List Operand} {ts : Array TypeId} {i : Nat} {as cs ds da ds' : List D} {x : Nat × Blk} {k1 k2 : List (Nat × Value)} {R : D → List (Nat × Blk) → List (Nat × Value) → Prop} {R' : D → Nat × Blk → List (Nat × Value) → Prop} (j : Nat)
    (hc : CallsD P f ds' [x] k1 R) (hR : ∀ d h k, R d h k → ∃ x', h = [x'] ∧ R' d x' k) (hz : opD t z = some (.fn (.func f) as cs)) (ho : o.op = .call ⟨.value z, args.toArray, ts⟩) (hw : wantD ops t o = some true) (hd : o.dst = some i) (hi : Nat.blt i N = true) (ha : someMap args (opD t) = some ds) (hda : as ++ ds ++ cs = da) (hwk : WkL da ds')
    (hh : h[j]? = some x) (hk : k.Perm (k1 ++ k2)) (g : ∀ d x' k', R' d x' k' → opsD P C N ops rest ⟨(i, d) :: t, h.set j x', k' ++ k2⟩ Q) : opsD P C N ops (o :: rest) ⟨t, h, k⟩ Q := by
  refine p_callV hc hz ho hw hd hi ha hda hwk (perm_at hh) hk fun d h' k' r => ?_
  obtain ⟨x', rfl, r'⟩ := hR d h' k' r
  exact opsD_perm (perm_set hh) (List.Perm.refl _) (g d x' k' r')
/-- A text's bytes, in new memory. -/
theorem els_ofBytes {H : Hp} {b : Nat} : ∀ (bs : List UInt8) (off : Nat), Told H b off (bs.map fun c => Value.int .u8 c.toNat) → Els H 1 b off (bs.map byteD)
  | [], off, _ => by simp [Els]
  | c :: bs, off, h => by
    simp only [List.map_cons, Els, byteD]
    refine ⟨⟨[.int .u8 c.toNat], rfl, by simp [RepC], fun j u e => ?_, by simp [one]⟩, els_ofBytes bs (off + 1) fun j u e => ?_⟩
    · cases j with
      | zero => simp at e; subst e; exact h 0 _ (by simp)
      | succ j => simp at e
    · have := h (j + 1) u (by simpa using e)
      rwa [show off + (j + 1) = off + 1 + j by omega] at this
end
end Go.Proofs.Ytpapooaaccmnpaa.Ab
