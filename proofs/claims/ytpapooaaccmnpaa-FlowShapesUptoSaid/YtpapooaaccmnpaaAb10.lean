/- An abstract machine, part 10: lengths, elements, parts of strings and of lists. Over any program. -/
import Derived.Test.YtpapooaaccmnpaaAb9
namespace Go.Proofs.Ytpapooaaccmnpaa.Ab
open Go
set_option linter.all false

theorem els_get {H : Hp} {k b : Nat} : ∀ {xs : List D} {off i : Nat} {x : D}, Els H k b off xs → xs[i]? = some x → ∃ us, us.length = k ∧ RepC H x us ∧ Told H b (off + i * k) us ∧ ∀ u ∈ us, one u = true
  | [], off, i, x, h, e => by simp at e
  | y :: ys, off, 0, x, h, e => by
    simp only [Els] at h
    simp at e; subst e
    simpa using h.1
  | y :: ys, off, i + 1, x, h, e => by
    simp only [Els] at h
    simp at e
    obtain ⟨us, h1, h2, h3, h4⟩ := els_get h.2 e
    exact ⟨us, h1, h2, by rw [show off + (i + 1) * k = off + k + i * k by rw [Nat.add_mul]; omega]; exact h3, h4⟩
theorem els_drop {H : Hp} {k b : Nat} : ∀ (n : Nat) {xs : List D} {off : Nat}, Els H k b off xs → Els H k b (off + n * k) (xs.drop n)
  | 0, xs, off, h => by simpa using h
  | n + 1, [], off, h => by simp [Els]
  | n + 1, x :: xs, off, h => by
    simp only [Els] at h
    have := els_drop n h.2
    rw [show off + k + n * k = off + (n + 1) * k by rw [Nat.add_mul]; omega] at this
    simpa using this
theorem els_take {H : Hp} {k b : Nat} : ∀ (n : Nat) {xs : List D} {off : Nat}, Els H k b off xs → Els H k b off (xs.take n)
  | 0, xs, off, h => by simp [Els]
  | n + 1, [], off, h => by simp [Els]
  | n + 1, x :: xs, off, h => by
    simp only [Els] at h
    simp only [List.take_succ_cons, Els]
    exact ⟨h.1, els_take n h.2⟩
theorem els_append {H : Hp} {k b : Nat} : ∀ {xs ys : List D} {off : Nat}, Els H k b off xs → Els H k b (off + xs.length * k) ys → Els H k b off (xs ++ ys)
  | [], ys, off, _, h => by simpa using h
  | x :: xs, ys, off, h, g => by
    simp only [Els] at h
    simp only [List.cons_append, Els]
    refine ⟨h.1, els_append h.2 ?_⟩
    rw [show off + k + xs.length * k = off + (x :: xs).length * k by simp [Nat.add_mul]; omega]
    exact g

theorem vrun {P : Program} {w w' : World} {s : Sem Value} {v : Value} (h : s.run P w = .ok v w') : (do pure (.value (← s)) : Sem Next).run P w = .ok (.value v) w' := exec_v h
section
variable {P : Program} {C : Ctx} {N : Nat} {ops rest : List Oper} {o : Oper} {t : List (Nat × D)} {h : List (Nat × Blk)} {k : List (Nat × Value)} {Q : Exit → S → Prop} {tab : List (Option TI)}

theorem rep_slice_len {H : Hp} {kk : Nat} {xs : List D} {c : Cap} {y : Value} (hr : Rep H (.lst kk xs c) y) : ∃ a m, y = .slice a xs.length m := by
  obtain ⟨_, h2⟩ := rep_lst_inv hr
  rcases h2 with ⟨rfl, a, m, rfl, _⟩ | ⟨b, off, m, rfl, _⟩
  · exact ⟨a, m, rfl⟩
  · exact ⟨_, m, rfl⟩
theorem run_len_slice {w : World} {T e : TypeId} {i : TI} {a : Option Addr} {n m : Nat} {ty : TypeId} (hi : tiOf P T = some i) (hd : i.d = .slice e) : (Builtin.len_ #[T] ty #[.slice a n m]).run P w = .ok (.int .i64 n) w := by
  obtain ⟨d, h1, h2⟩ := run_underlying (w := w) hi
  have := td_slice (h2.trans hd); subst this
  unfold Builtin.len_
  simp only [List.getElem?_toArray, List.getElem?_cons_zero]
  rw [run_bind_ok h1]; rfl
theorem run_len_string {w : World} {T : TypeId} {i : TI} {s : ByteArray} {ty : TypeId} (hi : tiOf P T = some i) (hd : i.d = .str) : (Builtin.len_ #[T] ty #[.string s]).run P w = .ok (.int .i64 s.size) w := by
  obtain ⟨d, h1, h2⟩ := run_underlying (w := w) hi
  have := td_str (h2.trans hd); subst this
  unfold Builtin.len_
  simp only [List.getElem?_toArray, List.getElem?_cons_zero]
  rw [run_bind_ok h1]; rfl
theorem exec_builtin {b : Builtin} {args : List Operand} {ts : Array TypeId} {a : Act} {w w' : World} {v : Value} {s : Array TypeId → TypeId → Array Value → Sem Value} (ho : o.op = .call ⟨.builtin b, args.toArray, ts⟩)
    (hb : ∀ c vs, builtin b ts o.type c vs = (do pure (.value (← s ts o.type vs)))) (hr : (s ts o.type (args.map a.eval).toArray).run P w = .ok v w') : (execOp a.eval o).run P w = .ok (.value v) w' := by
  unfold execOp
  rw [ho]
  simp only [resolve]
  rw [run_bind_ok (a := (⟨.builtin b ts o.type _, (args.map a.eval).toArray⟩ : Deferred)) (w' := w) (by rw [← List.map_toArray]; rfl)]
  simp only [invoke, hb]
  exact exec_v hr
theorem x_lenL {n kk : Nat} {T e : TypeId} {x : Operand} {xs : List D} {c : Cap} {ti0 : TI} (hT : TabOK P tab) (ho : o.op = .call ⟨.builtin .len, [x].toArray, #[T]⟩) (hx : opD t x = some (.lst kk xs c)) (hti : ti tab T = some ti0) (hs : ti0.d = .slice e) (hn : xs.length = n) : ∀ H a w, TOK H t a → ∃ v, (execOp a.eval o).run P w = .ok (.value v) w ∧ Rep H (.v (.int .i64 n)) v :=
  fun H a w kt => by
    obtain ⟨ad, m, hy⟩ := rep_slice_len (opD_ok kt hx)
    refine ⟨.int .i64 n, exec_builtin (s := Builtin.len_) ho (fun _ _ => rfl) ?_, rep_v rfl⟩
    simp only [List.map_cons, List.map_nil, hy, hn]
    exact run_len_slice (ti_ok hT hti) hs
theorem p_lenL {i n kk : Nat} {T e : TypeId} {x : Operand} {xs : List D} {c : Cap} {ti0 : TI} (hT : TabOK P tab) (ho : o.op = .call ⟨.builtin .len, [x].toArray, #[T]⟩) (hw : wantD ops t o = some true) (hd : o.dst = some i) (hi : Nat.blt i N = true)
    (hx : opD t x = some (.lst kk xs c)) (hti : ti tab T = some ti0) (hs : ti0.d = .slice e) (hn : xs.length = n) (g : opsD P C N ops rest ⟨(i, .v (.int .i64 n)) :: t, h, k⟩ Q) : opsD P C N ops (o :: rest) ⟨t, h, k⟩ Q := ops_run (s := ⟨t, h, k⟩) hw hd hi (x_lenL hT ho hx hti hs hn) g
theorem x_lenS {n : Nat} {T : TypeId} {x : Operand} {s : ByteArray} {ti0 : TI} (hT : TabOK P tab) (ho : o.op = .call ⟨.builtin .len, [x].toArray, #[T]⟩) (hx : opD t x = some (.v (.string s))) (hti : ti tab T = some ti0) (hs : ti0.d = .str) (hn : s.size = n) : ∀ H a w, TOK H t a → ∃ v, (execOp a.eval o).run P w = .ok (.value v) w ∧ Rep H (.v (.int .i64 n)) v :=
  fun H a w kt => by
    refine ⟨.int .i64 n, exec_builtin (s := Builtin.len_) ho (fun _ _ => rfl) ?_, rep_v rfl⟩
    simp only [List.map_cons, List.map_nil, rep_v_inv (opD_ok kt hx), ← hn]
    exact run_len_string (ti_ok hT hti) hs
theorem p_lenS {i n : Nat} {T : TypeId} {x : Operand} {s : ByteArray} {ti0 : TI} (hT : TabOK P tab) (ho : o.op = .call ⟨.builtin .len, [x].toArray, #[T]⟩) (hw : wantD ops t o = some true) (hd : o.dst = some i) (hi : Nat.blt i N = true)
    (hx : opD t x = some (.v (.string s))) (hti : ti tab T = some ti0) (hs : ti0.d = .str) (hn : s.size = n) (g : opsD P C N ops rest ⟨(i, .v (.int .i64 n)) :: t, h, k⟩ Q) : opsD P C N ops (o :: rest) ⟨t, h, k⟩ Q := ops_run (s := ⟨t, h, k⟩) hw hd hi (x_lenS hT ho hx hti hs hn) g
/-- A byte of a string. -/
theorem x_byte {T : TypeId} {x ix : Operand} {s : ByteArray} {kk : IntKind} {j : Int} {b : UInt8} {ti0 : TI} (hT : TabOK P tab) (ho : o.op = .index T x ix) (hx : opD t x = some (.v (.string s))) (hix : opD t ix = some (.v (.int kk j))) (hti : ti tab T = some ti0) (hs : ti0.d = .str) (h0 : 0 ≤ j) (hb : s.data.toList[j.toNat]? = some b) : ∀ H a w, TOK H t a → ∃ v, (execOp a.eval o).run P w = .ok (.value v) w ∧ Rep H (.v (.int .u8 b.toNat)) v :=
  fun H a w kt => by
    obtain ⟨d, h1, h2⟩ := run_underlying (w := w) (ti_ok hT hti)
    have := td_str (h2.trans hs); subst this
    refine ⟨.int .u8 b.toNat, ?_, rep_v rfl⟩
    unfold execOp
    rw [ho]
    refine exec_v ?_
    rw [rep_v_inv (opD_ok kt hx), rep_v_inv (opD_ok kt hix)]
    unfold Instr.index
    rw [run_bind_ok (a := (kk, j)) rfl]
    simp only []
    rw [run_bind_ok h1]
    have hb' : s[j.toNat]? = some b := by
      obtain ⟨hlt, hv⟩ := List.getElem?_eq_some_iff.1 hb
      have hlt' : j.toNat < s.size := by simpa using hlt
      rw [getElem?_pos s j.toNat hlt']
      congr 1
    simp only [if_pos h0, hb']
    rfl
theorem p_byte {i : Nat} {T : TypeId} {x ix : Operand} {s : ByteArray} {kk : IntKind} {j : Int} {b : UInt8} {ti0 : TI} (hT : TabOK P tab) (ho : o.op = .index T x ix) (hw : wantD ops t o = some true) (hd : o.dst = some i) (hi : Nat.blt i N = true)
    (hx : opD t x = some (.v (.string s))) (hix : opD t ix = some (.v (.int kk j))) (hti : ti tab T = some ti0) (hs : ti0.d = .str) (h0 : 0 ≤ j) (hb : s.data.toList[j.toNat]? = some b)
    (g : opsD P C N ops rest ⟨(i, .v (.int .u8 b.toNat)) :: t, h, k⟩ Q) : opsD P C N ops (o :: rest) ⟨t, h, k⟩ Q := ops_run (s := ⟨t, h, k⟩) hw hd hi (x_byte hT ho hx hix hti hs h0 hb) g
/-- An element of a list. -/
theorem x_elem {kk : Nat} {T e : TypeId} {x ix : Operand} {xs : List D} {c : Cap} {ik : IntKind} {j : Int} {d : D} {ti0 tie : TI} (hT : TabOK P tab) (ho : o.op = .indexAddr T x ix) (hx : opD t x = some (.lst kk xs c)) (hix : opD t ix = some (.v (.int ik j))) (hti : ti tab T = some ti0) (hs : ti0.d = .slice e) (hte : ti tab e = some tie) (hk : tie.size = kk) (h0 : 0 ≤ j) (hb : xs[j.toNat]? = some d) : ∀ H a w, TOK H t a → ∃ v, (execOp a.eval o).run P w = .ok (.value v) w ∧ Rep H (.el d) v :=
  fun H a w kt => by
    obtain ⟨dd, h1, h2⟩ := run_underlying (w := w) (ti_ok hT hti)
    have := td_slice (h2.trans hs); subst this
    obtain ⟨hlt, _⟩ := List.getElem?_eq_some_iff.1 hb
    obtain ⟨_, h3⟩ := rep_lst_inv (opD_ok kt hx)
    rcases h3 with ⟨rfl, _⟩ | ⟨b, off, m, hy, _, hE⟩
    · simp at hb
    obtain ⟨us, h4, h5, h6, h7⟩ := els_get hE hb
    refine ⟨.pointer (some ⟨b, off + j.toNat * kk, none⟩), ?_, rep_cell (by simp only [RepC]; exact ⟨b, _, us, rfl, h5, h6, h7⟩) rfl rfl⟩
    unfold execOp
    rw [ho]
    refine exec_v ?_
    rw [hy, rep_v_inv (opD_ok kt hix)]
    unfold Instr.indexAt
    rw [run_bind_ok (a := (ik, j)) rfl]
    simp only []
    have hlt2 : j < (xs.length : Int) := by omega
    simp only [run_bind, h1, run_pure, run_sizeOf (ti_ok hT hte), hk, if_pos (show 0 ≤ j ∧ j < (xs.length : Int) from ⟨h0, hlt2⟩), addr_add]
theorem p_elem {i kk : Nat} {T e : TypeId} {x ix : Operand} {xs : List D} {c : Cap} {ik : IntKind} {j : Int} {d : D} {ti0 tie : TI} (hT : TabOK P tab) (ho : o.op = .indexAddr T x ix) (hw : wantD ops t o = some true) (hd : o.dst = some i) (hi : Nat.blt i N = true)
    (hx : opD t x = some (.lst kk xs c)) (hix : opD t ix = some (.v (.int ik j))) (hti : ti tab T = some ti0) (hs : ti0.d = .slice e) (hte : ti tab e = some tie) (hk : tie.size = kk) (h0 : 0 ≤ j) (hb : xs[j.toNat]? = some d)
    (g : opsD P C N ops rest ⟨(i, .el d) :: t, h, k⟩ Q) : opsD P C N ops (o :: rest) ⟨t, h, k⟩ Q := ops_run (s := ⟨t, h, k⟩) hw hd hi (x_elem hT ho hx hix hti hs hte hk h0 hb) g
/-- An element of an array of one's own. -/
theorem x_elemA {n b off : Nat} {T e : TypeId} {x ix : Operand} {ik : IntKind} {j : Int} {ti0 tie : TI} (hT : TabOK P tab) (ho : o.op = .indexAddr T x ix)
    (hx : opD t x = some (.ptr b off)) (hix : opD t ix = some (.v (.int ik j))) (hti : ti tab T = some ti0) (hs : ti0.d = .array n e) (hte : ti tab e = some tie) (h0 : 0 ≤ j) (hb : j < n) : ∀ H a w, TOK H t a → ∃ v, (execOp a.eval o).run P w = .ok (.value v) w ∧ Rep H (.ptr b (off + j.toNat * tie.size)) v := fun H a w kt => by
    obtain ⟨dd, h1, h2⟩ := run_underlying (w := w) (ti_ok hT hti)
    have := td_array (h2.trans hs); subst this
    refine ⟨.pointer (some ⟨b, off + j.toNat * tie.size, none⟩), ?_, rep_cell (by simp [RepC]) rfl rfl⟩
    unfold execOp
    rw [ho]
    refine exec_v ?_
    rw [rep_ptr_inv (opD_ok kt hx), rep_v_inv (opD_ok kt hix)]
    unfold Instr.indexAt
    rw [run_bind_ok (a := (ik, j)) rfl]
    simp only []
    have hsa : (Instr.sureAddr (.pointer (some ⟨b, off, none⟩))).run P w = .ok (⟨b, off, none⟩ : Addr) w := rfl
    simp only [run_bind, h1, run_pure, hsa, run_sizeOf (ti_ok hT hte), if_pos (show 0 ≤ j ∧ j < (n : Int) from ⟨h0, hb⟩), addr_add]
theorem p_elemA {i n b off : Nat} {T e : TypeId} {x ix : Operand} {ik : IntKind} {j : Int} {ti0 tie : TI} (hT : TabOK P tab) (ho : o.op = .indexAddr T x ix) (hw : wantD ops t o = some true) (hd : o.dst = some i) (hi : Nat.blt i N = true)
    (hx : opD t x = some (.ptr b off)) (hix : opD t ix = some (.v (.int ik j))) (hti : ti tab T = some ti0) (hs : ti0.d = .array n e) (hte : ti tab e = some tie) (h0 : 0 ≤ j) (hb : j < n)
    (g : opsD P C N ops rest ⟨(i, .ptr b (off + j.toNat * tie.size)) :: t, h, k⟩ Q) : opsD P C N ops (o :: rest) ⟨t, h, k⟩ Q := ops_run (s := ⟨t, h, k⟩) hw hd hi (x_elemA hT ho hx hix hti hs hte h0 hb) g
end

/-! ### Parts -/
def optI (t : List (Nat × D)) : Option Operand → Option (Option Int)
  | none => some none
  | some x => match opD t x with
    | some (.v (.int _ n)) => some (some n)
    | _ => none
theorem bound_run {P : Program} {w : World} {kk : IntKind} {n : Int} {y : Nat} {code : BoundsCode} (h0 : 0 ≤ n) (h1 : n ≤ y) : (Instr.sliceBound (.int kk n) y code).run P w = .ok n.toNat w := by
  unfold Instr.sliceBound
  rw [run_bind_ok (a := (kk, n)) rfl]
  simp only [if_pos (show 0 ≤ n ∧ n ≤ (y : Int) from ⟨h0, h1⟩)]
  rfl
theorem optI_inv {H : Hp} {t : List (Nat × D)} {a : Act} (kt : TOK H t a) {x : Option Operand} {r : Option Int} (e : optI t x = some r) : (x = none ∧ r = none) ∨ ∃ y kk n, x = some y ∧ r = some n ∧ a.eval y = .int kk n := by
  cases x with
  | none => simp [optI] at e; exact .inl ⟨rfl, e.symm⟩
  | some y =>
    simp only [optI] at e
    split at e
    · rename_i kk n hy
      simp only [Option.some.injEq] at e
      exact .inr ⟨y, kk, n, rfl, e.symm, rep_v_inv (opD_ok kt hy)⟩
    · cases e
/-- The bounds of a part: from l up to n, the room up to m. -/
theorem bounds_run {P : Program} {w : World} {H : Hp} {t : List (Nat × D)} {a : Act} (kt : TOK H t a) {isS : Bool} {len cap l n m : Nat} {lo hi mx : Option Operand} {l' n' m' : Option Int} (e1 : optI t lo = some l') (e2 : optI t hi = some n') (e3 : optI t mx = some m')
    (h1 : l'.getD 0 = l) (h2 : n'.getD len = n) (h3 : m'.getD cap = m) (h4 : m' ≠ none → n' ≠ none) (h5 : l ≤ n) (h6 : n ≤ m) (h7 : m ≤ cap) :
    (Instr.sliceBounds isS len cap (lo.map a.eval) (hi.map a.eval) (mx.map a.eval)).run P w = .ok (l, n, m) w := by
  unfold Instr.sliceBounds
  rcases optI_inv kt e1 with ⟨rfl, rfl⟩ | ⟨y1, k1, n1, rfl, rfl, v1⟩ <;> rcases optI_inv kt e2 with ⟨rfl, rfl⟩ | ⟨y2, k2, n2, rfl, rfl, v2⟩ <;> rcases optI_inv kt e3 with ⟨rfl, rfl⟩ | ⟨y3, k3, n3, rfl, rfl, v3⟩ <;>
    simp only [Option.getD_none, Option.getD_some, Option.map_none, Option.map_some] at * <;>
    first
    | (have hl : l = 0 := by omega
       have hn : n = len := by omega
       have hm : m = cap := by omega
       subst hl; subst hn; subst hm
       simp only [run_bind, run_pure]; done)
    | (simp only [run_bind, run_pure, v1, v2, v3, bound_run (show (0 : Int) ≤ n3 by omega) (show n3 ≤ (cap : Int) by omega), bound_run (show (0 : Int) ≤ n2 by omega) (show n2 ≤ ((n3.toNat : Nat) : Int) by omega), bound_run (show (0 : Int) ≤ n1 by omega) (show n1 ≤ ((n2.toNat : Nat) : Int) by omega)]
       congr 1
       simp only [Prod.mk.injEq]
       omega)
    | (simp only [run_bind, run_pure, v2, v3, bound_run (show (0 : Int) ≤ n3 by omega) (show n3 ≤ (cap : Int) by omega), bound_run (show (0 : Int) ≤ n2 by omega) (show n2 ≤ ((n3.toNat : Nat) : Int) by omega)]
       congr 1
       simp only [Prod.mk.injEq]
       omega)
    | (simp only [run_bind, run_pure, v1, v2, bound_run (show (0 : Int) ≤ n2 by omega) (show n2 ≤ (cap : Int) by omega), bound_run (show (0 : Int) ≤ n1 by omega) (show n1 ≤ ((n2.toNat : Nat) : Int) by omega)]
       congr 1
       simp only [Prod.mk.injEq]
       omega)
    | (simp only [run_bind, run_pure, v2, bound_run (show (0 : Int) ≤ n2 by omega) (show n2 ≤ (cap : Int) by omega)]
       congr 1
       simp only [Prod.mk.injEq]
       omega)
    | (simp only [run_bind, run_pure, v1, bound_run (show (0 : Int) ≤ n1 by omega) (show n1 ≤ (len : Int) by omega)]
       congr 1
       simp only [Prod.mk.injEq]
       omega)
    | (exfalso; revert h4; simp; done)
section
variable {P : Program} {C : Ctx} {N : Nat} {ops rest : List Oper} {o : Oper} {t : List (Nat × D)} {h : List (Nat × Blk)} {k : List (Nat × Value)} {Q : Exit → S → Prop} {tab : List (Option TI)}
theorem x_sub {l n : Nat} {T : TypeId} {x : Operand} {lo hi : Option Operand} {l' n' : Option Int} {s : ByteArray} {ti0 : TI} (hT : TabOK P tab) (ho : o.op = .slice T x lo hi none)
    (hx : opD t x = some (.v (.string s))) (e1 : optI t lo = some l') (e2 : optI t hi = some n') (hti : ti tab T = some ti0) (hs : ti0.d = .str) (h1 : l'.getD 0 = (l : Int)) (h2 : n'.getD s.size = (n : Int)) (h5 : l ≤ n) (h6 : n ≤ s.size) : ∀ H a w, TOK H t a → ∃ v, (execOp a.eval o).run P w = .ok (.value v) w ∧ Rep H (.v (.string (s.extract l n))) v := fun H a w kt => by
    obtain ⟨d, h3, h4⟩ := run_underlying (w := w) (ti_ok hT hti)
    have := td_str (h4.trans hs); subst this
    refine ⟨.string (s.extract l n), ?_, rep_v rfl⟩
    unfold execOp
    rw [ho]
    refine exec_v ?_
    rw [rep_v_inv (opD_ok kt hx)]
    unfold Instr.sliceAt
    rw [run_bind_ok h3]
    simp only [Instr.slice]
    rw [run_bind_ok h3]
    have := bounds_run (P := P) (w := w) kt (isS := false) (cap := s.size) (mx := none) (m' := none) (m := s.size) e1 e2 rfl h1 h2 rfl (fun x => absurd rfl x) h5 h6 (Nat.le_refl _)
    simp only [Option.map_none, Option.isSome_none, Bool.false_eq_true, if_false] at this ⊢
    simp only [run_bind, run_pure, this]
theorem p_sub {i l n : Nat} {T : TypeId} {x : Operand} {lo hi : Option Operand} {l' n' : Option Int} {s : ByteArray} {ti0 : TI} (hT : TabOK P tab) (ho : o.op = .slice T x lo hi none) (hw : wantD ops t o = some true) (hd : o.dst = some i) (hi0 : Nat.blt i N = true)
    (hx : opD t x = some (.v (.string s))) (e1 : optI t lo = some l') (e2 : optI t hi = some n') (hti : ti tab T = some ti0) (hs : ti0.d = .str) (h1 : l'.getD 0 = (l : Int)) (h2 : n'.getD s.size = (n : Int)) (h5 : l ≤ n) (h6 : n ≤ s.size)
    (g : opsD P C N ops rest ⟨(i, .v (.string (s.extract l n))) :: t, h, k⟩ Q) : opsD P C N ops (o :: rest) ⟨t, h, k⟩ Q := ops_run (s := ⟨t, h, k⟩) hw hd hi0 (x_sub hT ho hx e1 e2 hti hs h1 h2 h5 h6) g
theorem x_part {l n kk : Nat} {T e : TypeId} {x : Operand} {lo hi : Option Operand} {l' n' : Option Int} {xs : List D} {c : Cap} {ti0 tie : TI} (hT : TabOK P tab) (ho : o.op = .slice T x lo hi none)
    (hx : opD t x = some (.lst kk xs c)) (e1 : optI t lo = some l') (e2 : optI t hi = some n') (hti : ti tab T = some ti0) (hs : ti0.d = .slice e) (hte : ti tab e = some tie) (hk : tie.size = kk) (h1 : l'.getD 0 = (l : Int)) (h2 : n'.getD xs.length = (n : Int)) (h5 : l ≤ n) (h6 : n ≤ xs.length) : ∀ H a w, TOK H t a → ∃ v, (execOp a.eval o).run P w = .ok (.value v) w ∧ Rep H (.lst kk ((xs.drop l).take (n - l)) .no) v := fun H a w kt => by
    obtain ⟨d, h3, h4⟩ := run_underlying (w := w) (ti_ok hT hti)
    have := td_slice (h4.trans hs); subst this
    have hlen : ((xs.drop l).take (n - l)).length = n - l := by simp; omega
    obtain ⟨hc, hr⟩ := rep_lst_inv (opD_ok kt hx)
    have key : ∀ ad m, a.eval x = .slice ad xs.length m → xs.length ≤ m → (execOp a.eval o).run P w = .ok (.value (.slice (if m = l then ad else ad.map (·.add (l * kk))) (n - l) (m - l))) w := by
      intro ad m hy hm
      unfold execOp
      rw [ho]
      refine exec_v ?_
      rw [hy]
      unfold Instr.sliceAt
      rw [run_bind_ok h3]
      simp only [Instr.slice]
      rw [run_bind_ok h3]
      have := bounds_run (P := P) (w := w) kt (isS := true) (cap := m) (mx := none) (m' := none) (m := m) e1 e2 rfl h1 h2 rfl (fun x => absurd rfl x) h5 (by omega) (Nat.le_refl _)
      simp only [Option.map_none] at this ⊢
      simp only [run_bind, run_pure, this, run_sizeOf (ti_ok hT hte), hk]
    rcases hr with ⟨rfl, a0, m0, hy, hn0⟩ | ⟨b, off, m, hy, hm, hE⟩
    · refine ⟨_, key a0 m0 hy (by simp), ?_⟩
      simp only [List.length_nil] at h6
      have hn : n = 0 := by omega
      have hl : l = 0 := by omega
      subst hn; subst hl
      refine rep_cell ?_ rfl rfl
      simp only [RepC, CapOK, true_and]
      refine ⟨_, rfl, .inl ⟨by simp, _, _, rfl, fun q => ?_⟩⟩
      split at q
      · rename_i hm0; rw [hm0]
      · cases a0 with
        | none => rw [hn0 rfl]
        | some _ => cases q
    · refine ⟨_, key _ m hy hm, ?_⟩
      by_cases hml : m = l
      · rw [if_pos hml]
        have hn : n = l := by omega
        subst hn
        refine rep_cell ?_ rfl rfl
        simp only [RepC, CapOK, true_and]
        refine ⟨_, rfl, .inr ⟨b, off, m - n, by simp, by simp, by simp [Els]⟩⟩
      · rw [if_neg hml]
        refine rep_cell ?_ rfl rfl
        simp only [RepC, CapOK, true_and]
        refine ⟨_, rfl, .inr ⟨b, off + l * kk, m - l, by simp [addr_add, hlen], by rw [hlen]; omega, els_take _ (els_drop l hE)⟩⟩
theorem p_part {i l n kk : Nat} {T e : TypeId} {x : Operand} {lo hi : Option Operand} {l' n' : Option Int} {xs : List D} {c : Cap} {ti0 tie : TI} (hT : TabOK P tab) (ho : o.op = .slice T x lo hi none) (hw : wantD ops t o = some true) (hd : o.dst = some i) (hi0 : Nat.blt i N = true)
    (hx : opD t x = some (.lst kk xs c)) (e1 : optI t lo = some l') (e2 : optI t hi = some n') (hti : ti tab T = some ti0) (hs : ti0.d = .slice e) (hte : ti tab e = some tie) (hk : tie.size = kk) (h1 : l'.getD 0 = (l : Int)) (h2 : n'.getD xs.length = (n : Int)) (h5 : l ≤ n) (h6 : n ≤ xs.length)
    (g : opsD P C N ops rest ⟨(i, .lst kk ((xs.drop l).take (n - l)) .no) :: t, h, k⟩ Q) : opsD P C N ops (o :: rest) ⟨t, h, k⟩ Q := ops_run (s := ⟨t, h, k⟩) hw hd hi0 (x_part hT ho hx e1 e2 hti hs hte hk h1 h2 h5 h6) g
/-- A part whose room ends where it ends. -/
theorem x_part3 {l n kk : Nat} {T e : TypeId} {x y z : Operand} {lo : Option Operand} {l' : Option Int} {ik jk : IntKind} {nn mm : Int} {xs : List D} {c : Cap} {ti0 tie : TI} (hT : TabOK P tab) (ho : o.op = .slice T x lo (some y) (some z))
    (hx : opD t x = some (.lst kk xs c)) (e1 : optI t lo = some l') (e2 : opD t y = some (.v (.int ik nn))) (e3 : opD t z = some (.v (.int jk mm))) (hti : ti tab T = some ti0) (hs : ti0.d = .slice e) (hte : ti tab e = some tie) (hk : tie.size = kk) (h1 : l'.getD 0 = (l : Int)) (h2 : nn = (n : Int)) (h3 : mm = (n : Int)) (h5 : l ≤ n) (h6 : n ≤ xs.length) : ∀ H a w, TOK H t a → ∃ v, (execOp a.eval o).run P w = .ok (.value v) w ∧ Rep H (.lst kk ((xs.drop l).take (n - l)) .full) v := fun H a w kt => by
    obtain ⟨d, h7, h4⟩ := run_underlying (w := w) (ti_ok hT hti)
    have := td_slice (h4.trans hs); subst this
    have hlen : ((xs.drop l).take (n - l)).length = n - l := by simp; omega
    obtain ⟨hc, hr⟩ := rep_lst_inv (opD_ok kt hx)
    have key : ∀ ad m, a.eval x = .slice ad xs.length m → xs.length ≤ m → (execOp a.eval o).run P w = .ok (.value (.slice (if n = l then ad else ad.map (·.add (l * kk))) (n - l) (n - l))) w := by
      intro ad m hy hm
      unfold execOp
      rw [ho]
      refine exec_v ?_
      rw [hy]
      unfold Instr.sliceAt
      rw [run_bind_ok h7]
      simp only [Instr.slice]
      rw [run_bind_ok h7]
      have := bounds_run (P := P) (w := w) kt (isS := true) (len := xs.length) (cap := m) (hi := some y) (mx := some z) (n' := some nn) (m' := some mm) (m := n) e1 (by simp [optI, e2]) (by simp [optI, e3]) h1 (by simpa using h2) (by simpa using h3) (fun _ => by simp) h5 (Nat.le_refl _) (by omega)
      simp only [run_bind, run_pure, this, run_sizeOf (ti_ok hT hte), hk]
    rcases hr with ⟨rfl, a0, m0, hy, hn0⟩ | ⟨b, off, m, hy, hm, hE⟩
    · refine ⟨_, key a0 m0 hy (by simp), ?_⟩
      simp only [List.length_nil] at h6
      have hn : n = 0 := by omega
      have hl : l = 0 := by omega
      subst hn; subst hl
      refine rep_cell ?_ rfl rfl
      simp only [RepC, CapOK]
      exact ⟨_, rfl, rfl, .inl ⟨by simp, _, _, rfl, fun _ => rfl⟩⟩
    · refine ⟨_, key _ m hy hm, ?_⟩
      by_cases hml : n = l
      · rw [if_pos hml]
        subst hml
        refine rep_cell ?_ rfl rfl
        simp only [RepC, CapOK]
        refine ⟨_, rfl, rfl, .inr ⟨b, off, 0, by simp, by simp, by simp [Els]⟩⟩
      · rw [if_neg hml]
        refine rep_cell ?_ rfl rfl
        simp only [RepC, CapOK]
        refine ⟨_, rfl, rfl, .inr ⟨b, off + l * kk, n - l, by simp [addr_add, hlen], by rw [hlen]; omega, els_take _ (els_drop l hE)⟩⟩
theorem p_part3 {i l n kk : Nat} {T e : TypeId} {x y z : Operand} {lo : Option Operand} {l' : Option Int} {ik jk : IntKind} {nn mm : Int} {xs : List D} {c : Cap} {ti0 tie : TI} (hT : TabOK P tab) (ho : o.op = .slice T x lo (some y) (some z)) (hw : wantD ops t o = some true) (hd : o.dst = some i) (hi0 : Nat.blt i N = true)
    (hx : opD t x = some (.lst kk xs c)) (e1 : optI t lo = some l') (e2 : opD t y = some (.v (.int ik nn))) (e3 : opD t z = some (.v (.int jk mm))) (hti : ti tab T = some ti0) (hs : ti0.d = .slice e) (hte : ti tab e = some tie) (hk : tie.size = kk) (h1 : l'.getD 0 = (l : Int)) (h2 : nn = (n : Int)) (h3 : mm = (n : Int)) (h5 : l ≤ n) (h6 : n ≤ xs.length)
    (g : opsD P C N ops rest ⟨(i, .lst kk ((xs.drop l).take (n - l)) .full) :: t, h, k⟩ Q) : opsD P C N ops (o :: rest) ⟨t, h, k⟩ Q := ops_run (s := ⟨t, h, k⟩) hw hd hi0 (x_part3 hT ho hx e1 e2 e3 hti hs hte hk h1 h2 h3 h5 h6) g
end
end Go.Proofs.Ytpapooaaccmnpaa.Ab
