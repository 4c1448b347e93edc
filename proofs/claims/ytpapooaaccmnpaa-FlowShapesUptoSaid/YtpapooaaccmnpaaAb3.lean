/- An abstract machine, part 3: operations that look at no memory. Over any program. -/
import Derived.Test.YtpapooaaccmnpaaAb2
import Derived.Laws.Strings
namespace Go.Proofs.Ytpapooaaccmnpaa.Ab
open Go
set_option linter.all false

def keq : IntKind → IntKind → Bool
  | .i8, .i8 => true | .i16, .i16 => true | .i32, .i32 => true | .i64, .i64 => true
  | .u8, .u8 => true | .u16, .u16 => true | .u32, .u32 => true | .u64, .u64 => true
  | _, _ => false
theorem keq_eq {k k' : IntKind} (h : keq k k' = true) : k = k' := by cases k <;> cases k' <;> first | rfl | cases h

theorem toList_beq (a b : ByteArray) : (a.toList == b.toList) = decide (a = b) := by
  rw [ByteArray.toList_eq, ByteArray.toList_eq, Bool.eq_iff_iff, beq_iff_eq, decide_eq_true_iff]
  constructor
  · intro h; exact ByteArray.ext (Array.toList_inj.1 h)
  · intro h; rw [h]

def intV (op : BinOp) (k : IntKind) (a b : Int) : Option Value :=
  match op with
  | .add => some (.int k (k.wrap (a + b)))
  | .sub => some (.int k (k.wrap (a - b)))
  | .mul => some (.int k (k.wrap (a * b)))
  | .eql => some (.bool (a == b))
  | .neq => some (.bool (a != b))
  | .lss => some (.bool (decide (a < b)))
  | .leq => some (.bool (decide (a ≤ b)))
  | .gtr => some (.bool (decide (b < a)))
  | .geq => some (.bool (decide (b ≤ a)))
  | _ => none
def strV (op : BinOp) (a b : ByteArray) : Option Value :=
  match op with
  | .eql => some (.bool (decide (a = b)))
  | .neq => some (.bool (!decide (a = b)))
  | _ => none
def binV (op : BinOp) (x y : Value) : Option Value :=
  match x, y with
  | .int k a, .int k' b => bif keq k k' then intV op k a b else none
  | .string a, .string b => strV op a b
  | _, _ => none

theorem binV_ok {P : Program} {w : World} {op : BinOp} {x y r : Value} (t : TypeId) (X Y : Operand) (e : binV op x y = some r) :
    (do eqGuard op t X Y x y; binOp op t x y : Sem Value).run P w = .ok r w := by
  unfold binV at e
  split at e
  · rename_i k a k' b
    cases hk : keq k k' with
    | false => rw [hk] at e; cases e
    | true =>
      have := keq_eq hk; subst this
      rw [hk] at e
      simp only [cond_true] at e
      cases op <;> simp [intV] at e <;> subst e <;> simp [eqGuard, binOp, Op.intArith, Op.intCmp] <;> rfl
  · rename_i a b
    cases op <;> simp [strV] at e <;> subst e <;> simp [eqGuard, binOp, Op.stringOp, toList_beq] <;> rfl
  · cases e

theorem binV_one {op : BinOp} {x y r : Value} (e : binV op x y = some r) : one r = true := by
  unfold binV at e
  split at e
  · rename_i k a k' b
    cases hk : keq k k' with
    | false => rw [hk] at e; cases e
    | true =>
      rw [hk] at e
      simp only [cond_true] at e
      cases op <;> simp [intV] at e <;> subst e <;> rfl
  · cases op <;> simp [strV] at e <;> subst e <;> rfl
  · cases e
theorem td_bool {d : TypeDesc} (h : tdOf d = .bool) : d = .bool := by cases d <;> simp [tdOf] at h <;> rfl
theorem td_str {d : TypeDesc} (h : tdOf d = .str) : d = .string := by cases d <;> simp [tdOf] at h <;> rfl
theorem td_int {d : TypeDesc} {k : IntKind} (h : tdOf d = .int k) : d = .int k := by cases d <;> simp [tdOf] at h; subst h; rfl
theorem td_slice {d : TypeDesc} {e : Nat} (h : tdOf d = .slice e) : d = .slice e := by cases d <;> simp [tdOf] at h; subst h; rfl
theorem td_ptr {d : TypeDesc} {e : Nat} (h : tdOf d = .ptr e) : d = .pointer e := by cases d <;> simp [tdOf] at h; subst h; rfl
theorem td_array {d : TypeDesc} {n e : Nat} (h : tdOf d = .array n e) : d = .array n e := by cases d <;> simp [tdOf] at h; obtain ⟨rfl, rfl⟩ := h; rfl
theorem td_map {d : TypeDesc} {n e : Nat} (h : tdOf d = .map n e) : d = .map n e := by cases d <;> simp [tdOf] at h; obtain ⟨rfl, rfl⟩ := h; rfl
theorem td_struct {d : TypeDesc} {fs : List (Nat × Nat)} (h : tdOf d = .struct fs) : ∃ gs, d = .struct gs ∧ gs.toList.map (fun f => (f.type, f.offset)) = fs := by cases d <;> simp [tdOf] at h; exact ⟨_, rfl, h⟩
/-- Equality of bools. -/
def boolV (op : BinOp) (a b : Bool) : Option Value :=
  match op with
  | .eql => some (.bool (a == b))
  | .neq => some (.bool (!(a == b)))
  | _ => none
theorem boolV_ok {P : Program} {w : World} {op : BinOp} {a b : Bool} {r : Value} {t : TypeId} {i : TI} (X Y : Operand) (hi : tiOf P t = some i) (hd : i.d = .bool) (e : boolV op a b = some r) :
    (do eqGuard op t X Y (.bool a) (.bool b); binOp op t (.bool a) (.bool b) : Sem Value).run P w = .ok r w := by
  have hq : (Op.equal t (.bool a) (.bool b)).run P w = .ok (a == b) w := by
    unfold Op.equal Op.maxDepth
    show (Op.equalIn (9999 + 1) t _ _).run P w = _
    obtain ⟨d, h1, h2⟩ := run_underlying (w := w) hi
    have := td_bool (h2.trans hd)
    subst this
    rw [Op.equalIn, run_bind_ok h1]
    rfl
  cases op <;> simp [boolV] at e
  · subst e
    have hg : (eqGuard .eql t X Y (.bool a) (.bool b)).run P w = .ok () w := by simp [eqGuard] <;> rfl
    rw [run_bind_ok hg]
    show (do pure (.bool (← Op.equal t (.bool a) (.bool b))) : Sem Value).run P w = _
    rw [run_bind_ok hq]; rfl
  · subst e
    have hg : (eqGuard .neq t X Y (.bool a) (.bool b)).run P w = .ok () w := by simp [eqGuard] <;> rfl
    rw [run_bind_ok hg]
    show (do pure (.bool (!(← Op.equal t (.bool a) (.bool b)))) : Sem Value).run P w = _
    rw [run_bind_ok hq]
    cases a <;> cases b <;> rfl

def unV (op : UnOp) (x : Value) : Option Value :=
  match op, x with
  | .neg, .int k n => some (.int k (k.wrap (0 - n)))
  | .not, .bool b => some (.bool (!b))
  | _, _ => none
theorem unV_ok {P : Program} {w : World} {op : UnOp} {x r : Value} (e : unV op x = some r) : (Op.unary op x).run P w = .ok r w := by
  unfold unV at e
  split at e
  · simp only [Option.some.injEq] at e; subst e; rfl
  · simp only [Option.some.injEq] at e; subst e; rfl
  · cases e

def isB : TD → Bool
  | .bool => true
  | _ => false
theorem isB_eq {d : TD} (h : isB d = true) : d = .bool := by cases d <;> first | rfl | cases h
/-- What an integer, or a string, is as another type's. -/
def convV (s d : TD) (x : Value) : Option Value :=
  match s, d, x with
  | .int _, .int k, .int _ n => some (.int k (k.wrap n))
  | .str, .str, .string s => some (.string s)
  | _, _, _ => none
theorem convV_ok {P : Program} {w : World} {s d : TypeId} {i j : TI} {x r : Value} (hi : tiOf P s = some i) (hj : tiOf P d = some j) (e : convV i.d j.d x = some r) : (convert s d x).run P w = .ok r w := by
  obtain ⟨ds, h1, h2⟩ := run_underlying (w := w) hi
  obtain ⟨dd, h3, h4⟩ := run_underlying (w := w) hj
  unfold convert
  rw [run_bind_ok h1, run_bind_ok h3]
  unfold convV at e
  split at e
  · rename_i h5 h6
    have := td_int (h2.trans h5); have := td_int (h4.trans h6); subst ds; subst dd
    simp only [Option.some.injEq] at e; subst e; rfl
  · rename_i h5 h6
    have := td_str (h2.trans h5); have := td_str (h4.trans h6); subst ds; subst dd
    simp only [Option.some.injEq] at e; subst e; rfl
  · cases e

def fieldOf (i : TI) (f : Nat) : Option (Nat × Nat) :=
  match i.d with
  | .struct fs => fs[f]?
  | _ => none
theorem fieldOf_inv {i : TI} {d : TypeDesc} (hd : tdOf d = i.d) {f : Nat} {fl : Nat × Nat} (h : fieldOf i f = some fl) : ∃ fs x, d = .struct fs ∧ fs[f]? = some x ∧ x.type = fl.1 ∧ x.offset = fl.2 := by
  unfold fieldOf at h
  split at h
  · rename_i fs e
    obtain ⟨gs, rfl, h1⟩ := td_struct (hd.trans e)
    rw [← h1, List.getElem?_map, Option.map_eq_some_iff] at h
    obtain ⟨x, h2, h3⟩ := h
    exact ⟨gs, x, rfl, by simpa using h2, by rw [← h3], by rw [← h3]⟩
  · cases h

def someMap (l : List Operand) (f : Operand → Option D) : Option (List D) :=
  match l with
  | [] => some []
  | x :: l => match f x, someMap l f with
    | some d, some ds => some (d :: ds)
    | _, _ => none
theorem someMap_ok {H : Hp} {t : List (Nat × D)} {a : Act} (k : TOK H t a) : ∀ {l : List Operand} {ds : List D}, someMap l (opD t) = some ds → RepsV H ds (l.map a.eval)
  | [], ds, e => by simp [someMap] at e; subst e; simp [RepsV]
  | x :: l, ds, e => by
    simp only [someMap] at e
    split at e
    · rename_i d ds' h1 h2
      simp only [Option.some.injEq] at e; subst e
      simp only [List.map_cons, RepsV]
      exact ⟨_, _, rfl, opD_ok k h1, someMap_ok k h2⟩
    · cases e

/-- Cells with parts laid into them. -/
def layD (cs : List D) (off : Nat) (d : D) : List D :=
  match d with
  | .agg l => cs.take off ++ l ++ cs.drop (off + l.length)
  | d => cs.take off ++ [d] ++ cs.drop (off + 1)
def D.cnt : D → Nat
  | .agg l => l.length
  | _ => 1

/-- What an operation comes to that looks at no memory. -/
def evP (tab : List (Option TI)) (t : List (Nat × D)) (o : Op) : Option D :=
  match o with
  | .move x => opD t x
  | .assign x => opD t x
  | .pick c a b => match opD t c with
    | some (.v (.bool c)) => match opD t a, opD t b with
      | some (.v (.bool a)), some (.v (.bool b)) => some (.v (.bool (bif c then a else b)))
      | _, _ => none
    | _ => none
  | .binOp op xt x y _ => match opD t x, opD t y with
    | some (.v (.bool x)), some (.v (.bool y)) => match ti tab xt with
      | some i => bif isB i.d then (match boolV op x y with | some r => some (.v r) | none => none) else none
      | none => none
    | some (.v x), some (.v y) => match binV op x y with
      | some r => some (.v r)
      | none => none
    | _, _ => none
  | .unOp op _ x => match opD t x with
    | some (.v x) => match unV op x with
      | some r => some (.v r)
      | none => none
    | _ => none
  | .convert s d x => match opD t x, ti tab s, ti tab d with
    | some (.v x), some i, some j => match convV i.d j.d x with
      | some r => some (.v r)
      | none => none
    | _, _, _ => none
  | .field xt x f => match opD t x, ti tab xt with
    | some (.agg ds), some i => match fieldOf i f with
      | some fl => match ti tab fl.1 with
        | some j => partD j ds fl.2
        | none => none
      | none => none
    | _, _ => none
  | .fieldAddr xt x f => match ti tab xt with
    | some i => match fieldOf i f with
      | some fl => match ti tab fl.1 with
        | some j => bif Nat.beq j.size 0 then none else match opD t x with
          | some (.ptr b o) => some (.ptr b (o + fl.2))
          | some (.el (.agg ds)) => match partD j ds fl.2 with
            | some d => some (.el d)
            | none => none
          | _ => none
        | none => none
      | none => none
    | none => none
  | .extract x i => match opD t x with
    | some (.tup l) => l[i]?
    | _ => none
  | .nilCheck x => match opD t x with
    | some (.ptr b o) => some (.ptr b o)
    | some (.el d) => some (.el d)
    | _ => none
  | .makeFunc f as cs => match someMap as.toList (opD t), someMap cs.toList (opD t) with
    | some as, some cs => some (.fn f as cs)
    | _, _ => none
  | _ => none

theorem addr_add (b o n : Nat) : (⟨b, o, none⟩ : Addr).add n = ⟨b, o + n, none⟩ := by
  unfold Addr.add; split
  · rename_i h; subst h; rfl
  · rfl
theorem exec_v {P : Program} {w w' : World} {s : Sem Value} {v : Value} (h : s.run P w = .ok v w') : (do pure (.value (← s)) : Sem Next).run P w = .ok (.value v) w' := by
  rw [run_bind_ok h]; rfl
theorem reps_told {H : Hp} {b off : Nat} {us : List Value} (h : Told H b off us) (n : Nat) : Told H b (off + n) (us.drop n) := fun j u e => by
  rw [List.getElem?_drop] at e
  have := h _ _ e
  rwa [← Nat.add_assoc] at this
theorem told_take {H : Hp} {b off : Nat} {us : List Value} (h : Told H b off us) (n : Nat) : Told H b off (us.take n) := fun j u e => by
  rw [List.getElem?_take] at e
  split at e
  · exact h _ _ e
  · cases e
theorem rep_el_part {H : Hp} {j : TI} {ds : List D} {off n b : Nat} {d : D} {vs : List Value} (hr : Reps H ds vs) (ht : Told H b off vs) (e : partD j ds n = some d) :
    Rep H (.el d) (.pointer (some ⟨b, off + n, none⟩)) := by
  unfold partD at e
  cases hg : j.agg with
  | true =>
    rw [hg] at e
    simp only [cond_true] at e
    cases hb : Nat.ble (n + j.size) ds.length with
    | false => rw [hb] at e; cases e
    | true =>
      rw [hb] at e
      simp only [cond_true, Option.some.injEq] at e
      subst e
      have h1 := reps_take j.size (reps_drop n hr)
      refine rep_cell ?_ rfl rfl
      simp only [RepC]
      exact ⟨b, off + n, _, rfl, h1, told_take (reps_told ht n) _, reps_one h1⟩
  | false =>
    rw [hg] at e
    simp only [cond_false] at e
    obtain ⟨u, h1, h2, h3, h4⟩ := reps_get hr e
    refine rep_cell ?_ rfl rfl
    simp only [RepC]
    refine ⟨b, off + n, [u], rfl, h2, fun i x hx => ?_, by simpa using h3⟩
    cases i with
    | zero => simp at hx; subst hx; exact ht n u h1
    | succ i => simp at hx

theorem evP_ok {P : Program} {tab : List (Option TI)} (ht : TabOK P tab) {H : Hp} {t : List (Nat × D)} {a : Act} {o : Oper} {d : D} {w : World} (k : TOK H t a) (e : evP tab t o.op = some d) :
    ∃ v, (execOp a.eval o).run P w = .ok (.value v) w ∧ Rep H d v := by
  unfold execOp
  generalize o.op = op at e
  cases op with
  | move x => exact ⟨_, rfl, opD_ok k e⟩
  | assign x => exact ⟨_, rfl, opD_ok k e⟩
  | pick c x y =>
    simp only [evP] at e
    split at e
    · rename_i c0 hc
      split at e
      · rename_i x0 y0 hx hy
        simp only [Option.some.injEq] at e; subst e
        have h1 := rep_v_inv (opD_ok k hc); have h2 := rep_v_inv (opD_ok k hx); have h3 := rep_v_inv (opD_ok k hy)
        refine ⟨.bool (bif c0 then x0 else y0), ?_, rep_v rfl⟩
        simp only [h1, h2, h3]
        cases c0 <;> rfl
      · cases e
    · cases e
  | binOp op xt x y yt =>
    simp only [evP] at e
    split at e
    · rename_i x0 y0 hx hy
      split at e
      · rename_i i hi
        cases hb : isB i.d with
        | false => rw [hb] at e; cases e
        | true =>
          rw [hb] at e
          simp only [cond_true] at e
          split at e
          · rename_i r hr
            simp only [Option.some.injEq] at e; subst e
            refine ⟨r, exec_v ?_, rep_v ?_⟩
            · rw [rep_v_inv (opD_ok k hx), rep_v_inv (opD_ok k hy)]
              exact boolV_ok x y (ti_ok ht hi) (isB_eq hb) hr
            · cases op <;> simp [boolV] at hr <;> subst hr <;> rfl
          · cases e
      · cases e
    · rename_i x0 y0 _ hx hy
      split at e
      · rename_i r hr
        simp only [Option.some.injEq] at e; subst e
        refine ⟨r, exec_v ?_, rep_v ?_⟩
        · rw [rep_v_inv (opD_ok k hx), rep_v_inv (opD_ok k hy)]
          exact binV_ok xt x y hr
        · exact binV_one hr
      · cases e
    · cases e
  | unOp op xt x =>
    simp only [evP] at e
    split at e
    · rename_i x0 hx
      split at e
      · rename_i r hr
        simp only [Option.some.injEq] at e; subst e
        refine ⟨r, exec_v ?_, rep_v ?_⟩
        · rw [rep_v_inv (opD_ok k hx)]; exact unV_ok hr
        · unfold unV at hr; split at hr <;> simp at hr <;> subst hr <;> rfl
      · cases e
    · cases e
  | convert s d' x =>
    simp only [evP] at e
    split at e
    · rename_i x0 i j hx hi hj
      split at e
      · rename_i r hr
        simp only [Option.some.injEq] at e; subst e
        refine ⟨r, exec_v ?_, rep_v ?_⟩
        · rw [rep_v_inv (opD_ok k hx)]; exact convV_ok (ti_ok ht hi) (ti_ok ht hj) hr
        · unfold convV at hr; split at hr <;> simp at hr <;> subst hr <;> rfl
      · cases e
    · cases e
  | field xt x f =>
    simp only [evP] at e
    split at e
    · rename_i ds i hx hi
      split at e
      · rename_i fl hf
        split at e
        · rename_i j hj
          obtain ⟨dd, h0, h00⟩ := run_underlying (w := w) (ti_ok ht hi)
          obtain ⟨fs, x0, rfl, h2, h5, h6⟩ := fieldOf_inv h00 hf
          obtain ⟨us, hy, hr⟩ := rep_agg_inv (opD_ok k hx)
          obtain ⟨v, h3, h4⟩ := run_part (P := P) (w := w) (t := fl.1) (ti_ok ht hj) hr e
          refine ⟨v, exec_v ?_, h4⟩
          unfold Instr.field
          rw [run_bind_ok h0]
          simp only [h2, hy]
          rw [run_bind_ok (a := us.toArray) rfl, h5, h6]
          exact h3
        · cases e
      · cases e
    · cases e
  | fieldAddr xt x f =>
    simp only [evP] at e
    split at e
    · rename_i i hi
      split at e
      · rename_i fl hf
        split at e
        · rename_i j hj
          obtain ⟨dd, h0, h00⟩ := run_underlying (w := w) (ti_ok ht hi)
          obtain ⟨fs, x0, rfl, h2, h51, h61⟩ := fieldOf_inv h00 hf
          have hrun : ∀ b o, (Instr.fieldAt xt (.pointer (some ⟨b, o, none⟩)) f).run P w = if j.size = 0 then (do pure (.pointer (some (← fieldPlace ⟨b, o, none⟩ x0))) : Sem Value).run P w else .ok (.pointer (some ⟨b, o + fl.2, none⟩)) w := by
            intro b o
            unfold Instr.fieldAt
            rw [run_bind_ok h0]
            simp only [h2]
            rw [run_bind_ok (a := (⟨b, o, none⟩ : Addr)) rfl]
            split
            · rfl
            · rename_i hz
              unfold fieldPlace
              rw [run_bind_ok (a := (⟨b, o + fl.2, none⟩ : Addr)) ?_]
              · rfl
              · rw [h51, run_bind_ok (run_sizeOf (ti_ok ht hj)), if_neg hz, addr_add, h61]; rfl
          cases hz : Nat.beq j.size 0 with
          | true => rw [hz] at e; cases e
          | false =>
            rw [hz] at e
            simp only [cond_false] at e
            have hz' : ¬ j.size = 0 := Nat.ne_of_beq_eq_false hz
            split at e
            · rename_i b o hx
              simp only [Option.some.injEq] at e; subst e
              refine ⟨.pointer (some ⟨b, o + fl.2, none⟩), exec_v ?_, rep_cell (by simp [RepC]) rfl rfl⟩
              rw [rep_ptr_inv (opD_ok k hx), hrun, if_neg hz']
            · rename_i ds hx
              split at e
              · rename_i d0 hd
                simp only [Option.some.injEq] at e; subst e
                obtain ⟨b, off, vs, h3, h4, h5, h6⟩ := rep_el_inv (opD_ok k hx)
                simp only [RepC] at h4
                refine ⟨.pointer (some ⟨b, off + fl.2, none⟩), exec_v ?_, rep_el_part h4 h5 hd⟩
                rw [h3, hrun, if_neg hz']
              · cases e
            · cases e
        · cases e
      · cases e
    · cases e
  | extract x n =>
    simp only [evP] at e
    split at e
    · rename_i l hx
      obtain ⟨vs, h1, h2⟩ := rep_tup_inv (opD_ok k hx)
      obtain ⟨u, h3, h4⟩ := repsV_get h2 e
      refine ⟨u, exec_v ?_, h4⟩
      unfold Instr.extract
      simp [h1, h3] <;> rfl
    · cases e
  | nilCheck x =>
    simp only [evP] at e
    split at e
    · rename_i b o hx
      simp only [Option.some.injEq] at e; subst e
      exact ⟨.pointer (some ⟨b, o, none⟩), by simp only [rep_ptr_inv (opD_ok k hx)]; rfl, rep_cell (by simp [RepC]) rfl rfl⟩
    · rename_i d0 hx
      simp only [Option.some.injEq] at e; subst e
      obtain ⟨b, off, vs, h3, h4, h5, h6⟩ := rep_el_inv (opD_ok k hx)
      exact ⟨.pointer (some ⟨b, off, none⟩), by simp only [h3]; rfl, h3 ▸ opD_ok k hx⟩
    · cases e
  | makeFunc f as cs =>
    simp only [evP] at e
    split at e
    · rename_i as' cs' h1 h2
      simp only [Option.some.injEq] at e; subst e
      refine ⟨.func f (as.map a.eval) (cs.map a.eval), exec_v rfl, rep_cell ?_ rfl rfl⟩
      simp only [RepC]
      exact ⟨as.toList.map a.eval, cs.toList.map a.eval, by rw [← Array.toList_map, ← Array.toList_map], someMap_ok k h1, someMap_ok k h2⟩
    · cases e
  | _ => simp [evP] at e
end Go.Proofs.Ytpapooaaccmnpaa.Ab
