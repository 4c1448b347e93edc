/- A region that draws its order, whose events (calls, new blocks, stores) and other operations are told by one class of worlds: one walk in the order of the text serves every order. Over any program. -/
import Derived.Orders
import Derived.Still
import Derived.KernelRfl
import Derived.Tactics
namespace Go.Proofs.Ytpapooaaccmnpaa.Jx
open Go
set_option linter.all false

/-- What an operation gives: its value, and the world behind it. -/
def Gives (P : Program) (o : Oper) (a : Act) (w : World) (K : Value → World → Prop) : Prop :=
  match (execOp a.eval o).run P w with
  | .ok (.value v) w' => K v w'
  | .ok .skip w' => K undef w'
  | .ok (.enter f args) w' => Calls P f args w' fun e w'' => ∃ v, e = .returned v ∧ K v w''
  | _ => False

theorem Gives.mono {P : Program} {o : Oper} {a : Act} {w : World} {K K' : Value → World → Prop} (hk : ∀ v w', K v w' → K' v w') (h : Gives P o a w K) : Gives P o a w K' := by
  unfold Gives at *
  split at h
  · exact hk _ _ h
  · exact hk _ _ h
  · exact h.mono fun e w'' ⟨v, he, hv⟩ => ⟨v, he, hk _ _ hv⟩
  · exact h.elim

theorem Gives.wp {P : Program} {o : Oper} {a : Act} {w : World} {K : Act → World → Prop} {Q : Exit → Act → World → Prop} (h : Gives P o a w fun v w' => K (a.put o.dst v) w') : o.wp P a w K Q := by
  unfold Gives at h
  unfold Oper.wp
  generalize (execOp a.eval o).run P w = r at *
  cases r with
  | ok n w' =>
    cases n <;> simp only [Oper.upon] at h ⊢
    case value u => exact h
    case skip => exact h
    case enter f args => exact h.mono fun e w'' ⟨v, he, hv⟩ => by subst he; exact hv
  | halt x w' => simp only at h

theorem Gives.congr {P : Program} {o : Oper} {a a' : Act} {w : World} {K : Value → World → Prop} (he : execOp a'.eval o = execOp a.eval o) (h : Gives P o a w K) : Gives P o a' w K := by
  unfold Gives at *; rw [he]; exact h

def upd {α : Type} (f : Nat → α) (i : Nat) (v : α) : Nat → α := fun j => if j = i then v else f j
theorem upd_same {α : Type} (f : Nat → α) (i : Nat) (v : α) : upd f i v i = v := by simp [upd]
theorem upd_ne {α : Type} (f : Nat → α) {i j : Nat} (v : α) (h : j ≠ i) : upd f i v j = f j := by simp [upd, h]

section
variable (P : Program) (ops : Array Oper) (C : (Nat → Bool) → (Nat → Value) → World → Prop) (pre : Nat → List Nat) (ev : Nat → Bool)

/-- What is asked of operation i in the frame a, events' values being vals; its own value is out. -/
def OK (vals : Nat → Value) (i : Nat) (o : Oper) (a : Act) (out : Value) : Prop :=
  if Region.wanted o (yielded ops a.tmps) = true then
    if ev i = true then out = vals i ∧ ∀ S w, C S vals w → S i = false → (∀ k ∈ pre i, S k = true) → Gives P o a w fun v w' => C (upd S i true) (upd vals i v) w'
    else ∀ S w, C S vals w → (∀ k ∈ pre i, S k = true) → (execOp a.eval o).run P w = .ok (.value out) w
  else out = undef ∧ (ev i = true → ∀ S w, C S vals w → S i = false → C (upd S i true) (upd vals i undef) w)

/-- The walk in the order of the text. -/
def Lx (vals : Nat → Value) (fin : Act → Prop) : Nat → List Oper → Act → Prop
  | _, [], a => fin a
  | i, o :: rest, a => ∃ out, OK P ops C pre ev vals i o a out ∧ Lx vals fin (i + 1) rest (a.put o.dst out)

end

/-- The frame behind the first k operations. -/
def fr (ops : Array Oper) (a0 : Act) (out : Nat → Value) : Nat → Act
  | 0 => a0
  | k + 1 => match ops[k]? with
    | some o => (fr ops a0 out k).put o.dst (out k)
    | none => fr ops a0 out k

/-- The frame behind those of the first k operations that have come up. -/
def frS (ops : Array Oper) (a0 : Act) (out : Nat → Value) (S : Nat → Bool) : Nat → Act
  | 0 => a0
  | k + 1 => match ops[k]? with
    | some o => if S k = true then (frS ops a0 out S k).put o.dst (out k) else frS ops a0 out S k
    | none => frS ops a0 out S k

theorem fr_congr {ops : Array Oper} {a0 : Act} {out out' : Nat → Value} : ∀ k, (∀ j, j < k → out j = out' j) → fr ops a0 out k = fr ops a0 out' k
  | 0, _ => rfl
  | k + 1, h => by
    have ih := fr_congr (ops := ops) (a0 := a0) k (fun j hj => h j (by omega))
    simp only [fr]
    rw [ih, h k (by omega)]

theorem frS_congr {ops : Array Oper} {a0 : Act} {out out' : Nat → Value} {S : Nat → Bool} : ∀ k, (∀ j, j < k → S j = true → out j = out' j) → frS ops a0 out S k = frS ops a0 out' S k
  | 0, _ => rfl
  | k + 1, h => by
    have ih := frS_congr (ops := ops) (a0 := a0) (S := S) k (fun j hj => h j (by omega))
    simp only [frS]
    rw [ih]
    split
    · split
      · rename_i hs; rw [h k (by omega) hs]
      · rfl
    · rfl

theorem frS_none {ops : Array Oper} {a0 : Act} {out : Nat → Value} {S : Nat → Bool} : ∀ k, (∀ j, j < k → S j = false) → frS ops a0 out S k = a0
  | 0, _ => rfl
  | k + 1, h => by
    simp only [frS]
    rw [frS_none k (fun j hj => h j (by omega)), h k (by omega)]
    split <;> simp

theorem frS_all {ops : Array Oper} {a0 : Act} {out : Nat → Value} {S : Nat → Bool} : ∀ k, (∀ j, j < k → S j = true) → frS ops a0 out S k = fr ops a0 out k
  | 0, _ => rfl
  | k + 1, h => by
    simp only [frS, fr]
    rw [frS_all k (fun j hj => h j (by omega)), h k (by omega)]
    simp

/-- Two frames are alike at what o looks at. -/
def alike (ops : Array Oper) (o : Oper) (a b : Act) : Prop := ∀ t ∈ o.looksAt ops, a.tmps[t]? = b.tmps[t]?

theorem alike_exec {ops : Array Oper} {o : Oper} {a b : Act} (hs : ∀ cs x, o.op ≠ .select cs x) (h : alike ops o a b) : execOp a.eval o = execOp b.eval o :=
  execOp_congr o hs fun x hx => by
    cases x with
    | tmp t =>
      have := h t (List.mem_append_left _ (List.mem_filterMap.2 ⟨.tmp t, by simpa using hx, rfl⟩))
      simp [Act.eval, this]
    | _ => rfl

theorem alike_wanted {ops : Array Oper} {o : Oper} {a b : Act} (h : alike ops o a b) : Region.wanted o (yielded ops a.tmps) = Region.wanted o (yielded ops b.tmps) := by
  unfold Region.wanted
  cases hg : o.guard with
  | none => rfl
  | some gw =>
    obtain ⟨g, want⟩ := gw
    have hy : yielded ops a.tmps g = yielded ops b.tmps g := by
      unfold yielded
      cases ht : (ops[g]?).bind (·.dst) with
      | none => rfl
      | some t =>
        have := h t (by simp [Oper.looksAt, hg, ht])
        simp [this]
    simp only [hy]

theorem put_get (a : Act) (d : Option Tmp) (v : Value) (t : Nat) (h : d ≠ some t) : (a.put d v).tmps[t]? = a.tmps[t]? := by
  cases d with
  | none => rfl
  | some d => exact Array.getElem?_setIfInBounds_ne (by intro e; exact h (by rw [e]))

theorem put_get_congr (a b : Act) (d : Option Tmp) (v : Value) (t : Nat) (h : a.tmps[t]? = b.tmps[t]?) : (a.put d v).tmps[t]? = (b.put d v).tmps[t]? := by
  cases d with
  | none => exact h
  | some d =>
    by_cases e : d = t
    · subst e
      simp only [Act.put, Array.getElem?_setIfInBounds]
      have hs : d < a.tmps.size ↔ d < b.tmps.size := by
        constructor
        · intro hd
          rw [Array.getElem?_eq_getElem hd] at h
          exact (Array.getElem?_eq_some_iff.1 h.symm).1
        · intro hd
          rw [Array.getElem?_eq_getElem hd] at h
          exact (Array.getElem?_eq_some_iff.1 h).1
      by_cases hd : d < a.tmps.size
      · simp [hd, hs.1 hd]
      · have : ¬ d < b.tmps.size := fun x => hd (hs.2 x)
        simp [hd, this]
    · rw [put_get a _ v t (by simpa using e), put_get b _ v t (by simpa using e)]; exact h

/-- Which operation waits for which: an edge, or they are apart (for numbers j < i). -/
def slotsB (ops : Array Oper) : Bool :=
  Region.noSelect ops && (List.range ops.size).all fun i => match ops[i]? with
    | none => true
    | some oi => (oi.after.all fun e => !Region.binds .any e || decide (e.on < i)) &&
      (List.range i).all fun j => match ops[j]? with
      | none => true
      | some oj => oi.after.any (fun e => Region.binds .any e && e.on == j) || oj.apart ops oi

/-- pre is made of edges and of what those wait for. -/
def preB (ops : Array Oper) (pre : Nat → List Nat) : Bool :=
  (List.range ops.size).all fun i => match ops[i]? with
    | none => true
    | some oi => (pre i).all fun k => oi.after.any fun e => Region.binds .any e && (e.on == k || (pre e.on).contains k)

theorem slots_spec {ops : Array Oper} (h : slotsB ops = true) {i j : Nat} {oi oj : Oper} (hi : ops[i]? = some oi) (hj : ops[j]? = some oj) (hji : j < i) :
    (∃ e ∈ oi.after, Region.binds .any e = true ∧ e.on = j) ∨ oj.apart ops oi = true := by
  simp only [slotsB, Bool.and_eq_true, List.all_eq_true, List.mem_range] at h
  have h1 := h.2 i (Array.getElem?_eq_some_iff.1 hi).1
  simp only [hi, Bool.and_eq_true, List.all_eq_true, List.mem_range] at h1
  have h2 := h1.2 j hji
  simp only [hj, Bool.or_eq_true] at h2
  rcases h2 with h2 | h2
  · obtain ⟨e, he, hb⟩ := Array.any_eq_true'.1 h2
    simp only [Bool.and_eq_true, beq_iff_eq] at hb
    exact .inl ⟨e, he, hb.1, hb.2⟩
  · exact .inr h2

section
variable {P : Program} {ops : Array Oper} {Q : Exit → Act → World → Prop} {C : (Nat → Bool) → (Nat → Value) → World → Prop} {pre : Nat → List Nat} {ev : Nat → Bool} {a0 : Act}

theorem lx_good {vals : Nat → Value} {fin : Act → Prop} {l1 : List Oper} {m : Nat} (hl1 : ∀ j, j < m → l1[j]? = ops[j]?) (hm : l1.length = m) (h : Lx P ops C pre ev vals fin 0 l1 a0) :
    ∃ out, (∀ j o, j < m → ops[j]? = some o → OK P ops C pre ev vals j o (fr ops a0 out j) (out j)) ∧ fin (fr ops a0 out m) := by
  have key : ∀ (l : List Oper) (i : Nat) (out0 : Nat → Value), (∀ j, i + j < i + l.length → l[j]? = ops[i + j]?) → Lx P ops C pre ev vals fin i l (fr ops a0 out0 i) →
      ∃ out, (∀ k, k < i → out k = out0 k) ∧ (∀ j o, i ≤ j → j < i + l.length → ops[j]? = some o → OK P ops C pre ev vals j o (fr ops a0 out j) (out j)) ∧ fin (fr ops a0 out (i + l.length)) := by
    intro l
    induction l with
    | nil => intro i out0 _ h; exact ⟨out0, fun _ _ => rfl, fun j o hj hj' _ => by simp at hj'; omega, h⟩
    | cons o l ih =>
      intro i out0 hl h
      obtain ⟨v, hv, hr⟩ := h
      have h0 : ops[i]? = some o := by simpa using (hl 0 (by simp)).symm
      have e1 : fr ops a0 (upd out0 i v) i = fr ops a0 out0 i := fr_congr i fun j hj => upd_ne _ _ (by omega)
      have e2 : fr ops a0 (upd out0 i v) (i + 1) = (fr ops a0 out0 i).put o.dst v := by simp only [fr, h0]; rw [e1, upd_same]
      obtain ⟨out, g1, g2, g3⟩ := ih (i + 1) (upd out0 i v) (fun j hj => by have := hl (j + 1) (by simp; omega); simpa [Nat.add_assoc, Nat.add_comm 1 j] using this) (by rw [e2]; exact hr)
      refine ⟨out, fun k hk => by rw [g1 k (by omega), upd_ne _ _ (by omega)], fun j o' hj hj' ho' => ?_, ?_⟩
      · by_cases hji : j = i
        · subst hji
          rw [h0] at ho'; cases ho'
          have e3 : fr ops a0 out j = fr ops a0 out0 j := fr_congr j fun k hk => by rw [g1 k (by omega), upd_ne _ _ (by omega)]
          rw [e3, g1 j (by omega), upd_same]
          exact hv
        · exact g2 j o' (by omega) (by simp at hj'; omega) ho'
      · rw [show i + (o :: l).length = i + 1 + l.length from by simp; omega]; exact g3
  obtain ⟨out, _, h2, h3⟩ := key l1 0 (fun _ => undef) (fun j hj => by rw [Nat.zero_add]; exact hl1 j (by omega)) h
  rw [Nat.zero_add, hm] at h3
  exact ⟨out, fun j o hj ho => h2 j o (Nat.zero_le _) (by omega) ho, h3⟩

/-- Closed under edges. -/
def closed (ops : Array Oper) (S : Nat → Bool) : Prop := ∀ i o, ops[i]? = some o → S i = true → ∀ e ∈ o.after, Region.binds .any e = true → S e.on = true

theorem pre_closed (hp : preB ops pre = true) (hsl : slotsB ops = true) {S : Nat → Bool} (hc : closed ops S) : ∀ i o, ops[i]? = some o → (∀ e ∈ o.after, Region.binds .any e = true → S e.on = true) → ∀ k ∈ pre i, S k = true := by
  intro i
  induction i using Nat.strongRecOn with
  | _ i ih =>
    intro o ho hd k hk
    have hp0 := hp
    simp only [preB, List.all_eq_true, List.mem_range] at hp
    have h1 := hp i (Array.getElem?_eq_some_iff.1 ho).1
    simp only [ho, List.all_eq_true] at h1
    obtain ⟨e, he, hb⟩ := Array.any_eq_true'.1 (h1 k hk)
    simp only [Bool.and_eq_true, Bool.or_eq_true, beq_iff_eq, List.contains_iff_mem] at hb
    rcases hb.2 with hb2 | hb2
    · rw [← hb2]; exact hd e he hb.1
    · have hlt : e.on < i := by
        simp only [slotsB, Bool.and_eq_true, List.all_eq_true, List.mem_range] at hsl
        have h3 := hsl.2 i (Array.getElem?_eq_some_iff.1 ho).1
        simp only [ho, Bool.and_eq_true] at h3
        have h4 := (Array.all_eq_true_iff_forall_mem.1 h3.1) e he
        simpa [hb.1] using h4
      have hson := hd e he hb.1
      cases hoe : ops[e.on]? with
      | none =>
        exfalso
        have := (Array.getElem?_eq_some_iff.1 ho).1
        simp at hoe
        omega
      | some oe => exact ih e.on hlt oe hoe (fun e' he' hb' => hc _ _ hoe hson e' he' hb') k hb2

theorem looks_of_not_apart {oj oi : Oper} {t : Nat} (hd : oj.dst = some t) (ht : t ∈ oi.looksAt ops) : oj.apart ops oi = false := by
  unfold Oper.apart
  simp [hd, ht]

/-- The frame in which operation i comes up looks to it like the text's. -/
theorem frame_alike (hsl : slotsB ops = true) {S : Nat → Bool} (hc : closed ops S) {out : Nat → Value} {i : Nat} {o : Oper} (ho : ops[i]? = some o) (hi : S i = false)
    (hd : ∀ e ∈ o.after, Region.binds .any e = true → S e.on = true) : ∀ n, i ≤ n → alike ops o (frS ops a0 out S n) (fr ops a0 out i) := by
  have base : ∀ k, k ≤ i → ∀ t ∈ o.looksAt ops, (frS ops a0 out S k).tmps[t]? = (fr ops a0 out k).tmps[t]? := by
    intro k
    induction k with
    | zero => intro _ t _; rfl
    | succ k ih =>
      intro hk t ht
      have ih' := ih (by omega) t ht
      simp only [frS, fr]
      cases hok : ops[k]? with
      | none => exact ih'
      | some ok =>
        simp only
        by_cases hS : S k = true
        · rw [if_pos hS]; exact put_get_congr _ _ _ _ _ ih'
        · rw [if_neg hS]
          rw [put_get]
          · exact ih'
          · intro hdt
            rcases slots_spec hsl ho hok (by omega) with ⟨e, he, hb, hon⟩ | hap
            · exact hS (hon ▸ hd e he hb)
            · rw [looks_of_not_apart hdt ht] at hap; cases hap
  intro n hn
  induction n with
  | zero => intro t ht; have : i = 0 := by omega
            subst this; exact base 0 (by omega) t ht
  | succ n ih =>
    by_cases hin : i = n + 1
    · subst hin; intro t ht; exact base _ (by omega) t ht
    · intro t ht
      have ih' := ih (by omega) t ht
      simp only [frS]
      cases hok : ops[n]? with
      | none => exact ih'
      | some ok =>
        simp only
        by_cases hS : S n = true
        · rw [if_pos hS, put_get]
          · exact ih'
          · intro hdt
            have hne : i ≠ n := fun e => by subst e; rw [hi] at hS; cases hS
            rcases slots_spec hsl hok ho (by omega) with ⟨e, he, hb, hon⟩ | hap
            · have := hc n ok hok hS e he hb; rw [hon, hi] at this; cases this
            · unfold Oper.apart at hap
              simp [hdt, ht] at hap
        · rw [if_neg hS]; exact ih'

/-- Another one has come up. -/
theorem frame_put (hsl : slotsB ops = true) {S : Nat → Bool} (hc : closed ops S) {out : Nat → Value} {i : Nat} {o : Oper} (ho : ops[i]? = some o) (hi : S i = false) :
    ∀ n, frS ops a0 out (upd S i true) n = if i < n then (frS ops a0 out S n).put o.dst (out i) else frS ops a0 out S n := by
  intro n
  induction n with
  | zero => simp [frS]
  | succ n ih =>
    simp only [frS]
    cases hok : ops[n]? with
    | none =>
      simp only
      have : i ≠ n := fun e => by subst e; rw [ho] at hok; cases hok
      rw [ih]
      by_cases h1 : i < n
      · rw [if_pos h1, if_pos (by omega)]
      · rw [if_neg h1, if_neg (by omega)]
    | some ok =>
      simp only
      by_cases hin : i = n
      · subst hin
        rw [ho] at hok; cases hok
        rw [ih, if_neg (Nat.lt_irrefl i), upd_same, if_pos rfl, hi, if_pos (Nat.lt_succ_self i)]
        simp
      · rw [upd_ne _ _ (fun e => hin e.symm), ih]
        by_cases h1 : i < n
        · rw [if_pos h1, if_pos (Nat.lt_succ_of_lt h1)]
          by_cases hS : S n = true
          · simp only [hS, if_true]
            refine Act.put_comm _ _ _ fun d hd => ?_
            intro hd'
            rcases slots_spec hsl hok ho h1 with ⟨e, he, hb, hon⟩ | hap
            · have := hc n ok hok hS e he hb; rw [hon, hi] at this; cases this
            · have := (Oper.apart_spec hap).2.1 d hd; exact this hd'
          · simp only [hS, Bool.false_eq_true, if_false]
        · have h2 : ¬ i < n + 1 := fun h => hin (by omega)
          rw [if_neg h1, if_neg h2]

/-- What has come up hangs on the events' values alone. -/
theorem out_same (hsl : slotsB ops = true) (hp : preB ops pre = true) {S : Nat → Bool} (hc : closed ops S) {T : Nat → Bool} (hT : ∀ k, T k = (S k && ev k)) (hpe : ∀ i, ∀ k ∈ pre i, ev k = true)
    {vals vals' out out' : Nat → Value} {w : World}
    {m : Nat} (ok : ∀ j o, j < m → ops[j]? = some o → OK P ops C pre ev vals j o (fr ops a0 out j) (out j)) (ok' : ∀ j o, j < m → ops[j]? = some o → OK P ops C pre ev vals' j o (fr ops a0 out' j) (out' j))
    (hv : ∀ e, T e = true → vals e = vals' e) (hC : C T vals w) (hC' : C T vals' w) : ∀ k, k < m → ∀ o, ops[k]? = some o → S k = true → out k = out' k := by
  intro k
  induction k using Nat.strongRecOn with
  | _ k ih =>
    intro hkm o ho hk
    have hal : ∀ m, m ≤ k → ∀ t ∈ o.looksAt ops, (fr ops a0 out m).tmps[t]? = (fr ops a0 out' m).tmps[t]? := by
      intro m
      induction m with
      | zero => intro _ t _; rfl
      | succ m ihm =>
        intro hm t ht
        have ih' := ihm (by omega) t ht
        simp only [fr]
        cases hom : ops[m]? with
        | none => exact ih'
        | some om =>
          simp only
          by_cases hd : om.dst = some t
          · rcases slots_spec hsl ho hom (by omega) with ⟨e, he, hb, hon⟩ | hap
            · have hSm : S m = true := hon ▸ hc k o ho hk e he hb
              rw [ih m (by omega) (by omega) om hom hSm]
              exact put_get_congr _ _ _ _ _ ih'
            · rw [looks_of_not_apart hd ht] at hap; cases hap
          · rw [put_get _ _ _ _ hd, put_get _ _ _ _ hd]; exact ih'
    have hal' : alike ops o (fr ops a0 out k) (fr ops a0 out' k) := hal k (Nat.le_refl _)
    have h1 := ok k o hkm ho
    have h2 := ok' k o hkm ho
    have hns : ∀ cs x, o.op ≠ .select cs x := by
      simp only [slotsB, Bool.and_eq_true] at hsl
      exact fun cs x => Region.noSelect_spec hsl.1 k o cs x ho
    unfold OK at h1 h2
    rw [← alike_wanted hal'] at h2
    by_cases hw : Region.wanted o (yielded ops (fr ops a0 out k).tmps) = true
    · rw [if_pos hw] at h1 h2
      by_cases he : ev k = true
      · rw [if_pos he] at h1 h2
        rw [h1.1, h2.1]
        exact hv k (by rw [hT, hk, he]; rfl)
      · rw [if_neg he] at h1 h2
        have hpk : ∀ x ∈ pre k, T x = true := fun x hx => by
          rw [hT, pre_closed hp hsl hc k o ho (fun e he' hb => hc k o ho hk e he' hb) x hx, hpe k x hx]; rfl
        have r1 := h1 T w hC hpk
        have r2 := h2 T w hC' hpk
        rw [← alike_exec hns hal'] at r2
        rw [r1] at r2
        simpa using r2
    · rw [if_neg hw] at h1 h2
      rw [h1.1, h2.1]

theorem ready_nil (hsl : slotsB ops = true) {listed : Array Bool} (hsz : listed.size = ops.size) (h : Region.ready .any ops listed = []) : ∀ i, i < ops.size → listed.getD i false = true := by
  intro i
  induction i using Nat.strongRecOn with
  | _ i ih =>
    intro hi
    cases hb : listed.getD i false with
    | true => rfl
    | false =>
      exfalso
      have hmem : i ∈ Region.ready .any ops listed := by
        rw [mem_ready]
        have ho : ops[i]? = some ops[i] := Array.getElem?_eq_getElem hi
        refine ⟨?_, ops[i], ho, fun e he hbi => ?_⟩
        · have hl : i < listed.size := by omega
          simpa [hl] using hb
        · simp only [slotsB, Bool.and_eq_true, List.all_eq_true, List.mem_range] at hsl
          have h3 := hsl.2 i hi
          simp only [ho, Bool.and_eq_true] at h3
          have h4 := (Array.all_eq_true_iff_forall_mem.1 h3.1) e he
          have hlt : e.on < i := by simpa [hbi] using h4
          exact ih e.on hlt (by omega)
      rw [h] at hmem
      cases hmem

theorem getD_upd {listed : Array Bool} {i : Nat} (hi : i < listed.size) : (fun j => (listed.setIfInBounds i true).getD j false) = upd (fun j => listed.getD j false) i true := by
  funext j
  by_cases h : j = i
  · subst h; simp [upd, hi]
  · rw [upd_ne _ _ h, getD_set_ne false (fun e => h e.symm)]

/-- From k on each waits for all before it. -/
def sufB (ops : Array Oper) (tp : List (List Nat)) (m : Nat) : Bool :=
  preB ops (fun i => tp.getD i []) && (List.range ops.size).all fun i => decide (i < m) || (List.range i).all fun j => (tp.getD i []).contains j

theorem suf_spec (hsl : slotsB ops = true) {tp : List (List Nat)} {m : Nat} (h : sufB ops tp m = true) {S : Nat → Bool} (hc : closed ops S) {i : Nat} {o : Oper} (ho : ops[i]? = some o) (him : m ≤ i)
    (hd : ∀ e ∈ o.after, Region.binds .any e = true → S e.on = true) : ∀ j, j < i → S j = true := by
  simp only [sufB, Bool.and_eq_true, List.all_eq_true, List.mem_range, Bool.or_eq_true, decide_eq_true_eq] at h
  intro j hj
  have h2 := (h.2 i (Array.getElem?_eq_some_iff.1 ho).1).resolve_left (by omega) j hj
  exact pre_closed h.1 hsl hc i o ho hd j (List.contains_iff_mem.1 h2)

theorem seq_any (hsl : slotsB ops = true) {tp : List (List Nat)} {m : Nat} (hsuf : sufB ops tp m = true) : ∀ (l2 : List Oper) (k fuel : Nat) (listed : Array Bool) (a : Act) (w : World), m ≤ k → listed.size = ops.size →
    (∀ j, l2[j]? = ops[k + j]?) → (∀ j, j < k → j < ops.size → listed.getD j false = true) → (∀ j, k ≤ j → listed.getD j false = false) → closed ops (fun i => listed.getD i false) → l2.length ≤ fuel →
    wpList P ops Q l2 a w → wpAny P .any ops Q fuel listed a w
  | [], k, fuel, listed, a, w, _, hsz, hl, hlo, _, _, _, h => by
    have hk : ops.size ≤ k := by have := hl 0; simp at this; simpa using this
    refine wpAny_done ?_ h fuel
    rw [List.eq_nil_iff_forall_not_mem]
    intro i hi
    have h0 := (mem_ready.1 hi).1
    obtain ⟨o, ho, _⟩ := (mem_ready.1 hi).2
    have hlt := (Array.getElem?_eq_some_iff.1 ho).1
    have h1 := hlo i (by omega) hlt
    have : i < listed.size := by omega
    simp [this] at h0 h1
    rw [h0] at h1; cases h1
  | o :: l2, k, 0, listed, a, w, _, hsz, hl, hlo, hhi, hcl, hf, h => by simp at hf
  | o :: l2, k, fuel + 1, listed, a, w, hmk, hsz, hl, hlo, hhi, hcl, hf, h => by
    have h0 : ops[k]? = some o := by simpa using (hl 0).symm
    have hkn := (Array.getElem?_eq_some_iff.1 h0).1
    refine ⟨fun hr => ?_, fun i hi => ?_⟩
    · have := ready_nil hsl hsz hr k hkn
      rw [hhi k (Nat.le_refl _)] at this; cases this
    · obtain ⟨hun, oi, hoi, hdeps⟩ := mem_ready.1 hi
      have hik : i = k := by
        have hil := (Array.getElem?_eq_some_iff.1 hoi).1
        rcases Nat.lt_trichotomy i k with h1 | h1 | h1
        · have h2 := hlo i h1 hil
          have : i < listed.size := by omega
          simp [this] at hun h2
          rw [hun] at h2; cases h2
        · exact h1
        · have hx : listed.getD k false = true := suf_spec hsl hsuf hcl hoi (by omega) hdeps k h1
          rw [hhi k (Nat.le_refl _)] at hx; cases hx
      subst hik
      have hkl : i < listed.size := by omega
      have hpt : ∀ j, (listed.setIfInBounds i true).getD j false = upd (fun j => listed.getD j false) i true j := fun j => congrFun (getD_upd hkl) j
      have hrec : ∀ a w, wpList P ops Q l2 a w → wpAny P .any ops Q fuel (listed.setIfInBounds i true) a w := fun a w hh => by
        refine seq_any hsl hsuf l2 (i + 1) fuel _ a w (by omega) (by simpa using hsz) (fun j => by have := hl (j + 1); simpa [Nat.add_assoc, Nat.add_comm 1 j] using this) ?_ ?_ ?_ (by simpa using hf) hh
        · intro j hj hjn
          rw [hpt]
          by_cases hji : j = i
          · subst hji; exact upd_same _ _ _
          · rw [upd_ne _ _ hji]; exact hlo j (by omega) hjn
        · intro j hj
          rw [hpt, upd_ne _ _ (by omega)]; exact hhi j (by omega)
        · intro j oj hoj hj e he hb
          show (listed.setIfInBounds i true).getD e.on false = true
          have hj' : (listed.setIfInBounds i true).getD j false = true := hj
          rw [hpt] at hj' ⊢
          by_cases hei : e.on = i
          · rw [hei, upd_same]
          · rw [upd_ne _ _ hei]
            by_cases hji : j = i
            · subst hji; rw [h0] at hoj; cases hoj
              rw [h0] at hoi; cases hoi
              exact hdeps e he hb
            · rw [upd_ne _ _ hji] at hj'
              exact hcl j oj hoj hj' e he hb
      unfold wpOp
      simp only [h0]
      unfold wpList at h
      split
      · rename_i hw
        rw [if_pos hw] at h
        exact h.imp (Oper.wp_mono hrec) id
      · rename_i hw
        rw [if_neg hw] at h
        exact hrec _ _ h

theorem any_all (hsl : slotsB ops = true) (hp : preB ops pre = true) (hpe : ∀ i, ∀ k ∈ pre i, ev k = true) {tp : List (List Nat)} {m : Nat} {l1 l2 : List Oper} (hops : ops.toList = l1 ++ l2) (hm : l1.length = m) (hevm : ∀ i, ev i = true → i < m) (hsuf : sufB ops tp m = true)
    (hloc : ∀ S vals vals' w, (∀ e, S e = true → vals e = vals' e) → C S vals w → C S vals' w)
    (hwalk : ∀ vals, Lx P ops C pre ev vals (fun a => ∀ S w, (∀ i, ev i = true → S i = true) → C S vals w → wpList P ops Q l2 a w) 0 l1 a0) :
    ∀ (fuel : Nat) (listed : Array Bool) (w : World) (vals out : Nat → Value), listed.size = ops.size →
      (∀ j o, j < m → ops[j]? = some o → OK P ops C pre ev vals j o (fr ops a0 out j) (out j)) →
      (∀ S w, (∀ i, ev i = true → S i = true) → C S vals w → wpList P ops Q l2 (fr ops a0 out m) w) →
      (∀ j, m ≤ j → listed.getD j false = false) → closed ops (fun i => listed.getD i false) →
      C (fun i => listed.getD i false && ev i) vals w →
      (listed.toList.countP (fun b => !b)) ≤ fuel →
      wpAny P .any ops Q fuel listed (frS ops a0 out (fun i => listed.getD i false) m) w := by
  intro fuel
  have hl1 : ∀ j, j < m → l1[j]? = ops[j]? := fun j hj => by
    rw [← Array.getElem?_toList, hops, List.getElem?_append_left (by omega)]
  have hl2 : ∀ j, l2[j]? = ops[m + j]? := fun j => by
    rw [← Array.getElem?_toList, hops, List.getElem?_append_right (by omega), hm]; congr 1; omega
  have hmn : m + l2.length = ops.size := by rw [← Array.length_toList, hops, List.length_append, hm]
  have fin : ∀ (fuel : Nat) (listed : Array Bool) (w : World) (vals out : Nat → Value), listed.size = ops.size →
      (∀ S w, (∀ i, ev i = true → S i = true) → C S vals w → wpList P ops Q l2 (fr ops a0 out m) w) →
      C (fun i => listed.getD i false && ev i) vals w → (∀ j, j < m → listed.getD j false = true) → (∀ j, m ≤ j → listed.getD j false = false) → closed ops (fun i => listed.getD i false) → l2.length ≤ fuel →
      wpAny P .any ops Q fuel listed (frS ops a0 out (fun i => listed.getD i false) m) w := by
    intro fuel listed w vals out hsz hfin hC hlo hhi hcl hf
    rw [frS_all m hlo]
    exact seq_any hsl hsuf l2 m fuel listed _ w (Nat.le_refl _) hsz hl2 (fun j hj _ => hlo j hj) hhi hcl hf (hfin _ w (fun i he => by rw [hlo i (hevm i he), he]; rfl) hC)
  have hcnt : ∀ (listed : Array Bool), listed.size = ops.size → (∀ j, m ≤ j → listed.getD j false = false) → l2.length ≤ listed.toList.countP (fun b => !b) := by
    intro listed hsz hhi
    have h1 : listed.toList = listed.toList.take m ++ listed.toList.drop m := (List.take_append_drop m _).symm
    rw [h1, List.countP_append]
    have h2 : (listed.toList.drop m).countP (fun b => !b) = (listed.toList.drop m).length := by
      rw [List.countP_eq_length]
      intro b hb
      obtain ⟨k, hk, rfl⟩ := List.mem_iff_getElem.1 hb
      have := hhi (m + k) (by omega)
      have hk' : m + k < listed.size := by simp at hk; omega
      simp [hk'] at this
      simp [this]
    rw [h2]
    simp
    omega
  induction fuel with
  | zero =>
    intro listed w vals out hsz hok hfin hhi hcl hC hcount
    have hc2 := hcnt listed hsz hhi
    refine fin 0 listed w vals out hsz hfin hC (fun j hj => ?_) hhi hcl (by omega)
    have h1 : listed.toList.countP (fun b => !b) = 0 := by omega
    rw [List.countP_eq_zero] at h1
    have h' : j < listed.size := by omega
    have := h1 listed[j] (by simp)
    simp [h']
    simpa using this
  | succ fuel ih =>
    intro listed w vals out hsz hok hfin hhi hcl hC hcount
    by_cases hall : ∀ j, j < m → listed.getD j false = true
    · exact fin (fuel + 1) listed w vals out hsz hfin hC hall hhi hcl (by have := hcnt listed hsz hhi; omega)
    refine ⟨fun hr => absurd (fun j hj => ready_nil hsl hsz hr j (by omega)) hall, fun i hi => ?_⟩
    obtain ⟨hun, o, ho, hdeps⟩ := mem_ready.1 hi
    have him : i < m := by
      rcases Nat.lt_or_ge i m with h | h
      · exact h
      · exact absurd (fun j hj => suf_spec hsl hsuf hcl ho h hdeps j (by omega)) hall
    have hhi' : ∀ j, m ≤ j → (listed.setIfInBounds i true).getD j false = false := fun j hj => by rw [getD_set_ne false (by omega)]; exact hhi j hj
    have hil : i < listed.size := by rw [hsz]; exact (Array.getElem?_eq_some_iff.1 ho).1
    have hun' : listed.getD i false = false := by simp [hil] at hun ⊢; exact hun
    have hal := frame_alike (a0 := a0) (out := out) hsl hcl ho hun' hdeps m (by omega)
    have hns : ∀ cs x, o.op ≠ .select cs x := by
      have := hsl
      simp only [slotsB, Bool.and_eq_true] at this
      exact fun cs x => Region.noSelect_spec this.1 i o cs x ho
    have hcl' : closed ops (fun j => (listed.setIfInBounds i true).getD j false) := by
      have hpt : ∀ j, (listed.setIfInBounds i true).getD j false = upd (fun j => listed.getD j false) i true j := fun j => congrFun (getD_upd hil) j
      intro j oj hoj hj e he hb
      show (listed.setIfInBounds i true).getD e.on false = true
      have hj' : (listed.setIfInBounds i true).getD j false = true := hj
      rw [hpt] at hj' ⊢
      by_cases hei : e.on = i
      · rw [hei, upd_same]
      · rw [upd_ne _ _ hei]
        by_cases hji : j = i
        · subst hji; rw [ho] at hoj; cases hoj
          exact hdeps e he hb
        · rw [upd_ne _ _ hji] at hj'
          exact hcl j oj hoj hj' e he hb
    have hcount' : (listed.setIfInBounds i true).toList.countP (fun b => !b) ≤ fuel := by
      have h1 : (listed.setIfInBounds i true).toList = listed.toList.set i true := by simp
      have h2 : listed[i] = false := by simp [hil] at hun; exact hun
      have h3 : i < listed.toList.length := by simpa using hil
      have h4 : listed.toList[i] = false := by simpa using h2
      have h5 : 0 < listed.toList.countP (fun b => !b) := List.countP_pos_iff.2 ⟨false, by rw [← h4]; exact List.getElem_mem h3, rfl⟩
      have h6 := List.countP_set (p := fun b => !b) (a := true) h3
      simp only [h4, Bool.not_false, Bool.not_true, if_true, Bool.false_eq_true, if_false] at h6
      rw [h1, h6]
      omega
    have hpre := pre_closed hp hsl hcl i o ho hdeps
    have hpre' : ∀ k ∈ pre i, (listed.getD k false && ev k) = true := fun k hk => by rw [hpre k hk, hpe i k hk]; rfl
    have hput : ∀ out', (∀ j, j < m → listed.getD j false = true → out j = out' j) → (frS ops a0 out (fun j => listed.getD j false) m).put o.dst (out' i) = frS ops a0 out' (fun j => (listed.setIfInBounds i true).getD j false) m := by
      intro out' hout
      rw [getD_upd hil, frame_put hsl hcl ho hun' m, if_pos him, frS_congr m hout]
    have hT : (fun j => (listed.setIfInBounds i true).getD j false && ev j) = if ev i = true then upd (fun j => listed.getD j false && ev j) i true else (fun j => listed.getD j false && ev j) := by
      funext j
      rw [show (listed.setIfInBounds i true).getD j false = upd (fun j => listed.getD j false) i true j from congrFun (getD_upd hil) j]
      by_cases he : ev i = true
      · rw [if_pos he]
        by_cases hji : j = i
        · subst hji; simp [upd, he]
        · rw [upd_ne _ _ hji, upd_ne _ _ hji]
      · rw [if_neg he]
        by_cases hji : j = i
        · subst hji; simp [he]
        · rw [upd_ne _ _ hji]
    have hoki := hok i o him ho
    -- another valuation, behind an event
    have again : ∀ (v : Value) (w' : World), ev i = true → C (upd (fun j => listed.getD j false && ev j) i true) (upd vals i v) w' → (Region.wanted o (yielded ops (fr ops a0 out i).tmps) = true ∨ v = undef) → C (fun j => listed.getD j false && ev j) vals w →
        wpAny P .any ops Q fuel (listed.setIfInBounds i true) ((frS ops a0 out (fun j => listed.getD j false) m).put o.dst v) w' := by
      intro v w' he hC' hwv hC0
      obtain ⟨out', hok', hfin'⟩ := lx_good hl1 hm (hwalk (upd vals i v))
      have hok'' := hok'
      have hsame : ∀ e, (listed.getD e false && ev e) = true → vals e = upd vals i v e := fun e h => by
        rw [upd_ne]; intro e2; subst e2; rw [hun'] at h; cases h
      have hC1 := hloc _ vals (upd vals i v) w hsame hC0
      have houts := out_same hsl hp hcl (T := fun j => listed.getD j false && ev j) (fun _ => rfl) hpe hok hok'' hsame hC0 hC1
      have houts' : ∀ j, j < m → listed.getD j false = true → out j = out' j := fun j hj h => houts j hj ops[j] (Array.getElem?_eq_getElem (by omega)) h
      -- the frames at i look alike
      have hal2 : alike ops o (fr ops a0 out i) (fr ops a0 out' i) := by
        have h1 := frame_alike (a0 := a0) (out := out) hsl hcl ho hun' hdeps m (by omega)
        have h2 := frame_alike (a0 := a0) (out := out') hsl hcl ho hun' hdeps m (by omega)
        rw [frS_congr m houts'] at h1
        exact fun t ht => (h1 t ht).symm.trans (h2 t ht)
      have hi2 := hok'' i o him ho
      have houti : out' i = v := by
        unfold OK at hi2
        rw [← alike_wanted hal2] at hi2
        by_cases hw : Region.wanted o (yielded ops (fr ops a0 out i).tmps) = true
        · rw [if_pos hw, if_pos he] at hi2; rw [hi2.1, upd_same]
        · rw [if_neg hw] at hi2; rw [hi2.1]
          rcases hwv with h | h
          · exact absurd h hw
          · exact h.symm
      have hh := ih (listed.setIfInBounds i true) w' (upd vals i v) out' (by simpa using hsz) hok'' hfin' hhi' hcl' (by rw [hT, if_pos he]; exact hC') hcount'
      rw [← hput out' houts', houti] at hh
      exact hh
    unfold wpOp
    simp only [ho]
    rw [alike_wanted hal]
    unfold OK at hoki
    by_cases hw : Region.wanted o (yielded ops (fr ops a0 out i).tmps) = true
    · rw [if_pos hw]
      rw [if_pos hw] at hoki
      refine .inl ?_
      by_cases he : ev i = true
      · rw [if_pos he] at hoki
        have hg := hoki.2 _ w hC (by simp [hun']) hpre'
        have hg2 : Gives P o (frS ops a0 out (fun j => listed.getD j false) m) w _ := Gives.congr (alike_exec hns hal) hg
        exact Gives.wp (hg2.mono fun v w' hC' => again v w' he hC' (.inl hw) hC)
      · rw [if_neg he] at hoki
        have hr := hoki _ w hC hpre'
        rw [← alike_exec hns hal] at hr
        have hh := ih (listed.setIfInBounds i true) w vals out (by simpa using hsz) hok hfin hhi' hcl' (by rw [hT, if_neg he]; exact hC) hcount'
        rw [← hput out (fun _ _ _ => rfl)] at hh
        unfold Oper.wp
        rw [hr]
        exact hh
    · rw [if_neg hw]
      rw [if_neg hw] at hoki
      by_cases he : ev i = true
      · have hC' := hoki.2 he _ w hC (by simp [hun'])
        exact again undef w he hC' (.inr rfl) hC
      · have hh := ih (listed.setIfInBounds i true) w vals out (by simpa using hsz) hok hfin hhi' hcl' (by rw [hT, if_neg he]; exact hC) hcount'
        rw [← hput out (fun _ _ _ => rfl), hoki.1] at hh
        exact hh

/-- ONE WALK IN THE ORDER OF THE TEXT SERVES EVERY ORDER; behind the first operations (l1) the others (l2) come one behind the other. -/
theorem region_any {id : Nat} {w : World} {l1 l2 : List Oper} (C : (Nat → Bool) → (Nat → Value) → World → Prop) (pre : Nat → List Nat) (ev : Nat → Bool) (tp : List (List Nat)) (hfo : P.follows .mixedOrders = true)
    (hsl : slotsB (l1 ++ l2).toArray = true) (hp : preB (l1 ++ l2).toArray pre = true) (hpe : ∀ i, ∀ k ∈ pre i, ev k = true) (hevm : ∀ i, ev i = true → i < l1.length) (hsuf : sufB (l1 ++ l2).toArray tp l1.length = true)
    (hloc : ∀ S vals vals' w, (∀ e, S e = true → vals e = vals' e) → C S vals w → C S vals' w)
    (h0 : ∀ vals, C (fun _ => false) vals { w with drawn := w.drawn + 1 })
    (hwalk : ∀ vals, Lx P (l1 ++ l2).toArray C pre ev vals (fun a => ∀ S w, (∀ i, ev i = true → S i = true) → C S vals w → wpList P (l1 ++ l2).toArray Q l2 a w) 0 l1 a0) :
    (Code.region id (l1 ++ l2).toArray true).wp P Q a0 w := by
  refine wp_region_any hfo ?_
  have hl1 : ∀ j, j < l1.length → l1[j]? = (l1 ++ l2).toArray[j]? := fun j hj => by simp [List.getElem?_append_left hj]
  obtain ⟨out, hok, hfin⟩ := lx_good hl1 rfl (hwalk (fun _ => undef))
  generalize hN : (l1 ++ l2).toArray.size = N
  have hrep : (fun j => (Array.replicate N false).getD j false) = fun _ => false := by
    funext j
    by_cases hj : j < N <;> simp [hj]
  have hrj : ∀ j, (Array.replicate N false).getD j false = false := fun j => congrFun hrep j
  have h := any_all (Q := Q) (a0 := a0) hsl hp hpe (by simp) rfl hevm hsuf hloc hwalk N (Array.replicate N false) { w with drawn := w.drawn + 1 } (fun _ => undef) out (by simp [← hN])
    hok hfin (fun j _ => hrj j) (by intro j o _ hj; have h3 : (Array.replicate N false).getD j false = true := hj; rw [hrj] at h3; cases h3)
    (by have : (fun i => (Array.replicate N false).getD i false && ev i) = fun _ => false := by
          funext j; rw [hrj]; rfl
        rw [this]; exact h0 _)
    (by have := List.countP_le_length (p := fun b => !b) (l := (Array.replicate N false).toList); simpa using this)
  rw [hrep, frS_none _ (fun _ _ => rfl)] at h
  exact h

end
#print axioms region_any
end Go.Proofs.Ytpapooaaccmnpaa.Jx
